/-
  THE WALKS: each Go function computes its model. Conditions: as each theorem states them (hp1, hp2 ..).
-/
import Derived.Test.YtdkkcemlnjlebaaDoorVersionsWalks1
set_option linter.unusedVariables false
set_option linter.unusedSimpArgs false
set_option linter.unusedSectionVars false
set_option linter.unnecessarySimpa false
namespace Go.Proofs.YtdkkcemlnjlebaaDoor
open Go Go.RowKit Go.Proofs Go.Proofs.YtdkkcemlnjlebaaDoor.E
/-! ### impl_DiffStates -/
theorem c_impl_DiffStates (a : List gSetting) (b : List gSetting) : Con Tryd.prog 16 [.sl 2 (a.map gSetting.v), .sl 2 (b.map gSetting.v)] [] (.tup [.os 100 (m_impl_DiffStates a b).1.length, .int .i64 (m_impl_DiffStates a b).2]) ([(100, some (.row 79 3 ((m_impl_DiffStates a b).1.map gChange.v)))]) := by
  refine con_intro (out := fun r : (List gChange) × Int => ((.tup [.os 100 r.1.length, .int .i64 r.2] : V), ([(100, some (.row 79 3 (r.1.map gChange.v)))] : List (Nat × Option O)))) (r := (m_impl_DiffStates a b)) Tryd.func16 rfl Tryd.ntmps16 rfl ?_
  refine run_fact (t := 0) rfl fun hl => ?_
  have l1 := hl; clear hl; simp only [List.length_map] at l1
  refine run_fact (t := 1) rfl fun hl => ?_
  have l2 := hl; clear hl; simp only [List.length_map] at l2
  refine run_seq ?_
  refine run_region (q_assign .n (.c rfl) rfl <|
      q_assign .n (.c rfl) rfl <|
      Lex.nil) ?_
  refine run_seq ?_
  refine run_seq ?_
  refine run_region (q_move .n (.t rfl) rfl <|
      q_call0 (full := false) .n .f en_46 (.cons (.t rfl) .nil) (.cons (.b (.a (.same rfl))) .nil) (fun hg => c_impl_ValidState a) rfl (fun h => Bool.noConfusion h) rfl <|
      q_not .n (.t rfl) rfl <|
      q_move .n (.t rfl) rfl <|
      q_move (.f rfl rfl) (.t rfl) rfl <|
      q_call0 (full := false) (.f rfl rfl) .f en_46 (.cons (.u rfl id) .nil) (.cons (.b (.a (.same rfl))) .nil) (fun hg => c_impl_ValidState b) rfl (fun h => Bool.noConfusion h) rfl <|
      q_not (.f rfl rfl) (.u rfl id) rfl <|
      q_or .n (.t rfl) (.u rfl id) rfl <|
      Lex.nil) ?_
  refine run_cond (.t rfl) rfl (fun h3 => ?_) (fun h3 => ?_)
  · try simp only [Bool.and_eq_true, Bool.or_eq_true, Bool.not_eq_true', Bool.and_eq_false_iff, Bool.or_eq_false_iff, Bool.not_eq_false', decide_eq_true_eq, decide_eq_false_iff_not, beq_iff_eq, bne_iff_ne, beq_eq_false_iff_ne, bne_eq_false_iff_eq, Bool.true_and, ne_eq, Decidable.not_not, Int.not_lt, Int.not_le, Nat.not_lt, Nat.not_le, strB_nil, strB_nil', strB_nnil, strB_nnil'] at h3
    try with_reducible have hf0h3 := state_l24I h3
    try with_reducible have hf1h3 := state_l24I h3.1
    try with_reducible have hf2h3 := state_l24I h3.2
    try with_reducible have hf3h3 := state_l24I h3.1.1
    try with_reducible have hf4h3 := state_l24I h3.1.2
    try with_reducible have hf5h3 := state_l24I h3.2.1
    try with_reducible have hf6h3 := state_l24I h3.2.2
    try with_reducible have hf7h3 := state_inI h3
    try with_reducible have hf8h3 := state_inI h3.1
    try with_reducible have hf9h3 := state_inI h3.2
    try with_reducible have hf10h3 := state_inI h3.1.1
    try with_reducible have hf11h3 := state_inI h3.1.2
    try with_reducible have hf12h3 := state_inI h3.2.1
    try with_reducible have hf13h3 := state_inI h3.2.2
    refine run_seq ?_
    refine run_region (q_assign .n (.c rfl) rfl <|
        q_assign .n (.c rfl) rfl <|
        Lex.nil) ?_
    refine run_sub (sub_adopt (t := 4) (l := 200) (el := 79) (sz := 3) rfl rfl) ?_
    exact run_ret [(100, 200)] (.cons (.t rfl rfl) (.cons (.t rfl rfl) .nil)) (by first | rfl | (simp only [put_len]; rfl)) ⟨rfl, trivial⟩ rfl
  · try simp only [Bool.and_eq_true, Bool.or_eq_true, Bool.not_eq_true', Bool.and_eq_false_iff, Bool.or_eq_false_iff, Bool.not_eq_false', decide_eq_true_eq, decide_eq_false_iff_not, beq_iff_eq, bne_iff_ne, beq_eq_false_iff_ne, bne_eq_false_iff_eq, Bool.true_and, ne_eq, Decidable.not_not, Int.not_lt, Int.not_le, Nat.not_lt, Nat.not_le, strB_nil, strB_nil', strB_nnil, strB_nnil'] at h3
    try with_reducible have hf0h3 := state_l24I h3
    try with_reducible have hf1h3 := state_l24I h3.1
    try with_reducible have hf2h3 := state_l24I h3.2
    try with_reducible have hf3h3 := state_l24I h3.1.1
    try with_reducible have hf4h3 := state_l24I h3.1.2
    try with_reducible have hf5h3 := state_l24I h3.2.1
    try with_reducible have hf6h3 := state_l24I h3.2.2
    try with_reducible have hf7h3 := state_inI h3
    try with_reducible have hf8h3 := state_inI h3.1
    try with_reducible have hf9h3 := state_inI h3.2
    try with_reducible have hf10h3 := state_inI h3.1.1
    try with_reducible have hf11h3 := state_inI h3.1.2
    try with_reducible have hf12h3 := state_inI h3.2.1
    try with_reducible have hf13h3 := state_inI h3.2.2
    refine run_skip ?_
    refine run_seq ?_
    refine run_region (q_assign .n (.c rfl) rfl <|
        Lex.nil) ?_
    refine run_seq ?_
    refine run_seq ?_
    refine run_region (q_move .n (.t rfl) rfl <|
        q_len .n (.t rfl) rfl len_map ss_34 rfl <|
        q_move .n (.c rfl) rfl <|
        Lex.nil) ?_
    refine run_block ?_
    refine run_sub (sub_adopt (t := 6) (l := 201) (el := 79) (sz := 3) rfl rfl) ?_
    refine run_LOOP (m_impl_DiffStates_b1 a b) _ _ _ rfl (fun (x1 : (List gChange) × Int) => 0 ≤ x1.2 ∧ x1.2 ≤ (a.length : Int) ∧ (x1.1.length : Int) + 0 ≤ x1.2 + (([] : List gChange).length : Int)) (fun x1 => 0 ≤ x1.2 ∧ x1.2 ≤ (a.length : Int) ∧ (x1.1.length : Int) + 0 ≤ x1.2 + (([] : List gChange).length : Int) ∧ (a.length : Int) ≤ x1.2) (fun x1 => ((a.length : Int) - x1.2 : Int).toNat) (fun x1 => ⟨[(0, some (true, .sl 2 (a.map gSetting.v))), (1, some (true, .sl 2 (b.map gSetting.v))), (6, some (true, .os 201 x1.1.length)), (23, some (true, .sl 2 (a.map gSetting.v))), (24, some (true, .int .i64 (a.length : Int))), (25, some (true, .int .i64 x1.2))], [(201, some (.row 79 3 (x1.1.map gChange.v)))]⟩) (fun x1 => ⟨[(0, some (true, .sl 2 (a.map gSetting.v))), (1, some (true, .sl 2 (b.map gSetting.v))), (6, some (true, .os 201 x1.1.length))], [(201, some (.row 79 3 (x1.1.map gChange.v)))]⟩) ⟨by omega, by omega, by (simp only [List.length_append, List.length_cons, List.length_nil, List.length_replicate, put_len] at * <;> omega)⟩ (by omega) (sub_of [] ⟨rfl, rfl, rfl, rfl, rfl, rfl, trivial⟩ ⟨rfl, trivial⟩ rfl) ?_ ?_
    · intro x1 i8
      obtain ⟨e21, e22, e23, e24⟩ := i8
      try dsimp only at *
      refine run_seq ?_
      refine run_seq ?_
      refine run_region (q_move .n (.t rfl) rfl <|
          q_len .n (.t rfl) rfl len_map ss_34 rfl <|
          q_move .n (.c rfl) rfl <|
          Lex.nil) ?_
      refine run_block ?_
      refine run_LOOP (m_impl_DiffStates_b2 a b x1) _ _ _ rfl (fun (x2 : (List gChange) × Int) => 0 ≤ x2.2 ∧ x2.2 ≤ (b.length : Int) ∧ (x2.1.length : Int) + 0 ≤ x2.2 + (x1.1.length : Int)) (fun x2 => 0 ≤ x2.2 ∧ x2.2 ≤ (b.length : Int) ∧ (x2.1.length : Int) + 0 ≤ x2.2 + (x1.1.length : Int) ∧ (b.length : Int) ≤ x2.2) (fun x2 => ((b.length : Int) - x2.2 : Int).toNat) (fun x2 => ⟨[(0, some (true, .sl 2 (a.map gSetting.v))), (6, some (true, .os 201 x2.1.length)), (44, some (true, .sl 2 (b.map gSetting.v))), (45, some (true, .int .i64 (b.length : Int))), (46, some (true, .int .i64 x2.2))], [(201, some (.row 79 3 (x2.1.map gChange.v)))]⟩) (fun x2 => ⟨[(6, some (true, .os 201 x2.1.length))], [(201, some (.row 79 3 (x2.1.map gChange.v)))]⟩) ⟨by omega, by omega, by (simp only [List.length_append, List.length_cons, List.length_nil, List.length_replicate, put_len] at * <;> omega)⟩ (by omega) (sub_of [] ⟨rfl, rfl, rfl, rfl, rfl, trivial⟩ ⟨rfl, trivial⟩ rfl) ?_ ?_
      · intro x2 i13
        obtain ⟨e14, e15, e16, e17⟩ := i13
        try dsimp only at *
        refine run_seq ?_
        refine run_region (q_move .n (.t rfl) rfl <|
            q_assign .n (.t rfl) rfl <|
            q_assign .n (.c rfl) rfl <|
            Lex.nil) ?_
        exact run_ret [(100, 201)] (.cons (.t rfl rfl) (.cons (.t rfl rfl) .nil)) (by first | rfl | (simp only [put_len]; rfl)) ⟨rfl, trivial⟩ rfl
      · intro rec2 k2 hk9 x2 i10
        obtain ⟨e18, e19, e20⟩ := i10
        try dsimp only at *
        refine run_seq ?_
        refine run_region (q_int .n (.t rfl) (.t rfl) rfl rfl <|
            Lex.nil) ?_
        refine run_seq ?_
        refine run_cond (.t rfl) rfl (fun h11 => ?_) (fun h11 => ?_)
        · try simp only [Bool.and_eq_true, Bool.or_eq_true, Bool.not_eq_true', Bool.and_eq_false_iff, Bool.or_eq_false_iff, Bool.not_eq_false', decide_eq_true_eq, decide_eq_false_iff_not, beq_iff_eq, bne_iff_ne, beq_eq_false_iff_ne, bne_eq_false_iff_eq, Bool.true_and, ne_eq, Decidable.not_not, Int.not_lt, Int.not_le, Nat.not_lt, Nat.not_le, strB_nil, strB_nil', strB_nnil, strB_nnil'] at h11
          refine run_skip ?_
          refine run_seq ?_
          refine run_block ?_
          refine run_seq ?_
          refine run_region (q_idx_rm .n (.t rfl) (.t rfl) sl_34 (fun _ => by omega) rfl <|
              q_ldN_ro .n (.t rfl) ag_75 rfl rfl rfl <|
              q_alloc (l := 206) .n rfl zv_75 rfl rfl <|
              q_st_boxm [.str (at' b x2.2).Name, .int .i64 (at' b x2.2).Value] .n rfl (.t rfl) (.t rfl) rfl ts_75 rfl rfl <|
              Lex.nil) ?_
          refine run_seq ?_
          refine run_region (q_move .n (.t rfl) rfl <|
              q_fld_ow .n (.t rfl) fo_75_0 rfl <|
              q_ld1_ow .n (.t rfl) rfl (.inr rfl) (fun _ => rfl) rfl ic_9 rfl <|
              q_call0 (full := false) .n .f en_47 (.cons (.t rfl) (.cons (.t rfl) .nil)) (.cons (.b (.a (.same rfl))) (.cons (.b (.a (.same rfl))) .nil)) (fun hg => c_impl_valueAt a (at' b x2.2).Name) rfl (fun h => Bool.noConfusion h) rfl <|
              q_move .n (.t rfl) rfl <|
              q_ext .n (.t rfl) rfl rfl rfl <|
              q_ext .n (.t rfl) rfl rfl rfl <|
              q_assign .n (.t rfl) rfl <|
              q_assign .n (.t rfl) rfl <|
              Lex.nil) ?_
          refine run_seq ?_
          refine run_region (q_move .n (.t rfl) rfl <|
              q_not .n (.t rfl) rfl <|
              q_move .n (.t rfl) rfl <|
              q_move (.f rfl rfl) (.t rfl) rfl <|
              q_fld_ow (.f rfl rfl) (.t rfl) fo_75_1 rfl <|
              q_ld1_ow (.f rfl rfl) (.u rfl id) rfl (.inr rfl) (fun _ => rfl) rfl ic_2 rfl <|
              q_int (.f rfl rfl) (.u rfl id) (.u rfl id) rfl rfl <|
              q_or .n (.t rfl) (.u rfl id) rfl <|
              Lex.nil) ?_
          refine run_cond (.t rfl) rfl (fun h12 => ?_) (fun h12 => ?_)
          · try simp only [Bool.and_eq_true, Bool.or_eq_true, Bool.not_eq_true', Bool.and_eq_false_iff, Bool.or_eq_false_iff, Bool.not_eq_false', decide_eq_true_eq, decide_eq_false_iff_not, beq_iff_eq, bne_iff_ne, beq_eq_false_iff_ne, bne_eq_false_iff_eq, Bool.true_and, ne_eq, Decidable.not_not, Int.not_lt, Int.not_le, Nat.not_lt, Nat.not_le, strB_nil, strB_nil', strB_nnil, strB_nnil'] at h12
            refine run_region (q_move .n (.t rfl) rfl <|
                q_ldN_ow .n (.t rfl) rfl (.inr rfl) ag_75 (fun _ => rfl) rfl rfl <|
                q_build (us := [.int .i64 1, .str (at' b x2.2).Name, .int .i64 (at' b x2.2).Value]) .n (.cons (.c rfl) (.cons (.t rfl) .nil)) zv_79 pl_79 rfl rfl rfl <|
                q_bslicem ([gChange.mk 1 (at' b x2.2)] : List gChange) (f := gChange.v) (l := 207) .n rfl rfl (.cons (.t rfl) .nil) rfl si_37 zv_79 rfl rfl rfl <|
                q_appm (xs := x2.1) (ys := ([gChange.mk 1 (at' b x2.2)] : List gChange)) (f := gChange.v) (l := 208) .n rfl (.ow (.t rfl) rfl (take_all (by simp only [len_map, put_len] <;> rfl)) (by simp only [len_map, put_len] <;> rfl)) (.ow (.t rfl) rfl (take_all (by simp only [len_map, put_len] <;> rfl)) (by simp only [len_map, put_len] <;> rfl)) si_37 zv_79 rfl (by (simp only [List.length_append, List.length_cons, List.length_nil, List.length_replicate, put_len] at * <;> omega)) rfl rfl <|
                q_assign .n (.t rfl) rfl <|
                Lex.nil) ?_
            refine run_endB ?_
            refine run_region (q_add .n (.t rfl) (.c rfl) (fun _ => by omega) rfl <|
                q_move .n (.t rfl) rfl <|
                Lex.nil) ?_
            exact run_again (x2.1 ++ ([gChange.mk 1 (at' b x2.2)] : List gChange), x2.2 + 1) ⟨by omega, by omega, by (simp only [List.length_append, List.length_cons, List.length_nil, List.length_replicate, put_len] at * <;> omega)⟩ (by omega) (sub_of [(201, 208)] ⟨rfl, rfl, rfl, rfl, rfl, trivial⟩ ⟨rfl, trivial⟩ rfl)
          · try simp only [Bool.and_eq_true, Bool.or_eq_true, Bool.not_eq_true', Bool.and_eq_false_iff, Bool.or_eq_false_iff, Bool.not_eq_false', decide_eq_true_eq, decide_eq_false_iff_not, beq_iff_eq, bne_iff_ne, beq_eq_false_iff_ne, bne_eq_false_iff_eq, Bool.true_and, ne_eq, Decidable.not_not, Int.not_lt, Int.not_le, Nat.not_lt, Nat.not_le, strB_nil, strB_nil', strB_nnil, strB_nnil'] at h12
            refine run_skip ?_
            refine run_endB ?_
            refine run_region (q_add .n (.t rfl) (.c rfl) (fun _ => by omega) rfl <|
                q_move .n (.t rfl) rfl <|
                Lex.nil) ?_
            exact run_again (x2.1, x2.2 + 1) ⟨by omega, by omega, by (simp only [List.length_append, List.length_cons, List.length_nil, List.length_replicate, put_len] at * <;> omega)⟩ (by omega) (sub_of [] ⟨rfl, rfl, rfl, rfl, rfl, trivial⟩ ⟨rfl, trivial⟩ rfl)
        · try simp only [Bool.and_eq_true, Bool.or_eq_true, Bool.not_eq_true', Bool.and_eq_false_iff, Bool.or_eq_false_iff, Bool.not_eq_false', decide_eq_true_eq, decide_eq_false_iff_not, beq_iff_eq, bne_iff_ne, beq_eq_false_iff_ne, bne_eq_false_iff_eq, Bool.true_and, ne_eq, Decidable.not_not, Int.not_lt, Int.not_le, Nat.not_lt, Nat.not_le, strB_nil, strB_nil', strB_nnil, strB_nnil'] at h11
          refine run_exit rfl ?_
          exact run_cont hk9 (x2.1, x2.2) ⟨by omega, by omega, by omega, by omega⟩ (sub_of [] ⟨rfl, trivial⟩ ⟨rfl, trivial⟩ rfl)
    · intro rec1 k1 hk4 x1 i5
      obtain ⟨e25, e26, e27⟩ := i5
      try dsimp only at *
      refine run_seq ?_
      refine run_region (q_int .n (.t rfl) (.t rfl) rfl rfl <|
          Lex.nil) ?_
      refine run_seq ?_
      refine run_cond (.t rfl) rfl (fun h6 => ?_) (fun h6 => ?_)
      · try simp only [Bool.and_eq_true, Bool.or_eq_true, Bool.not_eq_true', Bool.and_eq_false_iff, Bool.or_eq_false_iff, Bool.not_eq_false', decide_eq_true_eq, decide_eq_false_iff_not, beq_iff_eq, bne_iff_ne, beq_eq_false_iff_ne, bne_eq_false_iff_eq, Bool.true_and, ne_eq, Decidable.not_not, Int.not_lt, Int.not_le, Nat.not_lt, Nat.not_le, strB_nil, strB_nil', strB_nnil, strB_nnil'] at h6
        refine run_skip ?_
        refine run_seq ?_
        refine run_block ?_
        refine run_seq ?_
        refine run_region (q_idx_rm .n (.t rfl) (.t rfl) sl_34 (fun _ => by omega) rfl <|
            q_ldN_ro .n (.t rfl) ag_75 rfl rfl rfl <|
            q_alloc (l := 203) .n rfl zv_75 rfl rfl <|
            q_st_boxm [.str (at' a x1.2).Name, .int .i64 (at' a x1.2).Value] .n rfl (.t rfl) (.t rfl) rfl ts_75 rfl rfl <|
            Lex.nil) ?_
        refine run_seq ?_
        refine run_region (q_move .n (.t rfl) rfl <|
            q_fld_ow .n (.t rfl) fo_75_0 rfl <|
            q_ld1_ow .n (.t rfl) rfl (.inr rfl) (fun _ => rfl) rfl ic_9 rfl <|
            q_call0 (full := false) .n .f en_47 (.cons (.t rfl) (.cons (.t rfl) .nil)) (.cons (.b (.a (.same rfl))) (.cons (.b (.a (.same rfl))) .nil)) (fun hg => c_impl_valueAt b (at' a x1.2).Name) rfl (fun h => Bool.noConfusion h) rfl <|
            q_move .n (.t rfl) rfl <|
            q_ext .n (.t rfl) rfl rfl rfl <|
            q_ext .n (.t rfl) rfl rfl rfl <|
            q_assign .n (.t rfl) rfl <|
            q_assign .n (.t rfl) rfl <|
            Lex.nil) ?_
        refine run_seq ?_
        refine run_region (q_move .n (.t rfl) rfl <|
            q_not .n (.t rfl) rfl <|
            Lex.nil) ?_
        refine run_cond (.t rfl) rfl (fun h7 => ?_) (fun h7 => ?_)
        · try simp only [Bool.and_eq_true, Bool.or_eq_true, Bool.not_eq_true', Bool.and_eq_false_iff, Bool.or_eq_false_iff, Bool.not_eq_false', decide_eq_true_eq, decide_eq_false_iff_not, beq_iff_eq, bne_iff_ne, beq_eq_false_iff_ne, bne_eq_false_iff_eq, Bool.true_and, ne_eq, Decidable.not_not, Int.not_lt, Int.not_le, Nat.not_lt, Nat.not_le, strB_nil, strB_nil', strB_nnil, strB_nnil'] at h7
          refine run_region (q_move .n (.t rfl) rfl <|
              q_ldN_ow .n (.t rfl) rfl (.inr rfl) ag_75 (fun _ => rfl) rfl rfl <|
              q_build (us := [.int .i64 2, .str (at' a x1.2).Name, .int .i64 (at' a x1.2).Value]) .n (.cons (.c rfl) (.cons (.t rfl) .nil)) zv_79 pl_79 rfl rfl rfl <|
              q_bslicem ([gChange.mk 2 (at' a x1.2)] : List gChange) (f := gChange.v) (l := 204) .n rfl rfl (.cons (.t rfl) .nil) rfl si_37 zv_79 rfl rfl rfl <|
              q_appm (xs := x1.1) (ys := ([gChange.mk 2 (at' a x1.2)] : List gChange)) (f := gChange.v) (l := 205) .n rfl (.ow (.t rfl) rfl (take_all (by simp only [len_map, put_len] <;> rfl)) (by simp only [len_map, put_len] <;> rfl)) (.ow (.t rfl) rfl (take_all (by simp only [len_map, put_len] <;> rfl)) (by simp only [len_map, put_len] <;> rfl)) si_37 zv_79 rfl (by (simp only [List.length_append, List.length_cons, List.length_nil, List.length_replicate, put_len] at * <;> omega)) rfl rfl <|
              q_assign .n (.t rfl) rfl <|
              Lex.nil) ?_
          refine run_endB ?_
          refine run_region (q_add .n (.t rfl) (.c rfl) (fun _ => by omega) rfl <|
              q_move .n (.t rfl) rfl <|
              Lex.nil) ?_
          exact run_again (x1.1 ++ ([gChange.mk 2 (at' a x1.2)] : List gChange), x1.2 + 1) ⟨by omega, by omega, by (simp only [List.length_append, List.length_cons, List.length_nil, List.length_replicate, put_len] at * <;> omega)⟩ (by omega) (sub_of [(201, 205)] ⟨rfl, rfl, rfl, rfl, rfl, rfl, trivial⟩ ⟨rfl, trivial⟩ rfl)
        · try simp only [Bool.and_eq_true, Bool.or_eq_true, Bool.not_eq_true', Bool.and_eq_false_iff, Bool.or_eq_false_iff, Bool.not_eq_false', decide_eq_true_eq, decide_eq_false_iff_not, beq_iff_eq, bne_iff_ne, beq_eq_false_iff_ne, bne_eq_false_iff_eq, Bool.true_and, ne_eq, Decidable.not_not, Int.not_lt, Int.not_le, Nat.not_lt, Nat.not_le, strB_nil, strB_nil', strB_nnil, strB_nnil'] at h7
          refine run_skip ?_
          refine run_endB ?_
          refine run_region (q_add .n (.t rfl) (.c rfl) (fun _ => by omega) rfl <|
              q_move .n (.t rfl) rfl <|
              Lex.nil) ?_
          exact run_again (x1.1, x1.2 + 1) ⟨by omega, by omega, by (simp only [List.length_append, List.length_cons, List.length_nil, List.length_replicate, put_len] at * <;> omega)⟩ (by omega) (sub_of [] ⟨rfl, rfl, rfl, rfl, rfl, rfl, trivial⟩ ⟨rfl, trivial⟩ rfl)
      · try simp only [Bool.and_eq_true, Bool.or_eq_true, Bool.not_eq_true', Bool.and_eq_false_iff, Bool.or_eq_false_iff, Bool.not_eq_false', decide_eq_true_eq, decide_eq_false_iff_not, beq_iff_eq, bne_iff_ne, beq_eq_false_iff_ne, bne_eq_false_iff_eq, Bool.true_and, ne_eq, Decidable.not_not, Int.not_lt, Int.not_le, Nat.not_lt, Nat.not_le, strB_nil, strB_nil', strB_nnil, strB_nnil'] at h6
        refine run_exit rfl ?_
        exact run_cont hk4 (x1.1, x1.2) ⟨by omega, by omega, by omega, by omega⟩ (sub_of [] ⟨rfl, rfl, rfl, trivial⟩ ⟨rfl, trivial⟩ rfl)

/-! ### impl_ApplyChanges_1 -/
theorem c_impl_ApplyChanges_1 (c_ : gChange) : Con Tryd.prog 48 [.st [.int .i64 c_.Kind, .str c_.Setting.Name, .int .i64 c_.Setting.Value]] [] (.bool (m_impl_ApplyChanges_1 c_)) ([]) := by
  refine con_intro (out := fun r : Bool => ((.bool r : V), ([] : List (Nat × Option O)))) (r := (m_impl_ApplyChanges_1 c_)) Tryd.func48 rfl Tryd.ntmps48 rfl ?_
  refine run_seq ?_
  refine run_region (q_box (l := 200) .n rfl (.t rfl) rfl rfl rfl rfl <|
      q_assign .n (.c rfl) rfl <|
      Lex.nil) ?_
  refine run_seq ?_
  refine run_region (q_fld_ow .n (.t rfl) fo_79_0 rfl <|
      q_ld1_ow .n (.t rfl) rfl (.inr rfl) (fun _ => rfl) rfl ic_2 rfl <|
      q_int .n (.t rfl) (.c rfl) rfl rfl <|
      q_move .n (.t rfl) rfl <|
      q_fld_ow (.t rfl rfl) (.t rfl) fo_79_0 rfl <|
      q_ld1_ow (.t rfl rfl) (.u rfl id) rfl (.inr rfl) (fun _ => rfl) rfl ic_2 rfl <|
      q_int (.t rfl rfl) (.u rfl id) (.c rfl) rfl rfl <|
      q_and .n (.t rfl) (.u rfl id) rfl <|
      q_move .n (.t rfl) rfl <|
      q_fld_ow (.f rfl rfl) (.t rfl) fo_79_1 rfl <|
      q_ldN_ow (.f rfl rfl) (.u rfl id) rfl (.inr rfl) ag_75 (fun _ => rfl) rfl rfl <|
      q_call0 (full := false) (.f rfl rfl) .f en_49 (.cons (.u rfl id) .nil) (.cons (.sts rfl) .nil) (fun hg => c_impl_Setting_valid c_.Setting) rfl (fun h => Bool.noConfusion h) rfl <|
      q_not (.f rfl rfl) (.u rfl id) rfl <|
      q_or .n (.t rfl) (.u rfl id) rfl <|
      q_assign .n (.t rfl) rfl <|
      Lex.nil) ?_
  exact run_ret [] (.cons (.t rfl rfl) .nil) rfl trivial rfl

/-! ### slices_IndexFunc_impl_Change -/
theorem c_slices_IndexFunc_impl_Change (s_ : List gChange) (f : gChange → Bool) (F_f : FuncId) (C_f : List V) (he_f : entB Tryd.prog F_f = true) (hr_f : C_f.all V.ro = true) (hc_f : ∀ (a0 : gChange), Con Tryd.prog F_f ([.st [.int .i64 a0.Kind, .str a0.Setting.Name, .int .i64 a0.Setting.Value]] ++ C_f) [] (.bool (f a0)) []) : Con Tryd.prog 80 [.sl 3 (s_.map gChange.v), .clo F_f C_f] [] (.int .i64 (m_slices_IndexFunc_impl_Change s_ f)) ([]) := by
  refine con_intro (out := fun r : Int => ((.int .i64 r : V), ([] : List (Nat × Option O)))) (r := (m_slices_IndexFunc_impl_Change s_ f)) Tryd.func80 rfl Tryd.ntmps80 rfl ?_
  refine run_fact (t := 0) rfl fun hl => ?_
  have l1 := hl; clear hl; simp only [List.length_map] at l1
  refine run_seq ?_
  refine run_region (q_assign .n (.c rfl) rfl <|
      Lex.nil) ?_
  refine run_seq ?_
  refine run_seq ?_
  refine run_region (q_move .n (.t rfl) rfl <|
      q_len .n (.t rfl) rfl len_map ss_37 rfl <|
      q_move .n (.c rfl) rfl <|
      Lex.nil) ?_
  refine run_block ?_
  refine run_LOOP (m_slices_IndexFunc_impl_Change_b1 s_ f) _ _ _ rfl (fun (x1 : Int) => 0 ≤ x1 ∧ x1 ≤ (s_.length : Int)) (fun x1 => 0 ≤ x1 ∧ x1 ≤ (s_.length : Int) ∧ (s_.length : Int) ≤ x1) (fun x1 => ((s_.length : Int) - x1 : Int).toNat) (fun x1 => ⟨[(0, some (true, .sl 3 (s_.map gChange.v))), (1, some (true, .clo F_f C_f)), (7, some (true, .int .i64 (s_.length : Int))), (8, some (true, .int .i64 x1))], []⟩) (fun x1 => ⟨[], []⟩) ⟨by omega, by omega⟩ (by omega) (sub_of [] ⟨rfl, clo_ren hr_f rfl, rfl, rfl, trivial⟩ trivial rfl) ?_ ?_
  · intro x1 i6
    obtain ⟨e7, e8, e9⟩ := i6
    try dsimp only at *
    refine run_seq ?_
    refine run_region (q_assign .n (.c rfl) rfl <|
        Lex.nil) ?_
    exact run_ret [] (.cons (.t rfl rfl) .nil) rfl trivial rfl
  · intro rec1 k1 hk2 x1 i3
    obtain ⟨e10, e11⟩ := i3
    try dsimp only at *
    refine run_seq ?_
    refine run_region (q_int .n (.t rfl) (.t rfl) rfl rfl <|
        Lex.nil) ?_
    refine run_seq ?_
    refine run_cond (.t rfl) rfl (fun h4 => ?_) (fun h4 => ?_)
    · try simp only [Bool.and_eq_true, Bool.or_eq_true, Bool.not_eq_true', Bool.and_eq_false_iff, Bool.or_eq_false_iff, Bool.not_eq_false', decide_eq_true_eq, decide_eq_false_iff_not, beq_iff_eq, bne_iff_ne, beq_eq_false_iff_ne, bne_eq_false_iff_eq, Bool.true_and, ne_eq, Decidable.not_not, Int.not_lt, Int.not_le, Nat.not_lt, Nat.not_le, strB_nil, strB_nil', strB_nnil, strB_nnil'] at h4
      refine run_skip ?_
      refine run_seq ?_
      refine run_block ?_
      refine run_seq ?_
      refine run_region (q_move .n (.t rfl) rfl <|
          q_assign .n (.t rfl) rfl <|
          Lex.nil) ?_
      refine run_seq ?_
      refine run_region (q_move .n (.t rfl) rfl <|
          q_move .n (.t rfl) rfl <|
          q_move .n (.t rfl) rfl <|
          q_idx_rm .n (.t rfl) (.t rfl) sl_37 (fun _ => by omega) rfl <|
          q_ldN_ro .n (.t rfl) ag_79 rfl rfl rfl <|
          q_call0 (full := false) .n (.c (.t rfl)) he_f (.cons (.t rfl) .nil) (passes_app hr_f (.cons (.sts rfl) .nil)) (fun hg => hc_f (at' s_ x1)) rfl (fun h => Bool.noConfusion h) rfl <|
          Lex.nil) ?_
      refine run_cond (.t rfl) rfl (fun h5 => ?_) (fun h5 => ?_)
      · try simp only [Bool.and_eq_true, Bool.or_eq_true, Bool.not_eq_true', Bool.and_eq_false_iff, Bool.or_eq_false_iff, Bool.not_eq_false', decide_eq_true_eq, decide_eq_false_iff_not, beq_iff_eq, bne_iff_ne, beq_eq_false_iff_ne, bne_eq_false_iff_eq, Bool.true_and, ne_eq, Decidable.not_not, Int.not_lt, Int.not_le, Nat.not_lt, Nat.not_le, strB_nil, strB_nil', strB_nnil, strB_nnil'] at h5
        refine run_seq ?_
        refine run_region (q_move .n (.t rfl) rfl <|
            q_assign .n (.t rfl) rfl <|
            Lex.nil) ?_
        exact run_ret [] (.cons (.t rfl rfl) .nil) rfl trivial rfl
      · try simp only [Bool.and_eq_true, Bool.or_eq_true, Bool.not_eq_true', Bool.and_eq_false_iff, Bool.or_eq_false_iff, Bool.not_eq_false', decide_eq_true_eq, decide_eq_false_iff_not, beq_iff_eq, bne_iff_ne, beq_eq_false_iff_ne, bne_eq_false_iff_eq, Bool.true_and, ne_eq, Decidable.not_not, Int.not_lt, Int.not_le, Nat.not_lt, Nat.not_le, strB_nil, strB_nil', strB_nnil, strB_nnil'] at h5
        refine run_skip ?_
        refine run_endB ?_
        refine run_region (q_add .n (.t rfl) (.c rfl) (fun _ => by omega) rfl <|
            q_move .n (.t rfl) rfl <|
            Lex.nil) ?_
        exact run_again (x1 + 1) ⟨by omega, by omega⟩ (by omega) (sub_of [] ⟨rfl, clo_ren hr_f rfl, rfl, rfl, trivial⟩ trivial rfl)
    · try simp only [Bool.and_eq_true, Bool.or_eq_true, Bool.not_eq_true', Bool.and_eq_false_iff, Bool.or_eq_false_iff, Bool.not_eq_false', decide_eq_true_eq, decide_eq_false_iff_not, beq_iff_eq, bne_iff_ne, beq_eq_false_iff_ne, bne_eq_false_iff_eq, Bool.true_and, ne_eq, Decidable.not_not, Int.not_lt, Int.not_le, Nat.not_lt, Nat.not_le, strB_nil, strB_nil', strB_nnil, strB_nnil'] at h4
      refine run_exit rfl ?_
      exact run_cont hk2 x1 ⟨by omega, by omega, by omega⟩ (sub_of [] trivial trivial rfl)

/-! ### slices_ContainsFunc_impl_Change -/
theorem c_slices_ContainsFunc_impl_Change (s_ : List gChange) (f : gChange → Bool) (F_f : FuncId) (C_f : List V) (he_f : entB Tryd.prog F_f = true) (hr_f : C_f.all V.ro = true) (hc_f : ∀ (a0 : gChange), Con Tryd.prog F_f ([.st [.int .i64 a0.Kind, .str a0.Setting.Name, .int .i64 a0.Setting.Value]] ++ C_f) [] (.bool (f a0)) []) : Con Tryd.prog 50 [.sl 3 (s_.map gChange.v), .clo F_f C_f] [] (.bool (m_slices_ContainsFunc_impl_Change s_ f)) ([]) := by
  refine con_intro (out := fun r : Bool => ((.bool r : V), ([] : List (Nat × Option O)))) (r := (m_slices_ContainsFunc_impl_Change s_ f)) Tryd.func50 rfl Tryd.ntmps50 rfl ?_
  refine run_fact (t := 0) rfl fun hl => ?_
  have l1 := hl; clear hl; simp only [List.length_map] at l1
  refine run_seq ?_
  refine run_region (q_assign .n (.c rfl) rfl <|
      Lex.nil) ?_
  refine run_seq ?_
  refine run_region (q_move .n (.t rfl) rfl <|
      q_move .n (.t rfl) rfl <|
      q_call0 (full := false) .n .f en_80 (.cons (.t rfl) (.cons (.t rfl) .nil)) (.cons (.b (.a (.same rfl))) (.cons (.clo (passBs_ro hr_f)) .nil)) (fun hg => c_slices_IndexFunc_impl_Change s_ f F_f C_f he_f hr_f hc_f) rfl (fun h => Bool.noConfusion h) rfl <|
      q_int .n (.t rfl) (.c rfl) rfl rfl <|
      q_assign .n (.t rfl) rfl <|
      Lex.nil) ?_
  exact run_ret [] (.cons (.t rfl rfl) .nil) rfl trivial rfl

/-! ### slices_BinarySearchFunc_impl_Setting -/
theorem c_slices_BinarySearchFunc_impl_Setting (x_ : List gSetting) (target : gSetting) (cmp : gSetting → gSetting → Int) (F_cmp : FuncId) (C_cmp : List V) (he_cmp : entB Tryd.prog F_cmp = true) (hr_cmp : C_cmp.all V.ro = true) (hc_cmp : ∀ (a0 : gSetting) (a1 : gSetting), Con Tryd.prog F_cmp ([.st [.str a0.Name, .int .i64 a0.Value], .st [.str a1.Name, .int .i64 a1.Value]] ++ C_cmp) [] (.int .i64 (cmp a0 a1)) []) (hp1 : x_.length ≤ 1000000) : Con Tryd.prog 52 [.sl 2 (x_.map gSetting.v), .st [.str target.Name, .int .i64 target.Value], .clo F_cmp C_cmp] [] (.tup [.int .i64 (m_slices_BinarySearchFunc_impl_Setting x_ target cmp).1, .bool (m_slices_BinarySearchFunc_impl_Setting x_ target cmp).2]) ([]) := by
  refine con_intro (out := fun r : Int × Bool => ((.tup [.int .i64 r.1, .bool r.2] : V), ([] : List (Nat × Option O)))) (r := (m_slices_BinarySearchFunc_impl_Setting x_ target cmp)) Tryd.func52 rfl Tryd.ntmps52 rfl ?_
  refine run_fact (t := 0) rfl fun hl => ?_
  have l1 := hl; clear hl; simp only [List.length_map] at l1
  refine run_seq ?_
  refine run_region (q_box (l := 200) .n rfl (.t rfl) rfl rfl (by first | rfl | (simp [freshB, argT, V.labs, V.labS, V.labC, V.labB, O.labs, V.cells, labB_ro hr_cmp]; done)) rfl <|
      q_assign .n (.c rfl) rfl <|
      q_assign .n (.c rfl) rfl <|
      Lex.nil) ?_
  refine run_seq ?_
  refine run_region (q_move .n (.t rfl) rfl <|
      q_len .n (.t rfl) rfl len_map ss_34 rfl <|
      q_assign .n (.t rfl) rfl <|
      Lex.nil) ?_
  refine run_seq ?_
  refine run_region (q_move .n (.t rfl) rfl <|
      q_assign .n (.c rfl) rfl <|
      q_assign .n (.t rfl) rfl <|
      Lex.nil) ?_
  refine run_seq ?_
  refine run_block ?_
  refine run_LOOP (m_slices_BinarySearchFunc_impl_Setting_b1 x_ target cmp) _ _ _ rfl (fun (x1 : Int × Int) => 0 ≤ x1.1 ∧ x1.1 ≤ x1.2 ∧ x1.2 ≤ x_.length) (fun x1 => 0 ≤ x1.1 ∧ x1.1 ≤ x1.2 ∧ x1.2 ≤ x_.length) (fun x1 => (x1.2 - x1.1 : Int).toNat) (fun x1 => ⟨[(0, some (true, .sl 2 (x_.map gSetting.v))), (2, some (true, .clo F_cmp C_cmp)), (4, some (true, .op 200 0 0 0)), (8, some (true, .int .i64 (x_.length : Int))), (9, some (true, .int .i64 x1.1)), (10, some (true, .int .i64 x1.2))], [(200, some (.box 75 [.str target.Name, .int .i64 target.Value]))]⟩) (fun x1 => ⟨[(0, some (true, .sl 2 (x_.map gSetting.v))), (2, some (true, .clo F_cmp C_cmp)), (4, some (true, .op 200 0 0 0)), (8, some (true, .int .i64 (x_.length : Int))), (9, some (true, .int .i64 x1.1))], [(200, some (.box 75 [.str target.Name, .int .i64 target.Value]))]⟩) (by omega) (by omega) (sub_of [] ⟨rfl, clo_ren hr_cmp rfl, rfl, rfl, rfl, rfl, trivial⟩ ⟨rfl, trivial⟩ rfl) ?_ ?_
  · intro x1 i6
    have e7 := i6
    try dsimp only at *
    refine run_seq ?_
    refine run_draw fmo (q_move .n (.t rfl) rfl <|
        q_move .n (.t rfl) rfl <|
        q_move .n (.t rfl) rfl <|
        q_int .n (.t rfl) (.t rfl) rfl rfl <|
        q_move .n (.t rfl) rfl <|
        q_move (.t rfl rfl) (.t rfl) rfl <|
        q_move (.t rfl rfl) (.t rfl) rfl <|
        q_move (.t rfl rfl) (.t rfl) rfl <|
        q_idx_rm (.t rfl rfl) (.u rfl id) (.u rfl id) sl_34 (fun hg => by simp only [Bool.and_eq_true, Bool.or_eq_true, Bool.not_eq_true', Bool.and_eq_false_iff, Bool.or_eq_false_iff, Bool.not_eq_false', decide_eq_true_eq, decide_eq_false_iff_not, beq_iff_eq, bne_iff_ne, beq_eq_false_iff_ne, bne_eq_false_iff_eq, Bool.true_and, ne_eq, Decidable.not_not, Int.not_lt, Int.not_le, Nat.not_lt, Nat.not_le, strB_nil, strB_nil', strB_nnil, strB_nnil'] at hg; omega) rfl <|
        q_ldN_ro (.t rfl rfl) (.u rfl id) ag_75 rfl rfl rfl <|
        q_ldN_ow (.t rfl rfl) (.t rfl) rfl (.inr rfl) ag_75 (fun _ => rfl) rfl rfl <|
        q_call0 (full := false) (.t rfl rfl) (.c (.u rfl id)) he_cmp (.cons (.u rfl id) (.cons (.u rfl id) .nil)) (passes_app hr_cmp (.cons (.sts rfl) (.cons (.sts rfl) .nil))) (fun hg => hc_cmp (at' x_ x1.1) target) rfl (fun h => Bool.noConfusion h) rfl <|
        q_int (.t rfl rfl) (.u rfl id) (.c rfl) rfl rfl <|
        q_and .n (.t rfl) (.u rfl id) rfl <|
        q_assign .n (.t rfl) rfl <|
        q_assign .n (.t rfl) rfl <|
        Lex.nil) (by kernel_rfl) ?_
    exact run_ret [] (.cons (.t rfl rfl) (.cons (.t rfl rfl) .nil)) rfl trivial rfl
  · intro rec1 k1 hk2 x1 i3
    have e8 := i3
    try dsimp only at *
    refine run_seq ?_
    refine run_seq ?_
    refine run_region (q_move .n (.t rfl) rfl <|
        q_move .n (.t rfl) rfl <|
        q_int .n (.t rfl) (.t rfl) rfl rfl <|
        Lex.nil) ?_
    refine run_cond (.t rfl) rfl (fun h4 => ?_) (fun h4 => ?_)
    · try simp only [Bool.and_eq_true, Bool.or_eq_true, Bool.not_eq_true', Bool.and_eq_false_iff, Bool.or_eq_false_iff, Bool.not_eq_false', decide_eq_true_eq, decide_eq_false_iff_not, beq_iff_eq, bne_iff_ne, beq_eq_false_iff_ne, bne_eq_false_iff_eq, Bool.true_and, ne_eq, Decidable.not_not, Int.not_lt, Int.not_le, Nat.not_lt, Nat.not_le, strB_nil, strB_nil', strB_nnil, strB_nnil'] at h4
      refine run_skip ?_
      refine run_block ?_
      refine run_seq ?_
      refine run_region (q_move .n (.t rfl) rfl <|
          q_move .n (.t rfl) rfl <|
          q_int .n (.t rfl) (.t rfl) rfl rfl <|
          q_conv .n (.t rfl) cv_3_110 rfl <|
          q_shr .n (.t rfl) (.c rfl) (fun _ => by omega) rfl <|
          q_conv .n (.t rfl) cv_110_3 rfl <|
          q_assign .n (.t rfl) rfl <|
          Lex.nil) ?_
      refine run_seq ?_
      refine run_draw fmo (q_move .n (.t rfl) rfl <|
          q_move .n (.t rfl) rfl <|
          q_move .n (.t rfl) rfl <|
          q_idx_rm .n (.t rfl) (.t rfl) sl_34 (fun _ => by ((have hm : IntKind.wrap .i64 (Int.fdiv (IntKind.wrap .u64 (IntKind.wrap .i64 (x1.1 + x1.2))) (2 ^ min (1 : Int).toNat (IntKind.bits .u64))) = (x1.1 + x1.2) / 2 := srch_mid (by omega) (by omega) (by omega); first | (rw [hm]; omega) | (rw [hm, wr64 (by omega)]; omega) | (rw [hm, wr64 (by omega)]; dsimp only; omega)))) rfl <|
          q_ldN_ro .n (.t rfl) ag_75 rfl rfl rfl <|
          q_ldN_ow .n (.t rfl) rfl (.inr rfl) ag_75 (fun _ => rfl) rfl rfl <|
          q_call0 (full := false) .n (.c (.t rfl)) he_cmp (.cons (.t rfl) (.cons (.t rfl) .nil)) (passes_app hr_cmp (.cons (.sts rfl) (.cons (.sts rfl) .nil))) (fun hg => hc_cmp (at' x_ (IntKind.wrap .i64 (Int.fdiv (IntKind.wrap .u64 (IntKind.wrap .i64 (x1.1 + x1.2))) (2 ^ min (1 : Int).toNat 64)))) target) rfl (fun h => Bool.noConfusion h) rfl <|
          q_int .n (.t rfl) (.c rfl) rfl rfl <|
          Lex.nil) (by kernel_rfl) ?_
      refine run_cond (.t rfl) rfl (fun h5 => ?_) (fun h5 => ?_)
      · try simp only [Bool.and_eq_true, Bool.or_eq_true, Bool.not_eq_true', Bool.and_eq_false_iff, Bool.or_eq_false_iff, Bool.not_eq_false', decide_eq_true_eq, decide_eq_false_iff_not, beq_iff_eq, bne_iff_ne, beq_eq_false_iff_ne, bne_eq_false_iff_eq, Bool.true_and, ne_eq, Decidable.not_not, Int.not_lt, Int.not_le, Nat.not_lt, Nat.not_le, strB_nil, strB_nil', strB_nnil, strB_nnil'] at h5
        refine run_region (q_move .n (.t rfl) rfl <|
            q_int .n (.t rfl) (.c rfl) rfl rfl <|
            q_assign .n (.t rfl) rfl <|
            Lex.nil) ?_
        refine run_endB ?_
        exact run_again (IntKind.wrap .i64 ((IntKind.wrap .i64 (Int.fdiv (IntKind.wrap .u64 (IntKind.wrap .i64 (x1.1 + x1.2))) (2 ^ min (1 : Int).toNat 64))) + 1), x1.2) (by ((have hm := srch_mid (i := x1.1) (j := x1.2) (by omega) (by omega) (by omega); first | omega | (rw [hm]; omega) | (rw [hm]; rw [wr64 (by omega)]; omega) | (rw [hm, wr64 (by omega)]; dsimp only; omega)))) (by ((have hm := srch_mid (i := x1.1) (j := x1.2) (by omega) (by omega) (by omega); first | omega | (rw [hm]; omega) | (rw [hm]; rw [wr64 (by omega)]; omega) | (rw [hm, wr64 (by omega)]; dsimp only; omega)))) (sub_of [] ⟨rfl, clo_ren hr_cmp rfl, rfl, rfl, rfl, rfl, trivial⟩ ⟨rfl, trivial⟩ rfl)
      · try simp only [Bool.and_eq_true, Bool.or_eq_true, Bool.not_eq_true', Bool.and_eq_false_iff, Bool.or_eq_false_iff, Bool.not_eq_false', decide_eq_true_eq, decide_eq_false_iff_not, beq_iff_eq, bne_iff_ne, beq_eq_false_iff_ne, bne_eq_false_iff_eq, Bool.true_and, ne_eq, Decidable.not_not, Int.not_lt, Int.not_le, Nat.not_lt, Nat.not_le, strB_nil, strB_nil', strB_nnil, strB_nnil'] at h5
        refine run_region (q_move .n (.t rfl) rfl <|
            q_assign .n (.t rfl) rfl <|
            Lex.nil) ?_
        refine run_endB ?_
        exact run_again (x1.1, IntKind.wrap .i64 (Int.fdiv (IntKind.wrap .u64 (IntKind.wrap .i64 (x1.1 + x1.2))) (2 ^ min (1 : Int).toNat 64))) (by ((have hm := srch_mid (i := x1.1) (j := x1.2) (by omega) (by omega) (by omega); first | omega | (rw [hm]; omega) | (rw [hm]; rw [wr64 (by omega)]; omega) | (rw [hm, wr64 (by omega)]; dsimp only; omega)))) (by ((have hm := srch_mid (i := x1.1) (j := x1.2) (by omega) (by omega) (by omega); first | omega | (rw [hm]; omega) | (rw [hm]; rw [wr64 (by omega)]; omega) | (rw [hm, wr64 (by omega)]; dsimp only; omega)))) (sub_of [] ⟨rfl, clo_ren hr_cmp rfl, rfl, rfl, rfl, rfl, trivial⟩ ⟨rfl, trivial⟩ rfl)
    · try simp only [Bool.and_eq_true, Bool.or_eq_true, Bool.not_eq_true', Bool.and_eq_false_iff, Bool.or_eq_false_iff, Bool.not_eq_false', decide_eq_true_eq, decide_eq_false_iff_not, beq_iff_eq, bne_iff_ne, beq_eq_false_iff_ne, bne_eq_false_iff_eq, Bool.true_and, ne_eq, Decidable.not_not, Int.not_lt, Int.not_le, Nat.not_lt, Nat.not_le, strB_nil, strB_nil', strB_nnil, strB_nnil'] at h4
      refine run_exit rfl ?_
      exact run_cont hk2 (x1.1, x1.2) (by omega) (sub_of [] ⟨rfl, clo_ren hr_cmp rfl, rfl, rfl, rfl, trivial⟩ ⟨rfl, trivial⟩ rfl)

/-! ### cmp_isNaN_string -/
theorem c_cmp_isNaN_string (x_ : List UInt8) : Con Tryd.prog 96 [.str x_] [] (.bool (m_cmp_isNaN_string x_)) ([]) := by
  refine con_intro (out := fun r : Bool => ((.bool r : V), ([] : List (Nat × Option O)))) (r := (m_cmp_isNaN_string x_)) Tryd.func96 rfl Tryd.ntmps96 rfl ?_
  refine run_seq ?_
  refine run_region (q_assign .n (.c rfl) rfl <|
      Lex.nil) ?_
  refine run_seq ?_
  refine run_region (q_move .n (.t rfl) rfl <|
      q_move .n (.t rfl) rfl <|
      q_strcmp .n (.t rfl) (.t rfl) rfl rfl <|
      q_assign .n (.t rfl) rfl <|
      Lex.nil) ?_
  exact run_ret [] (.cons (.t rfl rfl) .nil) rfl trivial rfl

/-! ### cmp_Compare_string -/
theorem c_cmp_Compare_string (x_ : List UInt8) (y : List UInt8) : Con Tryd.prog 81 [.str x_, .str y] [] (.int .i64 (m_cmp_Compare_string x_ y)) ([]) := by
  refine con_intro (out := fun r : Int => ((.int .i64 r : V), ([] : List (Nat × Option O)))) (r := (m_cmp_Compare_string x_ y)) Tryd.func81 rfl Tryd.ntmps81 rfl ?_
  refine run_seq ?_
  refine run_region (q_assign .n (.c rfl) rfl <|
      Lex.nil) ?_
  refine run_seq ?_
  refine run_region (q_move .n (.t rfl) rfl <|
      q_call0 (full := false) .n .f en_96 (.cons (.t rfl) .nil) (.cons (.b (.a (.same rfl))) .nil) (fun hg => c_cmp_isNaN_string x_) rfl (fun h => Bool.noConfusion h) rfl <|
      q_assign .n (.t rfl) rfl <|
      Lex.nil) ?_
  refine run_seq ?_
  refine run_region (q_move .n (.t rfl) rfl <|
      q_call0 (full := false) .n .f en_96 (.cons (.t rfl) .nil) (.cons (.b (.a (.same rfl))) .nil) (fun hg => c_cmp_isNaN_string y) rfl (fun h => Bool.noConfusion h) rfl <|
      q_assign .n (.t rfl) rfl <|
      Lex.nil) ?_
  refine run_seq ?_
  refine run_seq ?_
  refine run_region (q_move .n (.t rfl) rfl <|
      Lex.nil) ?_
  refine run_cond (.t rfl) rfl (fun h1 => ?_) (fun h1 => ?_)
  · try simp only [Bool.and_eq_true, Bool.or_eq_true, Bool.not_eq_true', Bool.and_eq_false_iff, Bool.or_eq_false_iff, Bool.not_eq_false', decide_eq_true_eq, decide_eq_false_iff_not, beq_iff_eq, bne_iff_ne, beq_eq_false_iff_ne, bne_eq_false_iff_eq, Bool.true_and, ne_eq, Decidable.not_not, Int.not_lt, Int.not_le, Nat.not_lt, Nat.not_le, strB_nil, strB_nil', strB_nnil, strB_nnil'] at h1
    refine run_seq ?_
    refine run_seq ?_
    refine run_region (q_move .n (.t rfl) rfl <|
        Lex.nil) ?_
    refine run_cond (.t rfl) rfl (fun h2 => ?_) (fun h2 => ?_)
    · try simp only [Bool.and_eq_true, Bool.or_eq_true, Bool.not_eq_true', Bool.and_eq_false_iff, Bool.or_eq_false_iff, Bool.not_eq_false', decide_eq_true_eq, decide_eq_false_iff_not, beq_iff_eq, bne_iff_ne, beq_eq_false_iff_ne, bne_eq_false_iff_eq, Bool.true_and, ne_eq, Decidable.not_not, Int.not_lt, Int.not_le, Nat.not_lt, Nat.not_le, strB_nil, strB_nil', strB_nnil, strB_nnil'] at h2
      refine run_seq ?_
      refine run_region (q_assign .n (.c rfl) rfl <|
          Lex.nil) ?_
      exact run_ret [] (.cons (.t rfl rfl) .nil) rfl trivial rfl
    · try simp only [Bool.and_eq_true, Bool.or_eq_true, Bool.not_eq_true', Bool.and_eq_false_iff, Bool.or_eq_false_iff, Bool.not_eq_false', decide_eq_true_eq, decide_eq_false_iff_not, beq_iff_eq, bne_iff_ne, beq_eq_false_iff_ne, bne_eq_false_iff_eq, Bool.true_and, ne_eq, Decidable.not_not, Int.not_lt, Int.not_le, Nat.not_lt, Nat.not_le, strB_nil, strB_nil', strB_nnil, strB_nnil'] at h2
      refine run_skip ?_
      refine run_seq ?_
      refine run_region (q_assign .n (.c rfl) rfl <|
          Lex.nil) ?_
      exact run_ret [] (.cons (.t rfl rfl) .nil) rfl trivial rfl
  · try simp only [Bool.and_eq_true, Bool.or_eq_true, Bool.not_eq_true', Bool.and_eq_false_iff, Bool.or_eq_false_iff, Bool.not_eq_false', decide_eq_true_eq, decide_eq_false_iff_not, beq_iff_eq, bne_iff_ne, beq_eq_false_iff_ne, bne_eq_false_iff_eq, Bool.true_and, ne_eq, Decidable.not_not, Int.not_lt, Int.not_le, Nat.not_lt, Nat.not_le, strB_nil, strB_nil', strB_nnil, strB_nnil'] at h1
    refine run_skip ?_
    refine run_seq ?_
    refine run_seq ?_
    refine run_region (q_move .n (.t rfl) rfl <|
        Lex.nil) ?_
    refine run_cond (.t rfl) rfl (fun h3 => ?_) (fun h3 => ?_)
    · try simp only [Bool.and_eq_true, Bool.or_eq_true, Bool.not_eq_true', Bool.and_eq_false_iff, Bool.or_eq_false_iff, Bool.not_eq_false', decide_eq_true_eq, decide_eq_false_iff_not, beq_iff_eq, bne_iff_ne, beq_eq_false_iff_ne, bne_eq_false_iff_eq, Bool.true_and, ne_eq, Decidable.not_not, Int.not_lt, Int.not_le, Nat.not_lt, Nat.not_le, strB_nil, strB_nil', strB_nnil, strB_nnil'] at h3
      refine run_seq ?_
      refine run_region (q_assign .n (.c rfl) rfl <|
          Lex.nil) ?_
      exact run_ret [] (.cons (.t rfl rfl) .nil) rfl trivial rfl
    · try simp only [Bool.and_eq_true, Bool.or_eq_true, Bool.not_eq_true', Bool.and_eq_false_iff, Bool.or_eq_false_iff, Bool.not_eq_false', decide_eq_true_eq, decide_eq_false_iff_not, beq_iff_eq, bne_iff_ne, beq_eq_false_iff_ne, bne_eq_false_iff_eq, Bool.true_and, ne_eq, Decidable.not_not, Int.not_lt, Int.not_le, Nat.not_lt, Nat.not_le, strB_nil, strB_nil', strB_nnil, strB_nnil'] at h3
      refine run_skip ?_
      refine run_seq ?_
      refine run_seq ?_
      refine run_region (q_move .n (.t rfl) rfl <|
          q_move .n (.t rfl) rfl <|
          q_strcmp .n (.t rfl) (.t rfl) rfl rfl <|
          Lex.nil) ?_
      refine run_cond (.t rfl) rfl (fun h4 => ?_) (fun h4 => ?_)
      · try simp only [Bool.and_eq_true, Bool.or_eq_true, Bool.not_eq_true', Bool.and_eq_false_iff, Bool.or_eq_false_iff, Bool.not_eq_false', decide_eq_true_eq, decide_eq_false_iff_not, beq_iff_eq, bne_iff_ne, beq_eq_false_iff_ne, bne_eq_false_iff_eq, Bool.true_and, ne_eq, Decidable.not_not, Int.not_lt, Int.not_le, Nat.not_lt, Nat.not_le, strB_nil, strB_nil', strB_nnil, strB_nnil'] at h4
        refine run_seq ?_
        refine run_region (q_assign .n (.c rfl) rfl <|
            Lex.nil) ?_
        exact run_ret [] (.cons (.t rfl rfl) .nil) rfl trivial rfl
      · try simp only [Bool.and_eq_true, Bool.or_eq_true, Bool.not_eq_true', Bool.and_eq_false_iff, Bool.or_eq_false_iff, Bool.not_eq_false', decide_eq_true_eq, decide_eq_false_iff_not, beq_iff_eq, bne_iff_ne, beq_eq_false_iff_ne, bne_eq_false_iff_eq, Bool.true_and, ne_eq, Decidable.not_not, Int.not_lt, Int.not_le, Nat.not_lt, Nat.not_le, strB_nil, strB_nil', strB_nnil, strB_nnil'] at h4
        refine run_skip ?_
        refine run_seq ?_
        refine run_seq ?_
        refine run_region (q_move .n (.t rfl) rfl <|
            q_move .n (.t rfl) rfl <|
            q_strcmp .n (.t rfl) (.t rfl) rfl rfl <|
            Lex.nil) ?_
        refine run_cond (.t rfl) rfl (fun h5 => ?_) (fun h5 => ?_)
        · try simp only [Bool.and_eq_true, Bool.or_eq_true, Bool.not_eq_true', Bool.and_eq_false_iff, Bool.or_eq_false_iff, Bool.not_eq_false', decide_eq_true_eq, decide_eq_false_iff_not, beq_iff_eq, bne_iff_ne, beq_eq_false_iff_ne, bne_eq_false_iff_eq, Bool.true_and, ne_eq, Decidable.not_not, Int.not_lt, Int.not_le, Nat.not_lt, Nat.not_le, strB_nil, strB_nil', strB_nnil, strB_nnil'] at h5
          refine run_seq ?_
          refine run_region (q_assign .n (.c rfl) rfl <|
              Lex.nil) ?_
          exact run_ret [] (.cons (.t rfl rfl) .nil) rfl trivial rfl
        · try simp only [Bool.and_eq_true, Bool.or_eq_true, Bool.not_eq_true', Bool.and_eq_false_iff, Bool.or_eq_false_iff, Bool.not_eq_false', decide_eq_true_eq, decide_eq_false_iff_not, beq_iff_eq, bne_iff_ne, beq_eq_false_iff_ne, bne_eq_false_iff_eq, Bool.true_and, ne_eq, Decidable.not_not, Int.not_lt, Int.not_le, Nat.not_lt, Nat.not_le, strB_nil, strB_nil', strB_nnil, strB_nnil'] at h5
          refine run_skip ?_
          refine run_seq ?_
          refine run_region (q_assign .n (.c rfl) rfl <|
              Lex.nil) ?_
          exact run_ret [] (.cons (.t rfl rfl) .nil) rfl trivial rfl

/-! ### impl_compareSettings -/
theorem c_impl_compareSettings (a : gSetting) (b : gSetting) : Con Tryd.prog 53 [.st [.str a.Name, .int .i64 a.Value], .st [.str b.Name, .int .i64 b.Value]] [] (.int .i64 (m_impl_compareSettings a b)) ([]) := by
  refine con_intro (out := fun r : Int => ((.int .i64 r : V), ([] : List (Nat × Option O)))) (r := (m_impl_compareSettings a b)) Tryd.func53 rfl Tryd.ntmps53 rfl ?_
  refine run_seq ?_
  refine run_region (q_box (l := 200) .n rfl (.t rfl) rfl rfl rfl rfl <|
      q_box (l := 201) .n rfl (.t rfl) rfl rfl rfl rfl <|
      q_assign .n (.c rfl) rfl <|
      Lex.nil) ?_
  refine run_seq ?_
  refine run_region (q_fld_ow .n (.t rfl) fo_75_0 rfl <|
      q_ld1_ow .n (.t rfl) rfl (.inr rfl) (fun _ => rfl) rfl ic_9 rfl <|
      q_fld_ow .n (.t rfl) fo_75_0 rfl <|
      q_ld1_ow .n (.t rfl) rfl (.inr rfl) (fun _ => rfl) rfl ic_9 rfl <|
      q_call0 (full := false) .n .f en_81 (.cons (.t rfl) (.cons (.t rfl) .nil)) (.cons (.b (.a (.same rfl))) (.cons (.b (.a (.same rfl))) .nil)) (fun hg => c_cmp_Compare_string a.Name b.Name) rfl (fun h => Bool.noConfusion h) rfl <|
      q_assign .n (.t rfl) rfl <|
      Lex.nil) ?_
  exact run_ret [] (.cons (.t rfl rfl) .nil) rfl trivial rfl

/-! ### slices_Reverse_impl_Setting -/
theorem c_slices_Reverse_impl_Setting (s_ : List gSetting) : Con Tryd.prog 105 [.os 0 s_.length] [(0, some (.row 75 2 (s_.map gSetting.v)))] (.tup []) ([(0, some (.row 75 2 ((m_slices_Reverse_impl_Setting s_).map gSetting.v)))]) := by
  refine con_intro (out := fun r : (List gSetting) => ((.tup [] : V), ([(0, some (.row 75 2 (r.map gSetting.v)))] : List (Nat × Option O)))) (r := (m_slices_Reverse_impl_Setting s_)) Tryd.func105 rfl Tryd.ntmps105 rfl ?_
  refine run_factH (l := 0) rfl fun hl => ?_
  have l1 := hl; clear hl; simp only [List.length_map] at l1
  refine run_seq ?_
  refine run_region (q_move .n (.t rfl) rfl <|
      q_len .n (.t rfl) rfl rfl ss_34 rfl <|
      q_sub .n (.t rfl) (.c rfl) (fun _ => by omega) rfl <|
      q_assign .n (.c rfl) rfl <|
      q_assign .n (.t rfl) rfl <|
      Lex.nil) ?_
  refine run_block ?_
  refine run_LOOP (m_slices_Reverse_impl_Setting_b1 s_) _ _ _ rfl (fun (x1 : (List gSetting) × Int × Int) => 0 ≤ x1.2.1 ∧ x1.2.2 ≤ (s_.length : Int) - 1 ∧ x1.1.length = s_.length ∧ x1.1.length = s_.length ∧ 0 ≤ x1.2.1 ∧ x1.2.1 + x1.2.2 = (s_.length : Int) - 1 ∧ x1.2.1 ≤ x1.2.2 + 1) (fun x1 => 0 ≤ x1.2.1 ∧ x1.2.2 ≤ (s_.length : Int) - 1 ∧ x1.1.length = s_.length ∧ x1.1.length = s_.length ∧ 0 ≤ x1.2.1 ∧ x1.2.1 + x1.2.2 = (s_.length : Int) - 1 ∧ x1.2.1 ≤ x1.2.2 + 1) (fun x1 => (x1.2.2 + 1 - x1.2.1 : Int).toNat) (fun x1 => ⟨[(0, some (true, .os 0 x1.1.length)), (2, some (true, .int .i64 x1.2.1)), (3, some (true, .int .i64 x1.2.2))], [(0, some (.row 75 2 (x1.1.map gSetting.v)))]⟩) (fun x1 => ⟨[], [(0, some (.row 75 2 (x1.1.map gSetting.v)))]⟩) ⟨by (simp only [List.length_append, List.length_cons, List.length_nil, List.length_replicate, put_len] at * <;> omega), by (simp only [List.length_append, List.length_cons, List.length_nil, List.length_replicate, put_len] at * <;> omega), by (simp only [List.length_append, List.length_cons, List.length_nil, List.length_replicate, put_len] at * <;> omega), by (simp only [List.length_append, List.length_cons, List.length_nil, List.length_replicate, put_len] at * <;> omega), by (simp only [List.length_append, List.length_cons, List.length_nil, List.length_replicate, put_len] at * <;> omega), by (simp only [List.length_append, List.length_cons, List.length_nil, List.length_replicate, put_len] at * <;> omega), by (simp only [List.length_append, List.length_cons, List.length_nil, List.length_replicate, put_len] at * <;> omega)⟩ (by (simp only [List.length_append, List.length_cons, List.length_nil, List.length_replicate, put_len] at * <;> omega)) (sub_of [] ⟨rfl, rfl, rfl, trivial⟩ ⟨rfl, trivial⟩ rfl) ?_ ?_
  · intro x1 i5
    obtain ⟨e6, e7, e8, e9, e10, e11, e12⟩ := i5
    try dsimp only at *
    exact run_end [] .nil rfl ⟨rfl, trivial⟩ rfl
  · intro rec1 k1 hk2 x1 i3
    obtain ⟨e13, e14, e15, e16, e17, e18, e19⟩ := i3
    try dsimp only at *
    refine run_seq ?_
    refine run_seq ?_
    refine run_region (q_move .n (.t rfl) rfl <|
        q_move .n (.t rfl) rfl <|
        q_int .n (.t rfl) (.t rfl) rfl rfl <|
        Lex.nil) ?_
    refine run_cond (.t rfl) rfl (fun h4 => ?_) (fun h4 => ?_)
    · try simp only [Bool.and_eq_true, Bool.or_eq_true, Bool.not_eq_true', Bool.and_eq_false_iff, Bool.or_eq_false_iff, Bool.not_eq_false', decide_eq_true_eq, decide_eq_false_iff_not, beq_iff_eq, bne_iff_ne, beq_eq_false_iff_ne, bne_eq_false_iff_eq, Bool.true_and, ne_eq, Decidable.not_not, Int.not_lt, Int.not_le, Nat.not_lt, Nat.not_le, strB_nil, strB_nil', strB_nnil, strB_nnil'] at h4
      refine run_skip ?_
      refine run_seq ?_
      refine run_block ?_
      refine run_draw fmo (q_move .n (.t rfl) rfl <|
          q_move .n (.t rfl) rfl <|
          q_move .n (.t rfl) rfl <|
          q_move .n (.t rfl) rfl <|
          q_move .n (.t rfl) rfl <|
          q_move .n (.t rfl) rfl <|
          q_idx_ow .n (.t rfl) (.t rfl) sl_34 (fun _ => by omega) rfl <|
          q_ldN_row .n (.t rfl) rfl (fun _ => by omega) rfl ag_75 rfl rfl rfl <|
          q_move .n (.t rfl) rfl <|
          q_move .n (.t rfl) rfl <|
          q_idx_ow .n (.t rfl) (.t rfl) sl_34 (fun _ => by omega) rfl <|
          q_ldN_row .n (.t rfl) rfl (fun _ => by omega) rfl ag_75 rfl rfl rfl <|
          q_idx_ow .n (.t rfl) (.t rfl) sl_34 (fun _ => by omega) rfl <|
          q_st_rowm (at' x1.1 x1.2.2) .n rfl (.t rfl) (.t rfl) rfl ts_75 (by omega) rfl rfl <|
          q_idx_ow .n (.t rfl) (.t rfl) sl_34 (fun _ => by omega) rfl <|
          q_st_rowm (at' x1.1 x1.2.1) .n rfl (.t rfl) (.t rfl) rfl ts_75 (by (simp only [List.length_append, List.length_cons, List.length_nil, List.length_replicate, put_len] at * <;> omega)) rfl rfl <|
          Lex.nil) (by kernel_rfl) ?_
      refine run_endB ?_
      refine run_region (q_move .n (.t rfl) rfl <|
          q_add .n (.t rfl) (.c rfl) (fun _ => by omega) rfl <|
          q_move .n (.t rfl) rfl <|
          q_sub .n (.t rfl) (.c rfl) (fun _ => by omega) rfl <|
          q_assign .n (.t rfl) rfl <|
          q_assign .n (.t rfl) rfl <|
          Lex.nil) ?_
      exact run_again (put' (put' x1.1 x1.2.1 (at' x1.1 x1.2.2)) x1.2.2 (at' x1.1 x1.2.1), x1.2.1 + 1, x1.2.2 - 1) ⟨by (simp only [List.length_append, List.length_cons, List.length_nil, List.length_replicate, put_len] at * <;> omega), by (simp only [List.length_append, List.length_cons, List.length_nil, List.length_replicate, put_len] at * <;> omega), by (simp only [List.length_append, List.length_cons, List.length_nil, List.length_replicate, put_len] at * <;> omega), by (simp only [List.length_append, List.length_cons, List.length_nil, List.length_replicate, put_len] at * <;> omega), by (simp only [List.length_append, List.length_cons, List.length_nil, List.length_replicate, put_len] at * <;> omega), by (simp only [List.length_append, List.length_cons, List.length_nil, List.length_replicate, put_len] at * <;> omega), by (simp only [List.length_append, List.length_cons, List.length_nil, List.length_replicate, put_len] at * <;> omega)⟩ (by (simp only [List.length_append, List.length_cons, List.length_nil, List.length_replicate, put_len] at * <;> omega)) (sub_of [] ⟨os_len rfl (by first | (simp only [put_len]; done) | (first | omega | assumption | (simp only [List.length_append, List.length_cons, List.length_nil, List.length_replicate, put_len] at * <;> omega))), rfl, rfl, trivial⟩ ⟨rfl, trivial⟩ rfl)
    · try simp only [Bool.and_eq_true, Bool.or_eq_true, Bool.not_eq_true', Bool.and_eq_false_iff, Bool.or_eq_false_iff, Bool.not_eq_false', decide_eq_true_eq, decide_eq_false_iff_not, beq_iff_eq, bne_iff_ne, beq_eq_false_iff_ne, bne_eq_false_iff_eq, Bool.true_and, ne_eq, Decidable.not_not, Int.not_lt, Int.not_le, Nat.not_lt, Nat.not_le, strB_nil, strB_nil', strB_nnil, strB_nnil'] at h4
      refine run_exit rfl ?_
      exact run_cont hk2 (x1.1, x1.2.1, x1.2.2) ⟨by omega, by omega, by omega, by omega, by omega, by omega, by omega⟩ (sub_of [] trivial ⟨rfl, trivial⟩ rfl)

/-! ### slices_Insert_impl_Setting -/
theorem c_slices_Insert_impl_Setting (s_ : List gSetting) (i : Int) (v : List gSetting) (hp1 : 0 ≤ i ∧ i ≤ s_.length) (hp2 : v.length = 1) (hp3 : s_.length ≤ 1000000) : Con Tryd.prog 54 [.os 0 s_.length, .int .i64 i, .os 2 v.length] [(0, some (.row 75 2 (s_.map gSetting.v))), (2, some (.row 75 2 (v.map gSetting.v)))] (.os 100 (m_slices_Insert_impl_Setting s_ i v).1.length) ([(100, some (.row 75 2 ((m_slices_Insert_impl_Setting s_ i v).1.map gSetting.v))), (2, some (.row 75 2 ((m_slices_Insert_impl_Setting s_ i v).2.map gSetting.v)))]) := by
  refine con_intro (out := fun r : (List gSetting) × (List gSetting) => ((.os 100 r.1.length : V), ([(100, some (.row 75 2 (r.1.map gSetting.v))), (2, some (.row 75 2 (r.2.map gSetting.v)))] : List (Nat × Option O)))) (r := (m_slices_Insert_impl_Setting s_ i v)) Tryd.func54 rfl Tryd.ntmps54 rfl ?_
  have hins : (ins s_ i v).length = s_.length + v.length := ins_len
  have hpre : (pre' s_ i).length = i.toNat := by have := pre_len (xs := s_) (b := i) hp1; omega
  have hcut : (cut' s_ i (s_.length : Int)).length = s_.length - i.toNat := by rw [cut_drop, List.length_drop]
  refine run_factH (l := 0) rfl fun hl => ?_
  have l1 := hl; clear hl; simp only [List.length_map] at l1
  refine run_factH (l := 2) rfl fun hl => ?_
  have l2 := hl; clear hl; simp only [List.length_map] at l2
  refine run_seq ?_
  refine run_region (q_assign .n (.c rfl) rfl <|
      Lex.nil) ?_
  refine run_seq ?_
  refine run_region (q_move .n (.t rfl) rfl <|
      q_move .n (.t rfl) rfl <|
      q_cut_oss (s_.length : Int) .n (.t rfl) (.s (.t rfl)) .n sl_34 rfl (fun _ => by omega) rfl <|
      Lex.nil) ?_
  refine run_seq ?_
  refine run_region (q_move .n (.t rfl) rfl <|
      q_len .n (.t rfl) rfl rfl ss_34 rfl <|
      q_assign .n (.t rfl) rfl <|
      Lex.nil) ?_
  refine run_seq ?_
  refine run_seq ?_
  refine run_region (q_move .n (.t rfl) rfl <|
      q_int .n (.t rfl) (.c rfl) rfl rfl <|
      Lex.nil) ?_
  refine run_cond (.t rfl) rfl (fun h3 => ?_) (fun h3 => ?_)
  · try simp only [Bool.and_eq_true, Bool.or_eq_true, Bool.not_eq_true', Bool.and_eq_false_iff, Bool.or_eq_false_iff, Bool.not_eq_false', decide_eq_true_eq, decide_eq_false_iff_not, beq_iff_eq, bne_iff_ne, beq_eq_false_iff_ne, bne_eq_false_iff_eq, Bool.true_and, ne_eq, Decidable.not_not, Int.not_lt, Int.not_le, Nat.not_lt, Nat.not_le, strB_nil, strB_nil', strB_nnil, strB_nnil'] at h3
    refine run_seq ?_
    refine run_region (q_move .n (.t rfl) rfl <|
        q_assign .n (.t rfl) rfl <|
        Lex.nil) ?_
    exact run_ret [(100, 0)] (.cons (.t rfl rfl) .nil) (by first | rfl | (simp only [put_len]; rfl)) ⟨rfl, rfl, trivial⟩ rfl
  · try simp only [Bool.and_eq_true, Bool.or_eq_true, Bool.not_eq_true', Bool.and_eq_false_iff, Bool.or_eq_false_iff, Bool.not_eq_false', decide_eq_true_eq, decide_eq_false_iff_not, beq_iff_eq, bne_iff_ne, beq_eq_false_iff_ne, bne_eq_false_iff_eq, Bool.true_and, ne_eq, Decidable.not_not, Int.not_lt, Int.not_le, Nat.not_lt, Nat.not_le, strB_nil, strB_nil', strB_nnil, strB_nnil'] at h3
    refine run_skip ?_
    refine run_seq ?_
    refine run_region (q_move .n (.t rfl) rfl <|
        q_len .n (.t rfl) rfl rfl ss_34 rfl <|
        q_assign .n (.t rfl) rfl <|
        Lex.nil) ?_
    refine run_seq ?_
    refine run_seq ?_
    refine run_region (q_move .n (.t rfl) rfl <|
        q_move .n (.t rfl) rfl <|
        q_int .n (.t rfl) (.t rfl) rfl rfl <|
        Lex.nil) ?_
    refine run_cond (.t rfl) rfl (fun h4 => ?_) (fun h4 => ?_)
    · try simp only [Bool.and_eq_true, Bool.or_eq_true, Bool.not_eq_true', Bool.and_eq_false_iff, Bool.or_eq_false_iff, Bool.not_eq_false', decide_eq_true_eq, decide_eq_false_iff_not, beq_iff_eq, bne_iff_ne, beq_eq_false_iff_ne, bne_eq_false_iff_eq, Bool.true_and, ne_eq, Decidable.not_not, Int.not_lt, Int.not_le, Nat.not_lt, Nat.not_le, strB_nil, strB_nil', strB_nnil, strB_nnil'] at h4
      refine run_seq ?_
      refine run_region (q_move .n (.t rfl) rfl <|
          q_move .n (.t rfl) rfl <|
          q_appm (xs := s_) (ys := v) (f := gSetting.v) (l := 200) .n rfl (.ow (.t rfl) rfl (take_all (by simp only [len_map, put_len] <;> rfl)) (by simp only [len_map, put_len] <;> rfl)) (.ow (.t rfl) rfl (take_all (by simp only [len_map, put_len] <;> rfl)) (by simp only [len_map, put_len] <;> rfl)) si_34 zv_75 rfl (by (simp only [List.length_append, List.length_cons, List.length_nil, List.length_replicate, put_len] at * <;> omega)) rfl rfl <|
          q_assign .n (.t rfl) rfl <|
          Lex.nil) ?_
      exact run_ret [(100, 200)] (.cons (.t rfl rfl) .nil) (by first | rfl | (simp only [put_len]; rfl)) ⟨rfl, rfl, trivial⟩ rfl
    · try simp only [Bool.and_eq_true, Bool.or_eq_true, Bool.not_eq_true', Bool.and_eq_false_iff, Bool.or_eq_false_iff, Bool.not_eq_false', decide_eq_true_eq, decide_eq_false_iff_not, beq_iff_eq, bne_iff_ne, beq_eq_false_iff_ne, bne_eq_false_iff_eq, Bool.true_and, ne_eq, Decidable.not_not, Int.not_lt, Int.not_le, Nat.not_lt, Nat.not_le, strB_nil, strB_nil', strB_nnil, strB_nnil'] at h4
      refine run_skip ?_
      refine run_seq ?_
      refine run_seq ?_
      refine run_region (q_move .n (.t rfl) rfl <|
          q_move .n (.t rfl) rfl <|
          q_add .n (.t rfl) (.t rfl) (fun _ => by omega) rfl <|
          q_move .n (.t rfl) rfl <|
          q_cap .n (.t rfl) sl_34 rfl <|
          q_gtrcap (((s_.length : Int) + (v.length : Int)).toNat) .n (.t rfl) (.t rfl) (fun _ => by omega) rfl <|
          Lex.nil) ?_
      refine run_cond_cap (t := 31) rfl ?_ ?_
      · skip
        refine run_seq ?_
        refine run_region (q_move .n (.t rfl) rfl <|
            q_move .n (.t rfl) rfl <|
            q_cut_owm (xs := s_) (b := i) .n (.t rfl) (.s (.t rfl)) sl_34 (fun _ => by omega) rfl <|
            q_move .n (.t rfl) rfl <|
            q_move .n (.t rfl) rfl <|
            q_add .n (.t rfl) (.t rfl) (fun _ => by omega) rfl <|
            q_move .n (.t rfl) rfl <|
            q_sub .n (.t rfl) (.t rfl) (fun _ => by omega) rfl <|
            q_appzm (te := 31) (f := gSetting.v) (xs := s_) (gSetting.mk ([] : List UInt8) 0 : gSetting) 201 (i.toNat) ((((s_.length : Int) + (v.length : Int)) - i).toNat) .n rfl (.t rfl) rfl (.t rfl) rfl si_34 ui_3 zv_75 rfl rfl (by omega) (by omega) (ins s_ i v).length (by omega) rfl rfl <|
            q_assign .n (.t rfl) rfl <|
            Lex.nil) ?_
        refine run_seq ?_
        refine run_region (q_move .n (.t rfl) rfl <|
            q_move .n (.t rfl) rfl <|
            q_cut_oss ((ins s_ i v).length : Int) .n (.t rfl) (.s (.t rfl)) .n sl_34 rfl (fun _ => by omega) rfl <|
            q_move .n (.t rfl) rfl <|
            q_copye (ys := v) (off := i.toNat) (m := (((ins s_ i v).length : Int).toNat - i.toNat)) (z1 s_ i v (s_.length - i.toNat) (gSetting.mk ([] : List UInt8) 0 : gSetting)) .n rfl (.oss (.t rfl)) rfl (by rw [zr_len (by omega)]; omega) (.ow (.t rfl) rfl (take_all (by simp only [len_map, put_len] <;> rfl)) (by simp only [len_map, put_len] <;> rfl)) sl_34 rfl (cpy_zr (by omega) (by omega) (by omega) (by omega)) rfl <|
            Lex.nil) ?_
        refine run_seq ?_
        refine run_draw fmo (q_move .n (.t rfl) rfl <|
            q_move .n (.t rfl) rfl <|
            q_move .n (.t rfl) rfl <|
            q_add .n (.t rfl) (.t rfl) (fun _ => by omega) rfl <|
            q_cut_oss ((ins s_ i v).length : Int) .n (.t rfl) (.s (.t rfl)) .n sl_34 rfl (fun _ => by omega) rfl <|
            q_move .n (.t rfl) rfl <|
            q_move .n (.t rfl) rfl <|
            q_cut_oss (s_.length : Int) .n (.t rfl) (.s (.t rfl)) .n sl_34 rfl (fun _ => by omega) rfl <|
            q_copye (ys := cut' s_ i (s_.length : Int)) (off := (i + (v.length : Int)).toNat) (m := (((ins s_ i v).length : Int).toNat - (i + (v.length : Int)).toNat)) (ins s_ i v) .n rfl (.oss (.t rfl)) rfl (by rw [z1_len (by omega)]; omega) (.ows (.t rfl) rfl cut_map (by simp only [cut', List.length_map, List.length_take, List.length_drop] <;> (omega))) sl_34 rfl (cpy_z1 (by omega) (by omega) cut_drop (by omega) (by omega)) rfl <|
            Lex.nil) (by kernel_rfl) ?_
        refine run_seq ?_
        refine run_region (q_move .n (.t rfl) rfl <|
            q_assign .n (.t rfl) rfl <|
            Lex.nil) ?_
        exact run_ret [(100, 201)] (.cons (.t rfl rfl) .nil) (by first | rfl | (simp only [put_len]; rfl)) ⟨rfl, rfl, trivial⟩ rfl
      · skip
        refine run_skip ?_
        refine run_seq ?_
        refine run_region (q_move .n (.t rfl) rfl <|
            q_move .n (.t rfl) rfl <|
            q_move .n (.t rfl) rfl <|
            q_add .n (.t rfl) (.t rfl) (fun _ => by omega) rfl <|
            q_cutgrow (ins s_ i v) (t := 31) .n (.t rfl) (.s (.t rfl)) rfl sl_34 (fun _ => by omega) rfl <|
            q_assign .n (.t rfl) rfl <|
            Lex.nil) ?_
        refine run_seq ?_
        refine run_seq ?_
        refine run_region (q_move .n (.t rfl) rfl <|
            q_move .n (.t rfl) rfl <|
            q_move .n (.t rfl) rfl <|
            q_move .n (.t rfl) rfl <|
            q_add .n (.t rfl) (.t rfl) (fun _ => by omega) rfl <|
            q_cut_oss ((ins s_ i v).length : Int) .n (.t rfl) (.s (.t rfl)) .n sl_34 rfl (fun _ => by omega) rfl <|
            q_overlaps .n rfl ov_82 (.t rfl) (.t rfl) sl_34 rfl rfl rfl (fun _ => by rw [len_map]; omega) rfl rfl <|
            q_not .n (.t rfl) rfl <|
            Lex.nil) ?_
        refine run_if (.t rfl) (fun h5 => ?_) (fun h5 => ?_)
        · try simp only [Bool.and_eq_true, Bool.or_eq_true, Bool.not_eq_true', Bool.and_eq_false_iff, Bool.or_eq_false_iff, Bool.not_eq_false', decide_eq_true_eq, decide_eq_false_iff_not, beq_iff_eq, bne_iff_ne, beq_eq_false_iff_ne, bne_eq_false_iff_eq, Bool.true_and, ne_eq, Decidable.not_not, Int.not_lt, Int.not_le, Nat.not_lt, Nat.not_le, strB_nil, strB_nil', strB_nnil, strB_nnil'] at h5
          refine run_seq ?_
          refine run_draw fmo (q_move .n (.t rfl) rfl <|
              q_move .n (.t rfl) rfl <|
              q_move .n (.t rfl) rfl <|
              q_add .n (.t rfl) (.t rfl) (fun _ => by omega) rfl <|
              q_cut_oss ((ins s_ i v).length : Int) .n (.t rfl) (.s (.t rfl)) .n sl_34 rfl (fun _ => by omega) rfl <|
              q_move .n (.t rfl) rfl <|
              q_move .n (.t rfl) rfl <|
              q_cut_oss ((ins s_ i v).length : Int) .n (.t rfl) (.s (.t rfl)) .n sl_34 rfl (fun _ => by omega) rfl <|
              q_shiftm v.length .n rfl (.t rfl) (.t rfl) rfl (by omega) sl_34 rfl rfl <|
              Lex.nil) (by kernel_rfl) ?_
          refine run_seq ?_
          refine run_region (q_move .n (.t rfl) rfl <|
              q_move .n (.t rfl) rfl <|
              q_cut_oss ((ins s_ i v).length : Int) .n (.t rfl) (.s (.t rfl)) .n sl_34 rfl (fun _ => by omega) rfl <|
              q_move .n (.t rfl) rfl <|
              q_copye (ys := v) (off := i.toNat) (m := (((ins s_ i v).length : Int).toNat - i.toNat)) (ins s_ i v) .n rfl (.oss (.t rfl)) rfl (by rw [sft_len (by omega)]; omega) (.ow (.t rfl) rfl (take_all (by simp only [len_map, put_len] <;> rfl)) (by simp only [len_map, put_len] <;> rfl)) sl_34 rfl (cpy_sft (by omega) (by omega) (by omega)) rfl <|
              Lex.nil) ?_
          refine run_seq ?_
          refine run_region (q_move .n (.t rfl) rfl <|
              q_assign .n (.t rfl) rfl <|
              Lex.nil) ?_
          exact run_ret [(100, 0)] (.cons (.t rfl rfl) .nil) (by first | rfl | (simp only [put_len]; rfl)) ⟨rfl, rfl, trivial⟩ rfl
        · try simp only [Bool.and_eq_true, Bool.or_eq_true, Bool.not_eq_true', Bool.and_eq_false_iff, Bool.or_eq_false_iff, Bool.not_eq_false', decide_eq_true_eq, decide_eq_false_iff_not, beq_iff_eq, bne_iff_ne, beq_eq_false_iff_ne, bne_eq_false_iff_eq, Bool.true_and, ne_eq, Decidable.not_not, Int.not_lt, Int.not_le, Nat.not_lt, Nat.not_le, strB_nil, strB_nil', strB_nnil, strB_nnil'] at h5
          exfalso; ((simp at *; done))

/-! ### slices_Delete_impl_Setting -/
set_option maxRecDepth 100000 in
set_option maxHeartbeats 4000000 in
theorem c_slices_Delete_impl_Setting (s_ : List gSetting) (i : Int) (j : Int) (hp1 : 0 ≤ i ∧ i ≤ j ∧ j ≤ s_.length) : Con Tryd.prog 55 [.os 0 s_.length, .int .i64 i, .int .i64 j] [(0, some (.row 75 2 (s_.map gSetting.v)))] (.os 0 (m_slices_Delete_impl_Setting s_ i j).1.length) ([(0, some (.row 75 2 ((m_slices_Delete_impl_Setting s_ i j).1.map gSetting.v)))]) := by
  refine con_intro (out := fun r : (List gSetting) × (List gSetting) => ((.os 0 r.1.length : V), ([(0, some (.row 75 2 (r.1.map gSetting.v)))] : List (Nat × Option O)))) (r := (m_slices_Delete_impl_Setting s_ i j)) Tryd.func55 rfl Tryd.ntmps55 rfl ?_
  have hA : (cpy s_ (min i.toNat s_.length) (cut' s_ j (s_.length : Int))).length = s_.length := by have h := del_row hp1; rwa [pre_len2] at h
  refine run_factH (l := 0) rfl fun hl => ?_
  have l1 := hl; clear hl; simp only [List.length_map] at l1
  refine run_seq ?_
  refine run_region (q_assign .n (.c rfl) rfl <|
      Lex.nil) ?_
  refine run_seq ?_
  refine run_region (q_move .n (.t rfl) rfl <|
      q_move .n (.t rfl) rfl <|
      q_move .n (.t rfl) rfl <|
      q_move .n (.t rfl) rfl <|
      q_len .n (.t rfl) rfl rfl ss_34 rfl <|
      q_cut3 .n rfl (.t rfl) (.s (.t rfl)) (.s (.t rfl)) (.s (.t rfl)) sl_34 (by omega) rfl <|
      Lex.nil) ?_
  refine run_seq ?_
  refine run_seq ?_
  refine run_region (q_move .n (.t rfl) rfl <|
      q_move .n (.t rfl) rfl <|
      q_int .n (.t rfl) (.t rfl) rfl rfl <|
      Lex.nil) ?_
  refine run_cond (.t rfl) rfl (fun h2 => ?_) (fun h2 => ?_)
  · try simp only [Bool.and_eq_true, Bool.or_eq_true, Bool.not_eq_true', Bool.and_eq_false_iff, Bool.or_eq_false_iff, Bool.not_eq_false', decide_eq_true_eq, decide_eq_false_iff_not, beq_iff_eq, bne_iff_ne, beq_eq_false_iff_ne, bne_eq_false_iff_eq, Bool.true_and, ne_eq, Decidable.not_not, Int.not_lt, Int.not_le, Nat.not_lt, Nat.not_le, strB_nil, strB_nil', strB_nnil, strB_nnil'] at h2
    refine run_seq ?_
    refine run_region (q_move .n (.t rfl) rfl <|
        q_assign .n (.t rfl) rfl <|
        Lex.nil) ?_
    exact run_ret [] (.cons (.t rfl rfl) .nil) (by first | rfl | (simp only [put_len, pre_len2, cpy_tail3 hA]; rfl)) ⟨rfl, trivial⟩ rfl
  · try simp only [Bool.and_eq_true, Bool.or_eq_true, Bool.not_eq_true', Bool.and_eq_false_iff, Bool.or_eq_false_iff, Bool.not_eq_false', decide_eq_true_eq, decide_eq_false_iff_not, beq_iff_eq, bne_iff_ne, beq_eq_false_iff_ne, bne_eq_false_iff_eq, Bool.true_and, ne_eq, Decidable.not_not, Int.not_lt, Int.not_le, Nat.not_lt, Nat.not_le, strB_nil, strB_nil', strB_nnil, strB_nnil'] at h2
    refine run_skip ?_
    refine run_seq ?_
    refine run_region (q_move .n (.t rfl) rfl <|
        q_len .n (.t rfl) rfl rfl ss_34 rfl <|
        q_assign .n (.t rfl) rfl <|
        Lex.nil) ?_
    refine run_seq ?_
    refine run_draw fmo (q_move .n (.t rfl) rfl <|
        q_move .n (.t rfl) rfl <|
        q_cut_owm (xs := s_) (b := i) .n (.t rfl) (.s (.t rfl)) sl_34 (fun _ => by omega) rfl <|
        q_move .n (.t rfl) rfl <|
        q_move .n (.t rfl) rfl <|
        q_cut_oss (s_.length : Int) .n (.t rfl) (.s (.t rfl)) .n sl_34 rfl (fun _ => by omega) rfl <|
        q_appinm (zs := pre' s_ i) (ys := cut' s_ j (s_.length : Int)) .n rfl (.t rfl) rfl (.ows (.t rfl) rfl cut_map (by simp only [cut', List.length_map, List.length_take, List.length_drop] <;> (omega))) (by simp only [pre', cut', List.length_take, List.length_drop]; omega) sl_34 rfl rfl <|
        q_assign .n (.t rfl) rfl <|
        Lex.nil) (by kernel_rfl) ?_
    refine run_seq ?_
    refine run_region (q_move .n (.t rfl) rfl <|
        q_move .n (.t rfl) rfl <|
        q_len .n (.t rfl) rfl rfl ss_34 rfl <|
        q_move .n (.t rfl) rfl <|
        q_cut_osx (ma := ((pre' (cpy s_ (pre' s_ i).length (cut' s_ j (s_.length : Int))) (((pre' s_ i).length : Int) + ((cut' s_ j (s_.length : Int)).length : Int))).length : Int)) (mb := (s_.length : Int)) .n rfl (.t rfl) rfl (.s (.t rfl)) (.s (.t rfl)) sl_34 (by rw [List.length_map]; ((simp only [pre', cut', cpy, List.length_append, List.length_take, List.length_drop, List.length_replicate] at * <;> omega))) rfl <|
        q_clearm (f := gSetting.v) (off := ((pre' (cpy s_ (pre' s_ i).length (cut' s_ j (s_.length : Int))) (((pre' s_ i).length : Int) + ((cut' s_ j (s_.length : Int)).length : Int))).length : Int).toNat) (m := ((s_.length : Int).toNat - ((pre' (cpy s_ (pre' s_ i).length (cut' s_ j (s_.length : Int))) (((pre' s_ i).length : Int) + ((cut' s_ j (s_.length : Int)).length : Int))).length : Int).toNat)) (gSetting.mk ([] : List UInt8) 0 : gSetting) .n rfl (.t rfl) rfl (by ((simp only [pre', cut', cpy, List.length_append, List.length_take, List.length_drop, List.length_replicate] at * <;> omega))) sl_34 zv_75 rfl <|
        Lex.nil) ?_
    refine run_seq ?_
    refine run_region (q_move .n (.t rfl) rfl <|
        q_assign .n (.t rfl) rfl <|
        Lex.nil) ?_
    refine run_shrink (f := gSetting.v) (xs := cpy (cpy s_ (pre' s_ i).length (cut' s_ j (s_.length : Int))) (((pre' (cpy s_ (pre' s_ i).length (cut' s_ j (s_.length : Int))) (((pre' s_ i).length : Int) + ((cut' s_ j (s_.length : Int)).length : Int))).length : Int).toNat) (List.replicate ((s_.length : Int).toNat - ((pre' (cpy s_ (pre' s_ i).length (cut' s_ j (s_.length : Int))) (((pre' s_ i).length : Int) + ((cut' s_ j (s_.length : Int)).length : Int))).length : Int).toNat) (gSetting.mk ([] : List UInt8) 0 : gSetting))) (l := 0) (((pre' s_ i).length : Int) + ((cut' s_ j (s_.length : Int)).length : Int)) rfl ?_
    exact run_ret [] (.cons (.t rfl rfl) .nil) (by first | rfl | (simp only [put_len, pre_len2, cpy_tail3 hA]; rfl)) ⟨rfl, trivial⟩ rfl

/-! ### impl_ApplyChanges -/
theorem c_impl_ApplyChanges (list : List gSetting) (changes : List gChange) : Con Tryd.prog 17 [.sl 2 (list.map gSetting.v), .sl 3 (changes.map gChange.v)] [] (.tup [.os 100 (m_impl_ApplyChanges list changes).1.length, .int .i64 (m_impl_ApplyChanges list changes).2]) ([(100, some (.row 75 2 ((m_impl_ApplyChanges list changes).1.map gSetting.v)))]) := by
  refine con_intro (out := fun r : (List gSetting) × Int => ((.tup [.os 100 r.1.length, .int .i64 r.2] : V), ([(100, some (.row 75 2 (r.1.map gSetting.v)))] : List (Nat × Option O)))) (r := (m_impl_ApplyChanges list changes)) Tryd.func17 rfl Tryd.ntmps17 rfl ?_
  refine run_fact (t := 0) rfl fun hl => ?_
  have l1 := hl; clear hl; simp only [List.length_map] at l1
  refine run_fact (t := 1) rfl fun hl => ?_
  have l2 := hl; clear hl; simp only [List.length_map] at l2
  refine run_seq ?_
  refine run_region (q_assign .n (.c rfl) rfl <|
      q_assign .n (.c rfl) rfl <|
      Lex.nil) ?_
  refine run_seq ?_
  refine run_region (q_assign .n .f rfl <|
      Lex.nil) ?_
  refine run_seq ?_
  refine run_seq ?_
  refine run_region (q_move .n (.t rfl) rfl <|
      q_call0 (full := false) .n .f en_46 (.cons (.t rfl) .nil) (.cons (.b (.a (.same rfl))) .nil) (fun hg => c_impl_ValidState list) rfl (fun h => Bool.noConfusion h) rfl <|
      q_not .n (.t rfl) rfl <|
      q_move .n (.t rfl) rfl <|
      q_move (.f rfl rfl) (.t rfl) rfl <|
      q_move (.f rfl rfl) (.t rfl) rfl <|
      q_call0 (full := false) (.f rfl rfl) .f en_50 (.cons (.u rfl id) (.cons (.u rfl id) .nil)) (.cons (.b (.a (.same rfl))) (.cons (.clo .nil) .nil)) (fun hg => c_slices_ContainsFunc_impl_Change changes (fun (a0 : gChange) => m_impl_ApplyChanges_1 a0) 48 [] en_48 rfl (fun a0 => c_impl_ApplyChanges_1 a0)) rfl (fun h => Bool.noConfusion h) rfl <|
      q_or .n (.t rfl) (.u rfl id) rfl <|
      Lex.nil) ?_
  refine run_cond (.t rfl) rfl (fun h3 => ?_) (fun h3 => ?_)
  · try simp only [Bool.and_eq_true, Bool.or_eq_true, Bool.not_eq_true', Bool.and_eq_false_iff, Bool.or_eq_false_iff, Bool.not_eq_false', decide_eq_true_eq, decide_eq_false_iff_not, beq_iff_eq, bne_iff_ne, beq_eq_false_iff_ne, bne_eq_false_iff_eq, Bool.true_and, ne_eq, Decidable.not_not, Int.not_lt, Int.not_le, Nat.not_lt, Nat.not_le, strB_nil, strB_nil', strB_nnil, strB_nnil'] at h3
    try with_reducible have hf0h3 := state_l24I h3
    try with_reducible have hf1h3 := state_l24I h3.1
    try with_reducible have hf2h3 := state_l24I h3.2
    try with_reducible have hf3h3 := state_l24I h3.1.1
    try with_reducible have hf4h3 := state_l24I h3.1.2
    try with_reducible have hf5h3 := state_l24I h3.2.1
    try with_reducible have hf6h3 := state_l24I h3.2.2
    try with_reducible have hf7h3 := state_inI h3
    try with_reducible have hf8h3 := state_inI h3.1
    try with_reducible have hf9h3 := state_inI h3.2
    try with_reducible have hf10h3 := state_inI h3.1.1
    try with_reducible have hf11h3 := state_inI h3.1.2
    try with_reducible have hf12h3 := state_inI h3.2.1
    try with_reducible have hf13h3 := state_inI h3.2.2
    refine run_seq ?_
    refine run_region (q_assign .n (.c rfl) rfl <|
        q_assign .n (.c rfl) rfl <|
        Lex.nil) ?_
    refine run_sub (sub_adopt (t := 4) (l := 200) (el := 75) (sz := 2) rfl rfl) ?_
    exact run_ret [(100, 200)] (.cons (.t rfl rfl) (.cons (.t rfl rfl) .nil)) (by first | rfl | (simp only [put_len]; rfl)) ⟨rfl, trivial⟩ rfl
  · try simp only [Bool.and_eq_true, Bool.or_eq_true, Bool.not_eq_true', Bool.and_eq_false_iff, Bool.or_eq_false_iff, Bool.not_eq_false', decide_eq_true_eq, decide_eq_false_iff_not, beq_iff_eq, bne_iff_ne, beq_eq_false_iff_ne, bne_eq_false_iff_eq, Bool.true_and, ne_eq, Decidable.not_not, Int.not_lt, Int.not_le, Nat.not_lt, Nat.not_le, strB_nil, strB_nil', strB_nnil, strB_nnil'] at h3
    try with_reducible have hf0h3 := state_l24I h3
    try with_reducible have hf1h3 := state_l24I h3.1
    try with_reducible have hf2h3 := state_l24I h3.2
    try with_reducible have hf3h3 := state_l24I h3.1.1
    try with_reducible have hf4h3 := state_l24I h3.1.2
    try with_reducible have hf5h3 := state_l24I h3.2.1
    try with_reducible have hf6h3 := state_l24I h3.2.2
    try with_reducible have hf7h3 := state_inI h3
    try with_reducible have hf8h3 := state_inI h3.1
    try with_reducible have hf9h3 := state_inI h3.2
    try with_reducible have hf10h3 := state_inI h3.1.1
    try with_reducible have hf11h3 := state_inI h3.1.2
    try with_reducible have hf12h3 := state_inI h3.2.1
    try with_reducible have hf13h3 := state_inI h3.2.2
    refine run_skip ?_
    refine run_seq ?_
    refine run_region (q_move .n (.t rfl) rfl <|
        q_callM (full := false) [] [(100, 201)] .n rfl .f en_51 (.cons (.t rfl) .nil) (.cons (.b (.a (.same rfl))) .nil) (c_slices_Clone_impl_Setting list (by omega)) trivial rfl rfl (fun h => Bool.noConfusion h) (fun h => Bool.noConfusion h) rfl <|
        q_assign .n (.t rfl) rfl <|
        Lex.nil) ?_
    refine run_seq ?_
    refine run_seq ?_
    refine run_region (q_move .n (.t rfl) rfl <|
        q_len .n (.t rfl) rfl len_map ss_37 rfl <|
        q_move .n (.c rfl) rfl <|
        Lex.nil) ?_
    refine run_block ?_
    refine run_LOOP (m_impl_ApplyChanges_b1 list changes) _ _ _ rfl (fun (x1 : (List gSetting) × Int) => 0 ≤ x1.2 ∧ x1.2 ≤ (changes.length : Int) ∧ x1.1.length ≤ 24) (fun x1 => 0 ≤ x1.2 ∧ x1.2 ≤ (changes.length : Int) ∧ x1.1.length ≤ 24 ∧ (changes.length : Int) ≤ x1.2) (fun x1 => ((changes.length : Int) - x1.2 : Int).toNat) (fun x1 => ⟨[(7, some (true, .os 201 x1.1.length)), (22, some (true, .sl 3 (changes.map gChange.v))), (23, some (true, .int .i64 (changes.length : Int))), (24, some (true, .int .i64 x1.2))], [(201, some (.row 75 2 (x1.1.map gSetting.v)))]⟩) (fun x1 => ⟨[(7, some (true, .os 201 x1.1.length))], [(201, some (.row 75 2 (x1.1.map gSetting.v)))]⟩) ⟨by omega, by omega, by assumption⟩ (by omega) (sub_of [] ⟨rfl, rfl, rfl, rfl, trivial⟩ ⟨rfl, trivial⟩ rfl) ?_ ?_
    · intro x1 i12
      obtain ⟨e13, e14, e15, e16⟩ := i12
      try dsimp only at *
      refine run_seq ?_
      refine run_region (q_move .n (.t rfl) rfl <|
          q_assign .n (.t rfl) rfl <|
          q_assign .n (.c rfl) rfl <|
          Lex.nil) ?_
      exact run_ret [(100, 201)] (.cons (.t rfl rfl) (.cons (.t rfl rfl) .nil)) (by first | rfl | (simp only [put_len]; rfl)) ⟨rfl, trivial⟩ rfl
    · intro rec1 k1 hk4 x1 i5
      obtain ⟨e17, e18, e19⟩ := i5
      try dsimp only at *
      refine run_seq ?_
      refine run_region (q_int .n (.t rfl) (.t rfl) rfl rfl <|
          Lex.nil) ?_
      refine run_seq ?_
      refine run_cond (.t rfl) rfl (fun h6 => ?_) (fun h6 => ?_)
      · try simp only [Bool.and_eq_true, Bool.or_eq_true, Bool.not_eq_true', Bool.and_eq_false_iff, Bool.or_eq_false_iff, Bool.not_eq_false', decide_eq_true_eq, decide_eq_false_iff_not, beq_iff_eq, bne_iff_ne, beq_eq_false_iff_ne, bne_eq_false_iff_eq, Bool.true_and, ne_eq, Decidable.not_not, Int.not_lt, Int.not_le, Nat.not_lt, Nat.not_le, strB_nil, strB_nil', strB_nnil, strB_nnil'] at h6
        refine run_skip ?_
        refine run_seq ?_
        refine run_block ?_
        refine run_seq ?_
        refine run_region (q_idx_rm .n (.t rfl) (.t rfl) sl_37 (fun _ => by omega) rfl <|
            q_ldN_ro .n (.t rfl) ag_79 rfl rfl rfl <|
            q_alloc (l := 202) .n rfl zv_79 rfl rfl <|
            q_st_boxm [.int .i64 (at' changes x1.2).Kind, .str (at' changes x1.2).Setting.Name, .int .i64 (at' changes x1.2).Setting.Value] .n rfl (.t rfl) (.t rfl) rfl ts_79 rfl rfl <|
            Lex.nil) ?_
        refine run_seq ?_
        refine run_region (q_move .n (.t rfl) rfl <|
            q_fld_ow .n (.t rfl) fo_79_1 rfl <|
            q_ldN_ow .n (.t rfl) rfl (.inr rfl) ag_75 (fun _ => rfl) rfl rfl <|
            q_call0 (full := true) .n .f en_52 (.cons (.t rfl) (.cons (.t rfl) (.cons .f .nil))) (.cons (.b (.a (.own rfl rfl rfl (take_all (by simp only [len_map, put_len] <;> rfl)) (by simp only [len_map, put_len] <;> rfl)))) (.cons (.sts rfl) (.cons (.clo .nil) .nil))) (fun hg => c_slices_BinarySearchFunc_impl_Setting x1.1 (at' changes x1.2).Setting (fun (a0 : gSetting) (a1 : gSetting) => m_impl_compareSettings a0 a1) 53 [] en_53 rfl (fun a0 a1 => c_impl_compareSettings a0 a1) (by omega)) rfl (fun _ => rfl) rfl <|
            q_move .n (.t rfl) rfl <|
            q_ext .n (.t rfl) rfl rfl rfl <|
            q_ext .n (.t rfl) rfl rfl rfl <|
            q_assign .n (.t rfl) rfl <|
            q_assign .n (.t rfl) rfl <|
            Lex.nil) ?_
        refine run_block ?_
        refine run_seq ?_
        refine run_region (q_fld_ow .n (.t rfl) fo_79_0 rfl <|
            q_ld1_ow .n (.t rfl) rfl (.inr rfl) (fun _ => rfl) rfl ic_2 rfl <|
            q_int .n (.t rfl) (.c rfl) rfl rfl <|
            q_move .n (.t rfl) rfl <|
            q_move (.t rfl rfl) (.t rfl) rfl <|
            q_and .n (.t rfl) (.u rfl id) rfl <|
            q_assign .n (.t rfl) rfl <|
            Lex.nil) ?_
        refine run_cond (.t rfl) rfl (fun h7 => ?_) (fun h7 => ?_)
        · try simp only [Bool.and_eq_true, Bool.or_eq_true, Bool.not_eq_true', Bool.and_eq_false_iff, Bool.or_eq_false_iff, Bool.not_eq_false', decide_eq_true_eq, decide_eq_false_iff_not, beq_iff_eq, bne_iff_ne, beq_eq_false_iff_ne, bne_eq_false_iff_eq, Bool.true_and, ne_eq, Decidable.not_not, Int.not_lt, Int.not_le, Nat.not_lt, Nat.not_le, strB_nil, strB_nil', strB_nnil, strB_nnil'] at h7
          refine run_region (q_move .n (.t rfl) rfl <|
              q_move .n (.t rfl) rfl <|
              q_fld_ow .n (.t rfl) fo_79_1 rfl <|
              q_ldN_ow .n (.t rfl) rfl (.inr rfl) ag_75 (fun _ => rfl) rfl rfl <|
              q_idx_ow .n (.t rfl) (.t rfl) sl_34 (fun _ => by ((have hq := bs_rng (x := x1.1) (by omega) (t := (at' changes x1.2).Setting) (cmp := fun (a0 : gSetting) (a1 : gSetting) => m_impl_compareSettings a0 a1); obtain ⟨q1, q2, q3⟩ := hq; first | omega | (rw [insertS_is ⟨q1, q2⟩, ins_len]; simp only [List.length_cons, List.length_nil]; omega) | (have q4 := q3 (by first | assumption | exact And.right (by assumption)); have hw := wr64 (n := (m_slices_BinarySearchFunc_impl_Setting x1.1 (at' changes x1.2).Setting (fun (a0 : gSetting) (a1 : gSetting) => m_impl_compareSettings a0 a1)).1 + 1) (by omega); first | omega | (rw [hw]; omega) | (rw [hw, deleteS_is (by omega)]; simp only [List.length_append, List.length_take, List.length_drop]; omega) | (rw [put_len]; omega))))) rfl <|
              q_st_rowm (at' changes x1.2).Setting .n rfl (.t rfl) (.t rfl) rfl ts_75 (by ((have hq := bs_rng (x := x1.1) (by omega) (t := (at' changes x1.2).Setting) (cmp := fun (a0 : gSetting) (a1 : gSetting) => m_impl_compareSettings a0 a1); obtain ⟨q1, q2, q3⟩ := hq; first | omega | (rw [insertS_is ⟨q1, q2⟩, ins_len]; simp only [List.length_cons, List.length_nil]; omega) | (have q4 := q3 (by first | assumption | exact And.right (by assumption)); have hw := wr64 (n := (m_slices_BinarySearchFunc_impl_Setting x1.1 (at' changes x1.2).Setting (fun (a0 : gSetting) (a1 : gSetting) => m_impl_compareSettings a0 a1)).1 + 1) (by omega); first | omega | (rw [hw]; omega) | (rw [hw, deleteS_is (by omega)]; simp only [List.length_append, List.length_take, List.length_drop]; omega) | (rw [put_len]; omega))))) rfl rfl <|
              Lex.nil) ?_
          refine run_endB ?_
          refine run_endB ?_
          refine run_region (q_add .n (.t rfl) (.c rfl) (fun _ => by omega) rfl <|
              q_move .n (.t rfl) rfl <|
              Lex.nil) ?_
          exact run_again (put' x1.1 (m_slices_BinarySearchFunc_impl_Setting x1.1 (at' changes x1.2).Setting (fun (a0 : gSetting) (a1 : gSetting) => m_impl_compareSettings a0 a1)).1 (at' changes x1.2).Setting, x1.2 + 1) ⟨by omega, by omega, by (simp only [List.length_append, List.length_cons, List.length_nil, List.length_replicate, put_len] at * <;> omega)⟩ (by omega) (sub_of [] ⟨os_len rfl (by first | (simp only [put_len]; done) | (first | omega | assumption | (simp only [List.length_append, List.length_cons, List.length_nil, List.length_replicate, put_len] at * <;> omega) | (((have hs := StIn_len (list := list) (by assumption); first | omega | (simp only [m_slices_Clone_impl_Setting, List.nil_append]; omega))); done) | (((have hq := bs_rng (x := x1.1) (by omega) (t := (at' changes x1.2).Setting) (cmp := fun (a0 : gSetting) (a1 : gSetting) => m_impl_compareSettings a0 a1); obtain ⟨q1, q2, q3⟩ := hq; first | omega | (rw [insertS_is ⟨q1, q2⟩, ins_len]; simp only [List.length_cons, List.length_nil]; omega) | (have q4 := q3 (by first | assumption | exact And.right (by assumption)); have hw := wr64 (n := (m_slices_BinarySearchFunc_impl_Setting x1.1 (at' changes x1.2).Setting (fun (a0 : gSetting) (a1 : gSetting) => m_impl_compareSettings a0 a1)).1 + 1) (by omega); first | omega | (rw [hw]; omega) | (rw [hw, deleteS_is (by omega)]; simp only [List.length_append, List.length_take, List.length_drop]; omega) | (rw [put_len]; omega)))); done))), rfl, rfl, rfl, trivial⟩ ⟨rfl, trivial⟩ rfl)
        · try simp only [Bool.and_eq_true, Bool.or_eq_true, Bool.not_eq_true', Bool.and_eq_false_iff, Bool.or_eq_false_iff, Bool.not_eq_false', decide_eq_true_eq, decide_eq_false_iff_not, beq_iff_eq, bne_iff_ne, beq_eq_false_iff_ne, bne_eq_false_iff_eq, Bool.true_and, ne_eq, Decidable.not_not, Int.not_lt, Int.not_le, Nat.not_lt, Nat.not_le, strB_nil, strB_nil', strB_nnil, strB_nnil'] at h7
          refine run_seq ?_
          refine run_region (q_fld_ow .n (.t rfl) fo_79_0 rfl <|
              q_ld1_ow .n (.t rfl) rfl (.inr rfl) (fun _ => rfl) rfl ic_2 rfl <|
              q_int .n (.t rfl) (.c rfl) rfl rfl <|
              q_move .n (.t rfl) rfl <|
              q_move (.t rfl rfl) (.t rfl) rfl <|
              q_len (.t rfl rfl) (.u rfl id) rfl rfl ss_34 rfl <|
              q_int (.t rfl rfl) (.u rfl id) (.c rfl) rfl rfl <|
              q_and .n (.t rfl) (.u rfl id) rfl <|
              q_assign .n (.t rfl) rfl <|
              Lex.nil) ?_
          refine run_cond (.t rfl) rfl (fun h8 => ?_) (fun h8 => ?_)
          · try simp only [Bool.and_eq_true, Bool.or_eq_true, Bool.not_eq_true', Bool.and_eq_false_iff, Bool.or_eq_false_iff, Bool.not_eq_false', decide_eq_true_eq, decide_eq_false_iff_not, beq_iff_eq, bne_iff_ne, beq_eq_false_iff_ne, bne_eq_false_iff_eq, Bool.true_and, ne_eq, Decidable.not_not, Int.not_lt, Int.not_le, Nat.not_lt, Nat.not_le, strB_nil, strB_nil', strB_nnil, strB_nnil'] at h8
            refine run_seq ?_
            refine run_region (q_assign .n (.c rfl) rfl <|
                q_assign .n (.c rfl) rfl <|
                Lex.nil) ?_
            refine run_sub (sub_adopt (t := 4) (l := 203) (el := 75) (sz := 2) rfl rfl) ?_
            exact run_ret [(100, 203)] (.cons (.t rfl rfl) (.cons (.t rfl rfl) .nil)) (by first | rfl | (simp only [put_len]; rfl)) ⟨rfl, trivial⟩ rfl
          · try simp only [Bool.and_eq_true, Bool.or_eq_true, Bool.not_eq_true', Bool.and_eq_false_iff, Bool.or_eq_false_iff, Bool.not_eq_false', decide_eq_true_eq, decide_eq_false_iff_not, beq_iff_eq, bne_iff_ne, beq_eq_false_iff_ne, bne_eq_false_iff_eq, Bool.true_and, ne_eq, Decidable.not_not, Int.not_lt, Int.not_le, Nat.not_lt, Nat.not_le, strB_nil, strB_nil', strB_nnil, strB_nnil'] at h8
            refine run_seq ?_
            refine run_region (q_fld_ow .n (.t rfl) fo_79_0 rfl <|
                q_ld1_ow .n (.t rfl) rfl (.inr rfl) (fun _ => rfl) rfl ic_2 rfl <|
                q_int .n (.t rfl) (.c rfl) rfl rfl <|
                q_assign .n (.t rfl) rfl <|
                Lex.nil) ?_
            refine run_cond (.t rfl) rfl (fun h9 => ?_) (fun h9 => ?_)
            · try simp only [Bool.and_eq_true, Bool.or_eq_true, Bool.not_eq_true', Bool.and_eq_false_iff, Bool.or_eq_false_iff, Bool.not_eq_false', decide_eq_true_eq, decide_eq_false_iff_not, beq_iff_eq, bne_iff_ne, beq_eq_false_iff_ne, bne_eq_false_iff_eq, Bool.true_and, ne_eq, Decidable.not_not, Int.not_lt, Int.not_le, Nat.not_lt, Nat.not_le, strB_nil, strB_nil', strB_nnil, strB_nnil'] at h9
              refine run_region (q_move .n (.t rfl) rfl <|
                  q_move .n (.t rfl) rfl <|
                  q_fld_ow .n (.t rfl) fo_79_1 rfl <|
                  q_ldN_ow .n (.t rfl) rfl (.inr rfl) ag_75 (fun _ => rfl) rfl rfl <|
                  q_bslicem ([(at' changes x1.2).Setting] : List gSetting) (f := gSetting.v) (l := 204) .n rfl rfl (.cons (.t rfl) .nil) rfl si_34 zv_75 rfl rfl rfl <|
                  q_callM (full := false) [(0, 201), (2, 204)] [(100, 205)] .n rfl .f en_54 (.cons (.t rfl) (.cons (.t rfl) (.cons (.t rfl) .nil))) (.cons (.b (.muts rfl)) (.cons (.b (.a (.same rfl))) (.cons (.b (.muts rfl)) .nil))) (c_slices_Insert_impl_Setting x1.1 (m_slices_BinarySearchFunc_impl_Setting x1.1 (at' changes x1.2).Setting (fun (a0 : gSetting) (a1 : gSetting) => m_impl_compareSettings a0 a1)).1 ([(at' changes x1.2).Setting] : List gSetting) (by ((have hq := bs_rng (x := x1.1) (by omega) (t := (at' changes x1.2).Setting) (cmp := fun (a0 : gSetting) (a1 : gSetting) => m_impl_compareSettings a0 a1); obtain ⟨q1, q2, q3⟩ := hq; first | omega | (rw [insertS_is ⟨q1, q2⟩, ins_len]; simp only [List.length_cons, List.length_nil]; omega) | (have q4 := q3 (by first | assumption | exact And.right (by assumption)); have hw := wr64 (n := (m_slices_BinarySearchFunc_impl_Setting x1.1 (at' changes x1.2).Setting (fun (a0 : gSetting) (a1 : gSetting) => m_impl_compareSettings a0 a1)).1 + 1) (by omega); first | omega | (rw [hw]; omega) | (rw [hw, deleteS_is (by omega)]; simp only [List.length_append, List.length_take, List.length_drop]; omega) | (rw [put_len]; omega))))) (by (simp only [List.length_append, List.length_cons, List.length_nil, List.length_replicate, put_len] at * <;> omega)) (by omega)) ⟨rfl, rfl, trivial⟩ rfl rfl (fun h => Bool.noConfusion h) (fun h => Bool.noConfusion h) rfl <|
                  q_assign .n (.t rfl) rfl <|
                  Lex.nil) ?_
              refine run_endB ?_
              refine run_endB ?_
              refine run_region (q_add .n (.t rfl) (.c rfl) (fun _ => by omega) rfl <|
                  q_move .n (.t rfl) rfl <|
                  Lex.nil) ?_
              exact run_again ((m_slices_Insert_impl_Setting x1.1 (m_slices_BinarySearchFunc_impl_Setting x1.1 (at' changes x1.2).Setting (fun (a0 : gSetting) (a1 : gSetting) => m_impl_compareSettings a0 a1)).1 ([(at' changes x1.2).Setting] : List gSetting)).1, x1.2 + 1) ⟨by omega, by omega, by ((have hq := bs_rng (x := x1.1) (by omega) (t := (at' changes x1.2).Setting) (cmp := fun (a0 : gSetting) (a1 : gSetting) => m_impl_compareSettings a0 a1); obtain ⟨q1, q2, q3⟩ := hq; first | omega | (rw [insertS_is ⟨q1, q2⟩, ins_len]; simp only [List.length_cons, List.length_nil]; omega) | (have q4 := q3 (by first | assumption | exact And.right (by assumption)); have hw := wr64 (n := (m_slices_BinarySearchFunc_impl_Setting x1.1 (at' changes x1.2).Setting (fun (a0 : gSetting) (a1 : gSetting) => m_impl_compareSettings a0 a1)).1 + 1) (by omega); first | omega | (rw [hw]; omega) | (rw [hw, deleteS_is (by omega)]; simp only [List.length_append, List.length_take, List.length_drop]; omega) | (rw [put_len]; omega))))⟩ (by omega) (sub_of [(201, 205)] ⟨rfl, rfl, rfl, rfl, trivial⟩ ⟨rfl, trivial⟩ rfl)
            · try simp only [Bool.and_eq_true, Bool.or_eq_true, Bool.not_eq_true', Bool.and_eq_false_iff, Bool.or_eq_false_iff, Bool.not_eq_false', decide_eq_true_eq, decide_eq_false_iff_not, beq_iff_eq, bne_iff_ne, beq_eq_false_iff_ne, bne_eq_false_iff_eq, Bool.true_and, ne_eq, Decidable.not_not, Int.not_lt, Int.not_le, Nat.not_lt, Nat.not_le, strB_nil, strB_nil', strB_nnil, strB_nnil'] at h9
              refine run_seq ?_
              refine run_region (q_move .n (.t rfl) rfl <|
                  q_not .n (.t rfl) rfl <|
                  q_assign .n (.t rfl) rfl <|
                  Lex.nil) ?_
              refine run_cond (.t rfl) rfl (fun h10 => ?_) (fun h10 => ?_)
              · try simp only [Bool.and_eq_true, Bool.or_eq_true, Bool.not_eq_true', Bool.and_eq_false_iff, Bool.or_eq_false_iff, Bool.not_eq_false', decide_eq_true_eq, decide_eq_false_iff_not, beq_iff_eq, bne_iff_ne, beq_eq_false_iff_ne, bne_eq_false_iff_eq, Bool.true_and, ne_eq, Decidable.not_not, Int.not_lt, Int.not_le, Nat.not_lt, Nat.not_le, strB_nil, strB_nil', strB_nnil, strB_nnil'] at h10
                refine run_seq ?_
                refine run_region (q_assign .n (.c rfl) rfl <|
                    q_assign .n (.c rfl) rfl <|
                    Lex.nil) ?_
                refine run_sub (sub_adopt (t := 4) (l := 206) (el := 75) (sz := 2) rfl rfl) ?_
                exact run_ret [(100, 206)] (.cons (.t rfl rfl) (.cons (.t rfl rfl) .nil)) (by first | rfl | (simp only [put_len]; rfl)) ⟨rfl, trivial⟩ rfl
              · try simp only [Bool.and_eq_true, Bool.or_eq_true, Bool.not_eq_true', Bool.and_eq_false_iff, Bool.or_eq_false_iff, Bool.not_eq_false', decide_eq_true_eq, decide_eq_false_iff_not, beq_iff_eq, bne_iff_ne, beq_eq_false_iff_ne, bne_eq_false_iff_eq, Bool.true_and, ne_eq, Decidable.not_not, Int.not_lt, Int.not_le, Nat.not_lt, Nat.not_le, strB_nil, strB_nil', strB_nnil, strB_nnil'] at h10
                refine run_seq ?_
                refine run_draw fmo (q_move .n (.t rfl) rfl <|
                    q_move .n (.t rfl) rfl <|
                    q_idx_ow .n (.t rfl) (.t rfl) sl_34 (fun _ => by ((have hq := bs_rng (x := x1.1) (by omega) (t := (at' changes x1.2).Setting) (cmp := fun (a0 : gSetting) (a1 : gSetting) => m_impl_compareSettings a0 a1); obtain ⟨q1, q2, q3⟩ := hq; first | omega | (rw [insertS_is ⟨q1, q2⟩, ins_len]; simp only [List.length_cons, List.length_nil]; omega) | (have q4 := q3 (by first | assumption | exact And.right (by assumption)); have hw := wr64 (n := (m_slices_BinarySearchFunc_impl_Setting x1.1 (at' changes x1.2).Setting (fun (a0 : gSetting) (a1 : gSetting) => m_impl_compareSettings a0 a1)).1 + 1) (by omega); first | omega | (rw [hw]; omega) | (rw [hw, deleteS_is (by omega)]; simp only [List.length_append, List.length_take, List.length_drop]; omega) | (rw [put_len]; omega))))) rfl <|
                    q_ldN_row .n (.t rfl) rfl (fun _ => by ((have hq := bs_rng (x := x1.1) (by omega) (t := (at' changes x1.2).Setting) (cmp := fun (a0 : gSetting) (a1 : gSetting) => m_impl_compareSettings a0 a1); obtain ⟨q1, q2, q3⟩ := hq; first | omega | (rw [insertS_is ⟨q1, q2⟩, ins_len]; simp only [List.length_cons, List.length_nil]; omega) | (have q4 := q3 (by first | assumption | exact And.right (by assumption)); have hw := wr64 (n := (m_slices_BinarySearchFunc_impl_Setting x1.1 (at' changes x1.2).Setting (fun (a0 : gSetting) (a1 : gSetting) => m_impl_compareSettings a0 a1)).1 + 1) (by omega); first | omega | (rw [hw]; omega) | (rw [hw, deleteS_is (by omega)]; simp only [List.length_append, List.length_take, List.length_drop]; omega) | (rw [put_len]; omega))))) rfl ag_75 rfl rfl rfl <|
                    q_fld_ow .n (.t rfl) fo_79_1 rfl <|
                    q_ldN_ow .n (.t rfl) rfl (.inr rfl) ag_75 (fun _ => rfl) rfl rfl <|
                    q_stne (!((strB .eql (at' x1.1 (m_slices_BinarySearchFunc_impl_Setting x1.1 (at' changes x1.2).Setting (fun (a0 : gSetting) (a1 : gSetting) => m_impl_compareSettings a0 a1)).1).Name (at' changes x1.2).Setting.Name) && (((at' x1.1 (m_slices_BinarySearchFunc_impl_Setting x1.1 (at' changes x1.2).Setting (fun (a0 : gSetting) (a1 : gSetting) => m_impl_compareSettings a0 a1)).1).Value == (at' changes x1.2).Setting.Value) && true))) .n (.t rfl) (.t rfl) (by kernel_rfl) rfl rfl <|
                    q_assign .n (.t rfl) rfl <|
                    Lex.nil) (by kernel_rfl) ?_
                refine run_cond (.t rfl) rfl (fun h11 => ?_) (fun h11 => ?_)
                · try simp only [Bool.and_eq_true, Bool.or_eq_true, Bool.not_eq_true', Bool.and_eq_false_iff, Bool.or_eq_false_iff, Bool.not_eq_false', decide_eq_true_eq, decide_eq_false_iff_not, beq_iff_eq, bne_iff_ne, beq_eq_false_iff_ne, bne_eq_false_iff_eq, Bool.true_and, ne_eq, Decidable.not_not, Int.not_lt, Int.not_le, Nat.not_lt, Nat.not_le, strB_nil, strB_nil', strB_nnil, strB_nnil'] at h11
                  refine run_seq ?_
                  refine run_region (q_assign .n (.c rfl) rfl <|
                      q_assign .n (.c rfl) rfl <|
                      Lex.nil) ?_
                  refine run_sub (sub_adopt (t := 4) (l := 207) (el := 75) (sz := 2) rfl rfl) ?_
                  exact run_ret [(100, 207)] (.cons (.t rfl rfl) (.cons (.t rfl rfl) .nil)) (by first | rfl | (simp only [put_len]; rfl)) ⟨rfl, trivial⟩ rfl
                · try simp only [Bool.and_eq_true, Bool.or_eq_true, Bool.not_eq_true', Bool.and_eq_false_iff, Bool.or_eq_false_iff, Bool.not_eq_false', decide_eq_true_eq, decide_eq_false_iff_not, beq_iff_eq, bne_iff_ne, beq_eq_false_iff_ne, bne_eq_false_iff_eq, Bool.true_and, ne_eq, Decidable.not_not, Int.not_lt, Int.not_le, Nat.not_lt, Nat.not_le, strB_nil, strB_nil', strB_nnil, strB_nnil'] at h11
                  refine run_region (q_move .n (.t rfl) rfl <|
                      q_move .n (.t rfl) rfl <|
                      q_move .n (.t rfl) rfl <|
                      q_int .n (.t rfl) (.c rfl) rfl rfl <|
                      q_callM (full := false) [(0, 201)] [] .n rfl .f en_55 (.cons (.t rfl) (.cons (.t rfl) (.cons (.t rfl) .nil))) (.cons (.b (.muts rfl)) (.cons (.b (.a (.same rfl))) (.cons (.b (.a (.same rfl))) .nil))) (c_slices_Delete_impl_Setting x1.1 (m_slices_BinarySearchFunc_impl_Setting x1.1 (at' changes x1.2).Setting (fun (a0 : gSetting) (a1 : gSetting) => m_impl_compareSettings a0 a1)).1 (IntKind.wrap .i64 ((m_slices_BinarySearchFunc_impl_Setting x1.1 (at' changes x1.2).Setting (fun (a0 : gSetting) (a1 : gSetting) => m_impl_compareSettings a0 a1)).1 + 1)) (by ((have hq := bs_rng (x := x1.1) (by omega) (t := (at' changes x1.2).Setting) (cmp := fun (a0 : gSetting) (a1 : gSetting) => m_impl_compareSettings a0 a1); obtain ⟨q1, q2, q3⟩ := hq; first | omega | (rw [insertS_is ⟨q1, q2⟩, ins_len]; simp only [List.length_cons, List.length_nil]; omega) | (have q4 := q3 (by first | assumption | exact And.right (by assumption)); have hw := wr64 (n := (m_slices_BinarySearchFunc_impl_Setting x1.1 (at' changes x1.2).Setting (fun (a0 : gSetting) (a1 : gSetting) => m_impl_compareSettings a0 a1)).1 + 1) (by omega); first | omega | (rw [hw]; omega) | (rw [hw, deleteS_is (by omega)]; simp only [List.length_append, List.length_take, List.length_drop]; omega) | (rw [put_len]; omega)))))) ⟨rfl, trivial⟩ rfl rfl (fun h => Bool.noConfusion h) (fun h => Bool.noConfusion h) rfl <|
                      q_assign .n (.t rfl) rfl <|
                      Lex.nil) ?_
                  refine run_endB ?_
                  refine run_endB ?_
                  refine run_region (q_add .n (.t rfl) (.c rfl) (fun _ => by omega) rfl <|
                      q_move .n (.t rfl) rfl <|
                      Lex.nil) ?_
                  exact run_again ((m_slices_Delete_impl_Setting x1.1 (m_slices_BinarySearchFunc_impl_Setting x1.1 (at' changes x1.2).Setting (fun (a0 : gSetting) (a1 : gSetting) => m_impl_compareSettings a0 a1)).1 (IntKind.wrap .i64 ((m_slices_BinarySearchFunc_impl_Setting x1.1 (at' changes x1.2).Setting (fun (a0 : gSetting) (a1 : gSetting) => m_impl_compareSettings a0 a1)).1 + 1))).1, x1.2 + 1) ⟨by omega, by omega, by ((have hq := bs_rng (x := x1.1) (by omega) (t := (at' changes x1.2).Setting) (cmp := fun (a0 : gSetting) (a1 : gSetting) => m_impl_compareSettings a0 a1); obtain ⟨q1, q2, q3⟩ := hq; first | omega | (rw [insertS_is ⟨q1, q2⟩, ins_len]; simp only [List.length_cons, List.length_nil]; omega) | (have q4 := q3 (by first | assumption | exact And.right (by assumption)); have hw := wr64 (n := (m_slices_BinarySearchFunc_impl_Setting x1.1 (at' changes x1.2).Setting (fun (a0 : gSetting) (a1 : gSetting) => m_impl_compareSettings a0 a1)).1 + 1) (by omega); first | omega | (rw [hw]; omega) | (rw [hw, deleteS_is (by omega)]; simp only [List.length_append, List.length_take, List.length_drop]; omega) | (rw [put_len]; omega))))⟩ (by omega) (sub_of [] ⟨rfl, rfl, rfl, rfl, trivial⟩ ⟨rfl, trivial⟩ rfl)
      · try simp only [Bool.and_eq_true, Bool.or_eq_true, Bool.not_eq_true', Bool.and_eq_false_iff, Bool.or_eq_false_iff, Bool.not_eq_false', decide_eq_true_eq, decide_eq_false_iff_not, beq_iff_eq, bne_iff_ne, beq_eq_false_iff_ne, bne_eq_false_iff_eq, Bool.true_and, ne_eq, Decidable.not_not, Int.not_lt, Int.not_le, Nat.not_lt, Nat.not_le, strB_nil, strB_nil', strB_nnil, strB_nnil'] at h6
        refine run_exit rfl ?_
        exact run_cont hk4 (x1.1, x1.2) ⟨by omega, by omega, by omega, by omega⟩ (sub_of [] ⟨rfl, trivial⟩ ⟨rfl, trivial⟩ rfl)

/-! ### spec_l27Same -/
theorem c_spec_l27Same (a : List gSetting) (b : List gSetting) : Con Tryd.prog 56 [.sl 2 (a.map gSetting.v), .sl 2 (b.map gSetting.v)] [] (.bool (m_spec_l27Same a b)) ([]) := by
  refine con_intro (out := fun r : Bool => ((.bool r : V), ([] : List (Nat × Option O)))) (r := (m_spec_l27Same a b)) Tryd.func56 rfl Tryd.ntmps56 rfl ?_
  refine run_fact (t := 0) rfl fun hl => ?_
  have l1 := hl; clear hl; simp only [List.length_map] at l1
  refine run_fact (t := 1) rfl fun hl => ?_
  have l2 := hl; clear hl; simp only [List.length_map] at l2
  refine run_seq ?_
  refine run_region (q_assign .n (.c rfl) rfl <|
      Lex.nil) ?_
  refine run_seq ?_
  refine run_seq ?_
  refine run_region (q_move .n (.t rfl) rfl <|
      q_len .n (.t rfl) rfl len_map ss_34 rfl <|
      q_move .n (.t rfl) rfl <|
      q_len .n (.t rfl) rfl len_map ss_34 rfl <|
      q_int .n (.t rfl) (.t rfl) rfl rfl <|
      Lex.nil) ?_
  refine run_cond (.t rfl) rfl (fun h3 => ?_) (fun h3 => ?_)
  · try simp only [Bool.and_eq_true, Bool.or_eq_true, Bool.not_eq_true', Bool.and_eq_false_iff, Bool.or_eq_false_iff, Bool.not_eq_false', decide_eq_true_eq, decide_eq_false_iff_not, beq_iff_eq, bne_iff_ne, beq_eq_false_iff_ne, bne_eq_false_iff_eq, Bool.true_and, ne_eq, Decidable.not_not, Int.not_lt, Int.not_le, Nat.not_lt, Nat.not_le, strB_nil, strB_nil', strB_nnil, strB_nnil'] at h3
    refine run_seq ?_
    refine run_region (q_assign .n (.c rfl) rfl <|
        Lex.nil) ?_
    exact run_ret [] (.cons (.t rfl rfl) .nil) rfl trivial rfl
  · try simp only [Bool.and_eq_true, Bool.or_eq_true, Bool.not_eq_true', Bool.and_eq_false_iff, Bool.or_eq_false_iff, Bool.not_eq_false', decide_eq_true_eq, decide_eq_false_iff_not, beq_iff_eq, bne_iff_ne, beq_eq_false_iff_ne, bne_eq_false_iff_eq, Bool.true_and, ne_eq, Decidable.not_not, Int.not_lt, Int.not_le, Nat.not_lt, Nat.not_le, strB_nil, strB_nil', strB_nnil, strB_nnil'] at h3
    refine run_skip ?_
    refine run_seq ?_
    refine run_seq ?_
    refine run_region (q_assign .n (.c rfl) rfl <|
        Lex.nil) ?_
    refine run_block ?_
    refine run_LOOP (m_spec_l27Same_b1 a b) _ _ _ rfl (fun (x1 : Int) => 0 ≤ x1 ∧ x1 ≤ (a.length : Int)) (fun x1 => 0 ≤ x1 ∧ x1 ≤ (a.length : Int) ∧ (a.length : Int) ≤ x1) (fun x1 => ((a.length : Int) - x1 : Int).toNat) (fun x1 => ⟨[(0, some (true, .sl 2 (a.map gSetting.v))), (1, some (true, .sl 2 (b.map gSetting.v))), (5, some (true, .int .i64 x1))], []⟩) (fun x1 => ⟨[], []⟩) ⟨by omega, by omega⟩ (by omega) (sub_of [] ⟨rfl, rfl, rfl, trivial⟩ trivial rfl) ?_ ?_
    · intro x1 i8
      obtain ⟨e9, e10, e11⟩ := i8
      try dsimp only at *
      refine run_seq ?_
      refine run_region (q_assign .n (.c rfl) rfl <|
          Lex.nil) ?_
      exact run_ret [] (.cons (.t rfl rfl) .nil) rfl trivial rfl
    · intro rec1 k1 hk4 x1 i5
      obtain ⟨e12, e13⟩ := i5
      try dsimp only at *
      refine run_seq ?_
      refine run_seq ?_
      refine run_region (q_move .n (.t rfl) rfl <|
          q_move .n (.t rfl) rfl <|
          q_len .n (.t rfl) rfl len_map ss_34 rfl <|
          q_int .n (.t rfl) (.t rfl) rfl rfl <|
          Lex.nil) ?_
      refine run_cond (.t rfl) rfl (fun h6 => ?_) (fun h6 => ?_)
      · try simp only [Bool.and_eq_true, Bool.or_eq_true, Bool.not_eq_true', Bool.and_eq_false_iff, Bool.or_eq_false_iff, Bool.not_eq_false', decide_eq_true_eq, decide_eq_false_iff_not, beq_iff_eq, bne_iff_ne, beq_eq_false_iff_ne, bne_eq_false_iff_eq, Bool.true_and, ne_eq, Decidable.not_not, Int.not_lt, Int.not_le, Nat.not_lt, Nat.not_le, strB_nil, strB_nil', strB_nnil, strB_nnil'] at h6
        refine run_skip ?_
        refine run_seq ?_
        refine run_block ?_
        refine run_seq ?_
        refine run_draw fmo (q_move .n (.t rfl) rfl <|
            q_move .n (.t rfl) rfl <|
            q_idx_rm .n (.t rfl) (.t rfl) sl_34 (fun _ => by omega) rfl <|
            q_ldN_ro .n (.t rfl) ag_75 rfl rfl rfl <|
            q_move .n (.t rfl) rfl <|
            q_move .n (.t rfl) rfl <|
            q_idx_rm .n (.t rfl) (.t rfl) sl_34 (fun _ => by omega) rfl <|
            q_ldN_ro .n (.t rfl) ag_75 rfl rfl rfl <|
            q_stne (!((strB .eql (at' a x1).Name (at' b x1).Name) && (((at' a x1).Value == (at' b x1).Value) && true))) .n (.t rfl) (.t rfl) (by kernel_rfl) rfl rfl <|
            Lex.nil) (by kernel_rfl) ?_
        refine run_cond (.t rfl) rfl (fun h7 => ?_) (fun h7 => ?_)
        · try simp only [Bool.and_eq_true, Bool.or_eq_true, Bool.not_eq_true', Bool.and_eq_false_iff, Bool.or_eq_false_iff, Bool.not_eq_false', decide_eq_true_eq, decide_eq_false_iff_not, beq_iff_eq, bne_iff_ne, beq_eq_false_iff_ne, bne_eq_false_iff_eq, Bool.true_and, ne_eq, Decidable.not_not, Int.not_lt, Int.not_le, Nat.not_lt, Nat.not_le, strB_nil, strB_nil', strB_nnil, strB_nnil'] at h7
          refine run_seq ?_
          refine run_region (q_assign .n (.c rfl) rfl <|
              Lex.nil) ?_
          exact run_ret [] (.cons (.t rfl rfl) .nil) rfl trivial rfl
        · try simp only [Bool.and_eq_true, Bool.or_eq_true, Bool.not_eq_true', Bool.and_eq_false_iff, Bool.or_eq_false_iff, Bool.not_eq_false', decide_eq_true_eq, decide_eq_false_iff_not, beq_iff_eq, bne_iff_ne, beq_eq_false_iff_ne, bne_eq_false_iff_eq, Bool.true_and, ne_eq, Decidable.not_not, Int.not_lt, Int.not_le, Nat.not_lt, Nat.not_le, strB_nil, strB_nil', strB_nnil, strB_nnil'] at h7
          refine run_skip ?_
          refine run_endB ?_
          refine run_region (q_move .n (.t rfl) rfl <|
              q_add .n (.t rfl) (.c rfl) (fun _ => by omega) rfl <|
              q_assign .n (.t rfl) rfl <|
              Lex.nil) ?_
          exact run_again (x1 + 1) ⟨by omega, by omega⟩ (by omega) (sub_of [] ⟨rfl, rfl, rfl, trivial⟩ trivial rfl)
      · try simp only [Bool.and_eq_true, Bool.or_eq_true, Bool.not_eq_true', Bool.and_eq_false_iff, Bool.or_eq_false_iff, Bool.not_eq_false', decide_eq_true_eq, decide_eq_false_iff_not, beq_iff_eq, bne_iff_ne, beq_eq_false_iff_ne, bne_eq_false_iff_eq, Bool.true_and, ne_eq, Decidable.not_not, Int.not_lt, Int.not_le, Nat.not_lt, Nat.not_le, strB_nil, strB_nil', strB_nnil, strB_nnil'] at h6
        refine run_exit rfl ?_
        exact run_cont hk4 x1 ⟨by omega, by omega, by omega⟩ (sub_of [] trivial trivial rfl)

/-! ### spec_SameState -/
theorem c_spec_SameState (a : List gSetting) (b : List gSetting) : Con Tryd.prog 18 [.sl 2 (a.map gSetting.v), .sl 2 (b.map gSetting.v)] [] (.bool (m_spec_SameState a b)) ([]) := by
  refine con_intro (out := fun r : Bool => ((.bool r : V), ([] : List (Nat × Option O)))) (r := (m_spec_SameState a b)) Tryd.func18 rfl Tryd.ntmps18 rfl ?_
  refine run_fact (t := 0) rfl fun hl => ?_
  have l1 := hl; clear hl; simp only [List.length_map] at l1
  refine run_fact (t := 1) rfl fun hl => ?_
  have l2 := hl; clear hl; simp only [List.length_map] at l2
  refine run_seq ?_
  refine run_region (q_assign .n (.c rfl) rfl <|
      Lex.nil) ?_
  refine run_seq ?_
  refine run_region (q_move .n (.t rfl) rfl <|
      q_move .n (.t rfl) rfl <|
      q_call0 (full := false) .n .f en_56 (.cons (.t rfl) (.cons (.t rfl) .nil)) (.cons (.b (.a (.same rfl))) (.cons (.b (.a (.same rfl))) .nil)) (fun hg => c_spec_l27Same a b) rfl (fun h => Bool.noConfusion h) rfl <|
      q_assign .n (.t rfl) rfl <|
      Lex.nil) ?_
  exact run_ret [] (.cons (.t rfl rfl) .nil) rfl trivial rfl

/-! ### laws_r8At -/
theorem c_laws_r8At (code : List Int) (k_ : Int) (n_ : Int) (hp1 : 0 ≤ k_) : Con Tryd.prog 19 [.sl 1 (code.map (V.int .u8)), .int .i64 k_, .int .i64 n_] [] (.int .i64 (m_laws_r8At code k_ n_)) ([]) := by
  refine con_intro (out := fun r : Int => ((.int .i64 r : V), ([] : List (Nat × Option O)))) (r := (m_laws_r8At code k_ n_)) Tryd.func19 rfl Tryd.ntmps19 rfl ?_
  refine run_fact (t := 0) rfl fun hl => ?_
  have l1 := hl; clear hl; simp only [List.length_map] at l1
  refine run_seq ?_
  refine run_region (q_assign .n (.c rfl) rfl <|
      Lex.nil) ?_
  refine run_seq ?_
  refine run_seq ?_
  refine run_region (q_move .n (.t rfl) rfl <|
      q_int .n (.t rfl) (.c rfl) rfl rfl <|
      q_move .n (.t rfl) rfl <|
      q_move (.f rfl rfl) (.t rfl) rfl <|
      q_move (.f rfl rfl) (.t rfl) rfl <|
      q_len (.f rfl rfl) (.u rfl id) rfl len_map ss_31 rfl <|
      q_int (.f rfl rfl) (.u rfl id) (.u rfl id) rfl rfl <|
      q_or .n (.t rfl) (.u rfl id) rfl <|
      Lex.nil) ?_
  refine run_cond (.t rfl) rfl (fun h2 => ?_) (fun h2 => ?_)
  · try simp only [Bool.and_eq_true, Bool.or_eq_true, Bool.not_eq_true', Bool.and_eq_false_iff, Bool.or_eq_false_iff, Bool.not_eq_false', decide_eq_true_eq, decide_eq_false_iff_not, beq_iff_eq, bne_iff_ne, beq_eq_false_iff_ne, bne_eq_false_iff_eq, Bool.true_and, ne_eq, Decidable.not_not, Int.not_lt, Int.not_le, Nat.not_lt, Nat.not_le, strB_nil, strB_nil', strB_nnil, strB_nnil'] at h2
    refine run_seq ?_
    refine run_region (q_assign .n (.c rfl) rfl <|
        Lex.nil) ?_
    exact run_ret [] (.cons (.t rfl rfl) .nil) rfl trivial rfl
  · try simp only [Bool.and_eq_true, Bool.or_eq_true, Bool.not_eq_true', Bool.and_eq_false_iff, Bool.or_eq_false_iff, Bool.not_eq_false', decide_eq_true_eq, decide_eq_false_iff_not, beq_iff_eq, bne_iff_ne, beq_eq_false_iff_ne, bne_eq_false_iff_eq, Bool.true_and, ne_eq, Decidable.not_not, Int.not_lt, Int.not_le, Nat.not_lt, Nat.not_le, strB_nil, strB_nil', strB_nnil, strB_nnil'] at h2
    refine run_skip ?_
    refine run_seq ?_
    refine run_region (q_move .n (.t rfl) rfl <|
        q_move .n (.t rfl) rfl <|
        q_idx_rm .n (.t rfl) (.t rfl) sl_31 (fun _ => by omega) rfl <|
        q_ld1_ro .n (.t rfl) rfl ic_5 rfl <|
        q_conv .n (.t rfl) cv_5_2 rfl <|
        q_move .n (.t rfl) rfl <|
        q_rem .n (.t rfl) (.t rfl) (fun hg => by omega) rfl <|
        q_assign .n (.t rfl) rfl <|
        Lex.nil) ?_
    exact run_ret [] (.cons (.t rfl rfl) .nil) rfl trivial rfl

/-! ### impl_CommitState -/
set_option maxRecDepth 100000 in
set_option maxHeartbeats 4000000 in
theorem c_impl_CommitState (list : List gVersion) (parent : Int) (memo : List UInt8) (state : List gSetting) : ConG Tryd.prog 20 [.sl 4 (list.map gVersion.v), .int .i64 parent, .str memo, .sl 2 (state.map gSetting.v)] [] (.tup [.os 100 (m_impl_CommitState list parent memo state).1.length, .int .i64 (m_impl_CommitState list parent memo state).2]) ([(100, some (.row 54 4 ((m_impl_CommitState list parent memo state).1.map gVersion.v)))]) := by
  refine con_introG (out := fun r : (List gVersion) × Int => ((.tup [.os 100 r.1.length, .int .i64 r.2] : V), ([(100, some (.row 54 4 (r.1.map gVersion.v)))] : List (Nat × Option O)))) (r := (m_impl_CommitState list parent memo state)) Tryd.func20 rfl Tryd.ntmps20 rfl ?_
  refine run_fact (t := 0) rfl fun hl => ?_
  have l1 := hl; clear hl; simp only [List.length_map] at l1
  refine run_fact (t := 3) rfl fun hl => ?_
  have l2 := hl; clear hl; simp only [List.length_map] at l2
  refine run_seq ?_
  refine run_region (q_assign .n (.c rfl) rfl <|
      q_assign .n (.c rfl) rfl <|
      Lex.nil) ?_
  refine run_seq ?_
  refine run_block ?_
  refine run_seq ?_
  refine run_region (q_move .n (.t rfl) rfl <|
      q_call0 (full := false) .n .f en_57 (.cons (.t rfl) .nil) (.cons (.b (.a (.same rfl))) .nil) (fun hg => c_impl_ValidHistory list) rfl (fun h => Bool.noConfusion h) rfl <|
      q_not .n (.t rfl) rfl <|
      q_move .n (.t rfl) rfl <|
      q_move (.f rfl rfl) (.t rfl) rfl <|
      q_call0 (full := false) (.f rfl rfl) .f en_58 (.cons (.u rfl id) .nil) (.cons (.b (.a (.same rfl))) .nil) (fun hg => c_impl_memoValid memo) rfl (fun h => Bool.noConfusion h) rfl <|
      q_not (.f rfl rfl) (.u rfl id) rfl <|
      q_or .n (.t rfl) (.u rfl id) rfl <|
      q_move .n (.t rfl) rfl <|
      q_move (.f rfl rfl) (.t rfl) rfl <|
      q_call0 (full := false) (.f rfl rfl) .f en_46 (.cons (.u rfl id) .nil) (.cons (.b (.a (.same rfl))) .nil) (fun hg => c_impl_ValidState state) rfl (fun h => Bool.noConfusion h) rfl <|
      q_not (.f rfl rfl) (.u rfl id) rfl <|
      q_or .n (.t rfl) (.u rfl id) rfl <|
      q_assign .n (.t rfl) rfl <|
      Lex.nil) ?_
  refine run_cond (.t rfl) rfl (fun h3 => ?_) (fun h3 => ?_)
  · try simp only [Bool.and_eq_true, Bool.or_eq_true, Bool.not_eq_true', Bool.and_eq_false_iff, Bool.or_eq_false_iff, Bool.not_eq_false', decide_eq_true_eq, decide_eq_false_iff_not, beq_iff_eq, bne_iff_ne, beq_eq_false_iff_ne, bne_eq_false_iff_eq, Bool.true_and, ne_eq, Decidable.not_not, Int.not_lt, Int.not_le, Nat.not_lt, Nat.not_le, strB_nil, strB_nil', strB_nnil, strB_nnil'] at h3
    try with_reducible have hf0h3 := state_l24I h3
    try with_reducible have hf1h3 := state_l24I h3.1
    try with_reducible have hf2h3 := state_l24I h3.2
    try with_reducible have hf3h3 := state_l24I h3.1.1
    try with_reducible have hf4h3 := state_l24I h3.1.2
    try with_reducible have hf5h3 := state_l24I h3.2.1
    try with_reducible have hf6h3 := state_l24I h3.2.2
    try with_reducible have hf7h3 := state_inI h3
    try with_reducible have hf8h3 := state_inI h3.1
    try with_reducible have hf9h3 := state_inI h3.2
    try with_reducible have hf10h3 := state_inI h3.1.1
    try with_reducible have hf11h3 := state_inI h3.1.2
    try with_reducible have hf12h3 := state_inI h3.2.1
    try with_reducible have hf13h3 := state_inI h3.2.2
    try with_reducible have hf14h3 := memo_lenI h3
    try with_reducible have hf15h3 := memo_lenI h3.1
    try with_reducible have hf16h3 := memo_lenI h3.2
    try with_reducible have hf17h3 := memo_lenI h3.1.1
    try with_reducible have hf18h3 := memo_lenI h3.1.2
    try with_reducible have hf19h3 := memo_lenI h3.2.1
    try with_reducible have hf20h3 := memo_lenI h3.2.2
    try with_reducible have hf21h3 := histI_hv h3
    try with_reducible have hf22h3 := histI_hv h3.1
    try with_reducible have hf23h3 := histI_hv h3.2
    try with_reducible have hf24h3 := histI_hv h3.1.1
    try with_reducible have hf25h3 := histI_hv h3.1.2
    try with_reducible have hf26h3 := histI_hv h3.2.1
    try with_reducible have hf27h3 := histI_hv h3.2.2
    try with_reducible have hf28h3 := histI_len h3
    try with_reducible have hf29h3 := histI_len h3.1
    try with_reducible have hf30h3 := histI_len h3.2
    try with_reducible have hf31h3 := histI_len h3.1.1
    try with_reducible have hf32h3 := histI_len h3.1.2
    try with_reducible have hf33h3 := histI_len h3.2.1
    try with_reducible have hf34h3 := histI_len h3.2.2
    refine run_seq ?_
    refine run_region (q_assign .n (.c rfl) rfl <|
        q_assign .n (.c rfl) rfl <|
        Lex.nil) ?_
    refine run_sub (sub_adopt (t := 8) (l := 200) (el := 54) (sz := 4) rfl rfl) ?_
    exact run_ret [(100, 200)] (.cons (.t rfl rfl) (.cons (.t rfl rfl) .nil)) (by first | rfl | (simp only [put_len]; rfl)) ⟨rfl, trivial⟩ rfl
  · try simp only [Bool.and_eq_true, Bool.or_eq_true, Bool.not_eq_true', Bool.and_eq_false_iff, Bool.or_eq_false_iff, Bool.not_eq_false', decide_eq_true_eq, decide_eq_false_iff_not, beq_iff_eq, bne_iff_ne, beq_eq_false_iff_ne, bne_eq_false_iff_eq, Bool.true_and, ne_eq, Decidable.not_not, Int.not_lt, Int.not_le, Nat.not_lt, Nat.not_le, strB_nil, strB_nil', strB_nnil, strB_nnil'] at h3
    try with_reducible have hf0h3 := state_l24I h3
    try with_reducible have hf1h3 := state_l24I h3.1
    try with_reducible have hf2h3 := state_l24I h3.2
    try with_reducible have hf3h3 := state_l24I h3.1.1
    try with_reducible have hf4h3 := state_l24I h3.1.2
    try with_reducible have hf5h3 := state_l24I h3.2.1
    try with_reducible have hf6h3 := state_l24I h3.2.2
    try with_reducible have hf7h3 := state_inI h3
    try with_reducible have hf8h3 := state_inI h3.1
    try with_reducible have hf9h3 := state_inI h3.2
    try with_reducible have hf10h3 := state_inI h3.1.1
    try with_reducible have hf11h3 := state_inI h3.1.2
    try with_reducible have hf12h3 := state_inI h3.2.1
    try with_reducible have hf13h3 := state_inI h3.2.2
    try with_reducible have hf14h3 := memo_lenI h3
    try with_reducible have hf15h3 := memo_lenI h3.1
    try with_reducible have hf16h3 := memo_lenI h3.2
    try with_reducible have hf17h3 := memo_lenI h3.1.1
    try with_reducible have hf18h3 := memo_lenI h3.1.2
    try with_reducible have hf19h3 := memo_lenI h3.2.1
    try with_reducible have hf20h3 := memo_lenI h3.2.2
    try with_reducible have hf21h3 := histI_hv h3
    try with_reducible have hf22h3 := histI_hv h3.1
    try with_reducible have hf23h3 := histI_hv h3.2
    try with_reducible have hf24h3 := histI_hv h3.1.1
    try with_reducible have hf25h3 := histI_hv h3.1.2
    try with_reducible have hf26h3 := histI_hv h3.2.1
    try with_reducible have hf27h3 := histI_hv h3.2.2
    try with_reducible have hf28h3 := histI_len h3
    try with_reducible have hf29h3 := histI_len h3.1
    try with_reducible have hf30h3 := histI_len h3.2
    try with_reducible have hf31h3 := histI_len h3.1.1
    try with_reducible have hf32h3 := histI_len h3.1.2
    try with_reducible have hf33h3 := histI_len h3.2.1
    try with_reducible have hf34h3 := histI_len h3.2.2
    refine run_seq ?_
    refine run_region (q_move .n (.t rfl) rfl <|
        q_move .n (.t rfl) rfl <|
        q_len .n (.t rfl) rfl len_map ss_24 rfl <|
        q_call0 (full := false) .n .f en_59 (.cons (.t rfl) (.cons (.c rfl) (.cons (.t rfl) .nil))) (.cons (.b (.a (.same rfl))) (.cons (.b (.a (.same rfl))) (.cons (.b (.a (.same rfl))) .nil))) (fun hg => c_impl_within parent 0 (list.length : Int)) rfl (fun h => Bool.noConfusion h) rfl <|
        q_not .n (.t rfl) rfl <|
        q_assign .n (.t rfl) rfl <|
        Lex.nil) ?_
    refine run_cond (.t rfl) rfl (fun h4 => ?_) (fun h4 => ?_)
    · try simp only [Bool.and_eq_true, Bool.or_eq_true, Bool.not_eq_true', Bool.and_eq_false_iff, Bool.or_eq_false_iff, Bool.not_eq_false', decide_eq_true_eq, decide_eq_false_iff_not, beq_iff_eq, bne_iff_ne, beq_eq_false_iff_ne, bne_eq_false_iff_eq, Bool.true_and, ne_eq, Decidable.not_not, Int.not_lt, Int.not_le, Nat.not_lt, Nat.not_le, strB_nil, strB_nil', strB_nnil, strB_nnil'] at h4
      try with_reducible have hf0h4 := within_imp h4
      try with_reducible have hf1h4 := within_imp h4.1
      try with_reducible have hf2h4 := within_imp h4.2
      try with_reducible have hf3h4 := within_imp h4.1.1
      try with_reducible have hf4h4 := within_imp h4.1.2
      try with_reducible have hf5h4 := within_imp h4.2.1
      try with_reducible have hf6h4 := within_imp h4.2.2
      refine run_seq ?_
      refine run_region (q_assign .n (.c rfl) rfl <|
          q_assign .n (.c rfl) rfl <|
          Lex.nil) ?_
      refine run_sub (sub_adopt (t := 8) (l := 201) (el := 54) (sz := 4) rfl rfl) ?_
      exact run_ret [(100, 201)] (.cons (.t rfl rfl) (.cons (.t rfl rfl) .nil)) (by first | rfl | (simp only [put_len]; rfl)) ⟨rfl, trivial⟩ rfl
    · try simp only [Bool.and_eq_true, Bool.or_eq_true, Bool.not_eq_true', Bool.and_eq_false_iff, Bool.or_eq_false_iff, Bool.not_eq_false', decide_eq_true_eq, decide_eq_false_iff_not, beq_iff_eq, bne_iff_ne, beq_eq_false_iff_ne, bne_eq_false_iff_eq, Bool.true_and, ne_eq, Decidable.not_not, Int.not_lt, Int.not_le, Nat.not_lt, Nat.not_le, strB_nil, strB_nil', strB_nnil, strB_nnil'] at h4
      try with_reducible have hf0h4 := within_imp h4
      try with_reducible have hf1h4 := within_imp h4.1
      try with_reducible have hf2h4 := within_imp h4.2
      try with_reducible have hf3h4 := within_imp h4.1.1
      try with_reducible have hf4h4 := within_imp h4.1.2
      try with_reducible have hf5h4 := within_imp h4.2.1
      try with_reducible have hf6h4 := within_imp h4.2.2
      refine run_skip ?_
      refine run_endB ?_
      refine run_seq ?_
      refine run_ro <| ro_lex (l1 := [_, _, _, _]) (l2 := [_, _, _, _, _]) rfl (q_move .n (.t rfl) rfl <|
          q_move .n (.t rfl) rfl <|
          q_move .n (.t rfl) rfl <|
          q_move .n (.t rfl) rfl <|
          Lex.nil) <|
          ro_callGM [] [(100, 202)] .f en_35 (.cons (.t rfl) (.cons (.t rfl) (.cons (.t rfl) (.cons (.t rfl) .nil)))) (.cons (.b (.a (.same rfl))) (.cons (.b (.a (.same rfl))) (.cons (.b (.a (.same rfl))) (.cons (.b (.a (.same rfl))) .nil)))) (c_impl_withVersion list parent memo state (by omega) (by omega)) trivial rfl rfl rfl rfl <|
          ro_lex (l1 := [_, _, _, _]) (l2 := []) rfl (q_ext .n (.t rfl) rfl rfl rfl <|
          q_ext .n (.t rfl) rfl rfl rfl <|
          q_assign .n (.t rfl) rfl <|
          q_assign .n (.t rfl) rfl <|
          Lex.nil) <|
          ro_end ?_
      exact run_ret [(100, 202)] (.cons (.t rfl rfl) (.cons (.t rfl rfl) .nil)) (by first | rfl | (simp only [put_len]; rfl)) ⟨rfl, trivial⟩ rfl

/-! ### impl_lineOf -/
theorem c_impl_lineOf (list : List gVersion) (number : Int) (hp1 : HV list) (hp2 : 0 ≤ number ∧ number ≤ list.length) : Con Tryd.prog 60 [.sl 4 (list.map gVersion.v), .int .i64 number] [] (.os 100 (m_impl_lineOf list number).length) ([(100, some (.row 2 1 ((m_impl_lineOf list number).map (V.int .i64))))]) := by
  refine con_intro (out := fun r : (List Int) => ((.os 100 r.length : V), ([(100, some (.row 2 1 (r.map (V.int .i64))))] : List (Nat × Option O)))) (r := (m_impl_lineOf list number)) Tryd.func60 rfl Tryd.ntmps60 rfl ?_
  have hL := hp1.1
  refine run_fact (t := 0) rfl fun hl => ?_
  have l1 := hl; clear hl; simp only [List.length_map] at l1
  refine run_seq ?_
  refine run_region (q_assign .n (.c rfl) rfl <|
      Lex.nil) ?_
  refine run_seq ?_
  refine run_region (q_assign .n (.c rfl) rfl <|
      Lex.nil) ?_
  refine run_seq ?_
  refine run_block ?_
  refine run_sub (sub_adopt (t := 5) (l := 200) (el := 2) (sz := 1) rfl rfl) ?_
  refine run_LOOP (m_impl_lineOf_b1 list number) _ _ _ rfl (fun (x1 : Int × (List Int)) => (0 ≤ x1.1 ∧ x1.1 ≤ list.length) ∧ (x1.2.length : Int) + x1.1 ≤ 100) (fun x1 => (0 ≤ x1.1 ∧ x1.1 ≤ list.length) ∧ (x1.2.length : Int) + x1.1 ≤ 100) (fun x1 => x1.1.toNat) (fun x1 => ⟨[(0, some (true, .sl 4 (list.map gVersion.v))), (1, some (true, .int .i64 x1.1)), (5, some (true, .os 200 x1.2.length))], [(200, some (.row 2 1 (x1.2.map (V.int .i64))))]⟩) (fun x1 => ⟨[(5, some (true, .os 200 x1.2.length))], [(200, some (.row 2 1 (x1.2.map (V.int .i64))))]⟩) ⟨by omega, by (simp only [List.length_append, List.length_cons, List.length_nil, List.length_replicate, put_len] at * <;> omega)⟩ (by omega) (sub_of [] ⟨rfl, rfl, rfl, trivial⟩ ⟨rfl, trivial⟩ rfl) ?_ ?_
  · intro x1 i5
    obtain ⟨e6, e7⟩ := i5
    try dsimp only at *
    refine run_seq ?_
    refine run_region (q_move .n (.t rfl) rfl <|
        q_assign .n (.t rfl) rfl <|
        Lex.nil) ?_
    exact run_ret [(100, 200)] (.cons (.t rfl rfl) .nil) (by first | rfl | (simp only [put_len]; rfl)) ⟨rfl, trivial⟩ rfl
  · intro rec1 k1 hk2 x1 i3
    obtain ⟨e8, e9⟩ := i3
    try dsimp only at *
    refine run_seq ?_
    refine run_seq ?_
    refine run_region (q_move .n (.t rfl) rfl <|
        q_int .n (.t rfl) (.c rfl) rfl rfl <|
        Lex.nil) ?_
    refine run_cond (.t rfl) rfl (fun h4 => ?_) (fun h4 => ?_)
    · try simp only [Bool.and_eq_true, Bool.or_eq_true, Bool.not_eq_true', Bool.and_eq_false_iff, Bool.or_eq_false_iff, Bool.not_eq_false', decide_eq_true_eq, decide_eq_false_iff_not, beq_iff_eq, bne_iff_ne, beq_eq_false_iff_ne, bne_eq_false_iff_eq, Bool.true_and, ne_eq, Decidable.not_not, Int.not_lt, Int.not_le, Nat.not_lt, Nat.not_le, strB_nil, strB_nil', strB_nnil, strB_nnil'] at h4
      refine run_skip ?_
      refine run_seq ?_
      refine run_block ?_
      refine run_region (q_move .n (.t rfl) rfl <|
          q_move .n (.t rfl) rfl <|
          q_bslicem ([x1.1] : List Int) (f := V.int .i64) (l := 201) .n rfl rfl (.cons (.t rfl) .nil) rfl si_45 zv_2 rfl rfl rfl <|
          q_appm (xs := x1.2) (ys := ([x1.1] : List Int)) (f := V.int .i64) (l := 202) .n rfl (.ow (.t rfl) rfl (take_all (by simp only [len_map, put_len] <;> rfl)) (by simp only [len_map, put_len] <;> rfl)) (.ow (.t rfl) rfl (take_all (by simp only [len_map, put_len] <;> rfl)) (by simp only [len_map, put_len] <;> rfl)) si_45 zv_2 rfl (by (simp only [List.length_append, List.length_cons, List.length_nil, List.length_replicate, put_len] at * <;> omega)) rfl rfl <|
          q_assign .n (.t rfl) rfl <|
          Lex.nil) ?_
      refine run_endB ?_
      refine run_region (q_move .n (.t rfl) rfl <|
          q_move .n (.t rfl) rfl <|
          q_int .n (.t rfl) (.c rfl) rfl rfl <|
          q_idx_rm .n (.t rfl) (.t rfl) sl_24 (fun _ => by ((have hq := line_step hp1 (n := x1.1) (by assumption) (by omega); obtain ⟨hq3, hq4, hq5⟩ := hq; first | omega | (rw [hq3]; omega)))) rfl <|
          q_fld_ro .n (.t rfl) fo_54_1 rfl <|
          q_ld1_ro .n (.t rfl) rfl ic_2 rfl <|
          q_assign .n (.t rfl) rfl <|
          Lex.nil) ?_
      exact run_again ((at' list (IntKind.wrap .i64 (x1.1 - 1))).Parent, x1.2 ++ ([x1.1] : List Int)) ⟨by ((have hq := line_step hp1 (n := x1.1) (by assumption) (by omega); obtain ⟨hq3, hq4, hq5⟩ := hq; first | omega | (rw [hq3]; omega))), by ((have hq := line_step hp1 (n := x1.1) (by assumption) (by omega); obtain ⟨hq3, hq4, hq5⟩ := hq; simp only [List.length_append, List.length_cons, List.length_nil]; omega))⟩ (by ((have hq := line_step hp1 (n := x1.1) (by assumption) (by omega); obtain ⟨hq3, hq4, hq5⟩ := hq; first | omega | (rw [hq3]; omega)))) (sub_of [(200, 202)] ⟨rfl, rfl, rfl, trivial⟩ ⟨rfl, trivial⟩ rfl)
    · try simp only [Bool.and_eq_true, Bool.or_eq_true, Bool.not_eq_true', Bool.and_eq_false_iff, Bool.or_eq_false_iff, Bool.not_eq_false', decide_eq_true_eq, decide_eq_false_iff_not, beq_iff_eq, bne_iff_ne, beq_eq_false_iff_ne, bne_eq_false_iff_eq, Bool.true_and, ne_eq, Decidable.not_not, Int.not_lt, Int.not_le, Nat.not_lt, Nat.not_le, strB_nil, strB_nil', strB_nnil, strB_nnil'] at h4
      refine run_exit rfl ?_
      exact run_cont hk2 (x1.1, x1.2) ⟨by omega, by omega⟩ (sub_of [] ⟨rfl, trivial⟩ ⟨rfl, trivial⟩ rfl)

/-! ### impl_AncestorsOf -/
set_option maxRecDepth 100000 in
set_option maxHeartbeats 4000000 in
theorem c_impl_AncestorsOf (list : List gVersion) (number : Int) : ConG Tryd.prog 21 [.sl 4 (list.map gVersion.v), .int .i64 number] [] (.tup [.sl 1 ((m_impl_AncestorsOf list number).1.map (V.int .i64)), .int .i64 (m_impl_AncestorsOf list number).2]) ([]) := by
  refine con_introG (out := fun r : (List Int) × Int => ((.tup [.sl 1 (r.1.map (V.int .i64)), .int .i64 r.2] : V), ([] : List (Nat × Option O)))) (r := (m_impl_AncestorsOf list number)) Tryd.func21 rfl Tryd.ntmps21 rfl ?_
  refine run_fact (t := 0) rfl fun hl => ?_
  have l1 := hl; clear hl; simp only [List.length_map] at l1
  refine run_seq ?_
  refine run_region (q_assign .n (.c rfl) rfl <|
      q_assign .n (.c rfl) rfl <|
      Lex.nil) ?_
  refine run_seq ?_
  refine run_seq ?_
  refine run_region (q_move .n (.t rfl) rfl <|
      q_move .n (.t rfl) rfl <|
      q_bslicem ([number] : List Int) (f := V.int .i64) (l := 200) .n rfl rfl (.cons (.t rfl) .nil) rfl si_45 zv_2 rfl rfl rfl <|
      q_call0 (full := true) .n .f en_34 (.cons (.t rfl) (.cons (.t rfl) .nil)) (.cons (.b (.a (.same rfl))) (.cons (.b (.a (.own rfl rfl rfl (take_all (by simp only [len_map, put_len] <;> rfl)) (by simp only [len_map, put_len] <;> rfl)))) .nil)) (fun hg => c_impl_versionsCode list ([number] : List Int)) rfl (fun _ => rfl) rfl <|
      q_assign .n (.t rfl) rfl <|
      Lex.nil) ?_
  refine run_seq ?_
  refine run_region (q_move .n (.t rfl) rfl <|
      q_int .n (.t rfl) (.c rfl) rfl rfl <|
      Lex.nil) ?_
  refine run_cond (.t rfl) rfl (fun h2 => ?_) (fun h2 => ?_)
  · try simp only [Bool.and_eq_true, Bool.or_eq_true, Bool.not_eq_true', Bool.and_eq_false_iff, Bool.or_eq_false_iff, Bool.not_eq_false', decide_eq_true_eq, decide_eq_false_iff_not, beq_iff_eq, bne_iff_ne, beq_eq_false_iff_ne, bne_eq_false_iff_eq, Bool.true_and, ne_eq, Decidable.not_not, Int.not_lt, Int.not_le, Nat.not_lt, Nat.not_le, strB_nil, strB_nil', strB_nnil, strB_nnil'] at h2
    try with_reducible have hf0h2 := vcodeG_len h2
    try with_reducible have hf1h2 := vcodeG_len h2.1
    try with_reducible have hf2h2 := vcodeG_len h2.2
    try with_reducible have hf3h2 := vcodeG_len h2.1.1
    try with_reducible have hf4h2 := vcodeG_len h2.1.2
    try with_reducible have hf5h2 := vcodeG_len h2.2.1
    try with_reducible have hf6h2 := vcodeG_len h2.2.2
    try with_reducible have hf7h2 := vcodeG_hv h2
    try with_reducible have hf8h2 := vcodeG_hv h2.1
    try with_reducible have hf9h2 := vcodeG_hv h2.2
    try with_reducible have hf10h2 := vcodeG_hv h2.1.1
    try with_reducible have hf11h2 := vcodeG_hv h2.1.2
    try with_reducible have hf12h2 := vcodeG_hv h2.2.1
    try with_reducible have hf13h2 := vcodeG_hv h2.2.2
    refine run_seq ?_
    refine run_region (q_move .n (.t rfl) rfl <|
        q_assign .n (.c rfl) rfl <|
        q_assign .n (.t rfl) rfl <|
        Lex.nil) ?_
    refine run_sub (sub_nls (t := 4) (sz := 1) rfl) ?_
    exact run_ret [] (.cons (.t rfl rfl) (.cons (.t rfl rfl) .nil)) rfl trivial rfl
  · try simp only [Bool.and_eq_true, Bool.or_eq_true, Bool.not_eq_true', Bool.and_eq_false_iff, Bool.or_eq_false_iff, Bool.not_eq_false', decide_eq_true_eq, decide_eq_false_iff_not, beq_iff_eq, bne_iff_ne, beq_eq_false_iff_ne, bne_eq_false_iff_eq, Bool.true_and, ne_eq, Decidable.not_not, Int.not_lt, Int.not_le, Nat.not_lt, Nat.not_le, strB_nil, strB_nil', strB_nnil, strB_nnil'] at h2
    try with_reducible have hf0h2 := vcodeG_len h2
    try with_reducible have hf1h2 := vcodeG_len h2.1
    try with_reducible have hf2h2 := vcodeG_len h2.2
    try with_reducible have hf3h2 := vcodeG_len h2.1.1
    try with_reducible have hf4h2 := vcodeG_len h2.1.2
    try with_reducible have hf5h2 := vcodeG_len h2.2.1
    try with_reducible have hf6h2 := vcodeG_len h2.2.2
    try with_reducible have hf7h2 := vcodeG_hv h2
    try with_reducible have hf8h2 := vcodeG_hv h2.1
    try with_reducible have hf9h2 := vcodeG_hv h2.2
    try with_reducible have hf10h2 := vcodeG_hv h2.1.1
    try with_reducible have hf11h2 := vcodeG_hv h2.1.2
    try with_reducible have hf12h2 := vcodeG_hv h2.2.1
    try with_reducible have hf13h2 := vcodeG_hv h2.2.2
    refine run_skip ?_
    refine run_seq ?_
    refine run_ro <| ro_lex (l1 := [_, _, _]) (l2 := [_, _, _]) rfl (q_move .n (.t rfl) rfl <|
        q_move .n (.t rfl) rfl <|
        q_callM (full := false) [] [(100, 201)] .n rfl .f en_60 (.cons (.t rfl) (.cons (.t rfl) .nil)) (.cons (.b (.a (.same rfl))) (.cons (.b (.a (.same rfl))) .nil)) (c_impl_lineOf list number (by omega) (by ((have hq := vcode1_par (by assumption : m_impl_versionsCode list ([number] : List Int) = 0); have hz := line_pos (by assumption : HV list) hq.1; omega)))) trivial rfl rfl (fun h => Bool.noConfusion h) (fun h => Bool.noConfusion h) rfl <|
        Lex.nil) <|
        ro_freezeL (l := 201) [16] ⟨rfl, trivial⟩ rfl (take_all (by simp only [len_map, put_len] <;> rfl)) (by simp only [len_map, put_len] <;> rfl) rfl <|
        ro_lex (l1 := [_, _, _]) (l2 := []) rfl (q_cut_rm 1 ((m_impl_lineOf list number).length : Int) .n (.t rfl) (.s (.c rfl)) .n sl_45 rfl rfl (fun _ => by ((have hq := vcode1_par (by assumption : m_impl_versionsCode list ([number] : List Int) = 0); have hz := line_pos (by assumption : HV list) hq.1; omega))) rfl <|
        q_assign .n (.t rfl) rfl <|
        q_assign .n (.c rfl) rfl <|
        Lex.nil) <|
        ro_end ?_
    exact run_ret [] (.cons (.t rfl rfl) (.cons (.t rfl rfl) .nil)) rfl trivial rfl

/-! ### slices_IndexFunc_impl_Version -/
theorem c_slices_IndexFunc_impl_Version (s_ : List gVersion) (f : gVersion → Bool) (F_f : FuncId) (C_f : List V) (he_f : entB Tryd.prog F_f = true) (hr_f : C_f.all V.ro = true) (hc_f : ∀ (a0 : gVersion), Con Tryd.prog F_f ([.st [.int .i64 a0.Number, .int .i64 a0.Parent, .str a0.Memo, .sl 2 (a0.State.map gSetting.v)]] ++ C_f) [] (.bool (f a0)) []) : Con Tryd.prog 85 [.sl 4 (s_.map gVersion.v), .clo F_f C_f] [] (.int .i64 (m_slices_IndexFunc_impl_Version s_ f)) ([]) := by
  refine con_intro (out := fun r : Int => ((.int .i64 r : V), ([] : List (Nat × Option O)))) (r := (m_slices_IndexFunc_impl_Version s_ f)) Tryd.func85 rfl Tryd.ntmps85 rfl ?_
  refine run_fact (t := 0) rfl fun hl => ?_
  have l1 := hl; clear hl; simp only [List.length_map] at l1
  refine run_seq ?_
  refine run_region (q_assign .n (.c rfl) rfl <|
      Lex.nil) ?_
  refine run_seq ?_
  refine run_seq ?_
  refine run_region (q_move .n (.t rfl) rfl <|
      q_len .n (.t rfl) rfl len_map ss_24 rfl <|
      q_move .n (.c rfl) rfl <|
      Lex.nil) ?_
  refine run_block ?_
  refine run_LOOP (m_slices_IndexFunc_impl_Version_b1 s_ f) _ _ _ rfl (fun (x1 : Int) => 0 ≤ x1 ∧ x1 ≤ (s_.length : Int)) (fun x1 => 0 ≤ x1 ∧ x1 ≤ (s_.length : Int) ∧ (s_.length : Int) ≤ x1) (fun x1 => ((s_.length : Int) - x1 : Int).toNat) (fun x1 => ⟨[(0, some (true, .sl 4 (s_.map gVersion.v))), (1, some (true, .clo F_f C_f)), (7, some (true, .int .i64 (s_.length : Int))), (8, some (true, .int .i64 x1))], []⟩) (fun x1 => ⟨[], []⟩) ⟨by omega, by omega⟩ (by omega) (sub_of [] ⟨rfl, clo_ren hr_f rfl, rfl, rfl, trivial⟩ trivial rfl) ?_ ?_
  · intro x1 i6
    obtain ⟨e7, e8, e9⟩ := i6
    try dsimp only at *
    refine run_seq ?_
    refine run_region (q_assign .n (.c rfl) rfl <|
        Lex.nil) ?_
    exact run_ret [] (.cons (.t rfl rfl) .nil) rfl trivial rfl
  · intro rec1 k1 hk2 x1 i3
    obtain ⟨e10, e11⟩ := i3
    try dsimp only at *
    refine run_seq ?_
    refine run_region (q_int .n (.t rfl) (.t rfl) rfl rfl <|
        Lex.nil) ?_
    refine run_seq ?_
    refine run_cond (.t rfl) rfl (fun h4 => ?_) (fun h4 => ?_)
    · try simp only [Bool.and_eq_true, Bool.or_eq_true, Bool.not_eq_true', Bool.and_eq_false_iff, Bool.or_eq_false_iff, Bool.not_eq_false', decide_eq_true_eq, decide_eq_false_iff_not, beq_iff_eq, bne_iff_ne, beq_eq_false_iff_ne, bne_eq_false_iff_eq, Bool.true_and, ne_eq, Decidable.not_not, Int.not_lt, Int.not_le, Nat.not_lt, Nat.not_le, strB_nil, strB_nil', strB_nnil, strB_nnil'] at h4
      refine run_skip ?_
      refine run_seq ?_
      refine run_block ?_
      refine run_seq ?_
      refine run_region (q_move .n (.t rfl) rfl <|
          q_assign .n (.t rfl) rfl <|
          Lex.nil) ?_
      refine run_seq ?_
      refine run_region (q_move .n (.t rfl) rfl <|
          q_move .n (.t rfl) rfl <|
          q_move .n (.t rfl) rfl <|
          q_idx_rm .n (.t rfl) (.t rfl) sl_24 (fun _ => by omega) rfl <|
          q_ldN_ro .n (.t rfl) ag_54 rfl rfl rfl <|
          q_call0 (full := false) .n (.c (.t rfl)) he_f (.cons (.t rfl) .nil) (passes_app hr_f (.cons (.sts rfl) .nil)) (fun hg => hc_f (at' s_ x1)) rfl (fun h => Bool.noConfusion h) rfl <|
          Lex.nil) ?_
      refine run_cond (.t rfl) rfl (fun h5 => ?_) (fun h5 => ?_)
      · try simp only [Bool.and_eq_true, Bool.or_eq_true, Bool.not_eq_true', Bool.and_eq_false_iff, Bool.or_eq_false_iff, Bool.not_eq_false', decide_eq_true_eq, decide_eq_false_iff_not, beq_iff_eq, bne_iff_ne, beq_eq_false_iff_ne, bne_eq_false_iff_eq, Bool.true_and, ne_eq, Decidable.not_not, Int.not_lt, Int.not_le, Nat.not_lt, Nat.not_le, strB_nil, strB_nil', strB_nnil, strB_nnil'] at h5
        refine run_seq ?_
        refine run_region (q_move .n (.t rfl) rfl <|
            q_assign .n (.t rfl) rfl <|
            Lex.nil) ?_
        exact run_ret [] (.cons (.t rfl rfl) .nil) rfl trivial rfl
      · try simp only [Bool.and_eq_true, Bool.or_eq_true, Bool.not_eq_true', Bool.and_eq_false_iff, Bool.or_eq_false_iff, Bool.not_eq_false', decide_eq_true_eq, decide_eq_false_iff_not, beq_iff_eq, bne_iff_ne, beq_eq_false_iff_ne, bne_eq_false_iff_eq, Bool.true_and, ne_eq, Decidable.not_not, Int.not_lt, Int.not_le, Nat.not_lt, Nat.not_le, strB_nil, strB_nil', strB_nnil, strB_nnil'] at h5
        refine run_skip ?_
        refine run_endB ?_
        refine run_region (q_add .n (.t rfl) (.c rfl) (fun _ => by omega) rfl <|
            q_move .n (.t rfl) rfl <|
            Lex.nil) ?_
        exact run_again (x1 + 1) ⟨by omega, by omega⟩ (by omega) (sub_of [] ⟨rfl, clo_ren hr_f rfl, rfl, rfl, trivial⟩ trivial rfl)
    · try simp only [Bool.and_eq_true, Bool.or_eq_true, Bool.not_eq_true', Bool.and_eq_false_iff, Bool.or_eq_false_iff, Bool.not_eq_false', decide_eq_true_eq, decide_eq_false_iff_not, beq_iff_eq, bne_iff_ne, beq_eq_false_iff_ne, bne_eq_false_iff_eq, Bool.true_and, ne_eq, Decidable.not_not, Int.not_lt, Int.not_le, Nat.not_lt, Nat.not_le, strB_nil, strB_nil', strB_nnil, strB_nnil'] at h4
      refine run_exit rfl ?_
      exact run_cont hk2 x1 ⟨by omega, by omega, by omega⟩ (sub_of [] trivial trivial rfl)

/-! ### slices_ContainsFunc_impl_Version -/
theorem c_slices_ContainsFunc_impl_Version (s_ : List gVersion) (f : gVersion → Bool) (F_f : FuncId) (C_f : List V) (he_f : entB Tryd.prog F_f = true) (hr_f : C_f.all V.ro = true) (hc_f : ∀ (a0 : gVersion), Con Tryd.prog F_f ([.st [.int .i64 a0.Number, .int .i64 a0.Parent, .str a0.Memo, .sl 2 (a0.State.map gSetting.v)]] ++ C_f) [] (.bool (f a0)) []) : Con Tryd.prog 61 [.sl 4 (s_.map gVersion.v), .clo F_f C_f] [] (.bool (m_slices_ContainsFunc_impl_Version s_ f)) ([]) := by
  refine con_intro (out := fun r : Bool => ((.bool r : V), ([] : List (Nat × Option O)))) (r := (m_slices_ContainsFunc_impl_Version s_ f)) Tryd.func61 rfl Tryd.ntmps61 rfl ?_
  refine run_fact (t := 0) rfl fun hl => ?_
  have l1 := hl; clear hl; simp only [List.length_map] at l1
  refine run_seq ?_
  refine run_region (q_assign .n (.c rfl) rfl <|
      Lex.nil) ?_
  refine run_seq ?_
  refine run_region (q_move .n (.t rfl) rfl <|
      q_move .n (.t rfl) rfl <|
      q_call0 (full := false) .n .f en_85 (.cons (.t rfl) (.cons (.t rfl) .nil)) (.cons (.b (.a (.same rfl))) (.cons (.clo (passBs_ro hr_f)) .nil)) (fun hg => c_slices_IndexFunc_impl_Version s_ f F_f C_f he_f hr_f hc_f) rfl (fun h => Bool.noConfusion h) rfl <|
      q_int .n (.t rfl) (.c rfl) rfl rfl <|
      q_assign .n (.t rfl) rfl <|
      Lex.nil) ?_
  exact run_ret [] (.cons (.t rfl rfl) .nil) rfl trivial rfl

/-! ### impl_HeadsOf_1 -/
theorem c_impl_HeadsOf_1 (w_ : gVersion) (p1 : gVersion) : Con Tryd.prog 62 [.st [.int .i64 w_.Number, .int .i64 w_.Parent, .str w_.Memo, .sl 2 (w_.State.map gSetting.v)], .rp [.int .i64 p1.Number, .int .i64 p1.Parent, .str p1.Memo, .sl 2 (p1.State.map gSetting.v)]] [] (.bool (m_impl_HeadsOf_1 w_ p1)) ([]) := by
  refine con_intro (out := fun r : Bool => ((.bool r : V), ([] : List (Nat × Option O)))) (r := (m_impl_HeadsOf_1 w_ p1)) Tryd.func62 rfl Tryd.ntmps62 rfl ?_
  refine run_factS (t := 0) 3 rfl rfl fun hl => ?_
  have l1 := hl; clear hl; simp only [List.length_map] at l1
  refine run_factP (t := 1) 3 rfl rfl fun hl => ?_
  have l2 := hl; clear hl; simp only [List.length_map] at l2
  refine run_seq ?_
  refine run_region (q_box (l := 200) .n rfl (.t rfl) rfl rfl rfl rfl <|
      q_assign .n (.c rfl) rfl <|
      Lex.nil) ?_
  refine run_seq ?_
  refine run_region (q_fld_ow .n (.t rfl) fo_54_1 rfl <|
      q_ld1_ow .n (.t rfl) rfl (.inr rfl) (fun _ => rfl) rfl ic_2 rfl <|
      q_fld_ro .n (.t rfl) fo_54_0 rfl <|
      q_ld1_ro .n (.t rfl) rfl ic_2 rfl <|
      q_int .n (.t rfl) (.t rfl) rfl rfl <|
      q_assign .n (.t rfl) rfl <|
      Lex.nil) ?_
  exact run_ret [] (.cons (.t rfl rfl) .nil) rfl trivial rfl

/-! ### impl_HeadsOf -/
theorem c_impl_HeadsOf (list : List gVersion) : Con Tryd.prog 22 [.sl 4 (list.map gVersion.v)] [] (.tup [.os 100 (m_impl_HeadsOf list).1.length, .int .i64 (m_impl_HeadsOf list).2]) ([(100, some (.row 2 1 ((m_impl_HeadsOf list).1.map (V.int .i64))))]) := by
  refine con_intro (out := fun r : (List Int) × Int => ((.tup [.os 100 r.1.length, .int .i64 r.2] : V), ([(100, some (.row 2 1 (r.1.map (V.int .i64))))] : List (Nat × Option O)))) (r := (m_impl_HeadsOf list)) Tryd.func22 rfl Tryd.ntmps22 rfl ?_
  refine run_fact (t := 0) rfl fun hl => ?_
  have l1 := hl; clear hl; simp only [List.length_map] at l1
  refine run_seq ?_
  refine run_region (q_assign .n (.c rfl) rfl <|
      q_assign .n (.c rfl) rfl <|
      Lex.nil) ?_
  refine run_seq ?_
  refine run_seq ?_
  refine run_region (q_move .n (.t rfl) rfl <|
      q_call0 (full := false) .n .f en_57 (.cons (.t rfl) .nil) (.cons (.b (.a (.same rfl))) .nil) (fun hg => c_impl_ValidHistory list) rfl (fun h => Bool.noConfusion h) rfl <|
      q_not .n (.t rfl) rfl <|
      Lex.nil) ?_
  refine run_cond (.t rfl) rfl (fun h2 => ?_) (fun h2 => ?_)
  · try simp only [Bool.and_eq_true, Bool.or_eq_true, Bool.not_eq_true', Bool.and_eq_false_iff, Bool.or_eq_false_iff, Bool.not_eq_false', decide_eq_true_eq, decide_eq_false_iff_not, beq_iff_eq, bne_iff_ne, beq_eq_false_iff_ne, bne_eq_false_iff_eq, Bool.true_and, ne_eq, Decidable.not_not, Int.not_lt, Int.not_le, Nat.not_lt, Nat.not_le, strB_nil, strB_nil', strB_nnil, strB_nnil'] at h2
    try with_reducible have hf0h2 := histI_hv h2
    try with_reducible have hf1h2 := histI_hv h2.1
    try with_reducible have hf2h2 := histI_hv h2.2
    try with_reducible have hf3h2 := histI_hv h2.1.1
    try with_reducible have hf4h2 := histI_hv h2.1.2
    try with_reducible have hf5h2 := histI_hv h2.2.1
    try with_reducible have hf6h2 := histI_hv h2.2.2
    try with_reducible have hf7h2 := histI_len h2
    try with_reducible have hf8h2 := histI_len h2.1
    try with_reducible have hf9h2 := histI_len h2.2
    try with_reducible have hf10h2 := histI_len h2.1.1
    try with_reducible have hf11h2 := histI_len h2.1.2
    try with_reducible have hf12h2 := histI_len h2.2.1
    try with_reducible have hf13h2 := histI_len h2.2.2
    refine run_seq ?_
    refine run_region (q_assign .n (.c rfl) rfl <|
        q_assign .n (.c rfl) rfl <|
        Lex.nil) ?_
    refine run_sub (sub_adopt (t := 2) (l := 200) (el := 2) (sz := 1) rfl rfl) ?_
    exact run_ret [(100, 200)] (.cons (.t rfl rfl) (.cons (.t rfl rfl) .nil)) (by first | rfl | (simp only [put_len]; rfl)) ⟨rfl, trivial⟩ rfl
  · try simp only [Bool.and_eq_true, Bool.or_eq_true, Bool.not_eq_true', Bool.and_eq_false_iff, Bool.or_eq_false_iff, Bool.not_eq_false', decide_eq_true_eq, decide_eq_false_iff_not, beq_iff_eq, bne_iff_ne, beq_eq_false_iff_ne, bne_eq_false_iff_eq, Bool.true_and, ne_eq, Decidable.not_not, Int.not_lt, Int.not_le, Nat.not_lt, Nat.not_le, strB_nil, strB_nil', strB_nnil, strB_nnil'] at h2
    try with_reducible have hf0h2 := histI_hv h2
    try with_reducible have hf1h2 := histI_hv h2.1
    try with_reducible have hf2h2 := histI_hv h2.2
    try with_reducible have hf3h2 := histI_hv h2.1.1
    try with_reducible have hf4h2 := histI_hv h2.1.2
    try with_reducible have hf5h2 := histI_hv h2.2.1
    try with_reducible have hf6h2 := histI_hv h2.2.2
    try with_reducible have hf7h2 := histI_len h2
    try with_reducible have hf8h2 := histI_len h2.1
    try with_reducible have hf9h2 := histI_len h2.2
    try with_reducible have hf10h2 := histI_len h2.1.1
    try with_reducible have hf11h2 := histI_len h2.1.2
    try with_reducible have hf12h2 := histI_len h2.2.1
    try with_reducible have hf13h2 := histI_len h2.2.2
    refine run_skip ?_
    refine run_seq ?_
    refine run_region (q_assign .n (.c rfl) rfl <|
        Lex.nil) ?_
    refine run_seq ?_
    refine run_seq ?_
    refine run_region (q_move .n (.t rfl) rfl <|
        q_len .n (.t rfl) rfl len_map ss_24 rfl <|
        q_move .n (.c rfl) rfl <|
        Lex.nil) ?_
    refine run_block ?_
    refine run_sub (sub_adopt (t := 4) (l := 201) (el := 2) (sz := 1) rfl rfl) ?_
    refine run_LOOP (m_impl_HeadsOf_b1 list) _ _ _ rfl (fun (x1 : (List Int) × Int) => 0 ≤ x1.2 ∧ x1.2 ≤ (list.length : Int) ∧ (x1.1.length : Int) + 0 ≤ x1.2 + (([] : List Int).length : Int)) (fun x1 => 0 ≤ x1.2 ∧ x1.2 ≤ (list.length : Int) ∧ (x1.1.length : Int) + 0 ≤ x1.2 + (([] : List Int).length : Int) ∧ (list.length : Int) ≤ x1.2) (fun x1 => ((list.length : Int) - x1.2 : Int).toNat) (fun x1 => ⟨[(0, some (true, .sl 4 (list.map gVersion.v))), (4, some (true, .os 201 x1.1.length)), (10, some (true, .sl 4 (list.map gVersion.v))), (11, some (true, .int .i64 (list.length : Int))), (12, some (true, .int .i64 x1.2))], [(201, some (.row 2 1 (x1.1.map (V.int .i64))))]⟩) (fun x1 => ⟨[(4, some (true, .os 201 x1.1.length))], [(201, some (.row 2 1 (x1.1.map (V.int .i64))))]⟩) ⟨by omega, by omega, by (simp only [List.length_append, List.length_cons, List.length_nil, List.length_replicate, put_len] at * <;> omega)⟩ (by omega) (sub_of [] ⟨rfl, rfl, rfl, rfl, rfl, trivial⟩ ⟨rfl, trivial⟩ rfl) ?_ ?_
    · intro x1 i7
      obtain ⟨e8, e9, e10, e11⟩ := i7
      try dsimp only at *
      refine run_seq ?_
      refine run_region (q_move .n (.t rfl) rfl <|
          q_assign .n (.t rfl) rfl <|
          q_assign .n (.c rfl) rfl <|
          Lex.nil) ?_
      exact run_ret [(100, 201)] (.cons (.t rfl rfl) (.cons (.t rfl rfl) .nil)) (by first | rfl | (simp only [put_len]; rfl)) ⟨rfl, trivial⟩ rfl
    · intro rec1 k1 hk3 x1 i4
      obtain ⟨e12, e13, e14⟩ := i4
      try dsimp only at *
      refine run_seq ?_
      refine run_region (q_int .n (.t rfl) (.t rfl) rfl rfl <|
          Lex.nil) ?_
      refine run_seq ?_
      refine run_cond (.t rfl) rfl (fun h5 => ?_) (fun h5 => ?_)
      · try simp only [Bool.and_eq_true, Bool.or_eq_true, Bool.not_eq_true', Bool.and_eq_false_iff, Bool.or_eq_false_iff, Bool.not_eq_false', decide_eq_true_eq, decide_eq_false_iff_not, beq_iff_eq, bne_iff_ne, beq_eq_false_iff_ne, bne_eq_false_iff_eq, Bool.true_and, ne_eq, Decidable.not_not, Int.not_lt, Int.not_le, Nat.not_lt, Nat.not_le, strB_nil, strB_nil', strB_nnil, strB_nnil'] at h5
        refine run_skip ?_
        refine run_seq ?_
        refine run_block ?_
        refine run_seq ?_
        refine run_region (q_idx_rm .n (.t rfl) (.t rfl) sl_24 (fun _ => by omega) rfl <|
            q_ldN_ro .n (.t rfl) ag_54 rfl rfl rfl <|
            q_alloc (l := 203) .n rfl zv_54 rfl rfl <|
            q_st_boxm [.int .i64 (at' list x1.2).Number, .int .i64 (at' list x1.2).Parent, .str (at' list x1.2).Memo, .sl 2 ((at' list x1.2).State.map gSetting.v)] .n rfl (.t rfl) (.t rfl) rfl ts_54 rfl rfl <|
            Lex.nil) ?_
        refine run_seq ?_
        refine run_region (q_move .n (.t rfl) rfl <|
            q_clo .n (.cons (.t rfl) .nil) rfl rfl <|
            q_call0 (full := true) .n .f en_61 (.cons (.t rfl) (.cons (.t rfl) .nil)) (.cons (.b (.a (.same rfl))) (.cons (.clo (.cons (.ptr rfl rfl (.inr rfl) rfl rfl (.cons (.same rfl) (.cons (.same rfl) (.cons (.same rfl) (.cons (.same rfl) .nil))))) .nil)) .nil)) (fun hg => c_slices_ContainsFunc_impl_Version list (fun (a0 : gVersion) => m_impl_HeadsOf_1 a0 (at' list x1.2)) 62 [.rp [.int .i64 (at' list x1.2).Number, .int .i64 (at' list x1.2).Parent, .str (at' list x1.2).Memo, .sl 2 ((at' list x1.2).State.map gSetting.v)]] en_62 rfl (fun a0 => c_impl_HeadsOf_1 a0 (at' list x1.2))) rfl (fun _ => rfl) rfl <|
            q_not .n (.t rfl) rfl <|
            Lex.nil) ?_
        refine run_cond (.t rfl) rfl (fun h6 => ?_) (fun h6 => ?_)
        · try simp only [Bool.and_eq_true, Bool.or_eq_true, Bool.not_eq_true', Bool.and_eq_false_iff, Bool.or_eq_false_iff, Bool.not_eq_false', decide_eq_true_eq, decide_eq_false_iff_not, beq_iff_eq, bne_iff_ne, beq_eq_false_iff_ne, bne_eq_false_iff_eq, Bool.true_and, ne_eq, Decidable.not_not, Int.not_lt, Int.not_le, Nat.not_lt, Nat.not_le, strB_nil, strB_nil', strB_nnil, strB_nnil'] at h6
          refine run_region (q_move .n (.t rfl) rfl <|
              q_fld_ow .n (.t rfl) fo_54_0 rfl <|
              q_ld1_ow .n (.t rfl) rfl (.inr rfl) (fun _ => rfl) rfl ic_2 rfl <|
              q_bslicem ([(at' list x1.2).Number] : List Int) (f := V.int .i64) (l := 204) .n rfl rfl (.cons (.t rfl) .nil) rfl si_45 zv_2 rfl rfl rfl <|
              q_appm (xs := x1.1) (ys := ([(at' list x1.2).Number] : List Int)) (f := V.int .i64) (l := 205) .n rfl (.ow (.t rfl) rfl (take_all (by simp only [len_map, put_len] <;> rfl)) (by simp only [len_map, put_len] <;> rfl)) (.ow (.t rfl) rfl (take_all (by simp only [len_map, put_len] <;> rfl)) (by simp only [len_map, put_len] <;> rfl)) si_45 zv_2 rfl (by (simp only [List.length_append, List.length_cons, List.length_nil, List.length_replicate, put_len] at * <;> omega)) rfl rfl <|
              q_assign .n (.t rfl) rfl <|
              Lex.nil) ?_
          refine run_endB ?_
          refine run_region (q_add .n (.t rfl) (.c rfl) (fun _ => by omega) rfl <|
              q_move .n (.t rfl) rfl <|
              Lex.nil) ?_
          exact run_again (x1.1 ++ ([(at' list x1.2).Number] : List Int), x1.2 + 1) ⟨by omega, by omega, by (simp only [List.length_append, List.length_cons, List.length_nil, List.length_replicate, put_len] at * <;> omega)⟩ (by omega) (sub_of [(201, 205)] ⟨rfl, rfl, rfl, rfl, rfl, trivial⟩ ⟨rfl, trivial⟩ rfl)
        · try simp only [Bool.and_eq_true, Bool.or_eq_true, Bool.not_eq_true', Bool.and_eq_false_iff, Bool.or_eq_false_iff, Bool.not_eq_false', decide_eq_true_eq, decide_eq_false_iff_not, beq_iff_eq, bne_iff_ne, beq_eq_false_iff_ne, bne_eq_false_iff_eq, Bool.true_and, ne_eq, Decidable.not_not, Int.not_lt, Int.not_le, Nat.not_lt, Nat.not_le, strB_nil, strB_nil', strB_nnil, strB_nnil'] at h6
          refine run_skip ?_
          refine run_endB ?_
          refine run_region (q_add .n (.t rfl) (.c rfl) (fun _ => by omega) rfl <|
              q_move .n (.t rfl) rfl <|
              Lex.nil) ?_
          exact run_again (x1.1, x1.2 + 1) ⟨by omega, by omega, by (simp only [List.length_append, List.length_cons, List.length_nil, List.length_replicate, put_len] at * <;> omega)⟩ (by omega) (sub_of [] ⟨rfl, rfl, rfl, rfl, rfl, trivial⟩ ⟨rfl, trivial⟩ rfl)
      · try simp only [Bool.and_eq_true, Bool.or_eq_true, Bool.not_eq_true', Bool.and_eq_false_iff, Bool.or_eq_false_iff, Bool.not_eq_false', decide_eq_true_eq, decide_eq_false_iff_not, beq_iff_eq, bne_iff_ne, beq_eq_false_iff_ne, bne_eq_false_iff_eq, Bool.true_and, ne_eq, Decidable.not_not, Int.not_lt, Int.not_le, Nat.not_lt, Nat.not_le, strB_nil, strB_nil', strB_nnil, strB_nnil'] at h5
        refine run_exit rfl ?_
        exact run_cont hk3 (x1.1, x1.2) ⟨by omega, by omega, by omega, by omega⟩ (sub_of [] ⟨rfl, trivial⟩ ⟨rfl, trivial⟩ rfl)

/-! ### slices_Index_int64 -/
theorem c_slices_Index_int64 (s_ : List Int) (v : Int) : Con Tryd.prog 98 [.sl 1 (s_.map (V.int .i64)), .int .i64 v] [] (.int .i64 (m_slices_Index_int64 s_ v)) ([]) := by
  refine con_intro (out := fun r : Int => ((.int .i64 r : V), ([] : List (Nat × Option O)))) (r := (m_slices_Index_int64 s_ v)) Tryd.func98 rfl Tryd.ntmps98 rfl ?_
  refine run_fact (t := 0) rfl fun hl => ?_
  have l1 := hl; clear hl; simp only [List.length_map] at l1
  refine run_seq ?_
  refine run_region (q_assign .n (.c rfl) rfl <|
      Lex.nil) ?_
  refine run_seq ?_
  refine run_seq ?_
  refine run_region (q_move .n (.t rfl) rfl <|
      q_len .n (.t rfl) rfl len_map ss_45 rfl <|
      q_move .n (.c rfl) rfl <|
      Lex.nil) ?_
  refine run_block ?_
  refine run_LOOP (m_slices_Index_int64_b1 s_ v) _ _ _ rfl (fun (x1 : Int) => 0 ≤ x1 ∧ x1 ≤ (s_.length : Int)) (fun x1 => 0 ≤ x1 ∧ x1 ≤ (s_.length : Int) ∧ (s_.length : Int) ≤ x1) (fun x1 => ((s_.length : Int) - x1 : Int).toNat) (fun x1 => ⟨[(0, some (true, .sl 1 (s_.map (V.int .i64)))), (1, some (true, .int .i64 v)), (7, some (true, .int .i64 (s_.length : Int))), (8, some (true, .int .i64 x1))], []⟩) (fun x1 => ⟨[], []⟩) ⟨by first | omega | assumption | (simp only [List.length_append, List.length_cons, List.length_nil, List.length_replicate, put_len] at * <;> omega), by first | omega | assumption | (simp only [List.length_append, List.length_cons, List.length_nil, List.length_replicate, put_len] at * <;> omega)⟩ (by first | omega | assumption | (simp only [List.length_append, List.length_cons, List.length_nil, List.length_replicate, put_len] at * <;> omega)) (sub_of [] ⟨rfl, rfl, rfl, rfl, trivial⟩ trivial rfl) ?_ ?_
  · intro x1 i6
    obtain ⟨e7, e8, e9⟩ := i6
    try dsimp only at *
    refine run_seq ?_
    refine run_region (q_assign .n (.c rfl) rfl <|
        Lex.nil) ?_
    exact run_ret [] (.cons (.t rfl rfl) .nil) rfl trivial rfl
  · intro rec1 k1 hk2 x1 i3
    obtain ⟨e10, e11⟩ := i3
    try dsimp only at *
    refine run_seq ?_
    refine run_region (q_int .n (.t rfl) (.t rfl) rfl rfl <|
        Lex.nil) ?_
    refine run_seq ?_
    refine run_cond (.t rfl) rfl (fun h4 => ?_) (fun h4 => ?_)
    · try simp only [Bool.and_eq_true, Bool.or_eq_true, Bool.not_eq_true', Bool.and_eq_false_iff, Bool.or_eq_false_iff, Bool.not_eq_false', decide_eq_true_eq, decide_eq_false_iff_not, beq_iff_eq, bne_iff_ne, beq_eq_false_iff_ne, bne_eq_false_iff_eq, Bool.true_and, ne_eq, Decidable.not_not, Int.not_lt, Int.not_le, Nat.not_lt, Nat.not_le, strB_nil, strB_nil', strB_nnil, strB_nnil'] at h4
      refine run_skip ?_
      refine run_seq ?_
      refine run_block ?_
      refine run_seq ?_
      refine run_region (q_move .n (.t rfl) rfl <|
          q_assign .n (.t rfl) rfl <|
          Lex.nil) ?_
      refine run_seq ?_
      refine run_region (q_move .n (.t rfl) rfl <|
          q_move .n (.t rfl) rfl <|
          q_move .n (.t rfl) rfl <|
          q_idx_rm .n (.t rfl) (.t rfl) sl_45 (fun _ => by first | omega | assumption | (simp only [List.length_append, List.length_cons, List.length_nil, List.length_replicate, put_len] at * <;> omega)) rfl <|
          q_ld1_ro .n (.t rfl) rfl ic_2 rfl <|
          q_int .n (.t rfl) (.t rfl) rfl rfl <|
          Lex.nil) ?_
      refine run_cond (.t rfl) rfl (fun h5 => ?_) (fun h5 => ?_)
      · try simp only [Bool.and_eq_true, Bool.or_eq_true, Bool.not_eq_true', Bool.and_eq_false_iff, Bool.or_eq_false_iff, Bool.not_eq_false', decide_eq_true_eq, decide_eq_false_iff_not, beq_iff_eq, bne_iff_ne, beq_eq_false_iff_ne, bne_eq_false_iff_eq, Bool.true_and, ne_eq, Decidable.not_not, Int.not_lt, Int.not_le, Nat.not_lt, Nat.not_le, strB_nil, strB_nil', strB_nnil, strB_nnil'] at h5
        refine run_seq ?_
        refine run_region (q_move .n (.t rfl) rfl <|
            q_assign .n (.t rfl) rfl <|
            Lex.nil) ?_
        exact run_ret [] (.cons (.t rfl rfl) .nil) rfl trivial rfl
      · try simp only [Bool.and_eq_true, Bool.or_eq_true, Bool.not_eq_true', Bool.and_eq_false_iff, Bool.or_eq_false_iff, Bool.not_eq_false', decide_eq_true_eq, decide_eq_false_iff_not, beq_iff_eq, bne_iff_ne, beq_eq_false_iff_ne, bne_eq_false_iff_eq, Bool.true_and, ne_eq, Decidable.not_not, Int.not_lt, Int.not_le, Nat.not_lt, Nat.not_le, strB_nil, strB_nil', strB_nnil, strB_nnil'] at h5
        refine run_skip ?_
        refine run_endB ?_
        refine run_region (q_add .n (.t rfl) (.c rfl) (fun _ => by first | omega | assumption | (simp only [List.length_append, List.length_cons, List.length_nil, List.length_replicate, put_len] at * <;> omega)) rfl <|
            q_move .n (.t rfl) rfl <|
            Lex.nil) ?_
        exact run_again (x1 + 1) ⟨by first | omega | assumption | (simp only [List.length_append, List.length_cons, List.length_nil, List.length_replicate, put_len] at * <;> omega), by first | omega | assumption | (simp only [List.length_append, List.length_cons, List.length_nil, List.length_replicate, put_len] at * <;> omega)⟩ (by first | omega | assumption | (simp only [List.length_append, List.length_cons, List.length_nil, List.length_replicate, put_len] at * <;> omega)) (sub_of [] ⟨rfl, rfl, rfl, rfl, trivial⟩ trivial rfl)
    · try simp only [Bool.and_eq_true, Bool.or_eq_true, Bool.not_eq_true', Bool.and_eq_false_iff, Bool.or_eq_false_iff, Bool.not_eq_false', decide_eq_true_eq, decide_eq_false_iff_not, beq_iff_eq, bne_iff_ne, beq_eq_false_iff_ne, bne_eq_false_iff_eq, Bool.true_and, ne_eq, Decidable.not_not, Int.not_lt, Int.not_le, Nat.not_lt, Nat.not_le, strB_nil, strB_nil', strB_nnil, strB_nnil'] at h4
      refine run_exit rfl ?_
      exact run_cont hk2 x1 ⟨by first | omega | assumption | (simp only [List.length_append, List.length_cons, List.length_nil, List.length_replicate, put_len] at * <;> omega), by first | omega | assumption | (simp only [List.length_append, List.length_cons, List.length_nil, List.length_replicate, put_len] at * <;> omega), by first | omega | assumption | (simp only [List.length_append, List.length_cons, List.length_nil, List.length_replicate, put_len] at * <;> omega)⟩ (sub_of [] trivial trivial rfl)

/-! ### slices_Contains_int64 -/
theorem c_slices_Contains_int64 (s_ : List Int) (v : Int) : Con Tryd.prog 86 [.sl 1 (s_.map (V.int .i64)), .int .i64 v] [] (.bool (m_slices_Contains_int64 s_ v)) ([]) := by
  refine con_intro (out := fun r : Bool => ((.bool r : V), ([] : List (Nat × Option O)))) (r := (m_slices_Contains_int64 s_ v)) Tryd.func86 rfl Tryd.ntmps86 rfl ?_
  refine run_fact (t := 0) rfl fun hl => ?_
  have l1 := hl; clear hl; simp only [List.length_map] at l1
  refine run_seq ?_
  refine run_region (q_assign .n (.c rfl) rfl <|
      Lex.nil) ?_
  refine run_seq ?_
  refine run_region (q_move .n (.t rfl) rfl <|
      q_move .n (.t rfl) rfl <|
      q_call0 (full := false) .n .f en_98 (.cons (.t rfl) (.cons (.t rfl) .nil)) (.cons (.b (.a (.same rfl))) (.cons (.b (.a (.same rfl))) .nil)) (fun hg => c_slices_Index_int64 s_ v) rfl (fun h => Bool.noConfusion h) rfl <|
      q_int .n (.t rfl) (.c rfl) rfl rfl <|
      q_assign .n (.t rfl) rfl <|
      Lex.nil) ?_
  exact run_ret [] (.cons (.t rfl rfl) .nil) rfl trivial rfl

/-! ### impl_commonAncestor -/
theorem c_impl_commonAncestor (list : List gVersion) (a : Int) (b : Int) (hp1 : HV list) (hp2 : 0 ≤ a ∧ a ≤ list.length) (hp3 : 0 ≤ b ∧ b ≤ list.length) : Con Tryd.prog 63 [.sl 4 (list.map gVersion.v), .int .i64 a, .int .i64 b] [] (.int .i64 (m_impl_commonAncestor list a b)) ([]) := by
  refine con_intro (out := fun r : Int => ((.int .i64 r : V), ([] : List (Nat × Option O)))) (r := (m_impl_commonAncestor list a b)) Tryd.func63 rfl Tryd.ntmps63 rfl ?_
  have hq1 := line_len hp1 hp2
  refine run_fact (t := 0) rfl fun hl => ?_
  have l1 := hl; clear hl; simp only [List.length_map] at l1
  refine run_seq ?_
  refine run_region (q_assign .n (.c rfl) rfl <|
      Lex.nil) ?_
  refine run_seq ?_
  refine run_region (q_move .n (.t rfl) rfl <|
      q_move .n (.t rfl) rfl <|
      q_callM (full := false) [] [(100, 200)] .n rfl .f en_60 (.cons (.t rfl) (.cons (.t rfl) .nil)) (.cons (.b (.a (.same rfl))) (.cons (.b (.a (.same rfl))) .nil)) (c_impl_lineOf list b (by first | omega | assumption | (simp only [List.length_append, List.length_cons, List.length_nil, List.length_replicate, put_len] at * <;> omega)) (by first | omega | assumption | (simp only [List.length_append, List.length_cons, List.length_nil, List.length_replicate, put_len] at * <;> omega))) trivial rfl rfl (fun h => Bool.noConfusion h) (fun h => Bool.noConfusion h) rfl <|
      q_assign .n (.t rfl) rfl <|
      Lex.nil) ?_
  refine run_seq ?_
  refine run_seq ?_
  refine run_region (q_move .n (.t rfl) rfl <|
      q_move .n (.t rfl) rfl <|
      q_callM (full := false) [] [(100, 201)] .n rfl .f en_60 (.cons (.t rfl) (.cons (.t rfl) .nil)) (.cons (.b (.a (.same rfl))) (.cons (.b (.a (.same rfl))) .nil)) (c_impl_lineOf list a (by first | omega | assumption | (simp only [List.length_append, List.length_cons, List.length_nil, List.length_replicate, put_len] at * <;> omega)) (by first | omega | assumption | (simp only [List.length_append, List.length_cons, List.length_nil, List.length_replicate, put_len] at * <;> omega))) trivial rfl rfl (fun h => Bool.noConfusion h) (fun h => Bool.noConfusion h) rfl <|
      q_len .n (.t rfl) rfl rfl ss_45 rfl <|
      q_move .n (.c rfl) rfl <|
      Lex.nil) ?_
  refine run_block ?_
  refine run_LOOP (m_impl_commonAncestor_b1 list a b) _ _ _ rfl (fun (x1 : Int) => 0 ≤ x1 ∧ x1 ≤ ((m_impl_lineOf list a).length : Int)) (fun x1 => 0 ≤ x1 ∧ x1 ≤ ((m_impl_lineOf list a).length : Int) ∧ ((m_impl_lineOf list a).length : Int) ≤ x1) (fun x1 => (((m_impl_lineOf list a).length : Int) - x1 : Int).toNat) (fun x1 => ⟨[(7, some (true, .os 200 (m_impl_lineOf list b).length)), (15, some (true, .os 201 (m_impl_lineOf list a).length)), (16, some (true, .int .i64 ((m_impl_lineOf list a).length : Int))), (17, some (true, .int .i64 x1))], [(200, some (.row 2 1 ((m_impl_lineOf list b).map (V.int .i64)))), (201, some (.row 2 1 ((m_impl_lineOf list a).map (V.int .i64))))]⟩) (fun x1 => ⟨[], []⟩) ⟨by first | omega | assumption | (simp only [List.length_append, List.length_cons, List.length_nil, List.length_replicate, put_len] at * <;> omega), by first | omega | assumption | (simp only [List.length_append, List.length_cons, List.length_nil, List.length_replicate, put_len] at * <;> omega)⟩ (by first | omega | assumption | (simp only [List.length_append, List.length_cons, List.length_nil, List.length_replicate, put_len] at * <;> omega)) (sub_of [] ⟨rfl, rfl, rfl, rfl, trivial⟩ ⟨rfl, rfl, trivial⟩ rfl) ?_ ?_
  · intro x1 i6
    obtain ⟨e7, e8, e9⟩ := i6
    try dsimp only at *
    refine run_seq ?_
    refine run_region (q_assign .n (.c rfl) rfl <|
        Lex.nil) ?_
    exact run_ret [] (.cons (.t rfl rfl) .nil) rfl trivial rfl
  · intro rec1 k1 hk2 x1 i3
    obtain ⟨e10, e11⟩ := i3
    try dsimp only at *
    refine run_seq ?_
    refine run_region (q_int .n (.t rfl) (.t rfl) rfl rfl <|
        Lex.nil) ?_
    refine run_seq ?_
    refine run_cond (.t rfl) rfl (fun h4 => ?_) (fun h4 => ?_)
    · try simp only [Bool.and_eq_true, Bool.or_eq_true, Bool.not_eq_true', Bool.and_eq_false_iff, Bool.or_eq_false_iff, Bool.not_eq_false', decide_eq_true_eq, decide_eq_false_iff_not, beq_iff_eq, bne_iff_ne, beq_eq_false_iff_ne, bne_eq_false_iff_eq, Bool.true_and, ne_eq, Decidable.not_not, Int.not_lt, Int.not_le, Nat.not_lt, Nat.not_le, strB_nil, strB_nil', strB_nnil, strB_nnil'] at h4
      refine run_skip ?_
      refine run_seq ?_
      refine run_block ?_
      refine run_seq ?_
      refine run_region (q_idx_ow .n (.t rfl) (.t rfl) sl_45 (fun _ => by first | omega | assumption | (simp only [List.length_append, List.length_cons, List.length_nil, List.length_replicate, put_len] at * <;> omega)) rfl <|
          q_ld1_row .n (.t rfl) rfl (fun _ => by first | omega | assumption | (simp only [List.length_append, List.length_cons, List.length_nil, List.length_replicate, put_len] at * <;> omega)) rfl rfl rfl ic_2 rfl <|
          q_assign .n (.t rfl) rfl <|
          Lex.nil) ?_
      refine run_seq ?_
      refine run_region (q_move .n (.t rfl) rfl <|
          q_move .n (.t rfl) rfl <|
          q_call0 (full := true) .n .f en_86 (.cons (.t rfl) (.cons (.t rfl) .nil)) (.cons (.b (.a (.own rfl rfl rfl (take_all (by simp only [len_map, put_len] <;> rfl)) (by simp only [len_map, put_len] <;> rfl)))) (.cons (.b (.a (.same rfl))) .nil)) (fun hg => c_slices_Contains_int64 (m_impl_lineOf list b) (at' (m_impl_lineOf list a) x1)) rfl (fun _ => rfl) rfl <|
          Lex.nil) ?_
      refine run_cond (.t rfl) rfl (fun h5 => ?_) (fun h5 => ?_)
      · try simp only [Bool.and_eq_true, Bool.or_eq_true, Bool.not_eq_true', Bool.and_eq_false_iff, Bool.or_eq_false_iff, Bool.not_eq_false', decide_eq_true_eq, decide_eq_false_iff_not, beq_iff_eq, bne_iff_ne, beq_eq_false_iff_ne, bne_eq_false_iff_eq, Bool.true_and, ne_eq, Decidable.not_not, Int.not_lt, Int.not_le, Nat.not_lt, Nat.not_le, strB_nil, strB_nil', strB_nnil, strB_nnil'] at h5
        refine run_seq ?_
        refine run_region (q_move .n (.t rfl) rfl <|
            q_assign .n (.t rfl) rfl <|
            Lex.nil) ?_
        exact run_ret [] (.cons (.t rfl rfl) .nil) rfl trivial rfl
      · try simp only [Bool.and_eq_true, Bool.or_eq_true, Bool.not_eq_true', Bool.and_eq_false_iff, Bool.or_eq_false_iff, Bool.not_eq_false', decide_eq_true_eq, decide_eq_false_iff_not, beq_iff_eq, bne_iff_ne, beq_eq_false_iff_ne, bne_eq_false_iff_eq, Bool.true_and, ne_eq, Decidable.not_not, Int.not_lt, Int.not_le, Nat.not_lt, Nat.not_le, strB_nil, strB_nil', strB_nnil, strB_nnil'] at h5
        refine run_skip ?_
        refine run_endB ?_
        refine run_region (q_add .n (.t rfl) (.c rfl) (fun _ => by first | omega | assumption | (simp only [List.length_append, List.length_cons, List.length_nil, List.length_replicate, put_len] at * <;> omega)) rfl <|
            q_move .n (.t rfl) rfl <|
            Lex.nil) ?_
        exact run_again (x1 + 1) ⟨by first | omega | assumption | (simp only [List.length_append, List.length_cons, List.length_nil, List.length_replicate, put_len] at * <;> omega), by first | omega | assumption | (simp only [List.length_append, List.length_cons, List.length_nil, List.length_replicate, put_len] at * <;> omega)⟩ (by first | omega | assumption | (simp only [List.length_append, List.length_cons, List.length_nil, List.length_replicate, put_len] at * <;> omega)) (sub_of [] ⟨rfl, rfl, rfl, rfl, trivial⟩ ⟨rfl, rfl, trivial⟩ rfl)
    · try simp only [Bool.and_eq_true, Bool.or_eq_true, Bool.not_eq_true', Bool.and_eq_false_iff, Bool.or_eq_false_iff, Bool.not_eq_false', decide_eq_true_eq, decide_eq_false_iff_not, beq_iff_eq, bne_iff_ne, beq_eq_false_iff_ne, bne_eq_false_iff_eq, Bool.true_and, ne_eq, Decidable.not_not, Int.not_lt, Int.not_le, Nat.not_lt, Nat.not_le, strB_nil, strB_nil', strB_nnil, strB_nnil'] at h4
      refine run_exit rfl ?_
      exact run_cont hk2 x1 ⟨by first | omega | assumption | (simp only [List.length_append, List.length_cons, List.length_nil, List.length_replicate, put_len] at * <;> omega), by first | omega | assumption | (simp only [List.length_append, List.length_cons, List.length_nil, List.length_replicate, put_len] at * <;> omega), by first | omega | assumption | (simp only [List.length_append, List.length_cons, List.length_nil, List.length_replicate, put_len] at * <;> omega)⟩ (sub_of [] trivial trivial rfl)

/-! ### impl_CommonAncestor -/
theorem c_impl_CommonAncestor (list : List gVersion) (a : Int) (b : Int) : Con Tryd.prog 23 [.sl 4 (list.map gVersion.v), .int .i64 a, .int .i64 b] [] (.tup [.int .i64 (m_impl_CommonAncestor list a b).1, .int .i64 (m_impl_CommonAncestor list a b).2]) ([]) := by
  refine con_intro (out := fun r : Int × Int => ((.tup [.int .i64 r.1, .int .i64 r.2] : V), ([] : List (Nat × Option O)))) (r := (m_impl_CommonAncestor list a b)) Tryd.func23 rfl Tryd.ntmps23 rfl ?_
  refine run_fact (t := 0) rfl fun hl => ?_
  have l1 := hl; clear hl; simp only [List.length_map] at l1
  refine run_seq ?_
  refine run_region (q_assign .n (.c rfl) rfl <|
      q_assign .n (.c rfl) rfl <|
      Lex.nil) ?_
  refine run_seq ?_
  refine run_seq ?_
  refine run_region (q_move .n (.t rfl) rfl <|
      q_move .n (.t rfl) rfl <|
      q_move .n (.t rfl) rfl <|
      q_bslicem ([a, b] : List Int) (f := V.int .i64) (l := 200) .n rfl rfl (.cons (.t rfl) (.cons (.t rfl) .nil)) rfl si_45 zv_2 rfl rfl rfl <|
      q_call0 (full := true) .n .f en_34 (.cons (.t rfl) (.cons (.t rfl) .nil)) (.cons (.b (.a (.same rfl))) (.cons (.b (.a (.own rfl rfl rfl (take_all (by simp only [len_map, put_len] <;> rfl)) (by simp only [len_map, put_len] <;> rfl)))) .nil)) (fun hg => c_impl_versionsCode list ([a, b] : List Int)) rfl (fun _ => rfl) rfl <|
      q_assign .n (.t rfl) rfl <|
      Lex.nil) ?_
  refine run_seq ?_
  refine run_region (q_move .n (.t rfl) rfl <|
      q_int .n (.t rfl) (.c rfl) rfl rfl <|
      Lex.nil) ?_
  refine run_cond (.t rfl) rfl (fun h2 => ?_) (fun h2 => ?_)
  · try simp only [Bool.and_eq_true, Bool.or_eq_true, Bool.not_eq_true', Bool.and_eq_false_iff, Bool.or_eq_false_iff, Bool.not_eq_false', decide_eq_true_eq, decide_eq_false_iff_not, beq_iff_eq, bne_iff_ne, beq_eq_false_iff_ne, bne_eq_false_iff_eq, Bool.true_and, ne_eq, Decidable.not_not, Int.not_lt, Int.not_le, Nat.not_lt, Nat.not_le, strB_nil, strB_nil', strB_nnil, strB_nnil'] at h2
    try with_reducible have hf0h2 := vcodeG_len h2
    try with_reducible have hf1h2 := vcodeG_len h2.1
    try with_reducible have hf2h2 := vcodeG_len h2.2
    try with_reducible have hf3h2 := vcodeG_len h2.1.1
    try with_reducible have hf4h2 := vcodeG_len h2.1.2
    try with_reducible have hf5h2 := vcodeG_len h2.2.1
    try with_reducible have hf6h2 := vcodeG_len h2.2.2
    try with_reducible have hf7h2 := vcodeG_hv h2
    try with_reducible have hf8h2 := vcodeG_hv h2.1
    try with_reducible have hf9h2 := vcodeG_hv h2.2
    try with_reducible have hf10h2 := vcodeG_hv h2.1.1
    try with_reducible have hf11h2 := vcodeG_hv h2.1.2
    try with_reducible have hf12h2 := vcodeG_hv h2.2.1
    try with_reducible have hf13h2 := vcodeG_hv h2.2.2
    refine run_seq ?_
    refine run_region (q_move .n (.t rfl) rfl <|
        q_assign .n (.c rfl) rfl <|
        q_assign .n (.t rfl) rfl <|
        Lex.nil) ?_
    exact run_ret [] (.cons (.t rfl rfl) (.cons (.t rfl rfl) .nil)) rfl trivial rfl
  · try simp only [Bool.and_eq_true, Bool.or_eq_true, Bool.not_eq_true', Bool.and_eq_false_iff, Bool.or_eq_false_iff, Bool.not_eq_false', decide_eq_true_eq, decide_eq_false_iff_not, beq_iff_eq, bne_iff_ne, beq_eq_false_iff_ne, bne_eq_false_iff_eq, Bool.true_and, ne_eq, Decidable.not_not, Int.not_lt, Int.not_le, Nat.not_lt, Nat.not_le, strB_nil, strB_nil', strB_nnil, strB_nnil'] at h2
    try with_reducible have hf0h2 := vcodeG_len h2
    try with_reducible have hf1h2 := vcodeG_len h2.1
    try with_reducible have hf2h2 := vcodeG_len h2.2
    try with_reducible have hf3h2 := vcodeG_len h2.1.1
    try with_reducible have hf4h2 := vcodeG_len h2.1.2
    try with_reducible have hf5h2 := vcodeG_len h2.2.1
    try with_reducible have hf6h2 := vcodeG_len h2.2.2
    try with_reducible have hf7h2 := vcodeG_hv h2
    try with_reducible have hf8h2 := vcodeG_hv h2.1
    try with_reducible have hf9h2 := vcodeG_hv h2.2
    try with_reducible have hf10h2 := vcodeG_hv h2.1.1
    try with_reducible have hf11h2 := vcodeG_hv h2.1.2
    try with_reducible have hf12h2 := vcodeG_hv h2.2.1
    try with_reducible have hf13h2 := vcodeG_hv h2.2.2
    refine run_skip ?_
    refine run_seq ?_
    refine run_region (q_move .n (.t rfl) rfl <|
        q_move .n (.t rfl) rfl <|
        q_move .n (.t rfl) rfl <|
        q_call0 (full := false) .n .f en_63 (.cons (.t rfl) (.cons (.t rfl) (.cons (.t rfl) .nil))) (.cons (.b (.a (.same rfl))) (.cons (.b (.a (.same rfl))) (.cons (.b (.a (.same rfl))) .nil))) (fun hg => c_impl_commonAncestor list a b (by first | omega | assumption | (simp only [List.length_append, List.length_cons, List.length_nil, List.length_replicate, put_len] at * <;> omega) | (((have hq := vcode_ab (by assumption : m_impl_versionsCode list ([a, b] : List Int) = 0); omega)); done)) (by first | omega | assumption | (simp only [List.length_append, List.length_cons, List.length_nil, List.length_replicate, put_len] at * <;> omega) | (((have hq := vcode_ab (by assumption : m_impl_versionsCode list ([a, b] : List Int) = 0); omega)); done)) (by first | omega | assumption | (simp only [List.length_append, List.length_cons, List.length_nil, List.length_replicate, put_len] at * <;> omega) | (((have hq := vcode_ab (by assumption : m_impl_versionsCode list ([a, b] : List Int) = 0); omega)); done))) rfl (fun h => Bool.noConfusion h) rfl <|
        q_assign .n (.t rfl) rfl <|
        q_assign .n (.c rfl) rfl <|
        Lex.nil) ?_
    exact run_ret [] (.cons (.t rfl rfl) (.cons (.t rfl rfl) .nil)) rfl trivial rfl

/-! ### laws_r8Has -/
theorem c_laws_r8Has (list : List Int) (n_ : Int) : Con Tryd.prog 24 [.sl 1 (list.map (V.int .i64)), .int .i64 n_] [] (.bool (m_laws_r8Has list n_)) ([]) := by
  refine con_intro (out := fun r : Bool => ((.bool r : V), ([] : List (Nat × Option O)))) (r := (m_laws_r8Has list n_)) Tryd.func24 rfl Tryd.ntmps24 rfl ?_
  refine run_fact (t := 0) rfl fun hl => ?_
  have l1 := hl; clear hl; simp only [List.length_map] at l1
  refine run_seq ?_
  refine run_region (q_assign .n (.c rfl) rfl <|
      Lex.nil) ?_
  refine run_seq ?_
  refine run_seq ?_
  refine run_region (q_assign .n (.c rfl) rfl <|
      Lex.nil) ?_
  refine run_block ?_
  refine run_LOOP (m_laws_r8Has_b1 list n_) _ _ _ rfl (fun (x1 : Int) => 0 ≤ x1 ∧ x1 ≤ (list.length : Int)) (fun x1 => 0 ≤ x1 ∧ x1 ≤ (list.length : Int) ∧ (list.length : Int) ≤ x1) (fun x1 => ((list.length : Int) - x1 : Int).toNat) (fun x1 => ⟨[(0, some (true, .sl 1 (list.map (V.int .i64)))), (1, some (true, .int .i64 n_)), (5, some (true, .int .i64 x1))], []⟩) (fun x1 => ⟨[], []⟩) ⟨by first | omega | assumption | (simp only [List.length_append, List.length_cons, List.length_nil, List.length_replicate, put_len] at * <;> omega), by first | omega | assumption | (simp only [List.length_append, List.length_cons, List.length_nil, List.length_replicate, put_len] at * <;> omega)⟩ (by first | omega | assumption | (simp only [List.length_append, List.length_cons, List.length_nil, List.length_replicate, put_len] at * <;> omega)) (sub_of [] ⟨rfl, rfl, rfl, trivial⟩ trivial rfl) ?_ ?_
  · intro x1 i6
    obtain ⟨e7, e8, e9⟩ := i6
    try dsimp only at *
    refine run_seq ?_
    refine run_region (q_assign .n (.c rfl) rfl <|
        Lex.nil) ?_
    exact run_ret [] (.cons (.t rfl rfl) .nil) rfl trivial rfl
  · intro rec1 k1 hk2 x1 i3
    obtain ⟨e10, e11⟩ := i3
    try dsimp only at *
    refine run_seq ?_
    refine run_seq ?_
    refine run_region (q_move .n (.t rfl) rfl <|
        q_move .n (.t rfl) rfl <|
        q_len .n (.t rfl) rfl len_map ss_45 rfl <|
        q_int .n (.t rfl) (.t rfl) rfl rfl <|
        Lex.nil) ?_
    refine run_cond (.t rfl) rfl (fun h4 => ?_) (fun h4 => ?_)
    · try simp only [Bool.and_eq_true, Bool.or_eq_true, Bool.not_eq_true', Bool.and_eq_false_iff, Bool.or_eq_false_iff, Bool.not_eq_false', decide_eq_true_eq, decide_eq_false_iff_not, beq_iff_eq, bne_iff_ne, beq_eq_false_iff_ne, bne_eq_false_iff_eq, Bool.true_and, ne_eq, Decidable.not_not, Int.not_lt, Int.not_le, Nat.not_lt, Nat.not_le, strB_nil, strB_nil', strB_nnil, strB_nnil'] at h4
      refine run_skip ?_
      refine run_seq ?_
      refine run_block ?_
      refine run_seq ?_
      refine run_region (q_move .n (.t rfl) rfl <|
          q_move .n (.t rfl) rfl <|
          q_idx_rm .n (.t rfl) (.t rfl) sl_45 (fun _ => by first | omega | assumption | (simp only [List.length_append, List.length_cons, List.length_nil, List.length_replicate, put_len] at * <;> omega)) rfl <|
          q_ld1_ro .n (.t rfl) rfl ic_2 rfl <|
          q_move .n (.t rfl) rfl <|
          q_int .n (.t rfl) (.t rfl) rfl rfl <|
          Lex.nil) ?_
      refine run_cond (.t rfl) rfl (fun h5 => ?_) (fun h5 => ?_)
      · try simp only [Bool.and_eq_true, Bool.or_eq_true, Bool.not_eq_true', Bool.and_eq_false_iff, Bool.or_eq_false_iff, Bool.not_eq_false', decide_eq_true_eq, decide_eq_false_iff_not, beq_iff_eq, bne_iff_ne, beq_eq_false_iff_ne, bne_eq_false_iff_eq, Bool.true_and, ne_eq, Decidable.not_not, Int.not_lt, Int.not_le, Nat.not_lt, Nat.not_le, strB_nil, strB_nil', strB_nnil, strB_nnil'] at h5
        refine run_seq ?_
        refine run_region (q_assign .n (.c rfl) rfl <|
            Lex.nil) ?_
        exact run_ret [] (.cons (.t rfl rfl) .nil) rfl trivial rfl
      · try simp only [Bool.and_eq_true, Bool.or_eq_true, Bool.not_eq_true', Bool.and_eq_false_iff, Bool.or_eq_false_iff, Bool.not_eq_false', decide_eq_true_eq, decide_eq_false_iff_not, beq_iff_eq, bne_iff_ne, beq_eq_false_iff_ne, bne_eq_false_iff_eq, Bool.true_and, ne_eq, Decidable.not_not, Int.not_lt, Int.not_le, Nat.not_lt, Nat.not_le, strB_nil, strB_nil', strB_nnil, strB_nnil'] at h5
        refine run_skip ?_
        refine run_endB ?_
        refine run_region (q_move .n (.t rfl) rfl <|
            q_add .n (.t rfl) (.c rfl) (fun _ => by first | omega | assumption | (simp only [List.length_append, List.length_cons, List.length_nil, List.length_replicate, put_len] at * <;> omega)) rfl <|
            q_assign .n (.t rfl) rfl <|
            Lex.nil) ?_
        exact run_again (x1 + 1) ⟨by first | omega | assumption | (simp only [List.length_append, List.length_cons, List.length_nil, List.length_replicate, put_len] at * <;> omega), by first | omega | assumption | (simp only [List.length_append, List.length_cons, List.length_nil, List.length_replicate, put_len] at * <;> omega)⟩ (by first | omega | assumption | (simp only [List.length_append, List.length_cons, List.length_nil, List.length_replicate, put_len] at * <;> omega)) (sub_of [] ⟨rfl, rfl, rfl, trivial⟩ trivial rfl)
    · try simp only [Bool.and_eq_true, Bool.or_eq_true, Bool.not_eq_true', Bool.and_eq_false_iff, Bool.or_eq_false_iff, Bool.not_eq_false', decide_eq_true_eq, decide_eq_false_iff_not, beq_iff_eq, bne_iff_ne, beq_eq_false_iff_ne, bne_eq_false_iff_eq, Bool.true_and, ne_eq, Decidable.not_not, Int.not_lt, Int.not_le, Nat.not_lt, Nat.not_le, strB_nil, strB_nil', strB_nnil, strB_nnil'] at h4
      refine run_exit rfl ?_
      exact run_cont hk2 x1 ⟨by first | omega | assumption | (simp only [List.length_append, List.length_cons, List.length_nil, List.length_replicate, put_len] at * <;> omega), by first | omega | assumption | (simp only [List.length_append, List.length_cons, List.length_nil, List.length_replicate, put_len] at * <;> omega), by first | omega | assumption | (simp only [List.length_append, List.length_cons, List.length_nil, List.length_replicate, put_len] at * <;> omega)⟩ (sub_of [] trivial trivial rfl)

/-! ### spec_l00In -/
theorem c_spec_l00In (n_ : Int) (low : Int) (high : Int) : Con Tryd.prog 65 [.int .i64 n_, .int .i64 low, .int .i64 high] [] (.bool (m_spec_l00In n_ low high)) ([]) := by
  refine con_intro (out := fun r : Bool => ((.bool r : V), ([] : List (Nat × Option O)))) (r := (m_spec_l00In n_ low high)) Tryd.func65 rfl Tryd.ntmps65 rfl ?_
  refine run_seq ?_
  refine run_region (q_assign .n (.c rfl) rfl <|
      Lex.nil) ?_
  refine run_seq ?_
  refine run_region (q_move .n (.t rfl) rfl <|
      q_move .n (.t rfl) rfl <|
      q_int .n (.t rfl) (.t rfl) rfl rfl <|
      q_move .n (.t rfl) rfl <|
      q_move (.t rfl rfl) (.t rfl) rfl <|
      q_move (.t rfl rfl) (.t rfl) rfl <|
      q_int (.t rfl rfl) (.u rfl id) (.u rfl id) rfl rfl <|
      q_and .n (.t rfl) (.u rfl id) rfl <|
      q_assign .n (.t rfl) rfl <|
      Lex.nil) ?_
  exact run_ret [] (.cons (.t rfl rfl) .nil) rfl trivial rfl

/-! ### spec_l27Memo -/
theorem c_spec_l27Memo (s_ : List UInt8) (hp1 : s_.length ≤ 1048576) : Con Tryd.prog 66 [.str s_] [] (.bool (m_spec_l27Memo s_)) ([]) := by
  refine con_intro (out := fun r : Bool => ((.bool r : V), ([] : List (Nat × Option O)))) (r := (m_spec_l27Memo s_)) Tryd.func66 rfl Tryd.ntmps66 rfl ?_
  refine run_seq ?_
  refine run_region (q_assign .n (.c rfl) rfl <|
      Lex.nil) ?_
  refine run_seq ?_
  refine run_seq ?_
  refine run_region (q_assign .n (.c rfl) rfl <|
      Lex.nil) ?_
  refine run_block ?_
  refine run_LOOP (m_spec_l27Memo_b1 s_) _ _ _ rfl (fun (x1 : Int) => 0 ≤ x1 ∧ x1 ≤ (s_.length : Int)) (fun x1 => 0 ≤ x1 ∧ x1 ≤ (s_.length : Int) ∧ (s_.length : Int) ≤ x1) (fun x1 => ((s_.length : Int) - x1 : Int).toNat) (fun x1 => ⟨[(0, some (true, .str s_)), (3, some (true, .int .i64 x1))], []⟩) (fun x1 => ⟨[(0, some (true, .str s_))], []⟩) ⟨by first | omega | assumption | (simp only [List.length_append, List.length_cons, List.length_nil, List.length_replicate, put_len] at * <;> omega), by first | omega | assumption | (simp only [List.length_append, List.length_cons, List.length_nil, List.length_replicate, put_len] at * <;> omega)⟩ (by first | omega | assumption | (simp only [List.length_append, List.length_cons, List.length_nil, List.length_replicate, put_len] at * <;> omega)) (sub_of [] ⟨rfl, rfl, trivial⟩ trivial rfl) ?_ ?_
  · intro x1 i5
    obtain ⟨e6, e7, e8⟩ := i5
    try dsimp only at *
    refine run_seq ?_
    refine run_region (q_move .n (.t rfl) rfl <|
        q_len .n (.t rfl) rfl rfl st_9 rfl <|
        q_int .n (.t rfl) (.c rfl) rfl rfl <|
        q_assign .n (.t rfl) rfl <|
        Lex.nil) ?_
    exact run_ret [] (.cons (.t rfl rfl) .nil) rfl trivial rfl
  · intro rec1 k1 hk1 x1 i2
    obtain ⟨e9, e10⟩ := i2
    try dsimp only at *
    refine run_seq ?_
    refine run_seq ?_
    refine run_region (q_move .n (.t rfl) rfl <|
        q_move .n (.t rfl) rfl <|
        q_len .n (.t rfl) rfl rfl st_9 rfl <|
        q_int .n (.t rfl) (.t rfl) rfl rfl <|
        Lex.nil) ?_
    refine run_cond (.t rfl) rfl (fun h3 => ?_) (fun h3 => ?_)
    · try simp only [Bool.and_eq_true, Bool.or_eq_true, Bool.not_eq_true', Bool.and_eq_false_iff, Bool.or_eq_false_iff, Bool.not_eq_false', decide_eq_true_eq, decide_eq_false_iff_not, beq_iff_eq, bne_iff_ne, beq_eq_false_iff_ne, bne_eq_false_iff_eq, Bool.true_and, ne_eq, Decidable.not_not, Int.not_lt, Int.not_le, Nat.not_lt, Nat.not_le, strB_nil, strB_nil', strB_nnil, strB_nnil'] at h3
      refine run_skip ?_
      refine run_seq ?_
      refine run_block ?_
      refine run_seq ?_
      refine run_region (q_move .n (.t rfl) rfl <|
          q_move .n (.t rfl) rfl <|
          q_strat .n (.t rfl) (.t rfl) st_9 (fun _ => by first | omega | assumption | (simp only [List.length_append, List.length_cons, List.length_nil, List.length_replicate, put_len] at * <;> omega)) rfl <|
          q_int .n (.t rfl) (.c rfl) rfl rfl <|
          q_move .n (.t rfl) rfl <|
          q_move (.f rfl rfl) (.t rfl) rfl <|
          q_move (.f rfl rfl) (.t rfl) rfl <|
          q_strat (.f rfl rfl) (.u rfl id) (.u rfl id) st_9 (fun hg => by simp only [Bool.and_eq_true, Bool.or_eq_true, Bool.not_eq_true', Bool.and_eq_false_iff, Bool.or_eq_false_iff, Bool.not_eq_false', decide_eq_true_eq, decide_eq_false_iff_not, beq_iff_eq, bne_iff_ne, beq_eq_false_iff_ne, bne_eq_false_iff_eq, Bool.true_and, ne_eq, Decidable.not_not, Int.not_lt, Int.not_le, Nat.not_lt, Nat.not_le, strB_nil, strB_nil', strB_nnil, strB_nnil'] at hg; first | omega | assumption | (simp only [List.length_append, List.length_cons, List.length_nil, List.length_replicate, put_len] at * <;> omega)) rfl <|
          q_int (.f rfl rfl) (.u rfl id) (.c rfl) rfl rfl <|
          q_or .n (.t rfl) (.u rfl id) rfl <|
          Lex.nil) ?_
      refine run_cond (.t rfl) rfl (fun h4 => ?_) (fun h4 => ?_)
      · try simp only [Bool.and_eq_true, Bool.or_eq_true, Bool.not_eq_true', Bool.and_eq_false_iff, Bool.or_eq_false_iff, Bool.not_eq_false', decide_eq_true_eq, decide_eq_false_iff_not, beq_iff_eq, bne_iff_ne, beq_eq_false_iff_ne, bne_eq_false_iff_eq, Bool.true_and, ne_eq, Decidable.not_not, Int.not_lt, Int.not_le, Nat.not_lt, Nat.not_le, strB_nil, strB_nil', strB_nnil, strB_nnil'] at h4
        refine run_seq ?_
        refine run_region (q_assign .n (.c rfl) rfl <|
            Lex.nil) ?_
        exact run_ret [] (.cons (.t rfl rfl) .nil) rfl trivial rfl
      · try simp only [Bool.and_eq_true, Bool.or_eq_true, Bool.not_eq_true', Bool.and_eq_false_iff, Bool.or_eq_false_iff, Bool.not_eq_false', decide_eq_true_eq, decide_eq_false_iff_not, beq_iff_eq, bne_iff_ne, beq_eq_false_iff_ne, bne_eq_false_iff_eq, Bool.true_and, ne_eq, Decidable.not_not, Int.not_lt, Int.not_le, Nat.not_lt, Nat.not_le, strB_nil, strB_nil', strB_nnil, strB_nnil'] at h4
        refine run_skip ?_
        refine run_endB ?_
        refine run_region (q_move .n (.t rfl) rfl <|
            q_add .n (.t rfl) (.c rfl) (fun _ => by first | omega | assumption | (simp only [List.length_append, List.length_cons, List.length_nil, List.length_replicate, put_len] at * <;> omega)) rfl <|
            q_assign .n (.t rfl) rfl <|
            Lex.nil) ?_
        exact run_again (x1 + 1) ⟨by first | omega | assumption | (simp only [List.length_append, List.length_cons, List.length_nil, List.length_replicate, put_len] at * <;> omega), by first | omega | assumption | (simp only [List.length_append, List.length_cons, List.length_nil, List.length_replicate, put_len] at * <;> omega)⟩ (by first | omega | assumption | (simp only [List.length_append, List.length_cons, List.length_nil, List.length_replicate, put_len] at * <;> omega)) (sub_of [] ⟨rfl, rfl, trivial⟩ trivial rfl)
    · try simp only [Bool.and_eq_true, Bool.or_eq_true, Bool.not_eq_true', Bool.and_eq_false_iff, Bool.or_eq_false_iff, Bool.not_eq_false', decide_eq_true_eq, decide_eq_false_iff_not, beq_iff_eq, bne_iff_ne, beq_eq_false_iff_ne, bne_eq_false_iff_eq, Bool.true_and, ne_eq, Decidable.not_not, Int.not_lt, Int.not_le, Nat.not_lt, Nat.not_le, strB_nil, strB_nil', strB_nnil, strB_nnil'] at h3
      refine run_exit rfl ?_
      exact run_cont hk1 x1 ⟨by first | omega | assumption | (simp only [List.length_append, List.length_cons, List.length_nil, List.length_replicate, put_len] at * <;> omega), by first | omega | assumption | (simp only [List.length_append, List.length_cons, List.length_nil, List.length_replicate, put_len] at * <;> omega), by first | omega | assumption | (simp only [List.length_append, List.length_cons, List.length_nil, List.length_replicate, put_len] at * <;> omega)⟩ (sub_of [] ⟨rfl, trivial⟩ trivial rfl)

/-! ### spec_l01Small -/
theorem c_spec_l01Small (c_ : Int) : Con Tryd.prog 106 [.int .u8 c_] [] (.bool (m_spec_l01Small c_)) ([]) := by
  refine con_intro (out := fun r : Bool => ((.bool r : V), ([] : List (Nat × Option O)))) (r := (m_spec_l01Small c_)) Tryd.func106 rfl Tryd.ntmps106 rfl ?_
  refine run_seq ?_
  refine run_region (q_assign .n (.c rfl) rfl <|
      Lex.nil) ?_
  refine run_seq ?_
  refine run_region (q_move .n (.t rfl) rfl <|
      q_int .n (.t rfl) (.c rfl) rfl rfl <|
      q_move .n (.t rfl) rfl <|
      q_move (.t rfl rfl) (.t rfl) rfl <|
      q_int (.t rfl rfl) (.u rfl id) (.c rfl) rfl rfl <|
      q_and .n (.t rfl) (.u rfl id) rfl <|
      q_assign .n (.t rfl) rfl <|
      Lex.nil) ?_
  exact run_ret [] (.cons (.t rfl rfl) .nil) rfl trivial rfl

/-! ### spec_l01Digit -/
theorem c_spec_l01Digit (c_ : Int) : Con Tryd.prog 107 [.int .u8 c_] [] (.bool (m_spec_l01Digit c_)) ([]) := by
  refine con_intro (out := fun r : Bool => ((.bool r : V), ([] : List (Nat × Option O)))) (r := (m_spec_l01Digit c_)) Tryd.func107 rfl Tryd.ntmps107 rfl ?_
  refine run_seq ?_
  refine run_region (q_assign .n (.c rfl) rfl <|
      Lex.nil) ?_
  refine run_seq ?_
  refine run_region (q_move .n (.t rfl) rfl <|
      q_int .n (.t rfl) (.c rfl) rfl rfl <|
      q_move .n (.t rfl) rfl <|
      q_move (.t rfl rfl) (.t rfl) rfl <|
      q_int (.t rfl rfl) (.u rfl id) (.c rfl) rfl rfl <|
      q_and .n (.t rfl) (.u rfl id) rfl <|
      q_assign .n (.t rfl) rfl <|
      Lex.nil) ?_
  exact run_ret [] (.cons (.t rfl rfl) .nil) rfl trivial rfl

/-! ### spec_l01Name -/
theorem c_spec_l01Name (s_ : List UInt8) : Con Tryd.prog 99 [.str s_] [] (.bool (m_spec_l01Name s_)) ([]) := by
  refine con_intro (out := fun r : Bool => ((.bool r : V), ([] : List (Nat × Option O)))) (r := (m_spec_l01Name s_)) Tryd.func99 rfl Tryd.ntmps99 rfl ?_
  refine run_seq ?_
  refine run_region (q_assign .n (.c rfl) rfl <|
      Lex.nil) ?_
  refine run_seq ?_
  refine run_seq ?_
  refine run_region (q_move .n (.t rfl) rfl <|
      q_strcmp .n (.t rfl) (.c rfl) rfl rfl <|
      q_move .n (.t rfl) rfl <|
      q_move (.f rfl rfl) (.t rfl) rfl <|
      q_len (.f rfl rfl) (.u rfl id) rfl rfl st_9 rfl <|
      q_int (.f rfl rfl) (.u rfl id) (.c rfl) rfl rfl <|
      q_or .n (.t rfl) (.u rfl id) rfl <|
      q_move .n (.t rfl) rfl <|
      q_move (.f rfl rfl) (.t rfl) rfl <|
      q_strat (.f rfl rfl) (.u rfl id) (.c rfl) st_9 (fun hg => by simp only [Bool.and_eq_true, Bool.or_eq_true, Bool.not_eq_true', Bool.and_eq_false_iff, Bool.or_eq_false_iff, Bool.not_eq_false', decide_eq_true_eq, decide_eq_false_iff_not, beq_iff_eq, bne_iff_ne, beq_eq_false_iff_ne, bne_eq_false_iff_eq, Bool.true_and, ne_eq, Decidable.not_not, Int.not_lt, Int.not_le, Nat.not_lt, Nat.not_le, strB_nil, strB_nil', strB_nnil, strB_nnil'] at hg; first | omega | assumption | (simp only [List.length_append, List.length_cons, List.length_nil, List.length_replicate, put_len] at * <;> omega)) rfl <|
      q_call0 (full := false) (.f rfl rfl) .f en_106 (.cons (.u rfl id) .nil) (.cons (.b (.a (.same rfl))) .nil) (fun hg => c_spec_l01Small (((s_.getD (0 : Int).toNat 0).toNat : Nat) : Int)) rfl (fun h => Bool.noConfusion h) rfl <|
      q_not (.f rfl rfl) (.u rfl id) rfl <|
      q_or .n (.t rfl) (.u rfl id) rfl <|
      Lex.nil) ?_
  refine run_cond (.t rfl) rfl (fun h1 => ?_) (fun h1 => ?_)
  · try simp only [Bool.and_eq_true, Bool.or_eq_true, Bool.not_eq_true', Bool.and_eq_false_iff, Bool.or_eq_false_iff, Bool.not_eq_false', decide_eq_true_eq, decide_eq_false_iff_not, beq_iff_eq, bne_iff_ne, beq_eq_false_iff_ne, bne_eq_false_iff_eq, Bool.true_and, ne_eq, Decidable.not_not, Int.not_lt, Int.not_le, Nat.not_lt, Nat.not_le, strB_nil, strB_nil', strB_nnil, strB_nnil'] at h1
    refine run_seq ?_
    refine run_region (q_assign .n (.c rfl) rfl <|
        Lex.nil) ?_
    exact run_ret [] (.cons (.t rfl rfl) .nil) rfl trivial rfl
  · try simp only [Bool.and_eq_true, Bool.or_eq_true, Bool.not_eq_true', Bool.and_eq_false_iff, Bool.or_eq_false_iff, Bool.not_eq_false', decide_eq_true_eq, decide_eq_false_iff_not, beq_iff_eq, bne_iff_ne, beq_eq_false_iff_ne, bne_eq_false_iff_eq, Bool.true_and, ne_eq, Decidable.not_not, Int.not_lt, Int.not_le, Nat.not_lt, Nat.not_le, strB_nil, strB_nil', strB_nnil, strB_nnil'] at h1
    refine run_skip ?_
    refine run_seq ?_
    refine run_seq ?_
    refine run_region (q_assign .n (.c rfl) rfl <|
        Lex.nil) ?_
    refine run_block ?_
    refine run_LOOP (m_spec_l01Name_b1 s_) _ _ _ rfl (fun (x1 : Int) => 0 ≤ x1 ∧ x1 ≤ (s_.length : Int)) (fun x1 => 0 ≤ x1 ∧ x1 ≤ (s_.length : Int) ∧ (s_.length : Int) ≤ x1) (fun x1 => ((s_.length : Int) - x1 : Int).toNat) (fun x1 => ⟨[(0, some (true, .str s_)), (3, some (true, .int .i64 x1))], []⟩) (fun x1 => ⟨[], []⟩) ⟨by first | omega | assumption | (simp only [List.length_append, List.length_cons, List.length_nil, List.length_replicate, put_len] at * <;> omega), by first | omega | assumption | (simp only [List.length_append, List.length_cons, List.length_nil, List.length_replicate, put_len] at * <;> omega)⟩ (by first | omega | assumption | (simp only [List.length_append, List.length_cons, List.length_nil, List.length_replicate, put_len] at * <;> omega)) (sub_of [] ⟨rfl, rfl, trivial⟩ trivial rfl) ?_ ?_
    · intro x1 i6
      obtain ⟨e7, e8, e9⟩ := i6
      try dsimp only at *
      refine run_seq ?_
      refine run_region (q_assign .n (.c rfl) rfl <|
          Lex.nil) ?_
      exact run_ret [] (.cons (.t rfl rfl) .nil) rfl trivial rfl
    · intro rec1 k1 hk2 x1 i3
      obtain ⟨e10, e11⟩ := i3
      try dsimp only at *
      refine run_seq ?_
      refine run_seq ?_
      refine run_region (q_move .n (.t rfl) rfl <|
          q_move .n (.t rfl) rfl <|
          q_len .n (.t rfl) rfl rfl st_9 rfl <|
          q_int .n (.t rfl) (.t rfl) rfl rfl <|
          Lex.nil) ?_
      refine run_cond (.t rfl) rfl (fun h4 => ?_) (fun h4 => ?_)
      · try simp only [Bool.and_eq_true, Bool.or_eq_true, Bool.not_eq_true', Bool.and_eq_false_iff, Bool.or_eq_false_iff, Bool.not_eq_false', decide_eq_true_eq, decide_eq_false_iff_not, beq_iff_eq, bne_iff_ne, beq_eq_false_iff_ne, bne_eq_false_iff_eq, Bool.true_and, ne_eq, Decidable.not_not, Int.not_lt, Int.not_le, Nat.not_lt, Nat.not_le, strB_nil, strB_nil', strB_nnil, strB_nnil'] at h4
        refine run_skip ?_
        refine run_seq ?_
        refine run_block ?_
        refine run_seq ?_
        refine run_region (q_move .n (.t rfl) rfl <|
            q_move .n (.t rfl) rfl <|
            q_strat .n (.t rfl) (.t rfl) st_9 (fun _ => by first | omega | assumption | (simp only [List.length_append, List.length_cons, List.length_nil, List.length_replicate, put_len] at * <;> omega)) rfl <|
            q_call0 (full := false) .n .f en_106 (.cons (.t rfl) .nil) (.cons (.b (.a (.same rfl))) .nil) (fun hg => c_spec_l01Small (((s_.getD x1.toNat 0).toNat : Nat) : Int)) rfl (fun h => Bool.noConfusion h) rfl <|
            q_not .n (.t rfl) rfl <|
            q_move .n (.t rfl) rfl <|
            q_move (.t rfl rfl) (.t rfl) rfl <|
            q_move (.t rfl rfl) (.t rfl) rfl <|
            q_strat (.t rfl rfl) (.u rfl id) (.u rfl id) st_9 (fun hg => by simp only [Bool.and_eq_true, Bool.or_eq_true, Bool.not_eq_true', Bool.and_eq_false_iff, Bool.or_eq_false_iff, Bool.not_eq_false', decide_eq_true_eq, decide_eq_false_iff_not, beq_iff_eq, bne_iff_ne, beq_eq_false_iff_ne, bne_eq_false_iff_eq, Bool.true_and, ne_eq, Decidable.not_not, Int.not_lt, Int.not_le, Nat.not_lt, Nat.not_le, strB_nil, strB_nil', strB_nnil, strB_nnil'] at hg; first | omega | assumption | (simp only [List.length_append, List.length_cons, List.length_nil, List.length_replicate, put_len] at * <;> omega)) rfl <|
            q_call0 (full := false) (.t rfl rfl) .f en_107 (.cons (.u rfl id) .nil) (.cons (.b (.a (.same rfl))) .nil) (fun hg => c_spec_l01Digit (((s_.getD x1.toNat 0).toNat : Nat) : Int)) rfl (fun h => Bool.noConfusion h) rfl <|
            q_not (.t rfl rfl) (.u rfl id) rfl <|
            q_and .n (.t rfl) (.u rfl id) rfl <|
            Lex.nil) ?_
        refine run_cond (.t rfl) rfl (fun h5 => ?_) (fun h5 => ?_)
        · try simp only [Bool.and_eq_true, Bool.or_eq_true, Bool.not_eq_true', Bool.and_eq_false_iff, Bool.or_eq_false_iff, Bool.not_eq_false', decide_eq_true_eq, decide_eq_false_iff_not, beq_iff_eq, bne_iff_ne, beq_eq_false_iff_ne, bne_eq_false_iff_eq, Bool.true_and, ne_eq, Decidable.not_not, Int.not_lt, Int.not_le, Nat.not_lt, Nat.not_le, strB_nil, strB_nil', strB_nnil, strB_nnil'] at h5
          refine run_seq ?_
          refine run_region (q_assign .n (.c rfl) rfl <|
              Lex.nil) ?_
          exact run_ret [] (.cons (.t rfl rfl) .nil) rfl trivial rfl
        · try simp only [Bool.and_eq_true, Bool.or_eq_true, Bool.not_eq_true', Bool.and_eq_false_iff, Bool.or_eq_false_iff, Bool.not_eq_false', decide_eq_true_eq, decide_eq_false_iff_not, beq_iff_eq, bne_iff_ne, beq_eq_false_iff_ne, bne_eq_false_iff_eq, Bool.true_and, ne_eq, Decidable.not_not, Int.not_lt, Int.not_le, Nat.not_lt, Nat.not_le, strB_nil, strB_nil', strB_nnil, strB_nnil'] at h5
          refine run_skip ?_
          refine run_endB ?_
          refine run_region (q_move .n (.t rfl) rfl <|
              q_add .n (.t rfl) (.c rfl) (fun _ => by first | omega | assumption | (simp only [List.length_append, List.length_cons, List.length_nil, List.length_replicate, put_len] at * <;> omega)) rfl <|
              q_assign .n (.t rfl) rfl <|
              Lex.nil) ?_
          exact run_again (x1 + 1) ⟨by first | omega | assumption | (simp only [List.length_append, List.length_cons, List.length_nil, List.length_replicate, put_len] at * <;> omega), by first | omega | assumption | (simp only [List.length_append, List.length_cons, List.length_nil, List.length_replicate, put_len] at * <;> omega)⟩ (by first | omega | assumption | (simp only [List.length_append, List.length_cons, List.length_nil, List.length_replicate, put_len] at * <;> omega)) (sub_of [] ⟨rfl, rfl, trivial⟩ trivial rfl)
      · try simp only [Bool.and_eq_true, Bool.or_eq_true, Bool.not_eq_true', Bool.and_eq_false_iff, Bool.or_eq_false_iff, Bool.not_eq_false', decide_eq_true_eq, decide_eq_false_iff_not, beq_iff_eq, bne_iff_ne, beq_eq_false_iff_ne, bne_eq_false_iff_eq, Bool.true_and, ne_eq, Decidable.not_not, Int.not_lt, Int.not_le, Nat.not_lt, Nat.not_le, strB_nil, strB_nil', strB_nnil, strB_nnil'] at h4
        refine run_exit rfl ?_
        exact run_cont hk2 x1 ⟨by first | omega | assumption | (simp only [List.length_append, List.length_cons, List.length_nil, List.length_replicate, put_len] at * <;> omega), by first | omega | assumption | (simp only [List.length_append, List.length_cons, List.length_nil, List.length_replicate, put_len] at * <;> omega), by first | omega | assumption | (simp only [List.length_append, List.length_cons, List.length_nil, List.length_replicate, put_len] at * <;> omega)⟩ (sub_of [] trivial trivial rfl)

/-! ### spec_l27Setting -/
theorem c_spec_l27Setting (e : gSetting) : Con Tryd.prog 88 [.rp [.str e.Name, .int .i64 e.Value]] [] (.bool (m_spec_l27Setting e)) ([]) := by
  refine con_intro (out := fun r : Bool => ((.bool r : V), ([] : List (Nat × Option O)))) (r := (m_spec_l27Setting e)) Tryd.func88 rfl Tryd.ntmps88 rfl ?_
  refine run_seq ?_
  refine run_region (q_assign .n (.c rfl) rfl <|
      Lex.nil) ?_
  refine run_seq ?_
  refine run_region (q_move .n (.t rfl) rfl <|
      q_nilc_ro .n (.t rfl) rfl <|
      q_fld_ro .n (.t rfl) fo_75_0 rfl <|
      q_ld1_ro .n (.t rfl) rfl ic_9 rfl <|
      q_call0 (full := false) .n .f en_99 (.cons (.t rfl) .nil) (.cons (.b (.a (.same rfl))) .nil) (fun hg => c_spec_l01Name e.Name) rfl (fun h => Bool.noConfusion h) rfl <|
      q_move .n (.t rfl) rfl <|
      q_move (.t rfl rfl) (.t rfl) rfl <|
      q_nilc_ro (.t rfl rfl) (.u rfl id) rfl <|
      q_fld_ro (.t rfl rfl) (.u rfl id) fo_75_1 rfl <|
      q_ld1_ro (.t rfl rfl) (.u rfl id) rfl ic_2 rfl <|
      q_call0 (full := false) (.t rfl rfl) .f en_65 (.cons (.u rfl id) (.cons (.c rfl) (.cons (.c rfl) .nil))) (.cons (.b (.a (.same rfl))) (.cons (.b (.a (.same rfl))) (.cons (.b (.a (.same rfl))) .nil))) (fun hg => c_spec_l00In e.Value 0 1000) rfl (fun h => Bool.noConfusion h) rfl <|
      q_and .n (.t rfl) (.u rfl id) rfl <|
      q_assign .n (.t rfl) rfl <|
      Lex.nil) ?_
  exact run_ret [] (.cons (.t rfl rfl) .nil) rfl trivial rfl


end Go.Proofs.YtdkkcemlnjlebaaDoor
