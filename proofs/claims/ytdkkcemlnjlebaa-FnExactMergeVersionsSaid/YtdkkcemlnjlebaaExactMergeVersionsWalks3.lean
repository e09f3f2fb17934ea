/-
  THE WALKS: each Go function computes its model. Conditions: as each theorem states them (hp1, hp2 ..).
-/
import Derived.Test.YtdkkcemlnjlebaaExactMergeVersionsWalks2
set_option linter.unusedVariables false
set_option linter.unusedSimpArgs false
set_option linter.unusedSectionVars false
set_option linter.unnecessarySimpa false
namespace Go.Proofs.Ytdkkcemlnjlebaa
open Go Go.RowKit Go.Proofs Go.Proofs.Ytdkkcemlnjlebaa.E
/-! ### laws_markText -/
theorem c_laws_markText (k_ : Int) (hp1 : k_ ≤ 9223372036854775807) : Con Try.prog 27 [.int .i64 k_] [] (.str (m_laws_markText k_)) ([]) := by
  refine con_intro (out := fun r : (List UInt8) => ((.str r : V), ([] : List (Nat × Option O)))) (r := (m_laws_markText k_)) Try.func27 rfl Try.ntmps27 rfl ?_
  refine run_seq ?_
  refine run_region (q_assign .n (.c rfl) rfl <|
      Lex.nil) ?_
  refine run_seq ?_
  refine run_seq ?_
  refine run_region (q_move .n (.t rfl) rfl <|
      q_int .n (.t rfl) (.c rfl) rfl rfl <|
      Lex.nil) ?_
  refine run_cond (.t rfl) rfl (fun h1 => ?_) (fun h1 => ?_)
  · try simp only [Bool.and_eq_true, Bool.or_eq_true, Bool.not_eq_true', Bool.and_eq_false_iff, Bool.or_eq_false_iff, Bool.not_eq_false', decide_eq_true_eq, decide_eq_false_iff_not, beq_iff_eq, bne_iff_ne, beq_eq_false_iff_ne, bne_eq_false_iff_eq, Bool.true_and, ne_eq, Decidable.not_not, Int.not_lt, Int.not_le, Nat.not_lt, Nat.not_le, strB_nil, strB_nil', strB_nnil, strB_nnil'] at h1
    refine run_seq ?_
    refine run_region (q_assign .n (.c rfl) rfl <|
        Lex.nil) ?_
    exact run_ret [] (.cons (.t rfl rfl) .nil) rfl trivial rfl
  · try simp only [Bool.and_eq_true, Bool.or_eq_true, Bool.not_eq_true', Bool.and_eq_false_iff, Bool.or_eq_false_iff, Bool.not_eq_false', decide_eq_true_eq, decide_eq_false_iff_not, beq_iff_eq, bne_iff_ne, beq_eq_false_iff_ne, bne_eq_false_iff_eq, Bool.true_and, ne_eq, Decidable.not_not, Int.not_lt, Int.not_le, Nat.not_lt, Nat.not_le, strB_nil, strB_nil', strB_nnil, strB_nnil'] at h1
    refine run_skip ?_
    refine run_seq ?_
    refine run_region (q_assign .n (.c rfl) rfl <|
        Lex.nil) ?_
    refine run_seq ?_
    refine run_block ?_
    refine run_LOOP (m_laws_markText_b1 k_) _ _ _ rfl (fun (x1 : Int × (List UInt8)) => (x1.2.length : Int) + x1.1 ≤ k_ ∧ (x1.1 = k_ ∨ (x1.2.length : Int) + x1.1 ≤ 1 + k_ / 10) ∧ 0 ≤ x1.1) (fun x1 => (x1.2.length : Int) + x1.1 ≤ k_ ∧ (x1.1 = k_ ∨ (x1.2.length : Int) + x1.1 ≤ 1 + k_ / 10) ∧ 0 ≤ x1.1) (fun x1 => x1.1.toNat) (fun x1 => ⟨[(0, some (true, .int .i64 x1.1)), (3, some (true, .str x1.2))], []⟩) (fun x1 => ⟨[(3, some (true, .str x1.2))], []⟩) ⟨by (simp only [List.length_append, List.length_cons, List.length_nil, List.length_replicate, put_len] at * <;> omega), by omega, by omega⟩ (by omega) (sub_of [] ⟨rfl, rfl, trivial⟩ trivial rfl) ?_ ?_
    · intro x1 i5
      obtain ⟨e6, e7, e8⟩ := i5
      try dsimp only at *
      refine run_seq ?_
      refine run_region (q_move .n (.t rfl) rfl <|
          q_strcat .n (.c rfl) (.t rfl) (fun _ => by (simp only [List.length_append, List.length_cons, List.length_nil, List.length_replicate, put_len] at * <;> omega)) rfl <|
          q_assign .n (.t rfl) rfl <|
          Lex.nil) ?_
      exact run_ret [] (.cons (.t rfl rfl) .nil) rfl trivial rfl
    · intro rec1 k1 hk2 x1 i3
      obtain ⟨e9, e10, e11⟩ := i3
      try dsimp only at *
      refine run_seq ?_
      refine run_seq ?_
      refine run_region (q_move .n (.t rfl) rfl <|
          q_int .n (.t rfl) (.c rfl) rfl rfl <|
          Lex.nil) ?_
      refine run_cond (.t rfl) rfl (fun h4 => ?_) (fun h4 => ?_)
      · try simp only [Bool.and_eq_true, Bool.or_eq_true, Bool.not_eq_true', Bool.and_eq_false_iff, Bool.or_eq_false_iff, Bool.not_eq_false', decide_eq_true_eq, decide_eq_false_iff_not, beq_iff_eq, bne_iff_ne, beq_eq_false_iff_ne, bne_eq_false_iff_eq, Bool.true_and, ne_eq, Decidable.not_not, Int.not_lt, Int.not_le, Nat.not_lt, Nat.not_le, strB_nil, strB_nil', strB_nnil, strB_nnil'] at h4
        refine run_skip ?_
        refine run_block ?_
        refine run_seq ?_
        refine run_region (q_move .n (.t rfl) rfl <|
            q_rem .n (.t rfl) (.c rfl) (fun _ => by decide) rfl <|
            q_int .n (.c rfl) (.t rfl) rfl rfl <|
            q_conv .n (.t rfl) cv_3_5 rfl <|
            q_bslicem ([IntKind.wrap .u8 (IntKind.wrap .i64 (48 + (Int.tmod x1.1 10)))] : List Int) (f := V.int .u8) (l := 200) .n rfl rfl (.cons (.t rfl) .nil) rfl si_72 zv_5 rfl rfl rfl <|
            q_b2s (xs := ([IntKind.wrap .u8 (IntKind.wrap .i64 (48 + (Int.tmod x1.1 10)))] : List Int)) .n (.ow (.t rfl) rfl (take_all (by simp only [len_map, put_len] <;> rfl)) (by simp only [len_map, put_len] <;> rfl)) bs_72_9 rfl <|
            q_move .n (.t rfl) rfl <|
            q_strcat .n (.t rfl) (.t rfl) (fun _ => by ((simp only [chars, List.length_map, List.length_cons, List.length_nil, List.length_append] at *; omega))) rfl <|
            q_assign .n (.t rfl) rfl <|
            Lex.nil) ?_
        refine run_region (q_move .n (.t rfl) rfl <|
            q_quo .n (.t rfl) (.c rfl) (fun _ => by decide) rfl <|
            q_assign .n (.t rfl) rfl <|
            Lex.nil) ?_
        refine run_endB ?_
        exact run_again (IntKind.wrap .i64 (Int.tdiv x1.1 10), (chars ([IntKind.wrap .u8 (IntKind.wrap .i64 (48 + (Int.tmod x1.1 10)))] : List Int)) ++ x1.2) ⟨by ((rw [tdiv10 (by omega) (by omega)]; simp only [List.length_append, List.length_cons, List.length_nil, List.length_replicate, put_len, chars, List.length_map] at *; omega)), by ((rw [tdiv10 (by omega) (by omega)]; simp only [List.length_append, List.length_cons, List.length_nil, List.length_replicate, put_len, chars, List.length_map] at *; omega)), by ((rw [tdiv10 (by omega) (by omega)]; simp only [List.length_append, List.length_cons, List.length_nil, List.length_replicate, put_len, chars, List.length_map] at *; omega))⟩ (by ((rw [tdiv10 (by omega) (by omega)]; simp only [List.length_append, List.length_cons, List.length_nil, List.length_replicate, put_len, chars, List.length_map] at *; omega))) (sub_of [] ⟨rfl, rfl, trivial⟩ trivial rfl)
      · try simp only [Bool.and_eq_true, Bool.or_eq_true, Bool.not_eq_true', Bool.and_eq_false_iff, Bool.or_eq_false_iff, Bool.not_eq_false', decide_eq_true_eq, decide_eq_false_iff_not, beq_iff_eq, bne_iff_ne, beq_eq_false_iff_ne, bne_eq_false_iff_eq, Bool.true_and, ne_eq, Decidable.not_not, Int.not_lt, Int.not_le, Nat.not_lt, Nat.not_le, strB_nil, strB_nil', strB_nnil, strB_nnil'] at h4
        refine run_exit rfl ?_
        exact run_cont hk2 (x1.1, x1.2) ⟨by omega, by omega, by omega⟩ (sub_of [] ⟨rfl, trivial⟩ trivial rfl)

/-! ### laws_markSettingS -/
theorem c_laws_markSettingS (a : List gSetting) (k_ : Int) (hp1 : k_ ≤ 9223372036854775807) : Con Try.prog 28 [.os 0 a.length, .int .i64 k_] [(0, some (.row 57 2 (a.map gSetting.v)))] (.int .i64 (m_laws_markSettingS a k_).1) ([(0, some (.row 57 2 ((m_laws_markSettingS a k_).2.map gSetting.v)))]) := by
  refine con_intro (out := fun r : Int × (List gSetting) => ((.int .i64 r.1 : V), ([(0, some (.row 57 2 (r.2.map gSetting.v)))] : List (Nat × Option O)))) (r := (m_laws_markSettingS a k_)) Try.func28 rfl Try.ntmps28 rfl ?_
  refine run_factH (l := 0) rfl fun hl => ?_
  have l1 := hl; clear hl; simp only [List.length_map] at l1
  refine run_seq ?_
  refine run_region (q_assign .n (.c rfl) rfl <|
      Lex.nil) ?_
  refine run_seq ?_
  refine run_seq ?_
  refine run_region (q_assign .n (.c rfl) rfl <|
      Lex.nil) ?_
  refine run_block ?_
  refine run_LOOP (m_laws_markSettingS_b1 a k_) _ _ _ rfl (fun (x1 : (List gSetting) × Int × Int) => 0 ≤ x1.2.2 ∧ x1.1.length = a.length ∧ x1.2.1 ≤ 9223372036854775807) (fun x1 => 0 ≤ x1.2.2 ∧ x1.1.length = a.length ∧ x1.2.1 ≤ 9223372036854775807 ∧ (x1.1.length : Int) ≤ x1.2.2) (fun x1 => ((x1.1.length : Int) - x1.2.2 : Int).toNat) (fun x1 => ⟨[(0, some (true, .os 0 x1.1.length)), (1, some (true, .int .i64 x1.2.1)), (5, some (true, .int .i64 x1.2.2))], [(0, some (.row 57 2 (x1.1.map gSetting.v)))]⟩) (fun x1 => ⟨[(1, some (true, .int .i64 x1.2.1))], [(0, some (.row 57 2 (x1.1.map gSetting.v)))]⟩) ⟨by (simp only [List.length_append, List.length_cons, List.length_nil, List.length_replicate, put_len] at * <;> omega), by (simp only [List.length_append, List.length_cons, List.length_nil, List.length_replicate, put_len] at * <;> omega), by omega⟩ (by (simp only [List.length_append, List.length_cons, List.length_nil, List.length_replicate, put_len] at * <;> omega)) (sub_of [] ⟨rfl, rfl, rfl, trivial⟩ ⟨rfl, trivial⟩ rfl) ?_ ?_
  · intro x1 i5
    obtain ⟨e6, e7, e8, e9⟩ := i5
    try dsimp only at *
    refine run_seq ?_
    refine run_region (q_move .n (.t rfl) rfl <|
        q_assign .n (.t rfl) rfl <|
        Lex.nil) ?_
    exact run_ret [] (.cons (.t rfl rfl) .nil) rfl ⟨rfl, trivial⟩ rfl
  · intro rec1 k1 hk2 x1 i3
    obtain ⟨e10, e11, e12⟩ := i3
    try dsimp only at *
    refine run_seq ?_
    refine run_seq ?_
    refine run_region (q_move .n (.t rfl) rfl <|
        q_move .n (.t rfl) rfl <|
        q_len .n (.t rfl) rfl rfl ss_38 rfl <|
        q_int .n (.t rfl) (.t rfl) rfl rfl <|
        Lex.nil) ?_
    refine run_cond (.t rfl) rfl (fun h4 => ?_) (fun h4 => ?_)
    · try simp only [Bool.and_eq_true, Bool.or_eq_true, Bool.not_eq_true', Bool.and_eq_false_iff, Bool.or_eq_false_iff, Bool.not_eq_false', decide_eq_true_eq, decide_eq_false_iff_not, beq_iff_eq, bne_iff_ne, beq_eq_false_iff_ne, bne_eq_false_iff_eq, Bool.true_and, ne_eq, Decidable.not_not, Int.not_lt, Int.not_le, Nat.not_lt, Nat.not_le, strB_nil, strB_nil', strB_nnil, strB_nnil'] at h4
      refine run_skip ?_
      refine run_seq ?_
      refine run_block ?_
      refine run_seq ?_
      refine run_region (q_move .n (.t rfl) rfl <|
          q_move .n (.t rfl) rfl <|
          q_move .n (.t rfl) rfl <|
          q_call0 (full := false) .n .f en_27 (.cons (.t rfl) .nil) (.cons (.b (.a (.same rfl))) .nil) (fun hg => c_laws_markText x1.2.1 (by omega)) rfl (fun h => Bool.noConfusion h) rfl <|
          q_idx_ow .n (.t rfl) (.t rfl) sl_38 (fun _ => by omega) rfl <|
          q_fld_ow .n (.t rfl) fo_57_0 rfl <|
          q_st_rowm (gSetting.mk (m_laws_markText x1.2.1) (at' x1.1 x1.2.2).Value) .n rfl (.t rfl) (.t rfl) rfl ts_9 (by omega) rfl rfl <|
          Lex.nil) ?_
      refine run_seq ?_
      refine run_region (q_move .n (.t rfl) rfl <|
          q_int .n (.t rfl) (.c rfl) rfl rfl <|
          q_assign .n (.t rfl) rfl <|
          Lex.nil) ?_
      refine run_seq ?_
      refine run_region (q_move .n (.t rfl) rfl <|
          q_move .n (.t rfl) rfl <|
          q_move .n (.t rfl) rfl <|
          q_idx_ow .n (.t rfl) (.t rfl) sl_38 (fun _ => by omega) rfl <|
          q_fld_ow .n (.t rfl) fo_57_1 rfl <|
          q_st_rowp (gSetting.mk (m_laws_markText x1.2.1) (at' x1.1 x1.2.2).Value) (gSetting.mk (m_laws_markText x1.2.1) (IntKind.wrap .i64 (x1.2.1 + 1))) .n rfl (.t rfl) (.t rfl) rfl ts_2 (by omega) rfl rfl <|
          Lex.nil) ?_
      refine run_region (q_move .n (.t rfl) rfl <|
          q_int .n (.t rfl) (.c rfl) rfl rfl <|
          q_assign .n (.t rfl) rfl <|
          Lex.nil) ?_
      refine run_endB ?_
      refine run_region (q_move .n (.t rfl) rfl <|
          q_add .n (.t rfl) (.c rfl) (fun _ => by omega) rfl <|
          q_assign .n (.t rfl) rfl <|
          Lex.nil) ?_
      exact run_again (put' x1.1 x1.2.2 (gSetting.mk (m_laws_markText x1.2.1) (IntKind.wrap .i64 (x1.2.1 + 1))), IntKind.wrap .i64 ((IntKind.wrap .i64 (x1.2.1 + 1)) + 1), x1.2.2 + 1) ⟨by (simp only [List.length_append, List.length_cons, List.length_nil, List.length_replicate, put_len] at * <;> omega), by (simp only [List.length_append, List.length_cons, List.length_nil, List.length_replicate, put_len] at * <;> omega), by (exact wr64_le)⟩ (by (simp only [List.length_append, List.length_cons, List.length_nil, List.length_replicate, put_len] at * <;> omega)) (sub_of [] ⟨os_len rfl (by first | (simp only [put_len]; done) | (first | omega | assumption | (simp only [List.length_append, List.length_cons, List.length_nil, List.length_replicate, put_len] at * <;> omega) | ((exact wr64_le); done))), rfl, rfl, trivial⟩ ⟨rfl, trivial⟩ rfl)
    · try simp only [Bool.and_eq_true, Bool.or_eq_true, Bool.not_eq_true', Bool.and_eq_false_iff, Bool.or_eq_false_iff, Bool.not_eq_false', decide_eq_true_eq, decide_eq_false_iff_not, beq_iff_eq, bne_iff_ne, beq_eq_false_iff_ne, bne_eq_false_iff_eq, Bool.true_and, ne_eq, Decidable.not_not, Int.not_lt, Int.not_le, Nat.not_lt, Nat.not_le, strB_nil, strB_nil', strB_nnil, strB_nnil'] at h4
      refine run_exit rfl ?_
      exact run_cont hk2 (x1.1, x1.2.1, x1.2.2) ⟨by omega, by omega, by omega, by omega⟩ (sub_of [] ⟨rfl, trivial⟩ ⟨rfl, trivial⟩ rfl)

/-! ### laws_markVersionS -/
theorem c_laws_markVersionS (a : List gVersion) (k_ : Int) (hp1 : k_ ≤ 9223372036854775807) : Con Try.prog 9 [.os 0 a.length, .int .i64 k_] [(0, some (.nest 45 4 3 57 2 none (a.map gVersion.v)))] (.int .i64 (m_laws_markVersionS a k_).1) ([(0, some (.nest 45 4 3 57 2 none ((m_laws_markVersionS a k_).2.map gVersion.v)))]) := by
  refine con_intro (out := fun r : Int × (List gVersion) => ((.int .i64 r.1 : V), ([(0, some (.nest 45 4 3 57 2 none (r.2.map gVersion.v)))] : List (Nat × Option O)))) (r := (m_laws_markVersionS a k_)) Try.func9 rfl Try.ntmps9 rfl ?_
  refine run_factN (l := 0) rfl fun hl => ?_
  have l1 := hl; clear hl; simp only [List.length_map] at l1
  refine run_seq ?_
  refine run_region (q_assign .n (.c rfl) rfl <|
      Lex.nil) ?_
  refine run_seq ?_
  refine run_seq ?_
  refine run_region (q_assign .n (.c rfl) rfl <|
      Lex.nil) ?_
  refine run_block ?_
  refine run_LOOP (m_laws_markVersionS_b1 a k_) _ _ _ rfl (fun (x1 : (List gVersion) × Int × Int) => 0 ≤ x1.2.2 ∧ x1.1.length = a.length ∧ x1.2.1 ≤ 9223372036854775807) (fun x1 => 0 ≤ x1.2.2 ∧ x1.1.length = a.length ∧ x1.2.1 ≤ 9223372036854775807 ∧ (x1.1.length : Int) ≤ x1.2.2) (fun x1 => ((x1.1.length : Int) - x1.2.2 : Int).toNat) (fun x1 => ⟨[(0, some (true, .os 0 x1.1.length)), (1, some (true, .int .i64 x1.2.1)), (5, some (true, .int .i64 x1.2.2))], [(0, some (.nest 45 4 3 57 2 none (x1.1.map gVersion.v)))]⟩) (fun x1 => ⟨[(1, some (true, .int .i64 x1.2.1))], [(0, some (.nest 45 4 3 57 2 none (x1.1.map gVersion.v)))]⟩) ⟨by (simp only [List.length_append, List.length_cons, List.length_nil, List.length_replicate, put_len] at * <;> omega), by (simp only [List.length_append, List.length_cons, List.length_nil, List.length_replicate, put_len] at * <;> omega), by omega⟩ (by (simp only [List.length_append, List.length_cons, List.length_nil, List.length_replicate, put_len] at * <;> omega)) (sub_of [] ⟨rfl, rfl, rfl, trivial⟩ ⟨rfl, trivial⟩ rfl) ?_ ?_
  · intro x1 i5
    obtain ⟨e6, e7, e8, e9⟩ := i5
    try dsimp only at *
    refine run_seq ?_
    refine run_region (q_move .n (.t rfl) rfl <|
        q_assign .n (.t rfl) rfl <|
        Lex.nil) ?_
    exact run_ret [] (.cons (.t rfl rfl) .nil) rfl ⟨rfl, trivial⟩ rfl
  · intro rec1 k1 hk2 x1 i3
    obtain ⟨e10, e11, e12⟩ := i3
    try dsimp only at *
    refine run_seq ?_
    refine run_seq ?_
    refine run_region (q_move .n (.t rfl) rfl <|
        q_move .n (.t rfl) rfl <|
        q_len .n (.t rfl) rfl rfl ss_24 rfl <|
        q_int .n (.t rfl) (.t rfl) rfl rfl <|
        Lex.nil) ?_
    refine run_cond (.t rfl) rfl (fun h4 => ?_) (fun h4 => ?_)
    · try simp only [Bool.and_eq_true, Bool.or_eq_true, Bool.not_eq_true', Bool.and_eq_false_iff, Bool.or_eq_false_iff, Bool.not_eq_false', decide_eq_true_eq, decide_eq_false_iff_not, beq_iff_eq, bne_iff_ne, beq_eq_false_iff_ne, bne_eq_false_iff_eq, Bool.true_and, ne_eq, Decidable.not_not, Int.not_lt, Int.not_le, Nat.not_lt, Nat.not_le, strB_nil, strB_nil', strB_nnil, strB_nnil'] at h4
      refine run_skip ?_
      refine run_seq ?_
      refine run_block ?_
      refine run_seq ?_
      refine run_region (q_move .n (.t rfl) rfl <|
          q_move .n (.t rfl) rfl <|
          q_move .n (.t rfl) rfl <|
          q_idx_ow .n (.t rfl) (.t rfl) sl_24 (fun _ => by omega) rfl <|
          q_fld_ow .n (.t rfl) fo_45_0 rfl <|
          q_stN (gVersion.mk x1.2.1 (at' x1.1 x1.2.2).Parent (at' x1.1 x1.2.2).Memo (at' x1.1 x1.2.2).State) .n rfl (.t rfl) (.t rfl) rfl ts_2 (by omega) rfl rfl rfl <|
          Lex.nil) ?_
      refine run_seq ?_
      refine run_region (q_move .n (.t rfl) rfl <|
          q_int .n (.t rfl) (.c rfl) rfl rfl <|
          q_assign .n (.t rfl) rfl <|
          Lex.nil) ?_
      refine run_seq ?_
      refine run_region (q_move .n (.t rfl) rfl <|
          q_move .n (.t rfl) rfl <|
          q_move .n (.t rfl) rfl <|
          q_idx_ow .n (.t rfl) (.t rfl) sl_24 (fun _ => by omega) rfl <|
          q_fld_ow .n (.t rfl) fo_45_1 rfl <|
          q_stNp (gVersion.mk x1.2.1 (at' x1.1 x1.2.2).Parent (at' x1.1 x1.2.2).Memo (at' x1.1 x1.2.2).State) (gVersion.mk x1.2.1 (IntKind.wrap .i64 (x1.2.1 + 1)) (at' x1.1 x1.2.2).Memo (at' x1.1 x1.2.2).State) .n rfl (.t rfl) (.t rfl) rfl ts_2 (by omega) rfl rfl rfl <|
          Lex.nil) ?_
      refine run_seq ?_
      refine run_region (q_move .n (.t rfl) rfl <|
          q_int .n (.t rfl) (.c rfl) rfl rfl <|
          q_assign .n (.t rfl) rfl <|
          Lex.nil) ?_
      refine run_seq ?_
      refine run_region (q_move .n (.t rfl) rfl <|
          q_move .n (.t rfl) rfl <|
          q_move .n (.t rfl) rfl <|
          q_call0 (full := false) .n .f en_27 (.cons (.t rfl) .nil) (.cons (.b (.a (.same rfl))) .nil) (fun hg => c_laws_markText (IntKind.wrap .i64 ((IntKind.wrap .i64 (x1.2.1 + 1)) + 1)) (by (exact wr64_le))) rfl (fun h => Bool.noConfusion h) rfl <|
          q_idx_ow .n (.t rfl) (.t rfl) sl_24 (fun _ => by omega) rfl <|
          q_fld_ow .n (.t rfl) fo_45_2 rfl <|
          q_stNp (gVersion.mk x1.2.1 (IntKind.wrap .i64 (x1.2.1 + 1)) (at' x1.1 x1.2.2).Memo (at' x1.1 x1.2.2).State) (gVersion.mk x1.2.1 (IntKind.wrap .i64 (x1.2.1 + 1)) (m_laws_markText (IntKind.wrap .i64 ((IntKind.wrap .i64 (x1.2.1 + 1)) + 1))) (at' x1.1 x1.2.2).State) .n rfl (.t rfl) (.t rfl) rfl ts_9 (by omega) rfl rfl rfl <|
          Lex.nil) ?_
      refine run_seq ?_
      refine run_region (q_move .n (.t rfl) rfl <|
          q_int .n (.t rfl) (.c rfl) rfl rfl <|
          q_assign .n (.t rfl) rfl <|
          Lex.nil) ?_
      refine run_ro <| ro_lex (l1 := [_, _, _, _, _, _, _, _]) (l2 := []) rfl (q_move .n (.t rfl) rfl <|
          q_move .n (.t rfl) rfl <|
          q_idx_ow .n (.t rfl) (.t rfl) sl_24 (fun _ => by omega) rfl <|
          q_fld_ow .n (.t rfl) fo_45_3 rfl <|
          q_ldNp (gVersion.mk x1.2.1 (IntKind.wrap .i64 (x1.2.1 + 1)) (m_laws_markText (IntKind.wrap .i64 ((IntKind.wrap .i64 (x1.2.1 + 1)) + 1))) (at' x1.1 x1.2.2).State) (xs := x1.1) (f := gVersion.v) (ys := (at' x1.1 x1.2.2).State) (h := gSetting.v) (L := 200) .n rfl (.t rfl) rfl (by omega) rfl ic_38 rfl rfl <|
          q_move .n (.t rfl) rfl <|
          q_callM (full := false) [(0, 200)] [] .n rfl .f en_28 (.cons (.t rfl) (.cons (.t rfl) .nil)) (.cons (.b (.muts rfl)) (.cons (.b (.a (.same rfl))) .nil)) (c_laws_markSettingS (at' x1.1 x1.2.2).State (IntKind.wrap .i64 ((IntKind.wrap .i64 ((IntKind.wrap .i64 (x1.2.1 + 1)) + 1)) + 1)) (by (exact wr64_le))) ⟨rfl, trivial⟩ rfl rfl (fun h => Bool.noConfusion h) (fun h => Bool.noConfusion h) rfl <|
          q_assign .n (.t rfl) rfl <|
          Lex.nil) <|
          ro_sub (sub_fillp (l := 0) (L := 200) (xs := x1.1) (ys := (m_laws_markSettingS (at' x1.1 x1.2.2).State (IntKind.wrap .i64 ((IntKind.wrap .i64 ((IntKind.wrap .i64 (x1.2.1 + 1)) + 1)) + 1))).2) (y0 := (at' x1.1 x1.2.2).State) (m := x1.2.2) (gVersion.mk x1.2.1 (IntKind.wrap .i64 (x1.2.1 + 1)) (m_laws_markText (IntKind.wrap .i64 ((IntKind.wrap .i64 (x1.2.1 + 1)) + 1))) (at' x1.1 x1.2.2).State) (gVersion.mk x1.2.1 (IntKind.wrap .i64 (x1.2.1 + 1)) (m_laws_markText (IntKind.wrap .i64 ((IntKind.wrap .i64 (x1.2.1 + 1)) + 1))) (m_laws_markSettingS (at' x1.1 x1.2.2).State (IntKind.wrap .i64 ((IntKind.wrap .i64 ((IntKind.wrap .i64 (x1.2.1 + 1)) + 1)) + 1))).2) rfl rfl (by omega) rfl (by exact markSettingS_len) rfl) <|
          ro_end ?_
      refine run_endB ?_
      refine run_region (q_move .n (.t rfl) rfl <|
          q_add .n (.t rfl) (.c rfl) (fun _ => by omega) rfl <|
          q_assign .n (.t rfl) rfl <|
          Lex.nil) ?_
      exact run_again (put' x1.1 x1.2.2 (gVersion.mk x1.2.1 (IntKind.wrap .i64 (x1.2.1 + 1)) (m_laws_markText (IntKind.wrap .i64 ((IntKind.wrap .i64 (x1.2.1 + 1)) + 1))) (m_laws_markSettingS (at' x1.1 x1.2.2).State (IntKind.wrap .i64 ((IntKind.wrap .i64 ((IntKind.wrap .i64 (x1.2.1 + 1)) + 1)) + 1))).2), (m_laws_markSettingS (at' x1.1 x1.2.2).State (IntKind.wrap .i64 ((IntKind.wrap .i64 ((IntKind.wrap .i64 (x1.2.1 + 1)) + 1)) + 1))).1, x1.2.2 + 1) ⟨by (simp only [List.length_append, List.length_cons, List.length_nil, List.length_replicate, put_len] at * <;> omega), by (simp only [List.length_append, List.length_cons, List.length_nil, List.length_replicate, put_len] at * <;> omega), by (exact markSettingS_le wr64_le)⟩ (by (simp only [List.length_append, List.length_cons, List.length_nil, List.length_replicate, put_len] at * <;> omega)) (sub_of [] ⟨os_len rfl (by first | (simp only [put_len]; done) | (first | omega | assumption | (simp only [List.length_append, List.length_cons, List.length_nil, List.length_replicate, put_len] at * <;> omega) | ((exact markSettingS_le wr64_le); done) | ((exact wr64_le); done))), rfl, rfl, trivial⟩ ⟨rfl, trivial⟩ rfl)
    · try simp only [Bool.and_eq_true, Bool.or_eq_true, Bool.not_eq_true', Bool.and_eq_false_iff, Bool.or_eq_false_iff, Bool.not_eq_false', decide_eq_true_eq, decide_eq_false_iff_not, beq_iff_eq, bne_iff_ne, beq_eq_false_iff_ne, bne_eq_false_iff_eq, Bool.true_and, ne_eq, Decidable.not_not, Int.not_lt, Int.not_le, Nat.not_lt, Nat.not_le, strB_nil, strB_nil', strB_nnil, strB_nnil'] at h4
      refine run_exit rfl ?_
      exact run_cont hk2 (x1.1, x1.2.1, x1.2.2) ⟨by omega, by omega, by omega, by omega⟩ (sub_of [] ⟨rfl, trivial⟩ ⟨rfl, trivial⟩ rfl)

/-! ### laws_heldSettingS -/
theorem c_laws_heldSettingS (a : List gSetting) (k_ : Int) (hp1 : k_ ≤ 9223372036854775807) : Con Try.prog 29 [.sl 2 (a.map gSetting.v), .int .i64 k_] [] (.int .i64 (m_laws_heldSettingS a k_)) ([]) := by
  refine con_intro (out := fun r : Int => ((.int .i64 r : V), ([] : List (Nat × Option O)))) (r := (m_laws_heldSettingS a k_)) Try.func29 rfl Try.ntmps29 rfl ?_
  refine run_fact (t := 0) rfl fun hl => ?_
  have l1 := hl; clear hl; simp only [List.length_map] at l1
  refine run_seq ?_
  refine run_region (q_assign .n (.c rfl) rfl <|
      Lex.nil) ?_
  refine run_seq ?_
  refine run_seq ?_
  refine run_region (q_assign .n (.c rfl) rfl <|
      Lex.nil) ?_
  refine run_block ?_
  refine run_LOOP (m_laws_heldSettingS_b1 a k_) _ _ _ rfl (fun (x1 : Int × Int) => 0 ≤ x1.2 ∧ x1.2 ≤ (a.length : Int) ∧ x1.1 ≤ 9223372036854775807) (fun x1 => 0 ≤ x1.2 ∧ x1.2 ≤ (a.length : Int) ∧ x1.1 ≤ 9223372036854775807 ∧ (a.length : Int) ≤ x1.2) (fun x1 => ((a.length : Int) - x1.2 : Int).toNat) (fun x1 => ⟨[(0, some (true, .sl 2 (a.map gSetting.v))), (1, some (true, .int .i64 x1.1)), (5, some (true, .int .i64 x1.2))], []⟩) (fun x1 => ⟨[(1, some (true, .int .i64 x1.1))], []⟩) ⟨by omega, by omega, by omega⟩ (by omega) (sub_of [] ⟨rfl, rfl, rfl, trivial⟩ trivial rfl) ?_ ?_
  · intro x1 i7
    obtain ⟨e8, e9, e10, e11⟩ := i7
    try dsimp only at *
    refine run_seq ?_
    refine run_region (q_move .n (.t rfl) rfl <|
        q_assign .n (.t rfl) rfl <|
        Lex.nil) ?_
    exact run_ret [] (.cons (.t rfl rfl) .nil) rfl trivial rfl
  · intro rec1 k1 hk2 x1 i3
    obtain ⟨e12, e13, e14⟩ := i3
    try dsimp only at *
    refine run_seq ?_
    refine run_seq ?_
    refine run_region (q_move .n (.t rfl) rfl <|
        q_move .n (.t rfl) rfl <|
        q_len .n (.t rfl) rfl len_map ss_38 rfl <|
        q_int .n (.t rfl) (.t rfl) rfl rfl <|
        Lex.nil) ?_
    refine run_cond (.t rfl) rfl (fun h4 => ?_) (fun h4 => ?_)
    · try simp only [Bool.and_eq_true, Bool.or_eq_true, Bool.not_eq_true', Bool.and_eq_false_iff, Bool.or_eq_false_iff, Bool.not_eq_false', decide_eq_true_eq, decide_eq_false_iff_not, beq_iff_eq, bne_iff_ne, beq_eq_false_iff_ne, bne_eq_false_iff_eq, Bool.true_and, ne_eq, Decidable.not_not, Int.not_lt, Int.not_le, Nat.not_lt, Nat.not_le, strB_nil, strB_nil', strB_nnil, strB_nnil'] at h4
      refine run_skip ?_
      refine run_seq ?_
      refine run_block ?_
      refine run_seq ?_
      refine run_seq ?_
      refine run_draw fmo (q_move .n (.t rfl) rfl <|
          q_move .n (.t rfl) rfl <|
          q_idx_rm .n (.t rfl) (.t rfl) sl_38 (fun _ => by omega) rfl <|
          q_fld_ro .n (.t rfl) fo_57_0 rfl <|
          q_ld1_ro .n (.t rfl) rfl ic_9 rfl <|
          q_move .n (.t rfl) rfl <|
          q_call0 (full := false) .n .f en_27 (.cons (.t rfl) .nil) (.cons (.b (.a (.same rfl))) .nil) (fun hg => c_laws_markText x1.1 (by omega)) rfl (fun h => Bool.noConfusion h) rfl <|
          q_strcmp .n (.t rfl) (.t rfl) rfl rfl <|
          Lex.nil) (by kernel_rfl) ?_
      refine run_cond (.t rfl) rfl (fun h5 => ?_) (fun h5 => ?_)
      · try simp only [Bool.and_eq_true, Bool.or_eq_true, Bool.not_eq_true', Bool.and_eq_false_iff, Bool.or_eq_false_iff, Bool.not_eq_false', decide_eq_true_eq, decide_eq_false_iff_not, beq_iff_eq, bne_iff_ne, beq_eq_false_iff_ne, bne_eq_false_iff_eq, Bool.true_and, ne_eq, Decidable.not_not, Int.not_lt, Int.not_le, Nat.not_lt, Nat.not_le, strB_nil, strB_nil', strB_nnil, strB_nnil'] at h5
        refine run_seq ?_
        refine run_region (q_assign .n (.c rfl) rfl <|
            Lex.nil) ?_
        exact run_ret [] (.cons (.t rfl rfl) .nil) rfl trivial rfl
      · try simp only [Bool.and_eq_true, Bool.or_eq_true, Bool.not_eq_true', Bool.and_eq_false_iff, Bool.or_eq_false_iff, Bool.not_eq_false', decide_eq_true_eq, decide_eq_false_iff_not, beq_iff_eq, bne_iff_ne, beq_eq_false_iff_ne, bne_eq_false_iff_eq, Bool.true_and, ne_eq, Decidable.not_not, Int.not_lt, Int.not_le, Nat.not_lt, Nat.not_le, strB_nil, strB_nil', strB_nnil, strB_nnil'] at h5
        refine run_skip ?_
        refine run_seq ?_
        refine run_region (q_move .n (.t rfl) rfl <|
            q_int .n (.t rfl) (.c rfl) rfl rfl <|
            q_assign .n (.t rfl) rfl <|
            Lex.nil) ?_
        refine run_seq ?_
        refine run_seq ?_
        refine run_region (q_move .n (.t rfl) rfl <|
            q_move .n (.t rfl) rfl <|
            q_idx_rm .n (.t rfl) (.t rfl) sl_38 (fun _ => by omega) rfl <|
            q_fld_ro .n (.t rfl) fo_57_1 rfl <|
            q_ld1_ro .n (.t rfl) rfl ic_2 rfl <|
            q_move .n (.t rfl) rfl <|
            q_int .n (.t rfl) (.t rfl) rfl rfl <|
            Lex.nil) ?_
        refine run_cond (.t rfl) rfl (fun h6 => ?_) (fun h6 => ?_)
        · try simp only [Bool.and_eq_true, Bool.or_eq_true, Bool.not_eq_true', Bool.and_eq_false_iff, Bool.or_eq_false_iff, Bool.not_eq_false', decide_eq_true_eq, decide_eq_false_iff_not, beq_iff_eq, bne_iff_ne, beq_eq_false_iff_ne, bne_eq_false_iff_eq, Bool.true_and, ne_eq, Decidable.not_not, Int.not_lt, Int.not_le, Nat.not_lt, Nat.not_le, strB_nil, strB_nil', strB_nnil, strB_nnil'] at h6
          refine run_seq ?_
          refine run_region (q_assign .n (.c rfl) rfl <|
              Lex.nil) ?_
          exact run_ret [] (.cons (.t rfl rfl) .nil) rfl trivial rfl
        · try simp only [Bool.and_eq_true, Bool.or_eq_true, Bool.not_eq_true', Bool.and_eq_false_iff, Bool.or_eq_false_iff, Bool.not_eq_false', decide_eq_true_eq, decide_eq_false_iff_not, beq_iff_eq, bne_iff_ne, beq_eq_false_iff_ne, bne_eq_false_iff_eq, Bool.true_and, ne_eq, Decidable.not_not, Int.not_lt, Int.not_le, Nat.not_lt, Nat.not_le, strB_nil, strB_nil', strB_nnil, strB_nnil'] at h6
          refine run_skip ?_
          refine run_region (q_move .n (.t rfl) rfl <|
              q_int .n (.t rfl) (.c rfl) rfl rfl <|
              q_assign .n (.t rfl) rfl <|
              Lex.nil) ?_
          refine run_endB ?_
          refine run_region (q_move .n (.t rfl) rfl <|
              q_add .n (.t rfl) (.c rfl) (fun _ => by omega) rfl <|
              q_assign .n (.t rfl) rfl <|
              Lex.nil) ?_
          exact run_again (IntKind.wrap .i64 ((IntKind.wrap .i64 (x1.1 + 1)) + 1), x1.2 + 1) ⟨by omega, by omega, by (exact wr64_le)⟩ (by omega) (sub_of [] ⟨rfl, rfl, rfl, trivial⟩ trivial rfl)
    · try simp only [Bool.and_eq_true, Bool.or_eq_true, Bool.not_eq_true', Bool.and_eq_false_iff, Bool.or_eq_false_iff, Bool.not_eq_false', decide_eq_true_eq, decide_eq_false_iff_not, beq_iff_eq, bne_iff_ne, beq_eq_false_iff_ne, bne_eq_false_iff_eq, Bool.true_and, ne_eq, Decidable.not_not, Int.not_lt, Int.not_le, Nat.not_lt, Nat.not_le, strB_nil, strB_nil', strB_nnil, strB_nnil'] at h4
      refine run_exit rfl ?_
      exact run_cont hk2 (x1.1, x1.2) ⟨by omega, by omega, by omega, by omega⟩ (sub_of [] ⟨rfl, trivial⟩ trivial rfl)

/-! ### laws_heldVersionS -/
theorem c_laws_heldVersionS (a : List gVersion) (k_ : Int) (hp1 : k_ ≤ 9223372036854775807) : Con Try.prog 10 [.sl 4 (a.map gVersion.v), .int .i64 k_] [] (.int .i64 (m_laws_heldVersionS a k_)) ([]) := by
  refine con_intro (out := fun r : Int => ((.int .i64 r : V), ([] : List (Nat × Option O)))) (r := (m_laws_heldVersionS a k_)) Try.func10 rfl Try.ntmps10 rfl ?_
  refine run_fact (t := 0) rfl fun hl => ?_
  have l1 := hl; clear hl; simp only [List.length_map] at l1
  refine run_seq ?_
  refine run_region (q_assign .n (.c rfl) rfl <|
      Lex.nil) ?_
  refine run_seq ?_
  refine run_seq ?_
  refine run_region (q_assign .n (.c rfl) rfl <|
      Lex.nil) ?_
  refine run_block ?_
  refine run_LOOP (m_laws_heldVersionS_b1 a k_) _ _ _ rfl (fun (x1 : Int × Int) => 0 ≤ x1.2 ∧ x1.2 ≤ (a.length : Int) ∧ x1.1 ≤ 9223372036854775807) (fun x1 => 0 ≤ x1.2 ∧ x1.2 ≤ (a.length : Int) ∧ x1.1 ≤ 9223372036854775807 ∧ (a.length : Int) ≤ x1.2) (fun x1 => ((a.length : Int) - x1.2 : Int).toNat) (fun x1 => ⟨[(0, some (true, .sl 4 (a.map gVersion.v))), (1, some (true, .int .i64 x1.1)), (5, some (true, .int .i64 x1.2))], []⟩) (fun x1 => ⟨[(1, some (true, .int .i64 x1.1))], []⟩) ⟨by omega, by omega, by omega⟩ (by omega) (sub_of [] ⟨rfl, rfl, rfl, trivial⟩ trivial rfl) ?_ ?_
  · intro x1 i9
    obtain ⟨e10, e11, e12, e13⟩ := i9
    try dsimp only at *
    refine run_seq ?_
    refine run_region (q_move .n (.t rfl) rfl <|
        q_assign .n (.t rfl) rfl <|
        Lex.nil) ?_
    exact run_ret [] (.cons (.t rfl rfl) .nil) rfl trivial rfl
  · intro rec1 k1 hk2 x1 i3
    obtain ⟨e14, e15, e16⟩ := i3
    try dsimp only at *
    refine run_seq ?_
    refine run_seq ?_
    refine run_region (q_move .n (.t rfl) rfl <|
        q_move .n (.t rfl) rfl <|
        q_len .n (.t rfl) rfl len_map ss_24 rfl <|
        q_int .n (.t rfl) (.t rfl) rfl rfl <|
        Lex.nil) ?_
    refine run_cond (.t rfl) rfl (fun h4 => ?_) (fun h4 => ?_)
    · try simp only [Bool.and_eq_true, Bool.or_eq_true, Bool.not_eq_true', Bool.and_eq_false_iff, Bool.or_eq_false_iff, Bool.not_eq_false', decide_eq_true_eq, decide_eq_false_iff_not, beq_iff_eq, bne_iff_ne, beq_eq_false_iff_ne, bne_eq_false_iff_eq, Bool.true_and, ne_eq, Decidable.not_not, Int.not_lt, Int.not_le, Nat.not_lt, Nat.not_le, strB_nil, strB_nil', strB_nnil, strB_nnil'] at h4
      refine run_skip ?_
      refine run_seq ?_
      refine run_block ?_
      refine run_seq ?_
      refine run_seq ?_
      refine run_region (q_move .n (.t rfl) rfl <|
          q_move .n (.t rfl) rfl <|
          q_idx_rm .n (.t rfl) (.t rfl) sl_24 (fun _ => by omega) rfl <|
          q_fld_ro .n (.t rfl) fo_45_0 rfl <|
          q_ld1_ro .n (.t rfl) rfl ic_2 rfl <|
          q_move .n (.t rfl) rfl <|
          q_int .n (.t rfl) (.t rfl) rfl rfl <|
          Lex.nil) ?_
      refine run_cond (.t rfl) rfl (fun h5 => ?_) (fun h5 => ?_)
      · try simp only [Bool.and_eq_true, Bool.or_eq_true, Bool.not_eq_true', Bool.and_eq_false_iff, Bool.or_eq_false_iff, Bool.not_eq_false', decide_eq_true_eq, decide_eq_false_iff_not, beq_iff_eq, bne_iff_ne, beq_eq_false_iff_ne, bne_eq_false_iff_eq, Bool.true_and, ne_eq, Decidable.not_not, Int.not_lt, Int.not_le, Nat.not_lt, Nat.not_le, strB_nil, strB_nil', strB_nnil, strB_nnil'] at h5
        refine run_seq ?_
        refine run_region (q_assign .n (.c rfl) rfl <|
            Lex.nil) ?_
        exact run_ret [] (.cons (.t rfl rfl) .nil) rfl trivial rfl
      · try simp only [Bool.and_eq_true, Bool.or_eq_true, Bool.not_eq_true', Bool.and_eq_false_iff, Bool.or_eq_false_iff, Bool.not_eq_false', decide_eq_true_eq, decide_eq_false_iff_not, beq_iff_eq, bne_iff_ne, beq_eq_false_iff_ne, bne_eq_false_iff_eq, Bool.true_and, ne_eq, Decidable.not_not, Int.not_lt, Int.not_le, Nat.not_lt, Nat.not_le, strB_nil, strB_nil', strB_nnil, strB_nnil'] at h5
        refine run_skip ?_
        refine run_seq ?_
        refine run_region (q_move .n (.t rfl) rfl <|
            q_int .n (.t rfl) (.c rfl) rfl rfl <|
            q_assign .n (.t rfl) rfl <|
            Lex.nil) ?_
        refine run_seq ?_
        refine run_seq ?_
        refine run_region (q_move .n (.t rfl) rfl <|
            q_move .n (.t rfl) rfl <|
            q_idx_rm .n (.t rfl) (.t rfl) sl_24 (fun _ => by omega) rfl <|
            q_fld_ro .n (.t rfl) fo_45_1 rfl <|
            q_ld1_ro .n (.t rfl) rfl ic_2 rfl <|
            q_move .n (.t rfl) rfl <|
            q_int .n (.t rfl) (.t rfl) rfl rfl <|
            Lex.nil) ?_
        refine run_cond (.t rfl) rfl (fun h6 => ?_) (fun h6 => ?_)
        · try simp only [Bool.and_eq_true, Bool.or_eq_true, Bool.not_eq_true', Bool.and_eq_false_iff, Bool.or_eq_false_iff, Bool.not_eq_false', decide_eq_true_eq, decide_eq_false_iff_not, beq_iff_eq, bne_iff_ne, beq_eq_false_iff_ne, bne_eq_false_iff_eq, Bool.true_and, ne_eq, Decidable.not_not, Int.not_lt, Int.not_le, Nat.not_lt, Nat.not_le, strB_nil, strB_nil', strB_nnil, strB_nnil'] at h6
          refine run_seq ?_
          refine run_region (q_assign .n (.c rfl) rfl <|
              Lex.nil) ?_
          exact run_ret [] (.cons (.t rfl rfl) .nil) rfl trivial rfl
        · try simp only [Bool.and_eq_true, Bool.or_eq_true, Bool.not_eq_true', Bool.and_eq_false_iff, Bool.or_eq_false_iff, Bool.not_eq_false', decide_eq_true_eq, decide_eq_false_iff_not, beq_iff_eq, bne_iff_ne, beq_eq_false_iff_ne, bne_eq_false_iff_eq, Bool.true_and, ne_eq, Decidable.not_not, Int.not_lt, Int.not_le, Nat.not_lt, Nat.not_le, strB_nil, strB_nil', strB_nnil, strB_nnil'] at h6
          refine run_skip ?_
          refine run_seq ?_
          refine run_region (q_move .n (.t rfl) rfl <|
              q_int .n (.t rfl) (.c rfl) rfl rfl <|
              q_assign .n (.t rfl) rfl <|
              Lex.nil) ?_
          refine run_seq ?_
          refine run_seq ?_
          refine run_draw fmo (q_move .n (.t rfl) rfl <|
              q_move .n (.t rfl) rfl <|
              q_idx_rm .n (.t rfl) (.t rfl) sl_24 (fun _ => by omega) rfl <|
              q_fld_ro .n (.t rfl) fo_45_2 rfl <|
              q_ld1_ro .n (.t rfl) rfl ic_9 rfl <|
              q_move .n (.t rfl) rfl <|
              q_call0 (full := false) .n .f en_27 (.cons (.t rfl) .nil) (.cons (.b (.a (.same rfl))) .nil) (fun hg => c_laws_markText (IntKind.wrap .i64 ((IntKind.wrap .i64 (x1.1 + 1)) + 1)) (by (exact wr64_le))) rfl (fun h => Bool.noConfusion h) rfl <|
              q_strcmp .n (.t rfl) (.t rfl) rfl rfl <|
              Lex.nil) (by kernel_rfl) ?_
          refine run_cond (.t rfl) rfl (fun h7 => ?_) (fun h7 => ?_)
          · try simp only [Bool.and_eq_true, Bool.or_eq_true, Bool.not_eq_true', Bool.and_eq_false_iff, Bool.or_eq_false_iff, Bool.not_eq_false', decide_eq_true_eq, decide_eq_false_iff_not, beq_iff_eq, bne_iff_ne, beq_eq_false_iff_ne, bne_eq_false_iff_eq, Bool.true_and, ne_eq, Decidable.not_not, Int.not_lt, Int.not_le, Nat.not_lt, Nat.not_le, strB_nil, strB_nil', strB_nnil, strB_nnil'] at h7
            refine run_seq ?_
            refine run_region (q_assign .n (.c rfl) rfl <|
                Lex.nil) ?_
            exact run_ret [] (.cons (.t rfl rfl) .nil) rfl trivial rfl
          · try simp only [Bool.and_eq_true, Bool.or_eq_true, Bool.not_eq_true', Bool.and_eq_false_iff, Bool.or_eq_false_iff, Bool.not_eq_false', decide_eq_true_eq, decide_eq_false_iff_not, beq_iff_eq, bne_iff_ne, beq_eq_false_iff_ne, bne_eq_false_iff_eq, Bool.true_and, ne_eq, Decidable.not_not, Int.not_lt, Int.not_le, Nat.not_lt, Nat.not_le, strB_nil, strB_nil', strB_nnil, strB_nnil'] at h7
            refine run_skip ?_
            refine run_seq ?_
            refine run_region (q_move .n (.t rfl) rfl <|
                q_int .n (.t rfl) (.c rfl) rfl rfl <|
                q_assign .n (.t rfl) rfl <|
                Lex.nil) ?_
            refine run_seq ?_
            refine run_region (q_move .n (.t rfl) rfl <|
                q_move .n (.t rfl) rfl <|
                q_idx_rm .n (.t rfl) (.t rfl) sl_24 (fun _ => by omega) rfl <|
                q_fld_ro .n (.t rfl) fo_45_3 rfl <|
                q_ld1_ro .n (.t rfl) rfl ic_38 rfl <|
                q_move .n (.t rfl) rfl <|
                q_call0 (full := false) .n .f en_29 (.cons (.t rfl) (.cons (.t rfl) .nil)) (.cons (.b (.a (.same rfl))) (.cons (.b (.a (.same rfl))) .nil)) (fun hg => c_laws_heldSettingS (at' a x1.2).State (IntKind.wrap .i64 ((IntKind.wrap .i64 ((IntKind.wrap .i64 (x1.1 + 1)) + 1)) + 1)) (by (exact wr64_le))) rfl (fun h => Bool.noConfusion h) rfl <|
                q_assign .n (.t rfl) rfl <|
                Lex.nil) ?_
            refine run_seq ?_
            refine run_region (q_move .n (.t rfl) rfl <|
                q_int .n (.t rfl) (.c rfl) rfl rfl <|
                Lex.nil) ?_
            refine run_cond (.t rfl) rfl (fun h8 => ?_) (fun h8 => ?_)
            · try simp only [Bool.and_eq_true, Bool.or_eq_true, Bool.not_eq_true', Bool.and_eq_false_iff, Bool.or_eq_false_iff, Bool.not_eq_false', decide_eq_true_eq, decide_eq_false_iff_not, beq_iff_eq, bne_iff_ne, beq_eq_false_iff_ne, bne_eq_false_iff_eq, Bool.true_and, ne_eq, Decidable.not_not, Int.not_lt, Int.not_le, Nat.not_lt, Nat.not_le, strB_nil, strB_nil', strB_nnil, strB_nnil'] at h8
              refine run_seq ?_
              refine run_region (q_assign .n (.c rfl) rfl <|
                  Lex.nil) ?_
              exact run_ret [] (.cons (.t rfl rfl) .nil) rfl trivial rfl
            · try simp only [Bool.and_eq_true, Bool.or_eq_true, Bool.not_eq_true', Bool.and_eq_false_iff, Bool.or_eq_false_iff, Bool.not_eq_false', decide_eq_true_eq, decide_eq_false_iff_not, beq_iff_eq, bne_iff_ne, beq_eq_false_iff_ne, bne_eq_false_iff_eq, Bool.true_and, ne_eq, Decidable.not_not, Int.not_lt, Int.not_le, Nat.not_lt, Nat.not_le, strB_nil, strB_nil', strB_nnil, strB_nnil'] at h8
              refine run_skip ?_
              refine run_endB ?_
              refine run_region (q_move .n (.t rfl) rfl <|
                  q_add .n (.t rfl) (.c rfl) (fun _ => by omega) rfl <|
                  q_assign .n (.t rfl) rfl <|
                  Lex.nil) ?_
              exact run_again (m_laws_heldSettingS (at' a x1.2).State (IntKind.wrap .i64 ((IntKind.wrap .i64 ((IntKind.wrap .i64 (x1.1 + 1)) + 1)) + 1)), x1.2 + 1) ⟨by omega, by omega, by (exact held_set_le wr64_le)⟩ (by omega) (sub_of [] ⟨rfl, rfl, rfl, trivial⟩ trivial rfl)
    · try simp only [Bool.and_eq_true, Bool.or_eq_true, Bool.not_eq_true', Bool.and_eq_false_iff, Bool.or_eq_false_iff, Bool.not_eq_false', decide_eq_true_eq, decide_eq_false_iff_not, beq_iff_eq, bne_iff_ne, beq_eq_false_iff_ne, bne_eq_false_iff_eq, Bool.true_and, ne_eq, Decidable.not_not, Int.not_lt, Int.not_le, Nat.not_lt, Nat.not_le, strB_nil, strB_nil', strB_nnil, strB_nnil'] at h4
      refine run_exit rfl ?_
      exact run_cont hk2 (x1.1, x1.2) ⟨by omega, by omega, by omega, by omega⟩ (sub_of [] ⟨rfl, trivial⟩ trivial rfl)

/-! ### laws_FnExactMergeVersions -/
set_option maxRecDepth 100000 in
set_option maxHeartbeats 4000000 in
theorem c_laws_FnExactMergeVersions (aList : List gVersion) (aA : Int) (aB : Int) (aMemo : List UInt8) (hp1 : aList.length ≤ 9223372036854775807 ∧ ∀ y ∈ aList, gVersion.ok y) (hp2 : -9223372036854775808 ≤ aA ∧ aA ≤ 9223372036854775807) (hp3 : -9223372036854775808 ≤ aB ∧ aB ≤ 9223372036854775807) (hp4 : aMemo.length ≤ 9223372036854775807) : Con Try.prog 3 [.sl 4 (aList.map gVersion.v), .int .i64 aA, .int .i64 aB, .str aMemo] [] (.bool (m_laws_FnExactMergeVersions aList aA aB aMemo)) ([]) := by
  refine con_intro (out := fun r : Bool => ((.bool r : V), ([] : List (Nat × Option O)))) (r := (m_laws_FnExactMergeVersions aList aA aB aMemo)) Try.func3 rfl Try.ntmps3 rfl ?_
  refine run_fact (t := 0) rfl fun hl => ?_
  have l1 := hl; clear hl; simp only [List.length_map] at l1
  refine run_seq ?_
  refine run_region (q_assign .n (.c rfl) rfl <|
      Lex.nil) ?_
  refine run_seq ?_
  refine run_seq ?_
  refine run_region (q_move .n (.t rfl) rfl <|
      q_len .n (.t rfl) rfl rfl st_9 rfl <|
      q_int .n (.t rfl) (.c rfl) rfl rfl <|
      Lex.nil) ?_
  refine run_cond (.t rfl) rfl (fun h2 => ?_) (fun h2 => ?_)
  · try simp only [Bool.and_eq_true, Bool.or_eq_true, Bool.not_eq_true', Bool.and_eq_false_iff, Bool.or_eq_false_iff, Bool.not_eq_false', decide_eq_true_eq, decide_eq_false_iff_not, beq_iff_eq, bne_iff_ne, beq_eq_false_iff_ne, bne_eq_false_iff_eq, Bool.true_and, ne_eq, Decidable.not_not, Int.not_lt, Int.not_le, Nat.not_lt, Nat.not_le, strB_nil, strB_nil', strB_nnil, strB_nnil'] at h2
    refine run_seq ?_
    refine run_region (q_assign .n (.c rfl) rfl <|
        Lex.nil) ?_
    exact run_ret [] (.cons (.t rfl rfl) .nil) rfl trivial rfl
  · try simp only [Bool.and_eq_true, Bool.or_eq_true, Bool.not_eq_true', Bool.and_eq_false_iff, Bool.or_eq_false_iff, Bool.not_eq_false', decide_eq_true_eq, decide_eq_false_iff_not, beq_iff_eq, bne_iff_ne, beq_eq_false_iff_ne, bne_eq_false_iff_eq, Bool.true_and, ne_eq, Decidable.not_not, Int.not_lt, Int.not_le, Nat.not_lt, Nat.not_le, strB_nil, strB_nil', strB_nnil, strB_nnil'] at h2
    refine run_skip ?_
    refine run_seq ?_
    refine run_region (q_assign .n (.c rfl) rfl <|
        Lex.nil) ?_
    refine run_seq ?_
    refine run_region (q_move .n (.t rfl) rfl <|
        q_move .n (.t rfl) rfl <|
        q_call0 (full := false) .n .f en_4 (.cons (.t rfl) (.cons (.t rfl) .nil)) (.cons (.b (.a (.same rfl))) (.cons (.b (.a (.same rfl))) .nil)) (fun hg => c_laws_szVersionS aList 1048576) rfl (fun h => Bool.noConfusion h) rfl <|
        q_assign .n (.t rfl) rfl <|
        Lex.nil) ?_
    refine run_seq ?_
    refine run_seq ?_
    refine run_region (q_move .n (.t rfl) rfl <|
        q_int .n (.t rfl) (.c rfl) rfl rfl <|
        Lex.nil) ?_
    refine run_cond (.t rfl) rfl (fun h3 => ?_) (fun h3 => ?_)
    · try simp only [Bool.and_eq_true, Bool.or_eq_true, Bool.not_eq_true', Bool.and_eq_false_iff, Bool.or_eq_false_iff, Bool.not_eq_false', decide_eq_true_eq, decide_eq_false_iff_not, beq_iff_eq, bne_iff_ne, beq_eq_false_iff_ne, bne_eq_false_iff_eq, Bool.true_and, ne_eq, Decidable.not_not, Int.not_lt, Int.not_le, Nat.not_lt, Nat.not_le, strB_nil, strB_nil', strB_nnil, strB_nnil'] at h3
      try with_reducible have hf0h3 := szVersionS_impA (by assumption) (by omega) (by omega) h3
      try with_reducible have hf1h3 := szVersionS_impA (by assumption) (by omega) (by omega) h3.1
      try with_reducible have hf2h3 := szVersionS_impA (by assumption) (by omega) (by omega) h3.2
      try with_reducible have hf3h3 := szVersionS_impA (by assumption) (by omega) (by omega) h3.1.1
      try with_reducible have hf4h3 := szVersionS_impA (by assumption) (by omega) (by omega) h3.1.2
      try with_reducible have hf5h3 := szVersionS_impA (by assumption) (by omega) (by omega) h3.2.1
      try with_reducible have hf6h3 := szVersionS_impA (by assumption) (by omega) (by omega) h3.2.2
      try with_reducible have hf7h3 := szVersionS_impB (by assumption) (by omega) (by omega) h3
      try with_reducible have hf8h3 := szVersionS_impB (by assumption) (by omega) (by omega) h3.1
      try with_reducible have hf9h3 := szVersionS_impB (by assumption) (by omega) (by omega) h3.2
      try with_reducible have hf10h3 := szVersionS_impB (by assumption) (by omega) (by omega) h3.1.1
      try with_reducible have hf11h3 := szVersionS_impB (by assumption) (by omega) (by omega) h3.1.2
      try with_reducible have hf12h3 := szVersionS_impB (by assumption) (by omega) (by omega) h3.2.1
      try with_reducible have hf13h3 := szVersionS_impB (by assumption) (by omega) (by omega) h3.2.2
      refine run_seq ?_
      refine run_region (q_assign .n (.c rfl) rfl <|
          Lex.nil) ?_
      exact run_ret [] (.cons (.t rfl rfl) .nil) rfl trivial rfl
    · try simp only [Bool.and_eq_true, Bool.or_eq_true, Bool.not_eq_true', Bool.and_eq_false_iff, Bool.or_eq_false_iff, Bool.not_eq_false', decide_eq_true_eq, decide_eq_false_iff_not, beq_iff_eq, bne_iff_ne, beq_eq_false_iff_ne, bne_eq_false_iff_eq, Bool.true_and, ne_eq, Decidable.not_not, Int.not_lt, Int.not_le, Nat.not_lt, Nat.not_le, strB_nil, strB_nil', strB_nnil, strB_nnil'] at h3
      try with_reducible have hf0h3 := szVersionS_impA (by assumption) (by omega) (by omega) h3
      try with_reducible have hf1h3 := szVersionS_impA (by assumption) (by omega) (by omega) h3.1
      try with_reducible have hf2h3 := szVersionS_impA (by assumption) (by omega) (by omega) h3.2
      try with_reducible have hf3h3 := szVersionS_impA (by assumption) (by omega) (by omega) h3.1.1
      try with_reducible have hf4h3 := szVersionS_impA (by assumption) (by omega) (by omega) h3.1.2
      try with_reducible have hf5h3 := szVersionS_impA (by assumption) (by omega) (by omega) h3.2.1
      try with_reducible have hf6h3 := szVersionS_impA (by assumption) (by omega) (by omega) h3.2.2
      try with_reducible have hf7h3 := szVersionS_impB (by assumption) (by omega) (by omega) h3
      try with_reducible have hf8h3 := szVersionS_impB (by assumption) (by omega) (by omega) h3.1
      try with_reducible have hf9h3 := szVersionS_impB (by assumption) (by omega) (by omega) h3.2
      try with_reducible have hf10h3 := szVersionS_impB (by assumption) (by omega) (by omega) h3.1.1
      try with_reducible have hf11h3 := szVersionS_impB (by assumption) (by omega) (by omega) h3.1.2
      try with_reducible have hf12h3 := szVersionS_impB (by assumption) (by omega) (by omega) h3.2.1
      try with_reducible have hf13h3 := szVersionS_impB (by assumption) (by omega) (by omega) h3.2.2
      refine run_skip ?_
      refine run_seq ?_
      refine run_region (q_move .n (.t rfl) rfl <|
          q_callM (full := false) [] [(100, 200)] .n rfl .f en_6 (.cons (.t rfl) .nil) (.cons (.b (.a (.same rfl))) .nil) (c_laws_toVersionS aList (by omega)) trivial rfl rfl (fun h => Bool.noConfusion h) (fun h => Bool.noConfusion h) rfl <|
          q_move .n (.t rfl) rfl <|
          q_move .n (.t rfl) rfl <|
          q_move .n (.t rfl) rfl <|
          q_callM (full := true) [] [(100, 201)] .n rfl .f en_5 (.cons (.t rfl) (.cons (.t rfl) (.cons (.t rfl) (.cons (.t rfl) .nil)))) (.cons (.b (.a (.nown rfl rfl rfl (by simp only [len_map, put_len, markSettingS_len, markVersionS_len] <;> rfl)))) (.cons (.b (.a (.same rfl))) (.cons (.b (.a (.same rfl))) (.cons (.b (.a (.same rfl))) .nil)))) (c_spec_MergeVersions (m_laws_toVersionS aList) aA aB aMemo (by ((intro v hv; rw [toVersionS_eq] at hv; exact ((by assumption : aList.length ≤ 1048576 ∧ ∀ y ∈ aList, gVersion.sz y).2 v hv).1))) (by omega)) trivial rfl rfl (fun _ => rfl) (fun _ => (hr_nest (fun _ => rfl) (fun _ => rfl) (fun _ => rfl) hr_nil)) rfl <|
          q_move .n (.t rfl) rfl <|
          q_ext .n (.t rfl) rfl rfl rfl <|
          q_ext .n (.t rfl) rfl rfl rfl <|
          q_assign .n (.t rfl) rfl <|
          q_assign .n (.t rfl) rfl <|
          Lex.nil) ?_
      refine run_seq ?_
      refine run_region (q_move .n (.t rfl) rfl <|
          q_callM (full := false) [] [(100, 202)] .n rfl .f en_6 (.cons (.t rfl) .nil) (.cons (.b (.a (.same rfl))) .nil) (c_laws_toVersionS aList (by omega)) trivial rfl rfl (fun h => Bool.noConfusion h) (fun h => Bool.noConfusion h) rfl <|
          q_assign .n (.t rfl) rfl <|
          Lex.nil) ?_
      refine run_seq ?_
      refine run_region (q_move .n (.t rfl) rfl <|
          q_move .n (.t rfl) rfl <|
          q_move .n (.t rfl) rfl <|
          q_move .n (.t rfl) rfl <|
          q_callM (full := true) [] [(100, 203)] .n rfl .f en_7 (.cons (.t rfl) (.cons (.t rfl) (.cons (.t rfl) (.cons (.t rfl) .nil)))) (.cons (.b (.a (.nown rfl rfl rfl (by simp only [len_map, put_len, markSettingS_len, markVersionS_len] <;> rfl)))) (.cons (.b (.a (.same rfl))) (.cons (.b (.a (.same rfl))) (.cons (.b (.a (.same rfl))) .nil)))) (c_impl_MergeVersions (m_laws_toVersionS aList) aA aB aMemo) trivial rfl rfl (fun _ => rfl) (fun _ => (hr_nest (fun _ => rfl) (fun _ => rfl) (fun _ => rfl) hr_nil)) rfl <|
          q_move .n (.t rfl) rfl <|
          q_ext .n (.t rfl) rfl rfl rfl <|
          q_ext .n (.t rfl) rfl rfl rfl <|
          q_assign .n (.t rfl) rfl <|
          q_assign .n (.t rfl) rfl <|
          Lex.nil) ?_
      refine run_seq ?_
      refine run_seq ?_
      refine run_region (q_move .n (.t rfl) rfl <|
          q_move .n (.t rfl) rfl <|
          q_call0 (full := true) .n .f en_8 (.cons (.t rfl) (.cons (.t rfl) .nil)) (.cons (.b (.a (.nown rfl rfl rfl (by simp only [len_map, put_len, markSettingS_len, markVersionS_len] <;> rfl)))) (.cons (.b (.a (.nown rfl rfl rfl (by simp only [len_map, put_len, markSettingS_len, markVersionS_len] <;> rfl)))) .nil)) (fun hg => c_laws_eqVersionS (m_impl_MergeVersions (m_laws_toVersionS aList) aA aB aMemo).1 (m_spec_MergeVersions (m_laws_toVersionS aList) aA aB aMemo).1) rfl (fun _ => rfl) rfl <|
          q_not .n (.t rfl) rfl <|
          q_move .n (.t rfl) rfl <|
          q_move (.f rfl rfl) (.t rfl) rfl <|
          q_move (.f rfl rfl) (.t rfl) rfl <|
          q_int (.f rfl rfl) (.u rfl id) (.u rfl id) rfl rfl <|
          q_or .n (.t rfl) (.u rfl id) rfl <|
          Lex.nil) ?_
      refine run_cond (.t rfl) rfl (fun h4 => ?_) (fun h4 => ?_)
      · try simp only [Bool.and_eq_true, Bool.or_eq_true, Bool.not_eq_true', Bool.and_eq_false_iff, Bool.or_eq_false_iff, Bool.not_eq_false', decide_eq_true_eq, decide_eq_false_iff_not, beq_iff_eq, bne_iff_ne, beq_eq_false_iff_ne, bne_eq_false_iff_eq, Bool.true_and, ne_eq, Decidable.not_not, Int.not_lt, Int.not_le, Nat.not_lt, Nat.not_le, strB_nil, strB_nil', strB_nnil, strB_nnil'] at h4
        refine run_seq ?_
        refine run_region (q_assign .n (.c rfl) rfl <|
            Lex.nil) ?_
        exact run_ret [] (.cons (.t rfl rfl) .nil) rfl trivial rfl
      · try simp only [Bool.and_eq_true, Bool.or_eq_true, Bool.not_eq_true', Bool.and_eq_false_iff, Bool.or_eq_false_iff, Bool.not_eq_false', decide_eq_true_eq, decide_eq_false_iff_not, beq_iff_eq, bne_iff_ne, beq_eq_false_iff_ne, bne_eq_false_iff_eq, Bool.true_and, ne_eq, Decidable.not_not, Int.not_lt, Int.not_le, Nat.not_lt, Nat.not_le, strB_nil, strB_nil', strB_nnil, strB_nnil'] at h4
        refine run_skip ?_
        refine run_seq ?_
        refine run_seq ?_
        refine run_region (q_move .n (.t rfl) rfl <|
            q_move .n (.t rfl) rfl <|
            q_callM (full := false) [] [(100, 204)] .n rfl .f en_6 (.cons (.t rfl) .nil) (.cons (.b (.a (.same rfl))) .nil) (c_laws_toVersionS aList (by omega)) trivial rfl rfl (fun h => Bool.noConfusion h) (fun h => Bool.noConfusion h) rfl <|
            q_call0 (full := true) .n .f en_8 (.cons (.t rfl) (.cons (.t rfl) .nil)) (.cons (.b (.a (.nown rfl rfl rfl (by simp only [len_map, put_len, markSettingS_len, markVersionS_len] <;> rfl)))) (.cons (.b (.a (.nown rfl rfl rfl (by simp only [len_map, put_len, markSettingS_len, markVersionS_len] <;> rfl)))) .nil)) (fun hg => c_laws_eqVersionS (m_laws_toVersionS aList) (m_laws_toVersionS aList)) rfl (fun _ => rfl) rfl <|
            q_not .n (.t rfl) rfl <|
            Lex.nil) ?_
        refine run_cond (.t rfl) rfl (fun h5 => ?_) (fun h5 => ?_)
        · try simp only [Bool.and_eq_true, Bool.or_eq_true, Bool.not_eq_true', Bool.and_eq_false_iff, Bool.or_eq_false_iff, Bool.not_eq_false', decide_eq_true_eq, decide_eq_false_iff_not, beq_iff_eq, bne_iff_ne, beq_eq_false_iff_ne, bne_eq_false_iff_eq, Bool.true_and, ne_eq, Decidable.not_not, Int.not_lt, Int.not_le, Nat.not_lt, Nat.not_le, strB_nil, strB_nil', strB_nnil, strB_nnil'] at h5
          refine run_seq ?_
          refine run_region (q_assign .n (.c rfl) rfl <|
              Lex.nil) ?_
          exact run_ret [] (.cons (.t rfl rfl) .nil) rfl trivial rfl
        · try simp only [Bool.and_eq_true, Bool.or_eq_true, Bool.not_eq_true', Bool.and_eq_false_iff, Bool.or_eq_false_iff, Bool.not_eq_false', decide_eq_true_eq, decide_eq_false_iff_not, beq_iff_eq, bne_iff_ne, beq_eq_false_iff_ne, bne_eq_false_iff_eq, Bool.true_and, ne_eq, Decidable.not_not, Int.not_lt, Int.not_le, Nat.not_lt, Nat.not_le, strB_nil, strB_nil', strB_nnil, strB_nnil'] at h5
          refine run_skip ?_
          refine run_seq ?_
          refine run_region (q_assign .n (.c rfl) rfl <|
              Lex.nil) ?_
          refine run_seq ?_
          refine run_region (q_move .n (.t rfl) rfl <|
              q_move .n (.t rfl) rfl <|
              q_callM (full := false) [(0, 202)] [] .n rfl .f en_9 (.cons (.t rfl) (.cons (.t rfl) .nil)) (.cons (.b (.muts rfl)) (.cons (.b (.a (.same rfl))) .nil)) (c_laws_markVersionS (m_laws_toVersionS aList) 1 (by omega)) ⟨rfl, trivial⟩ rfl rfl (fun h => Bool.noConfusion h) (fun h => Bool.noConfusion h) rfl <|
              q_assign .n (.t rfl) rfl <|
              Lex.nil) ?_
          refine run_seq ?_
          refine run_seq ?_
          refine run_region (q_move .n (.t rfl) rfl <|
              q_int .n (.t rfl) (.c rfl) rfl rfl <|
              q_move .n (.t rfl) rfl <|
              q_move (.f rfl rfl) (.t rfl) rfl <|
              q_move (.f rfl rfl) (.t rfl) rfl <|
              q_call0 (full := true) (.f rfl rfl) .f en_8 (.cons (.u rfl id) (.cons (.u rfl id) .nil)) (.cons (.b (.a (.nown rfl rfl rfl (by simp only [len_map, put_len, markSettingS_len, markVersionS_len] <;> rfl)))) (.cons (.b (.a (.nown rfl rfl rfl (by simp only [len_map, put_len, markSettingS_len, markVersionS_len] <;> rfl)))) .nil)) (fun hg => c_laws_eqVersionS (m_impl_MergeVersions (m_laws_toVersionS aList) aA aB aMemo).1 (m_spec_MergeVersions (m_laws_toVersionS aList) aA aB aMemo).1) rfl (fun _ => rfl) rfl <|
              q_not (.f rfl rfl) (.u rfl id) rfl <|
              q_or .n (.t rfl) (.u rfl id) rfl <|
              q_move .n (.t rfl) rfl <|
              q_move (.f rfl rfl) (.t rfl) rfl <|
              q_move (.f rfl rfl) (.t rfl) rfl <|
              q_int (.f rfl rfl) (.u rfl id) (.u rfl id) rfl rfl <|
              q_or .n (.t rfl) (.u rfl id) rfl <|
              Lex.nil) ?_
          refine run_cond (.t rfl) rfl (fun h6 => ?_) (fun h6 => ?_)
          · try simp only [Bool.and_eq_true, Bool.or_eq_true, Bool.not_eq_true', Bool.and_eq_false_iff, Bool.or_eq_false_iff, Bool.not_eq_false', decide_eq_true_eq, decide_eq_false_iff_not, beq_iff_eq, bne_iff_ne, beq_eq_false_iff_ne, bne_eq_false_iff_eq, Bool.true_and, ne_eq, Decidable.not_not, Int.not_lt, Int.not_le, Nat.not_lt, Nat.not_le, strB_nil, strB_nil', strB_nnil, strB_nnil'] at h6
            refine run_seq ?_
            refine run_region (q_assign .n (.c rfl) rfl <|
                Lex.nil) ?_
            exact run_ret [] (.cons (.t rfl rfl) .nil) rfl trivial rfl
          · try simp only [Bool.and_eq_true, Bool.or_eq_true, Bool.not_eq_true', Bool.and_eq_false_iff, Bool.or_eq_false_iff, Bool.not_eq_false', decide_eq_true_eq, decide_eq_false_iff_not, beq_iff_eq, bne_iff_ne, beq_eq_false_iff_ne, bne_eq_false_iff_eq, Bool.true_and, ne_eq, Decidable.not_not, Int.not_lt, Int.not_le, Nat.not_lt, Nat.not_le, strB_nil, strB_nil', strB_nnil, strB_nnil'] at h6
            refine run_skip ?_
            refine run_seq ?_
            refine run_region (q_assign .n (.c rfl) rfl <|
                Lex.nil) ?_
            refine run_seq ?_
            refine run_region (q_move .n (.t rfl) rfl <|
                q_move .n (.t rfl) rfl <|
                q_callM (full := false) [(0, 203)] [] .n rfl .f en_9 (.cons (.t rfl) (.cons (.t rfl) .nil)) (.cons (.b (.muts rfl)) (.cons (.b (.a (.same rfl))) .nil)) (c_laws_markVersionS (m_impl_MergeVersions (m_laws_toVersionS aList) aA aB aMemo).1 1 (by omega)) ⟨rfl, trivial⟩ rfl rfl (fun h => Bool.noConfusion h) (fun h => Bool.noConfusion h) rfl <|
                q_assign .n (.t rfl) rfl <|
                Lex.nil) ?_
            refine run_seq ?_
            refine run_region (q_assign .n (.c rfl) rfl <|
                Lex.nil) ?_
            refine run_seq ?_
            refine run_region (q_move .n (.t rfl) rfl <|
                q_move .n (.t rfl) rfl <|
                q_call0 (full := true) .n .f en_10 (.cons (.t rfl) (.cons (.t rfl) .nil)) (.cons (.b (.a (.nown rfl rfl rfl (by simp only [len_map, put_len, markSettingS_len, markVersionS_len] <;> rfl)))) (.cons (.b (.a (.same rfl))) .nil)) (fun hg => c_laws_heldVersionS (m_laws_markVersionS (m_impl_MergeVersions (m_laws_toVersionS aList) aA aB aMemo).1 1).2 1 (by omega)) rfl (fun _ => rfl) rfl <|
                q_assign .n (.t rfl) rfl <|
                Lex.nil) ?_
            refine run_seq ?_
            refine run_seq ?_
            refine run_region (q_move .n (.t rfl) rfl <|
                q_int .n (.t rfl) (.c rfl) rfl rfl <|
                Lex.nil) ?_
            refine run_cond (.t rfl) rfl (fun h7 => ?_) (fun h7 => ?_)
            · try simp only [Bool.and_eq_true, Bool.or_eq_true, Bool.not_eq_true', Bool.and_eq_false_iff, Bool.or_eq_false_iff, Bool.not_eq_false', decide_eq_true_eq, decide_eq_false_iff_not, beq_iff_eq, bne_iff_ne, beq_eq_false_iff_ne, bne_eq_false_iff_eq, Bool.true_and, ne_eq, Decidable.not_not, Int.not_lt, Int.not_le, Nat.not_lt, Nat.not_le, strB_nil, strB_nil', strB_nnil, strB_nnil'] at h7
              refine run_seq ?_
              refine run_region (q_assign .n (.c rfl) rfl <|
                  Lex.nil) ?_
              exact run_ret [] (.cons (.t rfl rfl) .nil) rfl trivial rfl
            · try simp only [Bool.and_eq_true, Bool.or_eq_true, Bool.not_eq_true', Bool.and_eq_false_iff, Bool.or_eq_false_iff, Bool.not_eq_false', decide_eq_true_eq, decide_eq_false_iff_not, beq_iff_eq, bne_iff_ne, beq_eq_false_iff_ne, bne_eq_false_iff_eq, Bool.true_and, ne_eq, Decidable.not_not, Int.not_lt, Int.not_le, Nat.not_lt, Nat.not_le, strB_nil, strB_nil', strB_nnil, strB_nnil'] at h7
              refine run_skip ?_
              refine run_seq ?_
              refine run_seq ?_
              refine run_region (q_move .n (.t rfl) rfl <|
                  q_move .n (.t rfl) rfl <|
                  q_int .n (.t rfl) (.t rfl) rfl rfl <|
                  Lex.nil) ?_
              refine run_cond (.t rfl) rfl (fun h8 => ?_) (fun h8 => ?_)
              · try simp only [Bool.and_eq_true, Bool.or_eq_true, Bool.not_eq_true', Bool.and_eq_false_iff, Bool.or_eq_false_iff, Bool.not_eq_false', decide_eq_true_eq, decide_eq_false_iff_not, beq_iff_eq, bne_iff_ne, beq_eq_false_iff_ne, bne_eq_false_iff_eq, Bool.true_and, ne_eq, Decidable.not_not, Int.not_lt, Int.not_le, Nat.not_lt, Nat.not_le, strB_nil, strB_nil', strB_nnil, strB_nnil'] at h8
                refine run_seq ?_
                refine run_region (q_assign .n (.c rfl) rfl <|
                    Lex.nil) ?_
                exact run_ret [] (.cons (.t rfl rfl) .nil) rfl trivial rfl
              · try simp only [Bool.and_eq_true, Bool.or_eq_true, Bool.not_eq_true', Bool.and_eq_false_iff, Bool.or_eq_false_iff, Bool.not_eq_false', decide_eq_true_eq, decide_eq_false_iff_not, beq_iff_eq, bne_iff_ne, beq_eq_false_iff_ne, bne_eq_false_iff_eq, Bool.true_and, ne_eq, Decidable.not_not, Int.not_lt, Int.not_le, Nat.not_lt, Nat.not_le, strB_nil, strB_nil', strB_nnil, strB_nnil'] at h8
                refine run_skip ?_
                refine run_seq ?_
                refine run_region (q_move .n (.t rfl) rfl <|
                    q_callM (full := false) [] [(100, 205)] .n rfl .f en_6 (.cons (.t rfl) .nil) (.cons (.b (.a (.same rfl))) .nil) (c_laws_toVersionS aList (by omega)) trivial rfl rfl (fun h => Bool.noConfusion h) (fun h => Bool.noConfusion h) rfl <|
                    q_move .n (.t rfl) rfl <|
                    q_move .n (.t rfl) rfl <|
                    q_move .n (.t rfl) rfl <|
                    q_callM (full := true) [] [(100, 206)] .n rfl .f en_7 (.cons (.t rfl) (.cons (.t rfl) (.cons (.t rfl) (.cons (.t rfl) .nil)))) (.cons (.b (.a (.nown rfl rfl rfl (by simp only [len_map, put_len, markSettingS_len, markVersionS_len] <;> rfl)))) (.cons (.b (.a (.same rfl))) (.cons (.b (.a (.same rfl))) (.cons (.b (.a (.same rfl))) .nil)))) (c_impl_MergeVersions (m_laws_toVersionS aList) aA aB aMemo) trivial rfl rfl (fun _ => rfl) (fun _ => (hr_nest (fun _ => rfl) (fun _ => rfl) (fun _ => rfl) hr_nil)) rfl <|
                    q_move .n (.t rfl) rfl <|
                    q_ext .n (.t rfl) rfl rfl rfl <|
                    q_ext .n (.t rfl) rfl rfl rfl <|
                    q_assign .n (.t rfl) rfl <|
                    q_assign .n (.t rfl) rfl <|
                    Lex.nil) ?_
                refine run_seq ?_
                refine run_seq ?_
                refine run_region (q_move .n (.t rfl) rfl <|
                    q_move .n (.t rfl) rfl <|
                    q_call0 (full := true) .n .f en_8 (.cons (.t rfl) (.cons (.t rfl) .nil)) (.cons (.b (.a (.nown rfl rfl rfl (by simp only [len_map, put_len, markSettingS_len, markVersionS_len] <;> rfl)))) (.cons (.b (.a (.nown rfl rfl rfl (by simp only [len_map, put_len, markSettingS_len, markVersionS_len] <;> rfl)))) .nil)) (fun hg => c_laws_eqVersionS (m_impl_MergeVersions (m_laws_toVersionS aList) aA aB aMemo).1 (m_spec_MergeVersions (m_laws_toVersionS aList) aA aB aMemo).1) rfl (fun _ => rfl) rfl <|
                    q_not .n (.t rfl) rfl <|
                    q_move .n (.t rfl) rfl <|
                    q_move (.f rfl rfl) (.t rfl) rfl <|
                    q_move (.f rfl rfl) (.t rfl) rfl <|
                    q_int (.f rfl rfl) (.u rfl id) (.u rfl id) rfl rfl <|
                    q_or .n (.t rfl) (.u rfl id) rfl <|
                    Lex.nil) ?_
                refine run_cond (.t rfl) rfl (fun h9 => ?_) (fun h9 => ?_)
                · try simp only [Bool.and_eq_true, Bool.or_eq_true, Bool.not_eq_true', Bool.and_eq_false_iff, Bool.or_eq_false_iff, Bool.not_eq_false', decide_eq_true_eq, decide_eq_false_iff_not, beq_iff_eq, bne_iff_ne, beq_eq_false_iff_ne, bne_eq_false_iff_eq, Bool.true_and, ne_eq, Decidable.not_not, Int.not_lt, Int.not_le, Nat.not_lt, Nat.not_le, strB_nil, strB_nil', strB_nnil, strB_nnil'] at h9
                  refine run_seq ?_
                  refine run_region (q_assign .n (.c rfl) rfl <|
                      Lex.nil) ?_
                  exact run_ret [] (.cons (.t rfl rfl) .nil) rfl trivial rfl
                · try simp only [Bool.and_eq_true, Bool.or_eq_true, Bool.not_eq_true', Bool.and_eq_false_iff, Bool.or_eq_false_iff, Bool.not_eq_false', decide_eq_true_eq, decide_eq_false_iff_not, beq_iff_eq, bne_iff_ne, beq_eq_false_iff_ne, bne_eq_false_iff_eq, Bool.true_and, ne_eq, Decidable.not_not, Int.not_lt, Int.not_le, Nat.not_lt, Nat.not_le, strB_nil, strB_nil', strB_nnil, strB_nnil'] at h9
                  refine run_skip ?_
                  refine run_seq ?_
                  refine run_region (q_assign .n (.c rfl) rfl <|
                      Lex.nil) ?_
                  refine run_seq ?_
                  refine run_region (q_move .n (.t rfl) rfl <|
                      q_move .n (.t rfl) rfl <|
                      q_call0 (full := true) .n .f en_10 (.cons (.t rfl) (.cons (.t rfl) .nil)) (.cons (.b (.a (.nown rfl rfl rfl (by simp only [len_map, put_len, markSettingS_len, markVersionS_len] <;> rfl)))) (.cons (.b (.a (.same rfl))) .nil)) (fun hg => c_laws_heldVersionS (m_laws_markVersionS (m_impl_MergeVersions (m_laws_toVersionS aList) aA aB aMemo).1 1).2 1 (by omega)) rfl (fun _ => rfl) rfl <|
                      q_assign .n (.t rfl) rfl <|
                      Lex.nil) ?_
                  refine run_seq ?_
                  refine run_seq ?_
                  refine run_region (q_move .n (.t rfl) rfl <|
                      q_int .n (.t rfl) (.c rfl) rfl rfl <|
                      Lex.nil) ?_
                  refine run_cond (.t rfl) rfl (fun h10 => ?_) (fun h10 => ?_)
                  · try simp only [Bool.and_eq_true, Bool.or_eq_true, Bool.not_eq_true', Bool.and_eq_false_iff, Bool.or_eq_false_iff, Bool.not_eq_false', decide_eq_true_eq, decide_eq_false_iff_not, beq_iff_eq, bne_iff_ne, beq_eq_false_iff_ne, bne_eq_false_iff_eq, Bool.true_and, ne_eq, Decidable.not_not, Int.not_lt, Int.not_le, Nat.not_lt, Nat.not_le, strB_nil, strB_nil', strB_nnil, strB_nnil'] at h10
                    refine run_seq ?_
                    refine run_region (q_assign .n (.c rfl) rfl <|
                        Lex.nil) ?_
                    exact run_ret [] (.cons (.t rfl rfl) .nil) rfl trivial rfl
                  · try simp only [Bool.and_eq_true, Bool.or_eq_true, Bool.not_eq_true', Bool.and_eq_false_iff, Bool.or_eq_false_iff, Bool.not_eq_false', decide_eq_true_eq, decide_eq_false_iff_not, beq_iff_eq, bne_iff_ne, beq_eq_false_iff_ne, bne_eq_false_iff_eq, Bool.true_and, ne_eq, Decidable.not_not, Int.not_lt, Int.not_le, Nat.not_lt, Nat.not_le, strB_nil, strB_nil', strB_nnil, strB_nnil'] at h10
                    refine run_skip ?_
                    refine run_seq ?_
                    refine run_seq ?_
                    refine run_region (q_move .n (.t rfl) rfl <|
                        q_move .n (.t rfl) rfl <|
                        q_int .n (.t rfl) (.t rfl) rfl rfl <|
                        Lex.nil) ?_
                    refine run_cond (.t rfl) rfl (fun h11 => ?_) (fun h11 => ?_)
                    · try simp only [Bool.and_eq_true, Bool.or_eq_true, Bool.not_eq_true', Bool.and_eq_false_iff, Bool.or_eq_false_iff, Bool.not_eq_false', decide_eq_true_eq, decide_eq_false_iff_not, beq_iff_eq, bne_iff_ne, beq_eq_false_iff_ne, bne_eq_false_iff_eq, Bool.true_and, ne_eq, Decidable.not_not, Int.not_lt, Int.not_le, Nat.not_lt, Nat.not_le, strB_nil, strB_nil', strB_nnil, strB_nnil'] at h11
                      refine run_seq ?_
                      refine run_region (q_assign .n (.c rfl) rfl <|
                          Lex.nil) ?_
                      exact run_ret [] (.cons (.t rfl rfl) .nil) rfl trivial rfl
                    · try simp only [Bool.and_eq_true, Bool.or_eq_true, Bool.not_eq_true', Bool.and_eq_false_iff, Bool.or_eq_false_iff, Bool.not_eq_false', decide_eq_true_eq, decide_eq_false_iff_not, beq_iff_eq, bne_iff_ne, beq_eq_false_iff_ne, bne_eq_false_iff_eq, Bool.true_and, ne_eq, Decidable.not_not, Int.not_lt, Int.not_le, Nat.not_lt, Nat.not_le, strB_nil, strB_nil', strB_nnil, strB_nnil'] at h11
                      refine run_skip ?_
                      refine run_seq ?_
                      refine run_region (q_assign .n (.c rfl) rfl <|
                          Lex.nil) ?_
                      exact run_ret [] (.cons (.t rfl rfl) .nil) rfl trivial rfl

end Go.Proofs.Ytdkkcemlnjlebaa
