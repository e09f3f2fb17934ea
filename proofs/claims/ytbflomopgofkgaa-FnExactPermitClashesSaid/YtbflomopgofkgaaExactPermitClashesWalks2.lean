/-
  THE WALKS: each Go function computes its model. Conditions: as each theorem states them (hp1, hp2 ..).
-/
import Derived.Test.YtbflomopgofkgaaExactPermitClashesWalks1
set_option linter.unusedVariables false
set_option linter.unusedSimpArgs false
set_option linter.unusedSectionVars false
set_option linter.unnecessarySimpa false
namespace Go.Proofs.Ytbflomopgofkgaa
open Go Go.RowKit Go.Proofs Go.Proofs.Ytbflomopgofkgaa.E
/-! ### impl_onlyNameBytes -/
theorem c_impl_onlyNameBytes (s_ : List UInt8) (hp1 : s_.length ≤ 10) : Con Try.prog 153 [.str s_] [] (.bool (m_impl_onlyNameBytes s_)) ([]) := by
  refine con_intro (out := fun r : Bool => ((.bool r : V), ([] : List (Nat × Option O)))) (r := (m_impl_onlyNameBytes s_)) Try.func153 rfl Try.ntmps153 rfl ?_
  refine run_seq ?_
  refine run_region (q_assign .n (.c rfl) rfl <|
      Lex.nil) ?_
  refine run_seq ?_
  refine run_seq ?_
  refine run_region (q_move .n (.t rfl) rfl <|
      q_len .n (.t rfl) rfl rfl st_9 rfl <|
      q_move .n (.c rfl) rfl <|
      Lex.nil) ?_
  refine run_block ?_
  refine run_LOOP (m_impl_onlyNameBytes_b1 s_) _ _ _ rfl (fun (x1 : Int) => 0 ≤ x1 ∧ x1 ≤ (s_.length : Int)) (fun x1 => 0 ≤ x1 ∧ x1 ≤ (s_.length : Int) ∧ (s_.length : Int) ≤ x1) (fun x1 => ((s_.length : Int) - x1 : Int).toNat) (fun x1 => ⟨[(0, some (true, .str s_)), (6, some (true, .int .i64 (s_.length : Int))), (7, some (true, .int .i64 x1))], []⟩) (fun x1 => ⟨[], []⟩) ⟨by omega, by omega⟩ (by omega) (sub_of [] ⟨rfl, rfl, rfl, trivial⟩ trivial rfl) ?_ ?_
  · intro x1 i5
    obtain ⟨e6, e7, e8⟩ := i5
    try dsimp only at *
    refine run_seq ?_
    refine run_region (q_assign .n (.c rfl) rfl <|
        Lex.nil) ?_
    exact run_ret [] (.cons (.t rfl rfl) .nil) rfl trivial rfl
  · intro rec1 k1 hk1 x1 i2
    obtain ⟨e9, e10⟩ := i2
    try dsimp only at *
    refine run_seq ?_
    refine run_region (q_int .n (.t rfl) (.t rfl) rfl rfl <|
        Lex.nil) ?_
    refine run_seq ?_
    refine run_cond (.t rfl) rfl (fun h3 => ?_) (fun h3 => ?_)
    · try simp only [Bool.and_eq_true, Bool.or_eq_true, Bool.not_eq_true', Bool.and_eq_false_iff, Bool.or_eq_false_iff, Bool.not_eq_false', decide_eq_true_eq, decide_eq_false_iff_not, beq_iff_eq, bne_iff_ne, beq_eq_false_iff_ne, bne_eq_false_iff_eq, Bool.true_and, ne_eq, Decidable.not_not, Int.not_lt, Int.not_le, Nat.not_lt, Nat.not_le, strB_nil, strB_nil', strB_nnil, strB_nnil'] at h3
      refine run_skip ?_
      refine run_seq ?_
      refine run_block ?_
      refine run_seq ?_
      refine run_region (q_move .n (.t rfl) rfl <|
          q_assign .n (.t rfl) rfl <|
          Lex.nil) ?_
      refine run_seq ?_
      refine run_region (q_move .n (.t rfl) rfl <|
          q_move .n (.t rfl) rfl <|
          q_strat .n (.t rfl) (.t rfl) st_9 (fun _ => by omega) rfl <|
          q_assign .n (.t rfl) rfl <|
          Lex.nil) ?_
      refine run_seq ?_
      refine run_region (q_move .n (.t rfl) rfl <|
          q_int .n (.t rfl) (.c rfl) rfl rfl <|
          q_move .n (.t rfl) rfl <|
          q_move (.f rfl rfl) (.t rfl) rfl <|
          q_int (.f rfl rfl) (.u rfl id) (.c rfl) rfl rfl <|
          q_or .n (.t rfl) (.u rfl id) rfl <|
          q_move .n (.t rfl) rfl <|
          q_move (.t rfl rfl) (.t rfl) rfl <|
          q_int (.t rfl rfl) (.u rfl id) (.c rfl) rfl rfl <|
          q_move (.t rfl rfl) (.u rfl id) rfl <|
          q_move (.f rfl rfl) (.t rfl) rfl <|
          q_int (.f rfl rfl) (.u rfl id) (.c rfl) rfl rfl <|
          q_or (.t rfl rfl) (.u rfl id) (.u rfl id) rfl <|
          q_and .n (.t rfl) (.u rfl id) rfl <|
          Lex.nil) ?_
      refine run_cond (.t rfl) rfl (fun h4 => ?_) (fun h4 => ?_)
      · try simp only [Bool.and_eq_true, Bool.or_eq_true, Bool.not_eq_true', Bool.and_eq_false_iff, Bool.or_eq_false_iff, Bool.not_eq_false', decide_eq_true_eq, decide_eq_false_iff_not, beq_iff_eq, bne_iff_ne, beq_eq_false_iff_ne, bne_eq_false_iff_eq, Bool.true_and, ne_eq, Decidable.not_not, Int.not_lt, Int.not_le, Nat.not_lt, Nat.not_le, strB_nil, strB_nil', strB_nnil, strB_nnil'] at h4
        refine run_seq ?_
        refine run_region (q_assign .n (.c rfl) rfl <|
            Lex.nil) ?_
        exact run_ret [] (.cons (.t rfl rfl) .nil) rfl trivial rfl
      · try simp only [Bool.and_eq_true, Bool.or_eq_true, Bool.not_eq_true', Bool.and_eq_false_iff, Bool.or_eq_false_iff, Bool.not_eq_false', decide_eq_true_eq, decide_eq_false_iff_not, beq_iff_eq, bne_iff_ne, beq_eq_false_iff_ne, bne_eq_false_iff_eq, Bool.true_and, ne_eq, Decidable.not_not, Int.not_lt, Int.not_le, Nat.not_lt, Nat.not_le, strB_nil, strB_nil', strB_nnil, strB_nnil'] at h4
        refine run_skip ?_
        refine run_endB ?_
        refine run_region (q_add .n (.t rfl) (.c rfl) (fun _ => by omega) rfl <|
            q_move .n (.t rfl) rfl <|
            Lex.nil) ?_
        exact run_again (x1 + 1) ⟨by omega, by omega⟩ (by omega) (sub_of [] ⟨rfl, rfl, rfl, trivial⟩ trivial rfl)
    · try simp only [Bool.and_eq_true, Bool.or_eq_true, Bool.not_eq_true', Bool.and_eq_false_iff, Bool.or_eq_false_iff, Bool.not_eq_false', decide_eq_true_eq, decide_eq_false_iff_not, beq_iff_eq, bne_iff_ne, beq_eq_false_iff_ne, bne_eq_false_iff_eq, Bool.true_and, ne_eq, Decidable.not_not, Int.not_lt, Int.not_le, Nat.not_lt, Nat.not_le, strB_nil, strB_nil', strB_nnil, strB_nnil'] at h3
      refine run_exit rfl ?_
      exact run_cont hk1 x1 ⟨by omega, by omega, by omega⟩ (sub_of [] trivial trivial rfl)

/-! ### impl_IsName -/
theorem c_impl_IsName (s_ : List UInt8) : Con Try.prog 120 [.str s_] [] (.bool (m_impl_IsName s_)) ([]) := by
  refine con_intro (out := fun r : Bool => ((.bool r : V), ([] : List (Nat × Option O)))) (r := (m_impl_IsName s_)) Try.func120 rfl Try.ntmps120 rfl ?_
  refine run_seq ?_
  refine run_region (q_assign .n (.c rfl) rfl <|
      Lex.nil) ?_
  refine run_seq ?_
  refine run_seq ?_
  refine run_region (q_move .n (.t rfl) rfl <|
      q_len .n (.t rfl) rfl rfl st_9 rfl <|
      q_int .n (.t rfl) (.c rfl) rfl rfl <|
      q_move .n (.t rfl) rfl <|
      q_move (.f rfl rfl) (.t rfl) rfl <|
      q_len (.f rfl rfl) (.u rfl id) rfl rfl st_9 rfl <|
      q_int (.f rfl rfl) (.u rfl id) (.c rfl) rfl rfl <|
      q_or .n (.t rfl) (.u rfl id) rfl <|
      q_move .n (.t rfl) rfl <|
      q_move (.f rfl rfl) (.t rfl) rfl <|
      q_strat (.f rfl rfl) (.u rfl id) (.c rfl) st_9 (fun hg => by simp only [Bool.and_eq_true, Bool.or_eq_true, Bool.not_eq_true', Bool.and_eq_false_iff, Bool.or_eq_false_iff, Bool.not_eq_false', decide_eq_true_eq, decide_eq_false_iff_not, beq_iff_eq, bne_iff_ne, beq_eq_false_iff_ne, bne_eq_false_iff_eq, Bool.true_and, ne_eq, Decidable.not_not, Int.not_lt, Int.not_le, Nat.not_lt, Nat.not_le, strB_nil, strB_nil', strB_nnil, strB_nnil'] at hg; omega) rfl <|
      q_int (.f rfl rfl) (.u rfl id) (.c rfl) rfl rfl <|
      q_or .n (.t rfl) (.u rfl id) rfl <|
      q_move .n (.t rfl) rfl <|
      q_move (.f rfl rfl) (.t rfl) rfl <|
      q_strat (.f rfl rfl) (.u rfl id) (.c rfl) st_9 (fun hg => by simp only [Bool.and_eq_true, Bool.or_eq_true, Bool.not_eq_true', Bool.and_eq_false_iff, Bool.or_eq_false_iff, Bool.not_eq_false', decide_eq_true_eq, decide_eq_false_iff_not, beq_iff_eq, bne_iff_ne, beq_eq_false_iff_ne, bne_eq_false_iff_eq, Bool.true_and, ne_eq, Decidable.not_not, Int.not_lt, Int.not_le, Nat.not_lt, Nat.not_le, strB_nil, strB_nil', strB_nnil, strB_nnil'] at hg; omega) rfl <|
      q_int (.f rfl rfl) (.u rfl id) (.c rfl) rfl rfl <|
      q_or .n (.t rfl) (.u rfl id) rfl <|
      Lex.nil) ?_
  refine run_cond (.t rfl) rfl (fun h1 => ?_) (fun h1 => ?_)
  · try simp only [Bool.and_eq_true, Bool.or_eq_true, Bool.not_eq_true', Bool.and_eq_false_iff, Bool.or_eq_false_iff, Bool.not_eq_false', decide_eq_true_eq, decide_eq_false_iff_not, beq_iff_eq, bne_iff_ne, beq_eq_false_iff_ne, bne_eq_false_iff_eq, Bool.true_and, ne_eq, Decidable.not_not, Int.not_lt, Int.not_le, Nat.not_lt, Nat.not_le, strB_nil, strB_nil', strB_nnil, strB_nnil'] at h1
    refine run_seq ?_
    refine run_region (q_assign .n (.c rfl) rfl <|
        Lex.nil) ?_
    exact run_ret [] (.cons (.t rfl rfl) .nil) rfl trivial rfl
  · try simp only [Bool.and_eq_true, Bool.or_eq_true, Bool.not_eq_true', Bool.and_eq_false_iff, Bool.or_eq_false_iff, Bool.not_eq_false', decide_eq_true_eq, decide_eq_false_iff_not, beq_iff_eq, bne_iff_ne, beq_eq_false_iff_ne, bne_eq_false_iff_eq, Bool.true_and, ne_eq, Decidable.not_not, Int.not_lt, Int.not_le, Nat.not_lt, Nat.not_le, strB_nil, strB_nil', strB_nnil, strB_nnil'] at h1
    refine run_skip ?_
    refine run_seq ?_
    refine run_region (q_move .n (.t rfl) rfl <|
        q_call0 (full := false) .n .f en_153 (.cons (.t rfl) .nil) (.cons (.b (.a (.same rfl))) .nil) (fun hg => c_impl_onlyNameBytes s_ (by omega)) rfl (fun h => Bool.noConfusion h) rfl <|
        q_assign .n (.t rfl) rfl <|
        Lex.nil) ?_
    exact run_ret [] (.cons (.t rfl rfl) .nil) rfl trivial rfl

/-! ### impl_within -/
theorem c_impl_within (n_ : Int) (low : Int) (high : Int) : Con Try.prog 122 [.int .i64 n_, .int .i64 low, .int .i64 high] [] (.bool (m_impl_within n_ low high)) ([]) := by
  refine con_intro (out := fun r : Bool => ((.bool r : V), ([] : List (Nat × Option O)))) (r := (m_impl_within n_ low high)) Try.func122 rfl Try.ntmps122 rfl ?_
  refine run_seq ?_
  refine run_region (q_assign .n (.c rfl) rfl <|
      Lex.nil) ?_
  refine run_seq ?_
  refine run_region (q_move .n (.t rfl) rfl <|
      q_move .n (.t rfl) rfl <|
      q_int .n (.t rfl) (.t rfl) rfl rfl <|
      q_move .n (.t rfl) rfl <|
      q_move (.t rfl rfl) (.t rfl) rfl <|
      q_move (.t rfl rfl) (.t rfl) rfl <|
      q_int (.t rfl rfl) (.u rfl id) (.u rfl id) rfl rfl <|
      q_and .n (.t rfl) (.u rfl id) rfl <|
      q_assign .n (.t rfl) rfl <|
      Lex.nil) ?_
  exact run_ret [] (.cons (.t rfl rfl) .nil) rfl trivial rfl

/-! ### impl_kindOk -/
theorem c_impl_kindOk (n_ : Int) : Con Try.prog 121 [.int .i64 n_] [] (.bool (m_impl_kindOk n_)) ([]) := by
  refine con_intro (out := fun r : Bool => ((.bool r : V), ([] : List (Nat × Option O)))) (r := (m_impl_kindOk n_)) Try.func121 rfl Try.ntmps121 rfl ?_
  refine run_seq ?_
  refine run_region (q_assign .n (.c rfl) rfl <|
      Lex.nil) ?_
  refine run_seq ?_
  refine run_region (q_move .n (.t rfl) rfl <|
      q_call0 (full := false) .n .f en_122 (.cons (.t rfl) (.cons (.c rfl) (.cons (.c rfl) .nil))) (.cons (.b (.a (.same rfl))) (.cons (.b (.a (.same rfl))) (.cons (.b (.a (.same rfl))) .nil))) (fun hg => c_impl_within n_ 1 4) rfl (fun h => Bool.noConfusion h) rfl <|
      q_assign .n (.t rfl) rfl <|
      Lex.nil) ?_
  exact run_ret [] (.cons (.t rfl rfl) .nil) rfl trivial rfl

/-! ### impl_Permit_valid -/
theorem c_impl_Permit_valid (x_ : gPermit) : Con Try.prog 67 [.st [.str x_.Id, .int .i64 x_.Kind, .int .i64 x_.Airway, .int .i64 x_.From, .int .i64 x_.Until]] [] (.bool (m_impl_Permit_valid x_)) ([]) := by
  refine con_intro (out := fun r : Bool => ((.bool r : V), ([] : List (Nat × Option O)))) (r := (m_impl_Permit_valid x_)) Try.func67 rfl Try.ntmps67 rfl ?_
  refine run_seq ?_
  refine run_region (q_box (l := 200) .n rfl (.t rfl) rfl rfl rfl rfl <|
      q_assign .n (.c rfl) rfl <|
      Lex.nil) ?_
  refine run_seq ?_
  refine run_region (q_fld_ow .n (.t rfl) fo_51_0 rfl <|
      q_ld1_ow .n (.t rfl) rfl (.inr rfl) (fun _ => rfl) rfl ic_9 rfl <|
      q_call0 (full := false) .n .f en_120 (.cons (.t rfl) .nil) (.cons (.b (.a (.same rfl))) .nil) (fun hg => c_impl_IsName x_.Id) rfl (fun h => Bool.noConfusion h) rfl <|
      q_move .n (.t rfl) rfl <|
      q_fld_ow (.t rfl rfl) (.t rfl) fo_51_1 rfl <|
      q_ld1_ow (.t rfl rfl) (.u rfl id) rfl (.inr rfl) (fun _ => rfl) rfl ic_2 rfl <|
      q_call0 (full := false) (.t rfl rfl) .f en_121 (.cons (.u rfl id) .nil) (.cons (.b (.a (.same rfl))) .nil) (fun hg => c_impl_kindOk x_.Kind) rfl (fun h => Bool.noConfusion h) rfl <|
      q_and .n (.t rfl) (.u rfl id) rfl <|
      q_move .n (.t rfl) rfl <|
      q_fld_ow (.t rfl rfl) (.t rfl) fo_51_2 rfl <|
      q_ld1_ow (.t rfl rfl) (.u rfl id) rfl (.inr rfl) (fun _ => rfl) rfl ic_2 rfl <|
      q_call0 (full := false) (.t rfl rfl) .f en_122 (.cons (.u rfl id) (.cons (.c rfl) (.cons (.c rfl) .nil))) (.cons (.b (.a (.same rfl))) (.cons (.b (.a (.same rfl))) (.cons (.b (.a (.same rfl))) .nil))) (fun hg => c_impl_within x_.Airway 0 23) rfl (fun h => Bool.noConfusion h) rfl <|
      q_and .n (.t rfl) (.u rfl id) rfl <|
      q_move .n (.t rfl) rfl <|
      q_fld_ow (.t rfl rfl) (.t rfl) fo_51_4 rfl <|
      q_ld1_ow (.t rfl rfl) (.u rfl id) rfl (.inr rfl) (fun _ => rfl) rfl ic_2 rfl <|
      q_call0 (full := false) (.t rfl rfl) .f en_122 (.cons (.u rfl id) (.cons (.c rfl) (.cons (.c rfl) .nil))) (.cons (.b (.a (.same rfl))) (.cons (.b (.a (.same rfl))) (.cons (.b (.a (.same rfl))) .nil))) (fun hg => c_impl_within x_.Until 0 100000) rfl (fun h => Bool.noConfusion h) rfl <|
      q_and .n (.t rfl) (.u rfl id) rfl <|
      q_move .n (.t rfl) rfl <|
      q_fld_ow (.t rfl rfl) (.t rfl) fo_51_3 rfl <|
      q_ld1_ow (.t rfl rfl) (.u rfl id) rfl (.inr rfl) (fun _ => rfl) rfl ic_2 rfl <|
      q_fld_ow (.t rfl rfl) (.t rfl) fo_51_4 rfl <|
      q_ld1_ow (.t rfl rfl) (.u rfl id) rfl (.inr rfl) (fun _ => rfl) rfl ic_2 rfl <|
      q_int (.t rfl rfl) (.u rfl id) (.c rfl) rfl rfl <|
      q_call0 (full := false) (.t rfl rfl) .f en_122 (.cons (.u rfl id) (.cons (.c rfl) (.cons (.u rfl id) .nil))) (.cons (.b (.a (.same rfl))) (.cons (.b (.a (.same rfl))) (.cons (.b (.a (.same rfl))) .nil))) (fun hg => c_impl_within x_.From 0 (IntKind.wrap .i64 (x_.Until - 1))) rfl (fun h => Bool.noConfusion h) rfl <|
      q_and .n (.t rfl) (.u rfl id) rfl <|
      q_assign .n (.t rfl) rfl <|
      Lex.nil) ?_
  exact run_ret [] (.cons (.t rfl rfl) .nil) rfl trivial rfl

/-! ### impl_indexValid_impl_Airway -/
theorem c_impl_indexValid_impl_Airway (list : List gAirway) (k_ : Int) : Con Try.prog 68 [.sl 7 (list.map gAirway.v), .int .i64 k_] [] (.bool (m_impl_indexValid_impl_Airway list k_)) ([]) := by
  refine con_intro (out := fun r : Bool => ((.bool r : V), ([] : List (Nat × Option O)))) (r := (m_impl_indexValid_impl_Airway list k_)) Try.func68 rfl Try.ntmps68 rfl ?_
  refine run_fact (t := 0) rfl fun hl => ?_
  have l1 := hl; clear hl; simp only [List.length_map] at l1
  refine run_seq ?_
  refine run_region (q_assign .n (.c rfl) rfl <|
      Lex.nil) ?_
  refine run_seq ?_
  refine run_region (q_move .n (.t rfl) rfl <|
      q_move .n (.t rfl) rfl <|
      q_len .n (.t rfl) rfl len_map ss_46 rfl <|
      q_sub .n (.t rfl) (.c rfl) (fun _ => by omega) rfl <|
      q_call0 (full := false) .n .f en_122 (.cons (.t rfl) (.cons (.c rfl) (.cons (.t rfl) .nil))) (.cons (.b (.a (.same rfl))) (.cons (.b (.a (.same rfl))) (.cons (.b (.a (.same rfl))) .nil))) (fun hg => c_impl_within k_ 0 ((list.length : Int) - 1)) rfl (fun h => Bool.noConfusion h) rfl <|
      q_assign .n (.t rfl) rfl <|
      Lex.nil) ?_
  exact run_ret [] (.cons (.t rfl rfl) .nil) rfl trivial rfl

/-! ### impl_junctionOk -/
theorem c_impl_junctionOk (n_ : Int) : Con Try.prog 179 [.int .i64 n_] [] (.bool (m_impl_junctionOk n_)) ([]) := by
  refine con_intro (out := fun r : Bool => ((.bool r : V), ([] : List (Nat × Option O)))) (r := (m_impl_junctionOk n_)) Try.func179 rfl Try.ntmps179 rfl ?_
  refine run_seq ?_
  refine run_region (q_assign .n (.c rfl) rfl <|
      Lex.nil) ?_
  refine run_seq ?_
  refine run_region (q_move .n (.t rfl) rfl <|
      q_call0 (full := false) .n .f en_122 (.cons (.t rfl) (.cons (.c rfl) (.cons (.c rfl) .nil))) (.cons (.b (.a (.same rfl))) (.cons (.b (.a (.same rfl))) (.cons (.b (.a (.same rfl))) .nil))) (fun hg => c_impl_within n_ 0 15) rfl (fun h => Bool.noConfusion h) rfl <|
      q_assign .n (.t rfl) rfl <|
      Lex.nil) ?_
  exact run_ret [] (.cons (.t rfl rfl) .nil) rfl trivial rfl

/-! ### impl_ValidAirway -/
theorem c_impl_ValidAirway (a : gAirway) : Con Try.prog 150 [.st [.str a.Id, .int .i64 a.From, .int .i64 a.To, .int .i64 a.Length, .int .i64 a.Section, .int .i64 a.Friction, .int .i64 a.Shock]] [] (.bool (m_impl_ValidAirway a)) ([]) := by
  refine con_intro (out := fun r : Bool => ((.bool r : V), ([] : List (Nat × Option O)))) (r := (m_impl_ValidAirway a)) Try.func150 rfl Try.ntmps150 rfl ?_
  refine run_seq ?_
  refine run_region (q_box (l := 200) .n rfl (.t rfl) rfl rfl rfl rfl <|
      q_assign .n (.c rfl) rfl <|
      Lex.nil) ?_
  refine run_seq ?_
  refine run_region (q_fld_ow .n (.t rfl) fo_106_0 rfl <|
      q_ld1_ow .n (.t rfl) rfl (.inr rfl) (fun _ => rfl) rfl ic_9 rfl <|
      q_call0 (full := false) .n .f en_120 (.cons (.t rfl) .nil) (.cons (.b (.a (.same rfl))) .nil) (fun hg => c_impl_IsName a.Id) rfl (fun h => Bool.noConfusion h) rfl <|
      q_move .n (.t rfl) rfl <|
      q_fld_ow (.t rfl rfl) (.t rfl) fo_106_1 rfl <|
      q_ld1_ow (.t rfl rfl) (.u rfl id) rfl (.inr rfl) (fun _ => rfl) rfl ic_2 rfl <|
      q_call0 (full := false) (.t rfl rfl) .f en_179 (.cons (.u rfl id) .nil) (.cons (.b (.a (.same rfl))) .nil) (fun hg => c_impl_junctionOk a.From) rfl (fun h => Bool.noConfusion h) rfl <|
      q_and .n (.t rfl) (.u rfl id) rfl <|
      q_move .n (.t rfl) rfl <|
      q_fld_ow (.t rfl rfl) (.t rfl) fo_106_2 rfl <|
      q_ld1_ow (.t rfl rfl) (.u rfl id) rfl (.inr rfl) (fun _ => rfl) rfl ic_2 rfl <|
      q_call0 (full := false) (.t rfl rfl) .f en_179 (.cons (.u rfl id) .nil) (.cons (.b (.a (.same rfl))) .nil) (fun hg => c_impl_junctionOk a.To) rfl (fun h => Bool.noConfusion h) rfl <|
      q_and .n (.t rfl) (.u rfl id) rfl <|
      q_move .n (.t rfl) rfl <|
      q_fld_ow (.t rfl rfl) (.t rfl) fo_106_1 rfl <|
      q_ld1_ow (.t rfl rfl) (.u rfl id) rfl (.inr rfl) (fun _ => rfl) rfl ic_2 rfl <|
      q_fld_ow (.t rfl rfl) (.t rfl) fo_106_2 rfl <|
      q_ld1_ow (.t rfl rfl) (.u rfl id) rfl (.inr rfl) (fun _ => rfl) rfl ic_2 rfl <|
      q_int (.t rfl rfl) (.u rfl id) (.u rfl id) rfl rfl <|
      q_and .n (.t rfl) (.u rfl id) rfl <|
      q_move .n (.t rfl) rfl <|
      q_fld_ow (.t rfl rfl) (.t rfl) fo_106_3 rfl <|
      q_ld1_ow (.t rfl rfl) (.u rfl id) rfl (.inr rfl) (fun _ => rfl) rfl ic_2 rfl <|
      q_call0 (full := false) (.t rfl rfl) .f en_122 (.cons (.u rfl id) (.cons (.c rfl) (.cons (.c rfl) .nil))) (.cons (.b (.a (.same rfl))) (.cons (.b (.a (.same rfl))) (.cons (.b (.a (.same rfl))) .nil))) (fun hg => c_impl_within a.Length 1 10000) rfl (fun h => Bool.noConfusion h) rfl <|
      q_and .n (.t rfl) (.u rfl id) rfl <|
      q_move .n (.t rfl) rfl <|
      q_fld_ow (.t rfl rfl) (.t rfl) fo_106_4 rfl <|
      q_ld1_ow (.t rfl rfl) (.u rfl id) rfl (.inr rfl) (fun _ => rfl) rfl ic_2 rfl <|
      q_call0 (full := false) (.t rfl rfl) .f en_122 (.cons (.u rfl id) (.cons (.c rfl) (.cons (.c rfl) .nil))) (.cons (.b (.a (.same rfl))) (.cons (.b (.a (.same rfl))) (.cons (.b (.a (.same rfl))) .nil))) (fun hg => c_impl_within a.Section 50 5000) rfl (fun h => Bool.noConfusion h) rfl <|
      q_and .n (.t rfl) (.u rfl id) rfl <|
      q_move .n (.t rfl) rfl <|
      q_fld_ow (.t rfl rfl) (.t rfl) fo_106_5 rfl <|
      q_ld1_ow (.t rfl rfl) (.u rfl id) rfl (.inr rfl) (fun _ => rfl) rfl ic_2 rfl <|
      q_call0 (full := false) (.t rfl rfl) .f en_122 (.cons (.u rfl id) (.cons (.c rfl) (.cons (.c rfl) .nil))) (.cons (.b (.a (.same rfl))) (.cons (.b (.a (.same rfl))) (.cons (.b (.a (.same rfl))) .nil))) (fun hg => c_impl_within a.Friction 1 1000) rfl (fun h => Bool.noConfusion h) rfl <|
      q_and .n (.t rfl) (.u rfl id) rfl <|
      q_move .n (.t rfl) rfl <|
      q_fld_ow (.t rfl rfl) (.t rfl) fo_106_6 rfl <|
      q_ld1_ow (.t rfl rfl) (.u rfl id) rfl (.inr rfl) (fun _ => rfl) rfl ic_2 rfl <|
      q_call0 (full := false) (.t rfl rfl) .f en_122 (.cons (.u rfl id) (.cons (.c rfl) (.cons (.c rfl) .nil))) (.cons (.b (.a (.same rfl))) (.cons (.b (.a (.same rfl))) (.cons (.b (.a (.same rfl))) .nil))) (fun hg => c_impl_within a.Shock 0 1000) rfl (fun h => Bool.noConfusion h) rfl <|
      q_and .n (.t rfl) (.u rfl id) rfl <|
      q_assign .n (.t rfl) rfl <|
      Lex.nil) ?_
  exact run_ret [] (.cons (.t rfl rfl) .nil) rfl trivial rfl

/-! ### impl_Mine_hasJunction -/
theorem c_impl_Mine_hasJunction (m_ : gMine) (n_ : Int) : Con Try.prog 180 [.st [.int .i64 m_.Junctions, .sl 7 (m_.Airways.map gAirway.v)], .int .i64 n_] [] (.bool (m_impl_Mine_hasJunction m_ n_)) ([]) := by
  refine con_intro (out := fun r : Bool => ((.bool r : V), ([] : List (Nat × Option O)))) (r := (m_impl_Mine_hasJunction m_ n_)) Try.func180 rfl Try.ntmps180 rfl ?_
  refine run_factS (t := 0) 1 rfl rfl fun hl => ?_
  have l1 := hl; clear hl; simp only [List.length_map] at l1
  refine run_seq ?_
  refine run_region (q_box (l := 200) .n rfl (.t rfl) rfl rfl rfl rfl <|
      q_assign .n (.c rfl) rfl <|
      Lex.nil) ?_
  refine run_seq ?_
  refine run_region (q_move .n (.t rfl) rfl <|
      q_fld_ow .n (.t rfl) fo_48_0 rfl <|
      q_ld1_ow .n (.t rfl) rfl (.inr rfl) (fun _ => rfl) rfl ic_2 rfl <|
      q_int .n (.t rfl) (.c rfl) rfl rfl <|
      q_call0 (full := false) .n .f en_122 (.cons (.t rfl) (.cons (.c rfl) (.cons (.t rfl) .nil))) (.cons (.b (.a (.same rfl))) (.cons (.b (.a (.same rfl))) (.cons (.b (.a (.same rfl))) .nil))) (fun hg => c_impl_within n_ 0 (IntKind.wrap .i64 (m_.Junctions - 1))) rfl (fun h => Bool.noConfusion h) rfl <|
      q_assign .n (.t rfl) rfl <|
      Lex.nil) ?_
  exact run_ret [] (.cons (.t rfl rfl) .nil) rfl trivial rfl

/-! ### impl_Mine_hasEnds -/
theorem c_impl_Mine_hasEnds (m_ : gMine) (a : gAirway) : Con Try.prog 151 [.st [.int .i64 m_.Junctions, .sl 7 (m_.Airways.map gAirway.v)], .st [.str a.Id, .int .i64 a.From, .int .i64 a.To, .int .i64 a.Length, .int .i64 a.Section, .int .i64 a.Friction, .int .i64 a.Shock]] [] (.bool (m_impl_Mine_hasEnds m_ a)) ([]) := by
  refine con_intro (out := fun r : Bool => ((.bool r : V), ([] : List (Nat × Option O)))) (r := (m_impl_Mine_hasEnds m_ a)) Try.func151 rfl Try.ntmps151 rfl ?_
  refine run_factS (t := 0) 1 rfl rfl fun hl => ?_
  have l1 := hl; clear hl; simp only [List.length_map] at l1
  refine run_seq ?_
  refine run_region (q_box (l := 200) .n rfl (.t rfl) rfl rfl rfl rfl <|
      q_box (l := 201) .n rfl (.t rfl) rfl rfl rfl rfl <|
      q_assign .n (.c rfl) rfl <|
      Lex.nil) ?_
  refine run_seq ?_
  refine run_region (q_ldN_ow .n (.t rfl) rfl (.inr rfl) ag_48 (fun _ => rfl) rfl rfl <|
      q_fld_ow .n (.t rfl) fo_106_1 rfl <|
      q_ld1_ow .n (.t rfl) rfl (.inr rfl) (fun _ => rfl) rfl ic_2 rfl <|
      q_call0 (full := false) .n .f en_180 (.cons (.t rfl) (.cons (.t rfl) .nil)) (.cons (.sts rfl) (.cons (.b (.a (.same rfl))) .nil)) (fun hg => c_impl_Mine_hasJunction m_ a.From) rfl (fun h => Bool.noConfusion h) rfl <|
      q_move .n (.t rfl) rfl <|
      q_ldN_ow (.t rfl rfl) (.t rfl) rfl (.inr rfl) ag_48 (fun _ => rfl) rfl rfl <|
      q_fld_ow (.t rfl rfl) (.t rfl) fo_106_2 rfl <|
      q_ld1_ow (.t rfl rfl) (.u rfl id) rfl (.inr rfl) (fun _ => rfl) rfl ic_2 rfl <|
      q_call0 (full := false) (.t rfl rfl) .f en_180 (.cons (.u rfl id) (.cons (.u rfl id) .nil)) (.cons (.sts rfl) (.cons (.b (.a (.same rfl))) .nil)) (fun hg => c_impl_Mine_hasJunction m_ a.To) rfl (fun h => Bool.noConfusion h) rfl <|
      q_and .n (.t rfl) (.u rfl id) rfl <|
      q_assign .n (.t rfl) rfl <|
      Lex.nil) ?_
  exact run_ret [] (.cons (.t rfl rfl) .nil) rfl trivial rfl

/-! ### impl_ValidMine -/
theorem c_impl_ValidMine (m_ : gMine) : Con Try.prog 118 [.st [.int .i64 m_.Junctions, .sl 7 (m_.Airways.map gAirway.v)]] [] (.bool (m_impl_ValidMine m_)) ([]) := by
  refine con_intro (out := fun r : Bool => ((.bool r : V), ([] : List (Nat × Option O)))) (r := (m_impl_ValidMine m_)) Try.func118 rfl Try.ntmps118 rfl ?_
  refine run_factS (t := 0) 1 rfl rfl fun hl => ?_
  have l1 := hl; clear hl; simp only [List.length_map] at l1
  refine run_seq ?_
  refine run_region (q_box (l := 200) .n rfl (.t rfl) rfl rfl rfl rfl <|
      q_assign .n (.c rfl) rfl <|
      Lex.nil) ?_
  refine run_seq ?_
  refine run_seq ?_
  refine run_region (q_fld_ow .n (.t rfl) fo_48_0 rfl <|
      q_ld1_ow .n (.t rfl) rfl (.inr rfl) (fun _ => rfl) rfl ic_2 rfl <|
      q_call0 (full := false) .n .f en_122 (.cons (.t rfl) (.cons (.c rfl) (.cons (.c rfl) .nil))) (.cons (.b (.a (.same rfl))) (.cons (.b (.a (.same rfl))) (.cons (.b (.a (.same rfl))) .nil))) (fun hg => c_impl_within m_.Junctions 1 16) rfl (fun h => Bool.noConfusion h) rfl <|
      q_not .n (.t rfl) rfl <|
      q_move .n (.t rfl) rfl <|
      q_fld_ow (.f rfl rfl) (.t rfl) fo_48_1 rfl <|
      q_ld1_ow (.f rfl rfl) (.u rfl id) rfl (.inr rfl) (fun _ => rfl) rfl ic_46 rfl <|
      q_len (.f rfl rfl) (.u rfl id) rfl len_map ss_46 rfl <|
      q_int (.f rfl rfl) (.u rfl id) (.c rfl) rfl rfl <|
      q_or .n (.t rfl) (.u rfl id) rfl <|
      Lex.nil) ?_
  refine run_cond (.t rfl) rfl (fun h2 => ?_) (fun h2 => ?_)
  · try simp only [Bool.and_eq_true, Bool.or_eq_true, Bool.not_eq_true', Bool.and_eq_false_iff, Bool.or_eq_false_iff, Bool.not_eq_false', decide_eq_true_eq, decide_eq_false_iff_not, beq_iff_eq, bne_iff_ne, beq_eq_false_iff_ne, bne_eq_false_iff_eq, Bool.true_and, ne_eq, Decidable.not_not, Int.not_lt, Int.not_le, Nat.not_lt, Nat.not_le, strB_nil, strB_nil', strB_nnil, strB_nnil'] at h2
    try have hf0h2 := within_imp h2
    try have hf1h2 := within_imp h2.1
    try have hf2h2 := within_imp h2.2
    try have hf3h2 := within_imp h2.1.1
    try have hf4h2 := within_imp h2.1.2
    try have hf5h2 := within_imp h2.2.1
    try have hf6h2 := within_imp h2.2.2
    refine run_seq ?_
    refine run_region (q_assign .n (.c rfl) rfl <|
        Lex.nil) ?_
    exact run_ret [] (.cons (.t rfl rfl) .nil) rfl trivial rfl
  · try simp only [Bool.and_eq_true, Bool.or_eq_true, Bool.not_eq_true', Bool.and_eq_false_iff, Bool.or_eq_false_iff, Bool.not_eq_false', decide_eq_true_eq, decide_eq_false_iff_not, beq_iff_eq, bne_iff_ne, beq_eq_false_iff_ne, bne_eq_false_iff_eq, Bool.true_and, ne_eq, Decidable.not_not, Int.not_lt, Int.not_le, Nat.not_lt, Nat.not_le, strB_nil, strB_nil', strB_nnil, strB_nnil'] at h2
    try have hf0h2 := within_imp h2
    try have hf1h2 := within_imp h2.1
    try have hf2h2 := within_imp h2.2
    try have hf3h2 := within_imp h2.1.1
    try have hf4h2 := within_imp h2.1.2
    try have hf5h2 := within_imp h2.2.1
    try have hf6h2 := within_imp h2.2.2
    refine run_skip ?_
    refine run_seq ?_
    refine run_seq ?_
    refine run_region (q_fld_ow .n (.t rfl) fo_48_1 rfl <|
        q_ld1_ow .n (.t rfl) rfl (.inr rfl) (fun _ => rfl) rfl ic_46 rfl <|
        q_len .n (.t rfl) rfl len_map ss_46 rfl <|
        q_move .n (.c rfl) rfl <|
        Lex.nil) ?_
    refine run_block ?_
    refine run_LOOP (m_impl_ValidMine_b1 m_) _ _ _ rfl (fun (x1 : Int) => 0 ≤ x1 ∧ x1 ≤ (m_.Airways.length : Int)) (fun x1 => 0 ≤ x1 ∧ x1 ≤ (m_.Airways.length : Int) ∧ (m_.Airways.length : Int) ≤ x1) (fun x1 => ((m_.Airways.length : Int) - x1 : Int).toNat) (fun x1 => ⟨[(1, some (true, .op 200 0 0 0)), (16, some (true, .sl 7 (m_.Airways.map gAirway.v))), (17, some (true, .int .i64 (m_.Airways.length : Int))), (18, some (true, .int .i64 x1))], [(200, some (.box 48 [.int .i64 m_.Junctions, .sl 7 (m_.Airways.map gAirway.v)]))]⟩) (fun x1 => ⟨[], []⟩) ⟨by omega, by omega⟩ (by omega) (sub_of [] ⟨rfl, rfl, rfl, rfl, trivial⟩ ⟨rfl, trivial⟩ rfl) ?_ ?_
    · intro x1 i7
      obtain ⟨e8, e9, e10⟩ := i7
      try dsimp only at *
      refine run_seq ?_
      refine run_region (q_assign .n (.c rfl) rfl <|
          Lex.nil) ?_
      exact run_ret [] (.cons (.t rfl rfl) .nil) rfl trivial rfl
    · intro rec1 k1 hk3 x1 i4
      obtain ⟨e11, e12⟩ := i4
      try dsimp only at *
      refine run_seq ?_
      refine run_region (q_int .n (.t rfl) (.t rfl) rfl rfl <|
          Lex.nil) ?_
      refine run_seq ?_
      refine run_cond (.t rfl) rfl (fun h5 => ?_) (fun h5 => ?_)
      · try simp only [Bool.and_eq_true, Bool.or_eq_true, Bool.not_eq_true', Bool.and_eq_false_iff, Bool.or_eq_false_iff, Bool.not_eq_false', decide_eq_true_eq, decide_eq_false_iff_not, beq_iff_eq, bne_iff_ne, beq_eq_false_iff_ne, bne_eq_false_iff_eq, Bool.true_and, ne_eq, Decidable.not_not, Int.not_lt, Int.not_le, Nat.not_lt, Nat.not_le, strB_nil, strB_nil', strB_nnil, strB_nnil'] at h5
        refine run_skip ?_
        refine run_seq ?_
        refine run_block ?_
        refine run_seq ?_
        refine run_region (q_move .n (.t rfl) rfl <|
            q_idx_rm .n (.t rfl) (.t rfl) sl_46 (fun _ => by omega) rfl <|
            q_ldN_ro .n (.t rfl) ag_106 rfl rfl rfl <|
            q_alloc (l := 201) .n rfl zv_106 rfl rfl <|
            q_assign .n (.t rfl) rfl <|
            q_st_boxm [.str (at' m_.Airways x1).Id, .int .i64 (at' m_.Airways x1).From, .int .i64 (at' m_.Airways x1).To, .int .i64 (at' m_.Airways x1).Length, .int .i64 (at' m_.Airways x1).Section, .int .i64 (at' m_.Airways x1).Friction, .int .i64 (at' m_.Airways x1).Shock] .n rfl (.t rfl) (.t rfl) rfl ts_106 rfl rfl <|
            Lex.nil) ?_
        refine run_seq ?_
        refine run_draw fmo (q_ldN_ow .n (.t rfl) rfl (.inr rfl) ag_106 (fun _ => rfl) rfl rfl <|
            q_call0 (full := false) .n .f en_150 (.cons (.t rfl) .nil) (.cons (.sts rfl) .nil) (fun hg => c_impl_ValidAirway (at' m_.Airways x1)) rfl (fun h => Bool.noConfusion h) rfl <|
            q_not .n (.t rfl) rfl <|
            q_move .n (.t rfl) rfl <|
            q_ldN_ow (.f rfl rfl) (.t rfl) rfl (.inr rfl) ag_48 (fun _ => rfl) rfl rfl <|
            q_ldN_ow (.f rfl rfl) (.t rfl) rfl (.inr rfl) ag_106 (fun _ => rfl) rfl rfl <|
            q_call0 (full := false) (.f rfl rfl) .f en_151 (.cons (.u rfl id) (.cons (.u rfl id) .nil)) (.cons (.sts rfl) (.cons (.sts rfl) .nil)) (fun hg => c_impl_Mine_hasEnds m_ (at' m_.Airways x1)) rfl (fun h => Bool.noConfusion h) rfl <|
            q_not (.f rfl rfl) (.u rfl id) rfl <|
            q_or .n (.t rfl) (.u rfl id) rfl <|
            q_move .n (.t rfl) rfl <|
            q_move (.f rfl rfl) (.t rfl) rfl <|
            q_int (.f rfl rfl) (.u rfl id) (.c rfl) rfl rfl <|
            q_move (.f rfl rfl) (.u rfl id) rfl <|
            q_fld_ow (.t rfl rfl) (.t rfl) fo_106_0 rfl <|
            q_ld1_ow (.t rfl rfl) (.u rfl id) rfl (.inr rfl) (fun _ => rfl) rfl ic_9 rfl <|
            q_fld_ow (.t rfl rfl) (.t rfl) fo_48_1 rfl <|
            q_ld1_ow (.t rfl rfl) (.u rfl id) rfl (.inr rfl) (fun _ => rfl) rfl ic_46 rfl <|
            q_move (.t rfl rfl) (.t rfl) rfl <|
            q_sub (.t rfl rfl) (.u rfl id) (.c rfl) (fun hg => by simp only [Bool.and_eq_true, Bool.or_eq_true, Bool.not_eq_true', Bool.and_eq_false_iff, Bool.or_eq_false_iff, Bool.not_eq_false', decide_eq_true_eq, decide_eq_false_iff_not, beq_iff_eq, bne_iff_ne, beq_eq_false_iff_ne, bne_eq_false_iff_eq, Bool.true_and, ne_eq, Decidable.not_not, Int.not_lt, Int.not_le, Nat.not_lt, Nat.not_le, strB_nil, strB_nil', strB_nnil, strB_nnil'] at hg; omega) rfl <|
            q_idx_rm (.t rfl rfl) (.u rfl id) (.u rfl id) sl_46 (fun hg => by simp only [Bool.and_eq_true, Bool.or_eq_true, Bool.not_eq_true', Bool.and_eq_false_iff, Bool.or_eq_false_iff, Bool.not_eq_false', decide_eq_true_eq, decide_eq_false_iff_not, beq_iff_eq, bne_iff_ne, beq_eq_false_iff_ne, bne_eq_false_iff_eq, Bool.true_and, ne_eq, Decidable.not_not, Int.not_lt, Int.not_le, Nat.not_lt, Nat.not_le, strB_nil, strB_nil', strB_nnil, strB_nnil'] at hg; omega) rfl <|
            q_fld_ro (.t rfl rfl) (.u rfl id) fo_106_0 rfl <|
            q_ld1_ro (.t rfl rfl) (.u rfl id) rfl ic_9 rfl <|
            q_strcmp (.t rfl rfl) (.u rfl id) (.u rfl id) rfl rfl <|
            q_and (.f rfl rfl) (.u rfl id) (.u rfl id) rfl <|
            q_or .n (.t rfl) (.u rfl id) rfl <|
            Lex.nil) (by kernel_rfl) ?_
        refine run_cond (.t rfl) rfl (fun h6 => ?_) (fun h6 => ?_)
        · try simp only [Bool.and_eq_true, Bool.or_eq_true, Bool.not_eq_true', Bool.and_eq_false_iff, Bool.or_eq_false_iff, Bool.not_eq_false', decide_eq_true_eq, decide_eq_false_iff_not, beq_iff_eq, bne_iff_ne, beq_eq_false_iff_ne, bne_eq_false_iff_eq, Bool.true_and, ne_eq, Decidable.not_not, Int.not_lt, Int.not_le, Nat.not_lt, Nat.not_le, strB_nil, strB_nil', strB_nnil, strB_nnil'] at h6
          refine run_seq ?_
          refine run_region (q_assign .n (.c rfl) rfl <|
              Lex.nil) ?_
          exact run_ret [] (.cons (.t rfl rfl) .nil) rfl trivial rfl
        · try simp only [Bool.and_eq_true, Bool.or_eq_true, Bool.not_eq_true', Bool.and_eq_false_iff, Bool.or_eq_false_iff, Bool.not_eq_false', decide_eq_true_eq, decide_eq_false_iff_not, beq_iff_eq, bne_iff_ne, beq_eq_false_iff_ne, bne_eq_false_iff_eq, Bool.true_and, ne_eq, Decidable.not_not, Int.not_lt, Int.not_le, Nat.not_lt, Nat.not_le, strB_nil, strB_nil', strB_nnil, strB_nnil'] at h6
          refine run_skip ?_
          refine run_endB ?_
          refine run_region (q_add .n (.t rfl) (.c rfl) (fun _ => by omega) rfl <|
              q_move .n (.t rfl) rfl <|
              Lex.nil) ?_
          exact run_again (x1 + 1) ⟨by omega, by omega⟩ (by omega) (sub_of [] ⟨rfl, rfl, rfl, rfl, trivial⟩ ⟨rfl, trivial⟩ rfl)
      · try simp only [Bool.and_eq_true, Bool.or_eq_true, Bool.not_eq_true', Bool.and_eq_false_iff, Bool.or_eq_false_iff, Bool.not_eq_false', decide_eq_true_eq, decide_eq_false_iff_not, beq_iff_eq, bne_iff_ne, beq_eq_false_iff_ne, bne_eq_false_iff_eq, Bool.true_and, ne_eq, Decidable.not_not, Int.not_lt, Int.not_le, Nat.not_lt, Nat.not_le, strB_nil, strB_nil', strB_nnil, strB_nnil'] at h5
        refine run_exit rfl ?_
        exact run_cont hk3 x1 ⟨by omega, by omega, by omega⟩ (sub_of [] trivial trivial rfl)

/-! ### impl_ValidPermits -/
theorem c_impl_ValidPermits (m_ : gMine) (list : List gPermit) : Con Try.prog 63 [.st [.int .i64 m_.Junctions, .sl 7 (m_.Airways.map gAirway.v)], .sl 5 (list.map gPermit.v)] [] (.bool (m_impl_ValidPermits m_ list)) ([]) := by
  refine con_intro (out := fun r : Bool => ((.bool r : V), ([] : List (Nat × Option O)))) (r := (m_impl_ValidPermits m_ list)) Try.func63 rfl Try.ntmps63 rfl ?_
  refine run_factS (t := 0) 1 rfl rfl fun hl => ?_
  have l1 := hl; clear hl; simp only [List.length_map] at l1
  refine run_fact (t := 1) rfl fun hl => ?_
  have l2 := hl; clear hl; simp only [List.length_map] at l2
  refine run_seq ?_
  refine run_region (q_box (l := 200) .n rfl (.t rfl) rfl rfl rfl rfl <|
      q_assign .n (.c rfl) rfl <|
      Lex.nil) ?_
  refine run_seq ?_
  refine run_seq ?_
  refine run_region (q_ldN_ow .n (.t rfl) rfl (.inr rfl) ag_48 (fun _ => rfl) rfl rfl <|
      q_call0 (full := false) .n .f en_118 (.cons (.t rfl) .nil) (.cons (.sts rfl) .nil) (fun hg => c_impl_ValidMine m_) rfl (fun h => Bool.noConfusion h) rfl <|
      q_not .n (.t rfl) rfl <|
      q_move .n (.t rfl) rfl <|
      q_move (.f rfl rfl) (.t rfl) rfl <|
      q_len (.f rfl rfl) (.u rfl id) rfl len_map ss_43 rfl <|
      q_int (.f rfl rfl) (.u rfl id) (.c rfl) rfl rfl <|
      q_or .n (.t rfl) (.u rfl id) rfl <|
      Lex.nil) ?_
  refine run_cond (.t rfl) rfl (fun h3 => ?_) (fun h3 => ?_)
  · try simp only [Bool.and_eq_true, Bool.or_eq_true, Bool.not_eq_true', Bool.and_eq_false_iff, Bool.or_eq_false_iff, Bool.not_eq_false', decide_eq_true_eq, decide_eq_false_iff_not, beq_iff_eq, bne_iff_ne, beq_eq_false_iff_ne, bne_eq_false_iff_eq, Bool.true_and, ne_eq, Decidable.not_not, Int.not_lt, Int.not_le, Nat.not_lt, Nat.not_le, strB_nil, strB_nil', strB_nnil, strB_nnil'] at h3
    try have hf0h3 := ValidMine_imp h3
    try have hf1h3 := ValidMine_imp h3.1
    try have hf2h3 := ValidMine_imp h3.2
    try have hf3h3 := ValidMine_imp h3.1.1
    try have hf4h3 := ValidMine_imp h3.1.2
    try have hf5h3 := ValidMine_imp h3.2.1
    try have hf6h3 := ValidMine_imp h3.2.2
    refine run_seq ?_
    refine run_region (q_assign .n (.c rfl) rfl <|
        Lex.nil) ?_
    exact run_ret [] (.cons (.t rfl rfl) .nil) rfl trivial rfl
  · try simp only [Bool.and_eq_true, Bool.or_eq_true, Bool.not_eq_true', Bool.and_eq_false_iff, Bool.or_eq_false_iff, Bool.not_eq_false', decide_eq_true_eq, decide_eq_false_iff_not, beq_iff_eq, bne_iff_ne, beq_eq_false_iff_ne, bne_eq_false_iff_eq, Bool.true_and, ne_eq, Decidable.not_not, Int.not_lt, Int.not_le, Nat.not_lt, Nat.not_le, strB_nil, strB_nil', strB_nnil, strB_nnil'] at h3
    try have hf0h3 := ValidMine_imp h3
    try have hf1h3 := ValidMine_imp h3.1
    try have hf2h3 := ValidMine_imp h3.2
    try have hf3h3 := ValidMine_imp h3.1.1
    try have hf4h3 := ValidMine_imp h3.1.2
    try have hf5h3 := ValidMine_imp h3.2.1
    try have hf6h3 := ValidMine_imp h3.2.2
    refine run_skip ?_
    refine run_seq ?_
    refine run_seq ?_
    refine run_region (q_move .n (.t rfl) rfl <|
        q_len .n (.t rfl) rfl len_map ss_43 rfl <|
        q_move .n (.c rfl) rfl <|
        Lex.nil) ?_
    refine run_block ?_
    refine run_LOOP (m_impl_ValidPermits_b1 m_ list) _ _ _ rfl (fun (x1 : Int) => 0 ≤ x1 ∧ x1 ≤ (list.length : Int)) (fun x1 => 0 ≤ x1 ∧ x1 ≤ (list.length : Int) ∧ (list.length : Int) ≤ x1) (fun x1 => ((list.length : Int) - x1 : Int).toNat) (fun x1 => ⟨[(1, some (true, .sl 5 (list.map gPermit.v))), (2, some (true, .op 200 0 0 0)), (15, some (true, .sl 5 (list.map gPermit.v))), (16, some (true, .int .i64 (list.length : Int))), (17, some (true, .int .i64 x1))], [(200, some (.box 48 [.int .i64 m_.Junctions, .sl 7 (m_.Airways.map gAirway.v)]))]⟩) (fun x1 => ⟨[], []⟩) ⟨by omega, by omega⟩ (by omega) (sub_of [] ⟨rfl, rfl, rfl, rfl, rfl, trivial⟩ ⟨rfl, trivial⟩ rfl) ?_ ?_
    · intro x1 i8
      obtain ⟨e9, e10, e11⟩ := i8
      try dsimp only at *
      refine run_seq ?_
      refine run_region (q_assign .n (.c rfl) rfl <|
          Lex.nil) ?_
      exact run_ret [] (.cons (.t rfl rfl) .nil) rfl trivial rfl
    · intro rec1 k1 hk4 x1 i5
      obtain ⟨e12, e13⟩ := i5
      try dsimp only at *
      refine run_seq ?_
      refine run_region (q_int .n (.t rfl) (.t rfl) rfl rfl <|
          Lex.nil) ?_
      refine run_seq ?_
      refine run_cond (.t rfl) rfl (fun h6 => ?_) (fun h6 => ?_)
      · try simp only [Bool.and_eq_true, Bool.or_eq_true, Bool.not_eq_true', Bool.and_eq_false_iff, Bool.or_eq_false_iff, Bool.not_eq_false', decide_eq_true_eq, decide_eq_false_iff_not, beq_iff_eq, bne_iff_ne, beq_eq_false_iff_ne, bne_eq_false_iff_eq, Bool.true_and, ne_eq, Decidable.not_not, Int.not_lt, Int.not_le, Nat.not_lt, Nat.not_le, strB_nil, strB_nil', strB_nnil, strB_nnil'] at h6
        refine run_skip ?_
        refine run_seq ?_
        refine run_block ?_
        refine run_seq ?_
        refine run_region (q_move .n (.t rfl) rfl <|
            q_idx_rm .n (.t rfl) (.t rfl) sl_43 (fun _ => by omega) rfl <|
            q_ldN_ro .n (.t rfl) ag_51 rfl rfl rfl <|
            q_alloc (l := 201) .n rfl zv_51 rfl rfl <|
            q_assign .n (.t rfl) rfl <|
            q_st_boxm [.str (at' list x1).Id, .int .i64 (at' list x1).Kind, .int .i64 (at' list x1).Airway, .int .i64 (at' list x1).From, .int .i64 (at' list x1).Until] .n rfl (.t rfl) (.t rfl) rfl ts_51 rfl rfl <|
            Lex.nil) ?_
        refine run_seq ?_
        refine run_draw fmo (q_ldN_ow .n (.t rfl) rfl (.inr rfl) ag_51 (fun _ => rfl) rfl rfl <|
            q_call0 (full := false) .n .f en_67 (.cons (.t rfl) .nil) (.cons (.sts rfl) .nil) (fun hg => c_impl_Permit_valid (at' list x1)) rfl (fun h => Bool.noConfusion h) rfl <|
            q_not .n (.t rfl) rfl <|
            q_move .n (.t rfl) rfl <|
            q_fld_ow (.f rfl rfl) (.t rfl) fo_48_1 rfl <|
            q_ld1_ow (.f rfl rfl) (.u rfl id) rfl (.inr rfl) (fun _ => rfl) rfl ic_46 rfl <|
            q_fld_ow (.f rfl rfl) (.t rfl) fo_51_2 rfl <|
            q_ld1_ow (.f rfl rfl) (.u rfl id) rfl (.inr rfl) (fun _ => rfl) rfl ic_2 rfl <|
            q_call0 (full := false) (.f rfl rfl) .f en_68 (.cons (.u rfl id) (.cons (.u rfl id) .nil)) (.cons (.b (.a (.same rfl))) (.cons (.b (.a (.same rfl))) .nil)) (fun hg => c_impl_indexValid_impl_Airway m_.Airways (at' list x1).Airway) rfl (fun h => Bool.noConfusion h) rfl <|
            q_not (.f rfl rfl) (.u rfl id) rfl <|
            q_or .n (.t rfl) (.u rfl id) rfl <|
            q_move .n (.t rfl) rfl <|
            q_move (.f rfl rfl) (.t rfl) rfl <|
            q_int (.f rfl rfl) (.u rfl id) (.c rfl) rfl rfl <|
            q_move (.f rfl rfl) (.u rfl id) rfl <|
            q_fld_ow (.t rfl rfl) (.t rfl) fo_51_0 rfl <|
            q_ld1_ow (.t rfl rfl) (.u rfl id) rfl (.inr rfl) (fun _ => rfl) rfl ic_9 rfl <|
            q_move (.t rfl rfl) (.t rfl) rfl <|
            q_move (.t rfl rfl) (.t rfl) rfl <|
            q_sub (.t rfl rfl) (.u rfl id) (.c rfl) (fun hg => by simp only [Bool.and_eq_true, Bool.or_eq_true, Bool.not_eq_true', Bool.and_eq_false_iff, Bool.or_eq_false_iff, Bool.not_eq_false', decide_eq_true_eq, decide_eq_false_iff_not, beq_iff_eq, bne_iff_ne, beq_eq_false_iff_ne, bne_eq_false_iff_eq, Bool.true_and, ne_eq, Decidable.not_not, Int.not_lt, Int.not_le, Nat.not_lt, Nat.not_le, strB_nil, strB_nil', strB_nnil, strB_nnil'] at hg; omega) rfl <|
            q_idx_rm (.t rfl rfl) (.u rfl id) (.u rfl id) sl_43 (fun hg => by simp only [Bool.and_eq_true, Bool.or_eq_true, Bool.not_eq_true', Bool.and_eq_false_iff, Bool.or_eq_false_iff, Bool.not_eq_false', decide_eq_true_eq, decide_eq_false_iff_not, beq_iff_eq, bne_iff_ne, beq_eq_false_iff_ne, bne_eq_false_iff_eq, Bool.true_and, ne_eq, Decidable.not_not, Int.not_lt, Int.not_le, Nat.not_lt, Nat.not_le, strB_nil, strB_nil', strB_nnil, strB_nnil'] at hg; omega) rfl <|
            q_fld_ro (.t rfl rfl) (.u rfl id) fo_51_0 rfl <|
            q_ld1_ro (.t rfl rfl) (.u rfl id) rfl ic_9 rfl <|
            q_strcmp (.t rfl rfl) (.u rfl id) (.u rfl id) rfl rfl <|
            q_and (.f rfl rfl) (.u rfl id) (.u rfl id) rfl <|
            q_or .n (.t rfl) (.u rfl id) rfl <|
            Lex.nil) (by kernel_rfl) ?_
        refine run_cond (.t rfl) rfl (fun h7 => ?_) (fun h7 => ?_)
        · try simp only [Bool.and_eq_true, Bool.or_eq_true, Bool.not_eq_true', Bool.and_eq_false_iff, Bool.or_eq_false_iff, Bool.not_eq_false', decide_eq_true_eq, decide_eq_false_iff_not, beq_iff_eq, bne_iff_ne, beq_eq_false_iff_ne, bne_eq_false_iff_eq, Bool.true_and, ne_eq, Decidable.not_not, Int.not_lt, Int.not_le, Nat.not_lt, Nat.not_le, strB_nil, strB_nil', strB_nnil, strB_nnil'] at h7
          try have hf0h7 := permit_imp h7
          try have hf1h7 := permit_imp h7.1
          try have hf2h7 := permit_imp h7.2
          try have hf3h7 := permit_imp h7.1.1
          try have hf4h7 := permit_imp h7.1.2
          try have hf5h7 := permit_imp h7.2.1
          try have hf6h7 := permit_imp h7.2.2
          try have hf7h7 := permit_imp h7.1.1.1
          try have hf8h7 := permit_imp h7.1.1.2
          try have hf9h7 := indexValid_imp h7
          try have hf10h7 := indexValid_imp h7.1
          try have hf11h7 := indexValid_imp h7.2
          try have hf12h7 := indexValid_imp h7.1.1
          try have hf13h7 := indexValid_imp h7.1.2
          try have hf14h7 := indexValid_imp h7.2.1
          try have hf15h7 := indexValid_imp h7.2.2
          try have hf16h7 := indexValid_imp h7.1.1.1
          try have hf17h7 := indexValid_imp h7.1.1.2
          refine run_seq ?_
          refine run_region (q_assign .n (.c rfl) rfl <|
              Lex.nil) ?_
          exact run_ret [] (.cons (.t rfl rfl) .nil) rfl trivial rfl
        · try simp only [Bool.and_eq_true, Bool.or_eq_true, Bool.not_eq_true', Bool.and_eq_false_iff, Bool.or_eq_false_iff, Bool.not_eq_false', decide_eq_true_eq, decide_eq_false_iff_not, beq_iff_eq, bne_iff_ne, beq_eq_false_iff_ne, bne_eq_false_iff_eq, Bool.true_and, ne_eq, Decidable.not_not, Int.not_lt, Int.not_le, Nat.not_lt, Nat.not_le, strB_nil, strB_nil', strB_nnil, strB_nnil'] at h7
          try have hf0h7 := permit_imp h7
          try have hf1h7 := permit_imp h7.1
          try have hf2h7 := permit_imp h7.2
          try have hf3h7 := permit_imp h7.1.1
          try have hf4h7 := permit_imp h7.1.2
          try have hf5h7 := permit_imp h7.2.1
          try have hf6h7 := permit_imp h7.2.2
          try have hf7h7 := permit_imp h7.1.1.1
          try have hf8h7 := permit_imp h7.1.1.2
          try have hf9h7 := indexValid_imp h7
          try have hf10h7 := indexValid_imp h7.1
          try have hf11h7 := indexValid_imp h7.2
          try have hf12h7 := indexValid_imp h7.1.1
          try have hf13h7 := indexValid_imp h7.1.2
          try have hf14h7 := indexValid_imp h7.2.1
          try have hf15h7 := indexValid_imp h7.2.2
          try have hf16h7 := indexValid_imp h7.1.1.1
          try have hf17h7 := indexValid_imp h7.1.1.2
          refine run_skip ?_
          refine run_endB ?_
          refine run_region (q_add .n (.t rfl) (.c rfl) (fun _ => by omega) rfl <|
              q_move .n (.t rfl) rfl <|
              Lex.nil) ?_
          exact run_again (x1 + 1) ⟨by omega, by omega⟩ (by omega) (sub_of [] ⟨rfl, rfl, rfl, rfl, rfl, trivial⟩ ⟨rfl, trivial⟩ rfl)
      · try simp only [Bool.and_eq_true, Bool.or_eq_true, Bool.not_eq_true', Bool.and_eq_false_iff, Bool.or_eq_false_iff, Bool.not_eq_false', decide_eq_true_eq, decide_eq_false_iff_not, beq_iff_eq, bne_iff_ne, beq_eq_false_iff_ne, bne_eq_false_iff_eq, Bool.true_and, ne_eq, Decidable.not_not, Int.not_lt, Int.not_le, Nat.not_lt, Nat.not_le, strB_nil, strB_nil', strB_nnil, strB_nnil'] at h6
        refine run_exit rfl ?_
        exact run_cont hk4 x1 ⟨by omega, by omega, by omega⟩ (sub_of [] trivial trivial rfl)

/-! ### impl_Airway_other -/
theorem c_impl_Airway_other (a : gAirway) (junction : Int) : Con Try.prog 136 [.st [.str a.Id, .int .i64 a.From, .int .i64 a.To, .int .i64 a.Length, .int .i64 a.Section, .int .i64 a.Friction, .int .i64 a.Shock], .int .i64 junction] [] (.tup [.int .i64 (m_impl_Airway_other a junction).1, .bool (m_impl_Airway_other a junction).2]) ([]) := by
  refine con_intro (out := fun r : Int × Bool => ((.tup [.int .i64 r.1, .bool r.2] : V), ([] : List (Nat × Option O)))) (r := (m_impl_Airway_other a junction)) Try.func136 rfl Try.ntmps136 rfl ?_
  refine run_seq ?_
  refine run_region (q_box (l := 200) .n rfl (.t rfl) rfl rfl rfl rfl <|
      q_assign .n (.c rfl) rfl <|
      q_assign .n (.c rfl) rfl <|
      Lex.nil) ?_
  refine run_seq ?_
  refine run_seq ?_
  refine run_region (q_move .n (.t rfl) rfl <|
      Lex.nil) ?_
  refine run_block ?_
  refine run_seq ?_
  refine run_region (q_fld_ow .n (.t rfl) fo_106_1 rfl <|
      q_ld1_ow .n (.t rfl) rfl (.inr rfl) (fun _ => rfl) rfl ic_2 rfl <|
      q_int .n (.t rfl) (.t rfl) rfl rfl <|
      q_assign .n (.t rfl) rfl <|
      Lex.nil) ?_
  refine run_cond (.t rfl) rfl (fun h1 => ?_) (fun h1 => ?_)
  · try simp only [Bool.and_eq_true, Bool.or_eq_true, Bool.not_eq_true', Bool.and_eq_false_iff, Bool.or_eq_false_iff, Bool.not_eq_false', decide_eq_true_eq, decide_eq_false_iff_not, beq_iff_eq, bne_iff_ne, beq_eq_false_iff_ne, bne_eq_false_iff_eq, Bool.true_and, ne_eq, Decidable.not_not, Int.not_lt, Int.not_le, Nat.not_lt, Nat.not_le, strB_nil, strB_nil', strB_nnil, strB_nnil'] at h1
    refine run_seq ?_
    refine run_region (q_fld_ow .n (.t rfl) fo_106_2 rfl <|
        q_ld1_ow .n (.t rfl) rfl (.inr rfl) (fun _ => rfl) rfl ic_2 rfl <|
        q_assign .n (.t rfl) rfl <|
        q_assign .n (.c rfl) rfl <|
        Lex.nil) ?_
    exact run_ret [] (.cons (.t rfl rfl) (.cons (.t rfl rfl) .nil)) rfl trivial rfl
  · try simp only [Bool.and_eq_true, Bool.or_eq_true, Bool.not_eq_true', Bool.and_eq_false_iff, Bool.or_eq_false_iff, Bool.not_eq_false', decide_eq_true_eq, decide_eq_false_iff_not, beq_iff_eq, bne_iff_ne, beq_eq_false_iff_ne, bne_eq_false_iff_eq, Bool.true_and, ne_eq, Decidable.not_not, Int.not_lt, Int.not_le, Nat.not_lt, Nat.not_le, strB_nil, strB_nil', strB_nnil, strB_nnil'] at h1
    refine run_seq ?_
    refine run_region (q_fld_ow .n (.t rfl) fo_106_2 rfl <|
        q_ld1_ow .n (.t rfl) rfl (.inr rfl) (fun _ => rfl) rfl ic_2 rfl <|
        q_int .n (.t rfl) (.t rfl) rfl rfl <|
        q_assign .n (.t rfl) rfl <|
        Lex.nil) ?_
    refine run_cond (.t rfl) rfl (fun h2 => ?_) (fun h2 => ?_)
    · try simp only [Bool.and_eq_true, Bool.or_eq_true, Bool.not_eq_true', Bool.and_eq_false_iff, Bool.or_eq_false_iff, Bool.not_eq_false', decide_eq_true_eq, decide_eq_false_iff_not, beq_iff_eq, bne_iff_ne, beq_eq_false_iff_ne, bne_eq_false_iff_eq, Bool.true_and, ne_eq, Decidable.not_not, Int.not_lt, Int.not_le, Nat.not_lt, Nat.not_le, strB_nil, strB_nil', strB_nnil, strB_nnil'] at h2
      refine run_seq ?_
      refine run_region (q_fld_ow .n (.t rfl) fo_106_1 rfl <|
          q_ld1_ow .n (.t rfl) rfl (.inr rfl) (fun _ => rfl) rfl ic_2 rfl <|
          q_assign .n (.t rfl) rfl <|
          q_assign .n (.c rfl) rfl <|
          Lex.nil) ?_
      exact run_ret [] (.cons (.t rfl rfl) (.cons (.t rfl rfl) .nil)) rfl trivial rfl
    · try simp only [Bool.and_eq_true, Bool.or_eq_true, Bool.not_eq_true', Bool.and_eq_false_iff, Bool.or_eq_false_iff, Bool.not_eq_false', decide_eq_true_eq, decide_eq_false_iff_not, beq_iff_eq, bne_iff_ne, beq_eq_false_iff_ne, bne_eq_false_iff_eq, Bool.true_and, ne_eq, Decidable.not_not, Int.not_lt, Int.not_le, Nat.not_lt, Nat.not_le, strB_nil, strB_nil', strB_nnil, strB_nnil'] at h2
      refine run_skip ?_
      refine run_endB ?_
      refine run_seq ?_
      refine run_region (q_assign .n (.c rfl) rfl <|
          q_assign .n (.c rfl) rfl <|
          Lex.nil) ?_
      exact run_ret [] (.cons (.t rfl rfl) (.cons (.t rfl rfl) .nil)) rfl trivial rfl

/-! ### impl_KindsClash -/
theorem c_impl_KindsClash (a : Int) (b : Int) (same : Bool) : Con Try.prog 137 [.int .i64 a, .int .i64 b, .bool same] [] (.bool (m_impl_KindsClash a b same)) ([]) := by
  refine con_intro (out := fun r : Bool => ((.bool r : V), ([] : List (Nat × Option O)))) (r := (m_impl_KindsClash a b same)) Try.func137 rfl Try.ntmps137 rfl ?_
  refine run_seq ?_
  refine run_region (q_assign .n (.c rfl) rfl <|
      Lex.nil) ?_
  refine run_seq ?_
  refine run_seq ?_
  refine run_region (q_move .n (.t rfl) rfl <|
      q_call0 (full := false) .n .f en_121 (.cons (.t rfl) .nil) (.cons (.b (.a (.same rfl))) .nil) (fun hg => c_impl_kindOk a) rfl (fun h => Bool.noConfusion h) rfl <|
      q_not .n (.t rfl) rfl <|
      q_move .n (.t rfl) rfl <|
      q_move (.f rfl rfl) (.t rfl) rfl <|
      q_call0 (full := false) (.f rfl rfl) .f en_121 (.cons (.u rfl id) .nil) (.cons (.b (.a (.same rfl))) .nil) (fun hg => c_impl_kindOk b) rfl (fun h => Bool.noConfusion h) rfl <|
      q_not (.f rfl rfl) (.u rfl id) rfl <|
      q_or .n (.t rfl) (.u rfl id) rfl <|
      Lex.nil) ?_
  refine run_cond (.t rfl) rfl (fun h1 => ?_) (fun h1 => ?_)
  · try simp only [Bool.and_eq_true, Bool.or_eq_true, Bool.not_eq_true', Bool.and_eq_false_iff, Bool.or_eq_false_iff, Bool.not_eq_false', decide_eq_true_eq, decide_eq_false_iff_not, beq_iff_eq, bne_iff_ne, beq_eq_false_iff_ne, bne_eq_false_iff_eq, Bool.true_and, ne_eq, Decidable.not_not, Int.not_lt, Int.not_le, Nat.not_lt, Nat.not_le, strB_nil, strB_nil', strB_nnil, strB_nnil'] at h1
    try have hf0h1 := kindOk_imp h1
    try have hf1h1 := kindOk_imp h1.1
    try have hf2h1 := kindOk_imp h1.2
    try have hf3h1 := kindOk_imp h1.1.1
    try have hf4h1 := kindOk_imp h1.1.2
    try have hf5h1 := kindOk_imp h1.2.1
    try have hf6h1 := kindOk_imp h1.2.2
    refine run_seq ?_
    refine run_region (q_assign .n (.c rfl) rfl <|
        Lex.nil) ?_
    exact run_ret [] (.cons (.t rfl rfl) .nil) rfl trivial rfl
  · try simp only [Bool.and_eq_true, Bool.or_eq_true, Bool.not_eq_true', Bool.and_eq_false_iff, Bool.or_eq_false_iff, Bool.not_eq_false', decide_eq_true_eq, decide_eq_false_iff_not, beq_iff_eq, bne_iff_ne, beq_eq_false_iff_ne, bne_eq_false_iff_eq, Bool.true_and, ne_eq, Decidable.not_not, Int.not_lt, Int.not_le, Nat.not_lt, Nat.not_le, strB_nil, strB_nil', strB_nnil, strB_nnil'] at h1
    try have hf0h1 := kindOk_imp h1
    try have hf1h1 := kindOk_imp h1.1
    try have hf2h1 := kindOk_imp h1.2
    try have hf3h1 := kindOk_imp h1.1.1
    try have hf4h1 := kindOk_imp h1.1.2
    try have hf5h1 := kindOk_imp h1.2.1
    try have hf6h1 := kindOk_imp h1.2.2
    refine run_skip ?_
    refine run_seq ?_
    refine run_seq ?_
    refine run_region (q_move .n (.t rfl) rfl <|
        q_move .n (.t rfl) rfl <|
        q_min .n (.t rfl) (.t rfl) rfl <|
        q_move .n (.t rfl) rfl <|
        q_move .n (.t rfl) rfl <|
        q_max .n (.t rfl) (.t rfl) rfl <|
        q_assign .n (.t rfl) rfl <|
        q_assign .n (.t rfl) rfl <|
        Lex.nil) ?_
    refine run_block ?_
    refine run_seq ?_
    refine run_region (q_move .n (.t rfl) rfl <|
        q_int .n (.t rfl) (.c rfl) rfl rfl <|
        q_assign .n (.t rfl) rfl <|
        Lex.nil) ?_
    refine run_cond (.t rfl) rfl (fun h2 => ?_) (fun h2 => ?_)
    · try simp only [Bool.and_eq_true, Bool.or_eq_true, Bool.not_eq_true', Bool.and_eq_false_iff, Bool.or_eq_false_iff, Bool.not_eq_false', decide_eq_true_eq, decide_eq_false_iff_not, beq_iff_eq, bne_iff_ne, beq_eq_false_iff_ne, bne_eq_false_iff_eq, Bool.true_and, ne_eq, Decidable.not_not, Int.not_lt, Int.not_le, Nat.not_lt, Nat.not_le, strB_nil, strB_nil', strB_nnil, strB_nnil'] at h2
      refine run_seq ?_
      refine run_region (q_assign .n (.c rfl) rfl <|
          Lex.nil) ?_
      exact run_ret [] (.cons (.t rfl rfl) .nil) rfl trivial rfl
    · try simp only [Bool.and_eq_true, Bool.or_eq_true, Bool.not_eq_true', Bool.and_eq_false_iff, Bool.or_eq_false_iff, Bool.not_eq_false', decide_eq_true_eq, decide_eq_false_iff_not, beq_iff_eq, bne_iff_ne, beq_eq_false_iff_ne, bne_eq_false_iff_eq, Bool.true_and, ne_eq, Decidable.not_not, Int.not_lt, Int.not_le, Nat.not_lt, Nat.not_le, strB_nil, strB_nil', strB_nnil, strB_nnil'] at h2
      refine run_seq ?_
      refine run_region (q_move .n (.t rfl) rfl <|
          q_int .n (.t rfl) (.c rfl) rfl rfl <|
          q_assign .n (.t rfl) rfl <|
          Lex.nil) ?_
      refine run_cond (.t rfl) rfl (fun h3 => ?_) (fun h3 => ?_)
      · try simp only [Bool.and_eq_true, Bool.or_eq_true, Bool.not_eq_true', Bool.and_eq_false_iff, Bool.or_eq_false_iff, Bool.not_eq_false', decide_eq_true_eq, decide_eq_false_iff_not, beq_iff_eq, bne_iff_ne, beq_eq_false_iff_ne, bne_eq_false_iff_eq, Bool.true_and, ne_eq, Decidable.not_not, Int.not_lt, Int.not_le, Nat.not_lt, Nat.not_le, strB_nil, strB_nil', strB_nnil, strB_nnil'] at h3
        refine run_seq ?_
        refine run_region (q_move .n (.t rfl) rfl <|
            q_int .n (.t rfl) (.c rfl) rfl rfl <|
            q_move .n (.t rfl) rfl <|
            q_move (.f rfl rfl) (.t rfl) rfl <|
            q_or .n (.t rfl) (.u rfl id) rfl <|
            q_assign .n (.t rfl) rfl <|
            Lex.nil) ?_
        exact run_ret [] (.cons (.t rfl rfl) .nil) rfl trivial rfl
      · try simp only [Bool.and_eq_true, Bool.or_eq_true, Bool.not_eq_true', Bool.and_eq_false_iff, Bool.or_eq_false_iff, Bool.not_eq_false', decide_eq_true_eq, decide_eq_false_iff_not, beq_iff_eq, bne_iff_ne, beq_eq_false_iff_ne, bne_eq_false_iff_eq, Bool.true_and, ne_eq, Decidable.not_not, Int.not_lt, Int.not_le, Nat.not_lt, Nat.not_le, strB_nil, strB_nil', strB_nnil, strB_nnil'] at h3
        refine run_seq ?_
        refine run_region (q_move .n (.t rfl) rfl <|
            q_int .n (.t rfl) (.c rfl) rfl rfl <|
            q_assign .n (.t rfl) rfl <|
            Lex.nil) ?_
        refine run_cond (.t rfl) rfl (fun h4 => ?_) (fun h4 => ?_)
        · try simp only [Bool.and_eq_true, Bool.or_eq_true, Bool.not_eq_true', Bool.and_eq_false_iff, Bool.or_eq_false_iff, Bool.not_eq_false', decide_eq_true_eq, decide_eq_false_iff_not, beq_iff_eq, bne_iff_ne, beq_eq_false_iff_ne, bne_eq_false_iff_eq, Bool.true_and, ne_eq, Decidable.not_not, Int.not_lt, Int.not_le, Nat.not_lt, Nat.not_le, strB_nil, strB_nil', strB_nnil, strB_nnil'] at h4
          refine run_seq ?_
          refine run_region (q_move .n (.t rfl) rfl <|
              q_assign .n (.t rfl) rfl <|
              Lex.nil) ?_
          exact run_ret [] (.cons (.t rfl rfl) .nil) rfl trivial rfl
        · try simp only [Bool.and_eq_true, Bool.or_eq_true, Bool.not_eq_true', Bool.and_eq_false_iff, Bool.or_eq_false_iff, Bool.not_eq_false', decide_eq_true_eq, decide_eq_false_iff_not, beq_iff_eq, bne_iff_ne, beq_eq_false_iff_ne, bne_eq_false_iff_eq, Bool.true_and, ne_eq, Decidable.not_not, Int.not_lt, Int.not_le, Nat.not_lt, Nat.not_le, strB_nil, strB_nil', strB_nnil, strB_nnil'] at h4
          refine run_skip ?_
          refine run_endB ?_
          refine run_seq ?_
          refine run_region (q_assign .n (.c rfl) rfl <|
              Lex.nil) ?_
          exact run_ret [] (.cons (.t rfl rfl) .nil) rfl trivial rfl

/-! ### impl_Mine_clash -/
theorem c_impl_Mine_clash (m_ : gMine) (x_ : gPermit) (y : gPermit) (hp1 : 0 ≤ x_.Airway ∧ x_.Airway < m_.Airways.length) (hp2 : 0 ≤ y.Airway ∧ y.Airway < m_.Airways.length) : Con Try.prog 95 [.st [.int .i64 m_.Junctions, .sl 7 (m_.Airways.map gAirway.v)], .st [.str x_.Id, .int .i64 x_.Kind, .int .i64 x_.Airway, .int .i64 x_.From, .int .i64 x_.Until], .st [.str y.Id, .int .i64 y.Kind, .int .i64 y.Airway, .int .i64 y.From, .int .i64 y.Until]] [] (.bool (m_impl_Mine_clash m_ x_ y)) ([]) := by
  refine con_intro (out := fun r : Bool => ((.bool r : V), ([] : List (Nat × Option O)))) (r := (m_impl_Mine_clash m_ x_ y)) Try.func95 rfl Try.ntmps95 rfl ?_
  refine run_factS (t := 0) 1 rfl rfl fun hl => ?_
  have l1 := hl; clear hl; simp only [List.length_map] at l1
  refine run_seq ?_
  refine run_region (q_box (l := 200) .n rfl (.t rfl) rfl rfl rfl rfl <|
      q_box (l := 201) .n rfl (.t rfl) rfl rfl rfl rfl <|
      q_box (l := 202) .n rfl (.t rfl) rfl rfl rfl rfl <|
      q_assign .n (.c rfl) rfl <|
      Lex.nil) ?_
  refine run_seq ?_
  refine run_seq ?_
  refine run_region (q_fld_ow .n (.t rfl) fo_51_3 rfl <|
      q_ld1_ow .n (.t rfl) rfl (.inr rfl) (fun _ => rfl) rfl ic_2 rfl <|
      q_fld_ow .n (.t rfl) fo_51_4 rfl <|
      q_ld1_ow .n (.t rfl) rfl (.inr rfl) (fun _ => rfl) rfl ic_2 rfl <|
      q_int .n (.t rfl) (.t rfl) rfl rfl <|
      q_move .n (.t rfl) rfl <|
      q_fld_ow (.f rfl rfl) (.t rfl) fo_51_3 rfl <|
      q_ld1_ow (.f rfl rfl) (.u rfl id) rfl (.inr rfl) (fun _ => rfl) rfl ic_2 rfl <|
      q_fld_ow (.f rfl rfl) (.t rfl) fo_51_4 rfl <|
      q_ld1_ow (.f rfl rfl) (.u rfl id) rfl (.inr rfl) (fun _ => rfl) rfl ic_2 rfl <|
      q_int (.f rfl rfl) (.u rfl id) (.u rfl id) rfl rfl <|
      q_or .n (.t rfl) (.u rfl id) rfl <|
      Lex.nil) ?_
  refine run_cond (.t rfl) rfl (fun h2 => ?_) (fun h2 => ?_)
  · try simp only [Bool.and_eq_true, Bool.or_eq_true, Bool.not_eq_true', Bool.and_eq_false_iff, Bool.or_eq_false_iff, Bool.not_eq_false', decide_eq_true_eq, decide_eq_false_iff_not, beq_iff_eq, bne_iff_ne, beq_eq_false_iff_ne, bne_eq_false_iff_eq, Bool.true_and, ne_eq, Decidable.not_not, Int.not_lt, Int.not_le, Nat.not_lt, Nat.not_le, strB_nil, strB_nil', strB_nnil, strB_nnil'] at h2
    refine run_seq ?_
    refine run_region (q_assign .n (.c rfl) rfl <|
        Lex.nil) ?_
    exact run_ret [] (.cons (.t rfl rfl) .nil) rfl trivial rfl
  · try simp only [Bool.and_eq_true, Bool.or_eq_true, Bool.not_eq_true', Bool.and_eq_false_iff, Bool.or_eq_false_iff, Bool.not_eq_false', decide_eq_true_eq, decide_eq_false_iff_not, beq_iff_eq, bne_iff_ne, beq_eq_false_iff_ne, bne_eq_false_iff_eq, Bool.true_and, ne_eq, Decidable.not_not, Int.not_lt, Int.not_le, Nat.not_lt, Nat.not_le, strB_nil, strB_nil', strB_nnil, strB_nnil'] at h2
    refine run_skip ?_
    refine run_seq ?_
    refine run_region (q_fld_ow .n (.t rfl) fo_48_1 rfl <|
        q_ld1_ow .n (.t rfl) rfl (.inr rfl) (fun _ => rfl) rfl ic_46 rfl <|
        q_fld_ow .n (.t rfl) fo_51_2 rfl <|
        q_ld1_ow .n (.t rfl) rfl (.inr rfl) (fun _ => rfl) rfl ic_2 rfl <|
        q_idx_rm .n (.t rfl) (.t rfl) sl_46 (fun _ => by omega) rfl <|
        q_ldN_ro .n (.t rfl) ag_106 rfl rfl rfl <|
        q_alloc (l := 203) .n rfl zv_106 rfl rfl <|
        q_st_boxm [.str (at' m_.Airways x_.Airway).Id, .int .i64 (at' m_.Airways x_.Airway).From, .int .i64 (at' m_.Airways x_.Airway).To, .int .i64 (at' m_.Airways x_.Airway).Length, .int .i64 (at' m_.Airways x_.Airway).Section, .int .i64 (at' m_.Airways x_.Airway).Friction, .int .i64 (at' m_.Airways x_.Airway).Shock] .n rfl (.t rfl) (.t rfl) rfl ts_106 rfl rfl <|
        Lex.nil) ?_
    refine run_seq ?_
    refine run_draw fmo (q_fld_ow .n (.t rfl) fo_48_1 rfl <|
        q_ld1_ow .n (.t rfl) rfl (.inr rfl) (fun _ => rfl) rfl ic_46 rfl <|
        q_fld_ow .n (.t rfl) fo_51_2 rfl <|
        q_ld1_ow .n (.t rfl) rfl (.inr rfl) (fun _ => rfl) rfl ic_2 rfl <|
        q_idx_rm .n (.t rfl) (.t rfl) sl_46 (fun _ => by omega) rfl <|
        q_ldN_ro .n (.t rfl) ag_106 rfl rfl rfl <|
        q_fld_ow .n (.t rfl) fo_106_1 rfl <|
        q_ld1_ow .n (.t rfl) rfl (.inr rfl) (fun _ => rfl) rfl ic_2 rfl <|
        q_call0 (full := false) .n .f en_136 (.cons (.t rfl) (.cons (.t rfl) .nil)) (.cons (.sts rfl) (.cons (.b (.a (.same rfl))) .nil)) (fun hg => c_impl_Airway_other (at' m_.Airways y.Airway) (at' m_.Airways x_.Airway).From) rfl (fun h => Bool.noConfusion h) rfl <|
        q_move .n (.t rfl) rfl <|
        q_ext .n (.t rfl) rfl rfl rfl <|
        q_ext .n (.t rfl) rfl rfl rfl <|
        q_assign .n (.t rfl) rfl <|
        q_assign .n (.t rfl) rfl <|
        Lex.nil) (by kernel_rfl) ?_
    refine run_seq ?_
    refine run_draw fmo (q_fld_ow .n (.t rfl) fo_48_1 rfl <|
        q_ld1_ow .n (.t rfl) rfl (.inr rfl) (fun _ => rfl) rfl ic_46 rfl <|
        q_fld_ow .n (.t rfl) fo_51_2 rfl <|
        q_ld1_ow .n (.t rfl) rfl (.inr rfl) (fun _ => rfl) rfl ic_2 rfl <|
        q_idx_rm .n (.t rfl) (.t rfl) sl_46 (fun _ => by omega) rfl <|
        q_ldN_ro .n (.t rfl) ag_106 rfl rfl rfl <|
        q_fld_ow .n (.t rfl) fo_106_2 rfl <|
        q_ld1_ow .n (.t rfl) rfl (.inr rfl) (fun _ => rfl) rfl ic_2 rfl <|
        q_call0 (full := false) .n .f en_136 (.cons (.t rfl) (.cons (.t rfl) .nil)) (.cons (.sts rfl) (.cons (.b (.a (.same rfl))) .nil)) (fun hg => c_impl_Airway_other (at' m_.Airways y.Airway) (at' m_.Airways x_.Airway).To) rfl (fun h => Bool.noConfusion h) rfl <|
        q_move .n (.t rfl) rfl <|
        q_ext .n (.t rfl) rfl rfl rfl <|
        q_ext .n (.t rfl) rfl rfl rfl <|
        q_assign .n (.t rfl) rfl <|
        q_assign .n (.t rfl) rfl <|
        Lex.nil) (by kernel_rfl) ?_
    refine run_seq ?_
    refine run_region (q_move .n (.t rfl) rfl <|
        q_move .n (.t rfl) rfl <|
        q_move (.f rfl rfl) (.t rfl) rfl <|
        q_or .n (.t rfl) (.u rfl id) rfl <|
        q_move .n (.t rfl) rfl <|
        q_fld_ow (.t rfl rfl) (.t rfl) fo_51_1 rfl <|
        q_ld1_ow (.t rfl rfl) (.u rfl id) rfl (.inr rfl) (fun _ => rfl) rfl ic_2 rfl <|
        q_fld_ow (.t rfl rfl) (.t rfl) fo_51_1 rfl <|
        q_ld1_ow (.t rfl rfl) (.u rfl id) rfl (.inr rfl) (fun _ => rfl) rfl ic_2 rfl <|
        q_fld_ow (.t rfl rfl) (.t rfl) fo_51_2 rfl <|
        q_ld1_ow (.t rfl rfl) (.u rfl id) rfl (.inr rfl) (fun _ => rfl) rfl ic_2 rfl <|
        q_fld_ow (.t rfl rfl) (.t rfl) fo_51_2 rfl <|
        q_ld1_ow (.t rfl rfl) (.u rfl id) rfl (.inr rfl) (fun _ => rfl) rfl ic_2 rfl <|
        q_int (.t rfl rfl) (.u rfl id) (.u rfl id) rfl rfl <|
        q_call0 (full := false) (.t rfl rfl) .f en_137 (.cons (.u rfl id) (.cons (.u rfl id) (.cons (.u rfl id) .nil))) (.cons (.b (.a (.same rfl))) (.cons (.b (.a (.same rfl))) (.cons (.b (.a (.same rfl))) .nil))) (fun hg => c_impl_KindsClash x_.Kind y.Kind (x_.Airway == y.Airway)) rfl (fun h => Bool.noConfusion h) rfl <|
        q_and .n (.t rfl) (.u rfl id) rfl <|
        q_assign .n (.t rfl) rfl <|
        Lex.nil) ?_
    exact run_ret [] (.cons (.t rfl rfl) .nil) rfl trivial rfl

/-! ### impl_PermitClashes -/
theorem c_impl_PermitClashes (m_ : gMine) (list : List gPermit) : Con Try.prog 41 [.st [.int .i64 m_.Junctions, .sl 7 (m_.Airways.map gAirway.v)], .sl 5 (list.map gPermit.v)] [] (.tup [.os 100 (m_impl_PermitClashes m_ list).1.length, .int .i64 (m_impl_PermitClashes m_ list).2]) ([(100, some (.nest 139 1 0 2 1 none ((m_impl_PermitClashes m_ list).1.map (slv 1 (V.int .i64)))))]) := by
  refine con_intro (out := fun r : (List (List Int)) × Int => ((.tup [.os 100 r.1.length, .int .i64 r.2] : V), ([(100, some (.nest 139 1 0 2 1 none (r.1.map (slv 1 (V.int .i64)))))] : List (Nat × Option O)))) (r := (m_impl_PermitClashes m_ list)) Try.func41 rfl Try.ntmps41 rfl ?_
  refine run_factS (t := 0) 1 rfl rfl fun hl => ?_
  have l1 := hl; clear hl; simp only [List.length_map] at l1
  refine run_fact (t := 1) rfl fun hl => ?_
  have l2 := hl; clear hl; simp only [List.length_map] at l2
  refine run_seq ?_
  refine run_region (q_box (l := 200) .n rfl (.t rfl) rfl rfl rfl rfl <|
      q_assign .n (.c rfl) rfl <|
      q_assign .n (.c rfl) rfl <|
      Lex.nil) ?_
  refine run_seq ?_
  refine run_seq ?_
  refine run_region (q_ldN_ow .n (.t rfl) rfl (.inr rfl) ag_48 (fun _ => rfl) rfl rfl <|
      q_move .n (.t rfl) rfl <|
      q_call0 (full := false) .n .f en_63 (.cons (.t rfl) (.cons (.t rfl) .nil)) (.cons (.sts rfl) (.cons (.b (.a (.same rfl))) .nil)) (fun hg => c_impl_ValidPermits m_ list) rfl (fun h => Bool.noConfusion h) rfl <|
      q_not .n (.t rfl) rfl <|
      Lex.nil) ?_
  refine run_cond (.t rfl) rfl (fun h3 => ?_) (fun h3 => ?_)
  · try simp only [Bool.and_eq_true, Bool.or_eq_true, Bool.not_eq_true', Bool.and_eq_false_iff, Bool.or_eq_false_iff, Bool.not_eq_false', decide_eq_true_eq, decide_eq_false_iff_not, beq_iff_eq, bne_iff_ne, beq_eq_false_iff_ne, bne_eq_false_iff_eq, Bool.true_and, ne_eq, Decidable.not_not, Int.not_lt, Int.not_le, Nat.not_lt, Nat.not_le, strB_nil, strB_nil', strB_nnil, strB_nnil'] at h3
    try have hf0h3 := ValidPermits_imp h3
    try have hf1h3 := ValidPermits_imp h3.1
    try have hf2h3 := ValidPermits_imp h3.2
    try have hf3h3 := ValidPermits_imp h3.1.1
    try have hf4h3 := ValidPermits_imp h3.1.2
    try have hf5h3 := ValidPermits_imp h3.2.1
    try have hf6h3 := ValidPermits_imp h3.2.2
    try have hf7h3 := ValidPermits_len h3
    try have hf8h3 := ValidPermits_len h3.1
    try have hf9h3 := ValidPermits_len h3.2
    try have hf10h3 := ValidPermits_len h3.1.1
    try have hf11h3 := ValidPermits_len h3.1.2
    try have hf12h3 := ValidPermits_len h3.2.1
    try have hf13h3 := ValidPermits_len h3.2.2
    refine run_seq ?_
    refine run_region (q_assign .n (.c rfl) rfl <|
        q_assign .n (.c rfl) rfl <|
        Lex.nil) ?_
    refine run_sub (sub_adopt (t := 4) (l := 201) (el := 139) (sz := 1) rfl rfl) ?_
    refine run_sub (sub_nilN (α := List Int) (f := slv 1 (V.int .i64)) (l := 201) (q := 0) (te := 2) (ze := 1) rfl) ?_
    exact run_ret [(100, 201)] (.cons (.t rfl rfl) (.cons (.t rfl rfl) .nil)) (by first | rfl | (simp only [put_len]; rfl)) ⟨rfl, trivial⟩ rfl
  · try simp only [Bool.and_eq_true, Bool.or_eq_true, Bool.not_eq_true', Bool.and_eq_false_iff, Bool.or_eq_false_iff, Bool.not_eq_false', decide_eq_true_eq, decide_eq_false_iff_not, beq_iff_eq, bne_iff_ne, beq_eq_false_iff_ne, bne_eq_false_iff_eq, Bool.true_and, ne_eq, Decidable.not_not, Int.not_lt, Int.not_le, Nat.not_lt, Nat.not_le, strB_nil, strB_nil', strB_nnil, strB_nnil'] at h3
    try have hf0h3 := ValidPermits_imp h3
    try have hf1h3 := ValidPermits_imp h3.1
    try have hf2h3 := ValidPermits_imp h3.2
    try have hf3h3 := ValidPermits_imp h3.1.1
    try have hf4h3 := ValidPermits_imp h3.1.2
    try have hf5h3 := ValidPermits_imp h3.2.1
    try have hf6h3 := ValidPermits_imp h3.2.2
    try have hf7h3 := ValidPermits_len h3
    try have hf8h3 := ValidPermits_len h3.1
    try have hf9h3 := ValidPermits_len h3.2
    try have hf10h3 := ValidPermits_len h3.1.1
    try have hf11h3 := ValidPermits_len h3.1.2
    try have hf12h3 := ValidPermits_len h3.2.1
    try have hf13h3 := ValidPermits_len h3.2.2
    refine run_skip ?_
    refine run_seq ?_
    refine run_region (q_assign .n (.c rfl) rfl <|
        Lex.nil) ?_
    refine run_seq ?_
    refine run_seq ?_
    refine run_region (q_move .n (.t rfl) rfl <|
        q_len .n (.t rfl) rfl len_map ss_43 rfl <|
        q_move .n (.c rfl) rfl <|
        Lex.nil) ?_
    refine run_block ?_
    refine run_sub (sub_adopt (t := 6) (l := 202) (el := 139) (sz := 1) rfl rfl) ?_
    refine run_sub (sub_nilN (α := List Int) (f := slv 1 (V.int .i64)) (l := 202) (q := 0) (te := 2) (ze := 1) rfl) ?_
    refine run_LOOP (m_impl_PermitClashes_b1 m_ list) _ _ _ rfl (fun (x1 : (List (List Int)) × Int) => 0 ≤ x1.2 ∧ x1.2 ≤ (list.length : Int) ∧ (x1.1.length : Int) ≤ 16 * x1.2) (fun x1 => 0 ≤ x1.2 ∧ x1.2 ≤ (list.length : Int) ∧ (x1.1.length : Int) ≤ 16 * x1.2 ∧ (list.length : Int) ≤ x1.2) (fun x1 => ((list.length : Int) - x1.2 : Int).toNat) (fun x1 => ⟨[(1, some (true, .sl 5 (list.map gPermit.v))), (2, some (true, .op 200 0 0 0)), (6, some (true, .os 202 x1.1.length)), (14, some (true, .sl 5 (list.map gPermit.v))), (15, some (true, .int .i64 (list.length : Int))), (16, some (true, .int .i64 x1.2))], [(200, some (.box 48 [.int .i64 m_.Junctions, .sl 7 (m_.Airways.map gAirway.v)])), (202, some (.nest 139 1 0 2 1 none (x1.1.map (slv 1 (V.int .i64)))))]⟩) (fun x1 => ⟨[(6, some (true, .os 202 x1.1.length))], [(202, some (.nest 139 1 0 2 1 none (x1.1.map (slv 1 (V.int .i64)))))]⟩) ⟨by omega, by omega, by (simp only [List.length_append, List.length_cons, List.length_nil, List.length_replicate, put_len] at * <;> omega)⟩ (by omega) (sub_of [] ⟨rfl, rfl, rfl, rfl, rfl, rfl, trivial⟩ ⟨rfl, rfl, trivial⟩ rfl) ?_ ?_
    · intro x1 i19
      obtain ⟨e20, e21, e22, e23⟩ := i19
      try dsimp only at *
      refine run_seq ?_
      refine run_region (q_move .n (.t rfl) rfl <|
          q_assign .n (.t rfl) rfl <|
          q_assign .n (.c rfl) rfl <|
          Lex.nil) ?_
      exact run_ret [(100, 202)] (.cons (.t rfl rfl) (.cons (.t rfl rfl) .nil)) (by first | rfl | (simp only [put_len]; rfl)) ⟨rfl, trivial⟩ rfl
    · intro rec1 k1 hk4 x1 i5
      obtain ⟨e24, e25, e26⟩ := i5
      try dsimp only at *
      refine run_seq ?_
      refine run_region (q_int .n (.t rfl) (.t rfl) rfl rfl <|
          Lex.nil) ?_
      refine run_seq ?_
      refine run_cond (.t rfl) rfl (fun h6 => ?_) (fun h6 => ?_)
      · try simp only [Bool.and_eq_true, Bool.or_eq_true, Bool.not_eq_true', Bool.and_eq_false_iff, Bool.or_eq_false_iff, Bool.not_eq_false', decide_eq_true_eq, decide_eq_false_iff_not, beq_iff_eq, bne_iff_ne, beq_eq_false_iff_ne, bne_eq_false_iff_eq, Bool.true_and, ne_eq, Decidable.not_not, Int.not_lt, Int.not_le, Nat.not_lt, Nat.not_le, strB_nil, strB_nil', strB_nnil, strB_nnil'] at h6
        refine run_skip ?_
        refine run_seq ?_
        refine run_block ?_
        refine run_seq ?_
        refine run_region (q_move .n (.t rfl) rfl <|
            q_idx_rm .n (.t rfl) (.t rfl) sl_43 (fun _ => by omega) rfl <|
            q_ldN_ro .n (.t rfl) ag_51 rfl rfl rfl <|
            q_alloc (l := 203) .n rfl zv_51 rfl rfl <|
            q_assign .n (.t rfl) rfl <|
            q_st_boxm [.str (at' list x1.2).Id, .int .i64 (at' list x1.2).Kind, .int .i64 (at' list x1.2).Airway, .int .i64 (at' list x1.2).From, .int .i64 (at' list x1.2).Until] .n rfl (.t rfl) (.t rfl) rfl ts_51 rfl rfl <|
            Lex.nil) ?_
        refine run_seq ?_
        refine run_region (q_move .n (.t rfl) rfl <|
            q_add .n (.t rfl) (.c rfl) (fun _ => by omega) rfl <|
            q_assign .n (.t rfl) rfl <|
            Lex.nil) ?_
        refine run_block ?_
        refine run_LOOP (m_impl_PermitClashes_b2 m_ list rec1 k1 x1) _ _ _ rfl (fun (x2 : (List (List Int)) × Int) => x1.2 + 1 ≤ x2.2 ∧ x2.2 ≤ (list.length : Int) ∧ (x2.1.length : Int) ≤ 16 * x1.2 + x2.2) (fun x2 => x1.2 + 1 ≤ x2.2 ∧ x2.2 ≤ (list.length : Int) ∧ (x2.1.length : Int) ≤ 16 * x1.2 + x2.2 ∧ (list.length : Int) ≤ x2.2) (fun x2 => ((list.length : Int) - x2.2 : Int).toNat) (fun x2 => ⟨[(1, some (true, .sl 5 (list.map gPermit.v))), (2, some (true, .op 200 0 0 0)), (6, some (true, .os 202 x2.1.length)), (7, some (true, .int .i64 x1.2)), (8, some (true, .op 203 0 0 0)), (9, some (true, .int .i64 x2.2)), (14, some (true, .sl 5 (list.map gPermit.v))), (15, some (true, .int .i64 (list.length : Int))), (16, some (true, .int .i64 x1.2))], [(200, some (.box 48 [.int .i64 m_.Junctions, .sl 7 (m_.Airways.map gAirway.v)])), (202, some (.nest 139 1 0 2 1 none (x2.1.map (slv 1 (V.int .i64))))), (203, some (.box 51 [.str (at' list x1.2).Id, .int .i64 (at' list x1.2).Kind, .int .i64 (at' list x1.2).Airway, .int .i64 (at' list x1.2).From, .int .i64 (at' list x1.2).Until]))]⟩) (fun x2 => ⟨[(1, some (true, .sl 5 (list.map gPermit.v))), (2, some (true, .op 200 0 0 0)), (6, some (true, .os 202 x2.1.length)), (14, some (true, .sl 5 (list.map gPermit.v))), (15, some (true, .int .i64 (list.length : Int))), (16, some (true, .int .i64 x1.2))], [(200, some (.box 48 [.int .i64 m_.Junctions, .sl 7 (m_.Airways.map gAirway.v)])), (202, some (.nest 139 1 0 2 1 none (x2.1.map (slv 1 (V.int .i64)))))]⟩) ⟨by omega, by omega, by (simp only [List.length_append, List.length_cons, List.length_nil, List.length_replicate, put_len] at * <;> omega)⟩ (by omega) (sub_of [] ⟨rfl, rfl, rfl, rfl, rfl, rfl, rfl, rfl, rfl, trivial⟩ ⟨rfl, rfl, rfl, trivial⟩ rfl) ?_ ?_
        · intro x2 i11
          obtain ⟨e12, e13, e14, e15⟩ := i11
          try dsimp only at *
          refine run_endB ?_
          refine run_region (q_add .n (.t rfl) (.c rfl) (fun _ => by omega) rfl <|
              q_move .n (.t rfl) rfl <|
              Lex.nil) ?_
          exact run_again (x2.1, x1.2 + 1) ⟨by omega, by omega, by (simp only [List.length_append, List.length_cons, List.length_nil, List.length_replicate, put_len] at * <;> omega)⟩ (by omega) (sub_of [] ⟨rfl, rfl, rfl, rfl, rfl, rfl, trivial⟩ ⟨rfl, rfl, trivial⟩ rfl)
        · intro rec2 k2 hk7 x2 i8
          obtain ⟨e16, e17, e18⟩ := i8
          try dsimp only at *
          refine run_seq ?_
          refine run_seq ?_
          refine run_region (q_move .n (.t rfl) rfl <|
              q_move .n (.t rfl) rfl <|
              q_len .n (.t rfl) rfl len_map ss_43 rfl <|
              q_int .n (.t rfl) (.t rfl) rfl rfl <|
              Lex.nil) ?_
          refine run_cond (.t rfl) rfl (fun h9 => ?_) (fun h9 => ?_)
          · try simp only [Bool.and_eq_true, Bool.or_eq_true, Bool.not_eq_true', Bool.and_eq_false_iff, Bool.or_eq_false_iff, Bool.not_eq_false', decide_eq_true_eq, decide_eq_false_iff_not, beq_iff_eq, bne_iff_ne, beq_eq_false_iff_ne, bne_eq_false_iff_eq, Bool.true_and, ne_eq, Decidable.not_not, Int.not_lt, Int.not_le, Nat.not_lt, Nat.not_le, strB_nil, strB_nil', strB_nnil, strB_nnil'] at h9
            refine run_skip ?_
            refine run_seq ?_
            refine run_block ?_
            refine run_seq ?_
            refine run_draw fmo (q_ldN_ow .n (.t rfl) rfl (.inr rfl) ag_48 (fun _ => rfl) rfl rfl <|
                q_ldN_ow .n (.t rfl) rfl (.inr rfl) ag_51 (fun _ => rfl) rfl rfl <|
                q_move .n (.t rfl) rfl <|
                q_move .n (.t rfl) rfl <|
                q_idx_rm .n (.t rfl) (.t rfl) sl_43 (fun _ => by omega) rfl <|
                q_ldN_ro .n (.t rfl) ag_51 rfl rfl rfl <|
                q_call0 (full := false) .n .f en_95 (.cons (.t rfl) (.cons (.t rfl) (.cons (.t rfl) .nil))) (.cons (.sts rfl) (.cons (.sts rfl) (.cons (.sts rfl) .nil))) (fun hg => c_impl_Mine_clash m_ (at' list x1.2) (at' list x2.2) (by ((have hq := PmIn.at (list := list) (i := x1.2) (by assumption) (by omega); omega))) (by ((have hq := PmIn.at (list := list) (i := x2.2) (by assumption) (by omega); omega)))) rfl (fun h => Bool.noConfusion h) rfl <|
                Lex.nil) (by kernel_rfl) ?_
            refine run_cond (.t rfl) rfl (fun h10 => ?_) (fun h10 => ?_)
            · try simp only [Bool.and_eq_true, Bool.or_eq_true, Bool.not_eq_true', Bool.and_eq_false_iff, Bool.or_eq_false_iff, Bool.not_eq_false', decide_eq_true_eq, decide_eq_false_iff_not, beq_iff_eq, bne_iff_ne, beq_eq_false_iff_ne, bne_eq_false_iff_eq, Bool.true_and, ne_eq, Decidable.not_not, Int.not_lt, Int.not_le, Nat.not_lt, Nat.not_le, strB_nil, strB_nil', strB_nnil, strB_nnil'] at h10
              refine run_ro <| ro_lex (l1 := [_, _, _, _, _, _, _]) (l2 := []) rfl (q_move .n (.t rfl) rfl <|
                  q_move .n (.t rfl) rfl <|
                  q_move .n (.t rfl) rfl <|
                  q_bslicem ([x1.2, x2.2] : List Int) (f := V.int .i64) (l := 204) .n rfl rfl (.cons (.t rfl) (.cons (.t rfl) .nil)) rfl si_139 zv_2 rfl rfl rfl <|
                  q_bsl1 (l := 205) .n rfl (.t rfl) si_73 zv_139 rfl rfl rfl <|
                  q_appN (xs := x2.1) (f := slv 1 (V.int .i64)) (ys := ([x1.2, x2.2] : List Int)) (h := V.int .i64) (lN := 206) ([x1.2, x2.2] : List Int) .n rfl (.ow (.t rfl) rfl len_map) (.t rfl) rfl rfl rfl si_73 zv_139 rfl (by omega) rfl rfl <|
                  q_assign .n (.t rfl) rfl <|
                  Lex.nil) <|
                  ro_sub (sub_fill0 (l := 206) (L := 204) (slv 1 (V.int .i64) ([x1.2, x2.2] : List Int)) rfl rfl app_get rfl) <|
                  ro_end ?_
              refine run_endB ?_
              refine run_region (q_move .n (.t rfl) rfl <|
                  q_add .n (.t rfl) (.c rfl) (fun _ => by omega) rfl <|
                  q_assign .n (.t rfl) rfl <|
                  Lex.nil) ?_
              exact run_again (x2.1 ++ [([x1.2, x2.2] : List Int)], x2.2 + 1) ⟨by omega, by omega, by (simp only [List.length_append, List.length_cons, List.length_nil, List.length_replicate, put_len] at * <;> omega)⟩ (by omega) (sub_of [(202, 206)] ⟨rfl, rfl, rfl, rfl, rfl, rfl, rfl, rfl, rfl, trivial⟩ ⟨rfl, rfl, rfl, trivial⟩ rfl)
            · try simp only [Bool.and_eq_true, Bool.or_eq_true, Bool.not_eq_true', Bool.and_eq_false_iff, Bool.or_eq_false_iff, Bool.not_eq_false', decide_eq_true_eq, decide_eq_false_iff_not, beq_iff_eq, bne_iff_ne, beq_eq_false_iff_ne, bne_eq_false_iff_eq, Bool.true_and, ne_eq, Decidable.not_not, Int.not_lt, Int.not_le, Nat.not_lt, Nat.not_le, strB_nil, strB_nil', strB_nnil, strB_nnil'] at h10
              refine run_skip ?_
              refine run_endB ?_
              refine run_region (q_move .n (.t rfl) rfl <|
                  q_add .n (.t rfl) (.c rfl) (fun _ => by omega) rfl <|
                  q_assign .n (.t rfl) rfl <|
                  Lex.nil) ?_
              exact run_again (x2.1, x2.2 + 1) ⟨by omega, by omega, by (simp only [List.length_append, List.length_cons, List.length_nil, List.length_replicate, put_len] at * <;> omega)⟩ (by omega) (sub_of [] ⟨rfl, rfl, rfl, rfl, rfl, rfl, rfl, rfl, rfl, trivial⟩ ⟨rfl, rfl, rfl, trivial⟩ rfl)
          · try simp only [Bool.and_eq_true, Bool.or_eq_true, Bool.not_eq_true', Bool.and_eq_false_iff, Bool.or_eq_false_iff, Bool.not_eq_false', decide_eq_true_eq, decide_eq_false_iff_not, beq_iff_eq, bne_iff_ne, beq_eq_false_iff_ne, bne_eq_false_iff_eq, Bool.true_and, ne_eq, Decidable.not_not, Int.not_lt, Int.not_le, Nat.not_lt, Nat.not_le, strB_nil, strB_nil', strB_nnil, strB_nnil'] at h9
            refine run_exit rfl ?_
            exact run_cont hk7 (x2.1, x2.2) ⟨by omega, by omega, by omega, by omega⟩ (sub_of [] ⟨rfl, rfl, rfl, rfl, rfl, rfl, trivial⟩ ⟨rfl, rfl, trivial⟩ rfl)
      · try simp only [Bool.and_eq_true, Bool.or_eq_true, Bool.not_eq_true', Bool.and_eq_false_iff, Bool.or_eq_false_iff, Bool.not_eq_false', decide_eq_true_eq, decide_eq_false_iff_not, beq_iff_eq, bne_iff_ne, beq_eq_false_iff_ne, bne_eq_false_iff_eq, Bool.true_and, ne_eq, Decidable.not_not, Int.not_lt, Int.not_le, Nat.not_lt, Nat.not_le, strB_nil, strB_nil', strB_nnil, strB_nnil'] at h6
        refine run_exit rfl ?_
        exact run_cont hk4 (x1.1, x1.2) ⟨by omega, by omega, by omega, by omega⟩ (sub_of [] ⟨rfl, trivial⟩ ⟨rfl, trivial⟩ rfl)

/-! ### laws_eqInt64S -/
theorem c_laws_eqInt64S (a : List Int) (b : List Int) : Con Try.prog 96 [.sl 1 (a.map (V.int .i64)), .sl 1 (b.map (V.int .i64))] [] (.bool (m_laws_eqInt64S a b)) ([]) := by
  refine con_intro (out := fun r : Bool => ((.bool r : V), ([] : List (Nat × Option O)))) (r := (m_laws_eqInt64S a b)) Try.func96 rfl Try.ntmps96 rfl ?_
  refine run_fact (t := 0) rfl fun hl => ?_
  have l1 := hl; clear hl; simp only [List.length_map] at l1
  refine run_fact (t := 1) rfl fun hl => ?_
  have l2 := hl; clear hl; simp only [List.length_map] at l2
  refine run_seq ?_
  refine run_region (q_assign .n (.c rfl) rfl <|
      Lex.nil) ?_
  refine run_seq ?_
  refine run_seq ?_
  refine run_region (q_move .n (.t rfl) rfl <|
      q_len .n (.t rfl) rfl len_map ss_139 rfl <|
      q_move .n (.t rfl) rfl <|
      q_len .n (.t rfl) rfl len_map ss_139 rfl <|
      q_int .n (.t rfl) (.t rfl) rfl rfl <|
      Lex.nil) ?_
  refine run_cond (.t rfl) rfl (fun h3 => ?_) (fun h3 => ?_)
  · try simp only [Bool.and_eq_true, Bool.or_eq_true, Bool.not_eq_true', Bool.and_eq_false_iff, Bool.or_eq_false_iff, Bool.not_eq_false', decide_eq_true_eq, decide_eq_false_iff_not, beq_iff_eq, bne_iff_ne, beq_eq_false_iff_ne, bne_eq_false_iff_eq, Bool.true_and, ne_eq, Decidable.not_not, Int.not_lt, Int.not_le, Nat.not_lt, Nat.not_le, strB_nil, strB_nil', strB_nnil, strB_nnil'] at h3
    refine run_seq ?_
    refine run_region (q_assign .n (.c rfl) rfl <|
        Lex.nil) ?_
    exact run_ret [] (.cons (.t rfl rfl) .nil) rfl trivial rfl
  · try simp only [Bool.and_eq_true, Bool.or_eq_true, Bool.not_eq_true', Bool.and_eq_false_iff, Bool.or_eq_false_iff, Bool.not_eq_false', decide_eq_true_eq, decide_eq_false_iff_not, beq_iff_eq, bne_iff_ne, beq_eq_false_iff_ne, bne_eq_false_iff_eq, Bool.true_and, ne_eq, Decidable.not_not, Int.not_lt, Int.not_le, Nat.not_lt, Nat.not_le, strB_nil, strB_nil', strB_nnil, strB_nnil'] at h3
    refine run_skip ?_
    refine run_seq ?_
    refine run_seq ?_
    refine run_region (q_assign .n (.c rfl) rfl <|
        Lex.nil) ?_
    refine run_block ?_
    refine run_LOOP (m_laws_eqInt64S_b1 a b) _ _ _ rfl (fun (x1 : Int) => 0 ≤ x1 ∧ x1 ≤ (a.length : Int)) (fun x1 => 0 ≤ x1 ∧ x1 ≤ (a.length : Int) ∧ (a.length : Int) ≤ x1) (fun x1 => ((a.length : Int) - x1 : Int).toNat) (fun x1 => ⟨[(0, some (true, .sl 1 (a.map (V.int .i64)))), (1, some (true, .sl 1 (b.map (V.int .i64)))), (5, some (true, .int .i64 x1))], []⟩) (fun x1 => ⟨[], []⟩) ⟨by omega, by omega⟩ (by omega) (sub_of [] ⟨rfl, rfl, rfl, trivial⟩ trivial rfl) ?_ ?_
    · intro x1 i8
      obtain ⟨e9, e10, e11⟩ := i8
      try dsimp only at *
      refine run_seq ?_
      refine run_region (q_assign .n (.c rfl) rfl <|
          Lex.nil) ?_
      exact run_ret [] (.cons (.t rfl rfl) .nil) rfl trivial rfl
    · intro rec1 k1 hk4 x1 i5
      obtain ⟨e12, e13⟩ := i5
      try dsimp only at *
      refine run_seq ?_
      refine run_seq ?_
      refine run_region (q_move .n (.t rfl) rfl <|
          q_move .n (.t rfl) rfl <|
          q_len .n (.t rfl) rfl len_map ss_139 rfl <|
          q_int .n (.t rfl) (.t rfl) rfl rfl <|
          Lex.nil) ?_
      refine run_cond (.t rfl) rfl (fun h6 => ?_) (fun h6 => ?_)
      · try simp only [Bool.and_eq_true, Bool.or_eq_true, Bool.not_eq_true', Bool.and_eq_false_iff, Bool.or_eq_false_iff, Bool.not_eq_false', decide_eq_true_eq, decide_eq_false_iff_not, beq_iff_eq, bne_iff_ne, beq_eq_false_iff_ne, bne_eq_false_iff_eq, Bool.true_and, ne_eq, Decidable.not_not, Int.not_lt, Int.not_le, Nat.not_lt, Nat.not_le, strB_nil, strB_nil', strB_nnil, strB_nnil'] at h6
        refine run_skip ?_
        refine run_seq ?_
        refine run_block ?_
        refine run_seq ?_
        refine run_draw fmo (q_move .n (.t rfl) rfl <|
            q_move .n (.t rfl) rfl <|
            q_idx_rm .n (.t rfl) (.t rfl) sl_139 (fun _ => by omega) rfl <|
            q_ld1_ro .n (.t rfl) rfl ic_2 rfl <|
            q_move .n (.t rfl) rfl <|
            q_move .n (.t rfl) rfl <|
            q_idx_rm .n (.t rfl) (.t rfl) sl_139 (fun _ => by omega) rfl <|
            q_ld1_ro .n (.t rfl) rfl ic_2 rfl <|
            q_int .n (.t rfl) (.t rfl) rfl rfl <|
            Lex.nil) (by kernel_rfl) ?_
        refine run_cond (.t rfl) rfl (fun h7 => ?_) (fun h7 => ?_)
        · try simp only [Bool.and_eq_true, Bool.or_eq_true, Bool.not_eq_true', Bool.and_eq_false_iff, Bool.or_eq_false_iff, Bool.not_eq_false', decide_eq_true_eq, decide_eq_false_iff_not, beq_iff_eq, bne_iff_ne, beq_eq_false_iff_ne, bne_eq_false_iff_eq, Bool.true_and, ne_eq, Decidable.not_not, Int.not_lt, Int.not_le, Nat.not_lt, Nat.not_le, strB_nil, strB_nil', strB_nnil, strB_nnil'] at h7
          refine run_seq ?_
          refine run_region (q_assign .n (.c rfl) rfl <|
              Lex.nil) ?_
          exact run_ret [] (.cons (.t rfl rfl) .nil) rfl trivial rfl
        · try simp only [Bool.and_eq_true, Bool.or_eq_true, Bool.not_eq_true', Bool.and_eq_false_iff, Bool.or_eq_false_iff, Bool.not_eq_false', decide_eq_true_eq, decide_eq_false_iff_not, beq_iff_eq, bne_iff_ne, beq_eq_false_iff_ne, bne_eq_false_iff_eq, Bool.true_and, ne_eq, Decidable.not_not, Int.not_lt, Int.not_le, Nat.not_lt, Nat.not_le, strB_nil, strB_nil', strB_nnil, strB_nnil'] at h7
          refine run_skip ?_
          refine run_endB ?_
          refine run_region (q_move .n (.t rfl) rfl <|
              q_add .n (.t rfl) (.c rfl) (fun _ => by omega) rfl <|
              q_assign .n (.t rfl) rfl <|
              Lex.nil) ?_
          exact run_again (x1 + 1) ⟨by omega, by omega⟩ (by omega) (sub_of [] ⟨rfl, rfl, rfl, trivial⟩ trivial rfl)
      · try simp only [Bool.and_eq_true, Bool.or_eq_true, Bool.not_eq_true', Bool.and_eq_false_iff, Bool.or_eq_false_iff, Bool.not_eq_false', decide_eq_true_eq, decide_eq_false_iff_not, beq_iff_eq, bne_iff_ne, beq_eq_false_iff_ne, bne_eq_false_iff_eq, Bool.true_and, ne_eq, Decidable.not_not, Int.not_lt, Int.not_le, Nat.not_lt, Nat.not_le, strB_nil, strB_nil', strB_nnil, strB_nnil'] at h6
        refine run_exit rfl ?_
        exact run_cont hk4 x1 ⟨by omega, by omega, by omega⟩ (sub_of [] trivial trivial rfl)

/-! ### laws_eqInt64SS -/
theorem c_laws_eqInt64SS (a : List (List Int)) (b : List (List Int)) : Con Try.prog 42 [.sl 1 (a.map (slv 1 (V.int .i64))), .sl 1 (b.map (slv 1 (V.int .i64)))] [] (.bool (m_laws_eqInt64SS a b)) ([]) := by
  refine con_intro (out := fun r : Bool => ((.bool r : V), ([] : List (Nat × Option O)))) (r := (m_laws_eqInt64SS a b)) Try.func42 rfl Try.ntmps42 rfl ?_
  refine run_fact (t := 0) rfl fun hl => ?_
  have l1 := hl; clear hl; simp only [List.length_map] at l1
  refine run_fact (t := 1) rfl fun hl => ?_
  have l2 := hl; clear hl; simp only [List.length_map] at l2
  refine run_seq ?_
  refine run_region (q_assign .n (.c rfl) rfl <|
      Lex.nil) ?_
  refine run_seq ?_
  refine run_seq ?_
  refine run_region (q_move .n (.t rfl) rfl <|
      q_len .n (.t rfl) rfl len_map ss_73 rfl <|
      q_move .n (.t rfl) rfl <|
      q_len .n (.t rfl) rfl len_map ss_73 rfl <|
      q_int .n (.t rfl) (.t rfl) rfl rfl <|
      Lex.nil) ?_
  refine run_cond (.t rfl) rfl (fun h3 => ?_) (fun h3 => ?_)
  · try simp only [Bool.and_eq_true, Bool.or_eq_true, Bool.not_eq_true', Bool.and_eq_false_iff, Bool.or_eq_false_iff, Bool.not_eq_false', decide_eq_true_eq, decide_eq_false_iff_not, beq_iff_eq, bne_iff_ne, beq_eq_false_iff_ne, bne_eq_false_iff_eq, Bool.true_and, ne_eq, Decidable.not_not, Int.not_lt, Int.not_le, Nat.not_lt, Nat.not_le, strB_nil, strB_nil', strB_nnil, strB_nnil'] at h3
    refine run_seq ?_
    refine run_region (q_assign .n (.c rfl) rfl <|
        Lex.nil) ?_
    exact run_ret [] (.cons (.t rfl rfl) .nil) rfl trivial rfl
  · try simp only [Bool.and_eq_true, Bool.or_eq_true, Bool.not_eq_true', Bool.and_eq_false_iff, Bool.or_eq_false_iff, Bool.not_eq_false', decide_eq_true_eq, decide_eq_false_iff_not, beq_iff_eq, bne_iff_ne, beq_eq_false_iff_ne, bne_eq_false_iff_eq, Bool.true_and, ne_eq, Decidable.not_not, Int.not_lt, Int.not_le, Nat.not_lt, Nat.not_le, strB_nil, strB_nil', strB_nnil, strB_nnil'] at h3
    refine run_skip ?_
    refine run_seq ?_
    refine run_seq ?_
    refine run_region (q_assign .n (.c rfl) rfl <|
        Lex.nil) ?_
    refine run_block ?_
    refine run_LOOP (m_laws_eqInt64SS_b1 a b) _ _ _ rfl (fun (x1 : Int) => 0 ≤ x1 ∧ x1 ≤ (a.length : Int)) (fun x1 => 0 ≤ x1 ∧ x1 ≤ (a.length : Int) ∧ (a.length : Int) ≤ x1) (fun x1 => ((a.length : Int) - x1 : Int).toNat) (fun x1 => ⟨[(0, some (true, .sl 1 (a.map (slv 1 (V.int .i64))))), (1, some (true, .sl 1 (b.map (slv 1 (V.int .i64))))), (5, some (true, .int .i64 x1))], []⟩) (fun x1 => ⟨[], []⟩) ⟨by omega, by omega⟩ (by omega) (sub_of [] ⟨rfl, rfl, rfl, trivial⟩ trivial rfl) ?_ ?_
    · intro x1 i8
      obtain ⟨e9, e10, e11⟩ := i8
      try dsimp only at *
      refine run_seq ?_
      refine run_region (q_assign .n (.c rfl) rfl <|
          Lex.nil) ?_
      exact run_ret [] (.cons (.t rfl rfl) .nil) rfl trivial rfl
    · intro rec1 k1 hk4 x1 i5
      obtain ⟨e12, e13⟩ := i5
      try dsimp only at *
      refine run_seq ?_
      refine run_seq ?_
      refine run_region (q_move .n (.t rfl) rfl <|
          q_move .n (.t rfl) rfl <|
          q_len .n (.t rfl) rfl len_map ss_73 rfl <|
          q_int .n (.t rfl) (.t rfl) rfl rfl <|
          Lex.nil) ?_
      refine run_cond (.t rfl) rfl (fun h6 => ?_) (fun h6 => ?_)
      · try simp only [Bool.and_eq_true, Bool.or_eq_true, Bool.not_eq_true', Bool.and_eq_false_iff, Bool.or_eq_false_iff, Bool.not_eq_false', decide_eq_true_eq, decide_eq_false_iff_not, beq_iff_eq, bne_iff_ne, beq_eq_false_iff_ne, bne_eq_false_iff_eq, Bool.true_and, ne_eq, Decidable.not_not, Int.not_lt, Int.not_le, Nat.not_lt, Nat.not_le, strB_nil, strB_nil', strB_nnil, strB_nnil'] at h6
        refine run_skip ?_
        refine run_seq ?_
        refine run_block ?_
        refine run_seq ?_
        refine run_draw fmo (q_move .n (.t rfl) rfl <|
            q_move .n (.t rfl) rfl <|
            q_idx_rm .n (.t rfl) (.t rfl) sl_73 (fun _ => by omega) rfl <|
            q_ld1_ro .n (.t rfl) rfl ic_139 rfl <|
            q_move .n (.t rfl) rfl <|
            q_move .n (.t rfl) rfl <|
            q_idx_rm .n (.t rfl) (.t rfl) sl_73 (fun _ => by omega) rfl <|
            q_ld1_ro .n (.t rfl) rfl ic_139 rfl <|
            q_call0 (full := false) .n .f en_96 (.cons (.t rfl) (.cons (.t rfl) .nil)) (.cons (.b (.a (.same rfl))) (.cons (.b (.a (.same rfl))) .nil)) (fun hg => c_laws_eqInt64S (at' a x1) (at' b x1)) rfl (fun h => Bool.noConfusion h) rfl <|
            q_not .n (.t rfl) rfl <|
            Lex.nil) (by kernel_rfl) ?_
        refine run_cond (.t rfl) rfl (fun h7 => ?_) (fun h7 => ?_)
        · try simp only [Bool.and_eq_true, Bool.or_eq_true, Bool.not_eq_true', Bool.and_eq_false_iff, Bool.or_eq_false_iff, Bool.not_eq_false', decide_eq_true_eq, decide_eq_false_iff_not, beq_iff_eq, bne_iff_ne, beq_eq_false_iff_ne, bne_eq_false_iff_eq, Bool.true_and, ne_eq, Decidable.not_not, Int.not_lt, Int.not_le, Nat.not_lt, Nat.not_le, strB_nil, strB_nil', strB_nnil, strB_nnil'] at h7
          refine run_seq ?_
          refine run_region (q_assign .n (.c rfl) rfl <|
              Lex.nil) ?_
          exact run_ret [] (.cons (.t rfl rfl) .nil) rfl trivial rfl
        · try simp only [Bool.and_eq_true, Bool.or_eq_true, Bool.not_eq_true', Bool.and_eq_false_iff, Bool.or_eq_false_iff, Bool.not_eq_false', decide_eq_true_eq, decide_eq_false_iff_not, beq_iff_eq, bne_iff_ne, beq_eq_false_iff_ne, bne_eq_false_iff_eq, Bool.true_and, ne_eq, Decidable.not_not, Int.not_lt, Int.not_le, Nat.not_lt, Nat.not_le, strB_nil, strB_nil', strB_nnil, strB_nnil'] at h7
          refine run_skip ?_
          refine run_endB ?_
          refine run_region (q_move .n (.t rfl) rfl <|
              q_add .n (.t rfl) (.c rfl) (fun _ => by omega) rfl <|
              q_assign .n (.t rfl) rfl <|
              Lex.nil) ?_
          exact run_again (x1 + 1) ⟨by omega, by omega⟩ (by omega) (sub_of [] ⟨rfl, rfl, rfl, trivial⟩ trivial rfl)
      · try simp only [Bool.and_eq_true, Bool.or_eq_true, Bool.not_eq_true', Bool.and_eq_false_iff, Bool.or_eq_false_iff, Bool.not_eq_false', decide_eq_true_eq, decide_eq_false_iff_not, beq_iff_eq, bne_iff_ne, beq_eq_false_iff_ne, bne_eq_false_iff_eq, Bool.true_and, ne_eq, Decidable.not_not, Int.not_lt, Int.not_le, Nat.not_lt, Nat.not_le, strB_nil, strB_nil', strB_nnil, strB_nnil'] at h6
        refine run_exit rfl ?_
        exact run_cont hk4 x1 ⟨by omega, by omega, by omega⟩ (sub_of [] trivial trivial rfl)

/-! ### laws_markInt64S -/
theorem c_laws_markInt64S (a : List Int) (k_ : Int) : Con Try.prog 97 [.os 0 a.length, .int .i64 k_] [(0, some (.row 2 1 (a.map (V.int .i64))))] (.int .i64 (m_laws_markInt64S a k_).1) ([(0, some (.row 2 1 ((m_laws_markInt64S a k_).2.map (V.int .i64))))]) := by
  refine con_intro (out := fun r : Int × (List Int) => ((.int .i64 r.1 : V), ([(0, some (.row 2 1 (r.2.map (V.int .i64))))] : List (Nat × Option O)))) (r := (m_laws_markInt64S a k_)) Try.func97 rfl Try.ntmps97 rfl ?_
  refine run_factH (l := 0) rfl fun hl => ?_
  have l1 := hl; clear hl; simp only [List.length_map] at l1
  refine run_seq ?_
  refine run_region (q_assign .n (.c rfl) rfl <|
      Lex.nil) ?_
  refine run_seq ?_
  refine run_seq ?_
  refine run_region (q_assign .n (.c rfl) rfl <|
      Lex.nil) ?_
  refine run_block ?_
  refine run_LOOP (m_laws_markInt64S_b1 a k_) _ _ _ rfl (fun (x1 : (List Int) × Int × Int) => 0 ≤ x1.2.2 ∧ x1.1.length = a.length) (fun x1 => 0 ≤ x1.2.2 ∧ x1.1.length = a.length ∧ (x1.1.length : Int) ≤ x1.2.2) (fun x1 => ((x1.1.length : Int) - x1.2.2 : Int).toNat) (fun x1 => ⟨[(0, some (true, .os 0 x1.1.length)), (1, some (true, .int .i64 x1.2.1)), (5, some (true, .int .i64 x1.2.2))], [(0, some (.row 2 1 (x1.1.map (V.int .i64))))]⟩) (fun x1 => ⟨[(1, some (true, .int .i64 x1.2.1))], [(0, some (.row 2 1 (x1.1.map (V.int .i64))))]⟩) ⟨by (simp only [List.length_append, List.length_cons, List.length_nil, List.length_replicate, put_len] at * <;> omega), by (simp only [List.length_append, List.length_cons, List.length_nil, List.length_replicate, put_len] at * <;> omega)⟩ (by (simp only [List.length_append, List.length_cons, List.length_nil, List.length_replicate, put_len] at * <;> omega)) (sub_of [] ⟨rfl, rfl, rfl, trivial⟩ ⟨rfl, trivial⟩ rfl) ?_ ?_
  · intro x1 i5
    obtain ⟨e6, e7, e8⟩ := i5
    try dsimp only at *
    refine run_seq ?_
    refine run_region (q_move .n (.t rfl) rfl <|
        q_assign .n (.t rfl) rfl <|
        Lex.nil) ?_
    exact run_ret [] (.cons (.t rfl rfl) .nil) rfl ⟨rfl, trivial⟩ rfl
  · intro rec1 k1 hk2 x1 i3
    obtain ⟨e9, e10⟩ := i3
    try dsimp only at *
    refine run_seq ?_
    refine run_seq ?_
    refine run_region (q_move .n (.t rfl) rfl <|
        q_move .n (.t rfl) rfl <|
        q_len .n (.t rfl) rfl rfl ss_139 rfl <|
        q_int .n (.t rfl) (.t rfl) rfl rfl <|
        Lex.nil) ?_
    refine run_cond (.t rfl) rfl (fun h4 => ?_) (fun h4 => ?_)
    · try simp only [Bool.and_eq_true, Bool.or_eq_true, Bool.not_eq_true', Bool.and_eq_false_iff, Bool.or_eq_false_iff, Bool.not_eq_false', decide_eq_true_eq, decide_eq_false_iff_not, beq_iff_eq, bne_iff_ne, beq_eq_false_iff_ne, bne_eq_false_iff_eq, Bool.true_and, ne_eq, Decidable.not_not, Int.not_lt, Int.not_le, Nat.not_lt, Nat.not_le, strB_nil, strB_nil', strB_nnil, strB_nnil'] at h4
      refine run_skip ?_
      refine run_seq ?_
      refine run_block ?_
      refine run_seq ?_
      refine run_region (q_move .n (.t rfl) rfl <|
          q_move .n (.t rfl) rfl <|
          q_move .n (.t rfl) rfl <|
          q_idx_ow .n (.t rfl) (.t rfl) sl_139 (fun _ => by omega) rfl <|
          q_st_rowm x1.2.1 .n rfl (.t rfl) (.t rfl) rfl ts_2 (by omega) rfl rfl <|
          Lex.nil) ?_
      refine run_region (q_move .n (.t rfl) rfl <|
          q_int .n (.t rfl) (.c rfl) rfl rfl <|
          q_assign .n (.t rfl) rfl <|
          Lex.nil) ?_
      refine run_endB ?_
      refine run_region (q_move .n (.t rfl) rfl <|
          q_add .n (.t rfl) (.c rfl) (fun _ => by omega) rfl <|
          q_assign .n (.t rfl) rfl <|
          Lex.nil) ?_
      exact run_again (put' x1.1 x1.2.2 x1.2.1, IntKind.wrap .i64 (x1.2.1 + 1), x1.2.2 + 1) ⟨by (simp only [List.length_append, List.length_cons, List.length_nil, List.length_replicate, put_len] at * <;> omega), by (simp only [List.length_append, List.length_cons, List.length_nil, List.length_replicate, put_len] at * <;> omega)⟩ (by (simp only [List.length_append, List.length_cons, List.length_nil, List.length_replicate, put_len] at * <;> omega)) (sub_of [] ⟨os_len rfl (by first | (simp only [put_len]; done) | (first | omega | assumption | (simp only [List.length_append, List.length_cons, List.length_nil, List.length_replicate, put_len] at * <;> omega))), rfl, rfl, trivial⟩ ⟨rfl, trivial⟩ rfl)
    · try simp only [Bool.and_eq_true, Bool.or_eq_true, Bool.not_eq_true', Bool.and_eq_false_iff, Bool.or_eq_false_iff, Bool.not_eq_false', decide_eq_true_eq, decide_eq_false_iff_not, beq_iff_eq, bne_iff_ne, beq_eq_false_iff_ne, bne_eq_false_iff_eq, Bool.true_and, ne_eq, Decidable.not_not, Int.not_lt, Int.not_le, Nat.not_lt, Nat.not_le, strB_nil, strB_nil', strB_nnil, strB_nnil'] at h4
      refine run_exit rfl ?_
      exact run_cont hk2 (x1.1, x1.2.1, x1.2.2) ⟨by omega, by omega, by omega⟩ (sub_of [] ⟨rfl, trivial⟩ ⟨rfl, trivial⟩ rfl)

/-! ### laws_markInt64SS -/
theorem c_laws_markInt64SS (a : List (List Int)) (k_ : Int) : Con Try.prog 43 [.os 0 a.length, .int .i64 k_] [(0, some (.nest 139 1 0 2 1 none (a.map (slv 1 (V.int .i64)))))] (.int .i64 (m_laws_markInt64SS a k_).1) ([(0, some (.nest 139 1 0 2 1 none ((m_laws_markInt64SS a k_).2.map (slv 1 (V.int .i64)))))]) := by
  refine con_intro (out := fun r : Int × (List (List Int)) => ((.int .i64 r.1 : V), ([(0, some (.nest 139 1 0 2 1 none (r.2.map (slv 1 (V.int .i64)))))] : List (Nat × Option O)))) (r := (m_laws_markInt64SS a k_)) Try.func43 rfl Try.ntmps43 rfl ?_
  refine run_factN (l := 0) rfl fun hl => ?_
  have l1 := hl; clear hl; simp only [List.length_map] at l1
  refine run_seq ?_
  refine run_region (q_assign .n (.c rfl) rfl <|
      Lex.nil) ?_
  refine run_seq ?_
  refine run_seq ?_
  refine run_region (q_assign .n (.c rfl) rfl <|
      Lex.nil) ?_
  refine run_block ?_
  refine run_LOOP (m_laws_markInt64SS_b1 a k_) _ _ _ rfl (fun (x1 : (List (List Int)) × Int × Int) => 0 ≤ x1.2.2 ∧ x1.1.length = a.length) (fun x1 => 0 ≤ x1.2.2 ∧ x1.1.length = a.length ∧ (x1.1.length : Int) ≤ x1.2.2) (fun x1 => ((x1.1.length : Int) - x1.2.2 : Int).toNat) (fun x1 => ⟨[(0, some (true, .os 0 x1.1.length)), (1, some (true, .int .i64 x1.2.1)), (5, some (true, .int .i64 x1.2.2))], [(0, some (.nest 139 1 0 2 1 none (x1.1.map (slv 1 (V.int .i64)))))]⟩) (fun x1 => ⟨[(1, some (true, .int .i64 x1.2.1))], [(0, some (.nest 139 1 0 2 1 none (x1.1.map (slv 1 (V.int .i64)))))]⟩) ⟨by (simp only [List.length_append, List.length_cons, List.length_nil, List.length_replicate, put_len] at * <;> omega), by (simp only [List.length_append, List.length_cons, List.length_nil, List.length_replicate, put_len] at * <;> omega)⟩ (by (simp only [List.length_append, List.length_cons, List.length_nil, List.length_replicate, put_len] at * <;> omega)) (sub_of [] ⟨rfl, rfl, rfl, trivial⟩ ⟨rfl, trivial⟩ rfl) ?_ ?_
  · intro x1 i5
    obtain ⟨e6, e7, e8⟩ := i5
    try dsimp only at *
    refine run_seq ?_
    refine run_region (q_move .n (.t rfl) rfl <|
        q_assign .n (.t rfl) rfl <|
        Lex.nil) ?_
    exact run_ret [] (.cons (.t rfl rfl) .nil) rfl ⟨rfl, trivial⟩ rfl
  · intro rec1 k1 hk2 x1 i3
    obtain ⟨e9, e10⟩ := i3
    try dsimp only at *
    refine run_seq ?_
    refine run_seq ?_
    refine run_region (q_move .n (.t rfl) rfl <|
        q_move .n (.t rfl) rfl <|
        q_len .n (.t rfl) rfl rfl ss_73 rfl <|
        q_int .n (.t rfl) (.t rfl) rfl rfl <|
        Lex.nil) ?_
    refine run_cond (.t rfl) rfl (fun h4 => ?_) (fun h4 => ?_)
    · try simp only [Bool.and_eq_true, Bool.or_eq_true, Bool.not_eq_true', Bool.and_eq_false_iff, Bool.or_eq_false_iff, Bool.not_eq_false', decide_eq_true_eq, decide_eq_false_iff_not, beq_iff_eq, bne_iff_ne, beq_eq_false_iff_ne, bne_eq_false_iff_eq, Bool.true_and, ne_eq, Decidable.not_not, Int.not_lt, Int.not_le, Nat.not_lt, Nat.not_le, strB_nil, strB_nil', strB_nnil, strB_nnil'] at h4
      refine run_skip ?_
      refine run_seq ?_
      refine run_block ?_
      refine run_ro <| ro_lex (l1 := [_, _, _, _, _, _, _]) (l2 := []) rfl (q_move .n (.t rfl) rfl <|
          q_move .n (.t rfl) rfl <|
          q_idx_ow .n (.t rfl) (.t rfl) sl_73 (fun _ => by omega) rfl <|
          q_ldN (xs := x1.1) (f := slv 1 (V.int .i64)) (ys := at' x1.1 x1.2.2) (h := V.int .i64) (L := 200) .n rfl (.t rfl) rfl (by omega) rfl ic_139 rfl rfl <|
          q_move .n (.t rfl) rfl <|
          q_callM (full := false) [(0, 200)] [] .n rfl .f en_97 (.cons (.t rfl) (.cons (.t rfl) .nil)) (.cons (.b (.muts rfl)) (.cons (.b (.a (.same rfl))) .nil)) (c_laws_markInt64S (at' x1.1 x1.2.2) x1.2.1) ⟨rfl, trivial⟩ rfl rfl (fun h => Bool.noConfusion h) (fun h => Bool.noConfusion h) rfl <|
          q_assign .n (.t rfl) rfl <|
          Lex.nil) <|
          ro_sub (sub_fill (l := 0) (L := 200) (xs := x1.1) (ys := (m_laws_markInt64S (at' x1.1 x1.2.2) x1.2.1).2) (y0 := at' x1.1 x1.2.2) (m := x1.2.2) (m_laws_markInt64S (at' x1.1 x1.2.2) x1.2.1).2 rfl rfl (by omega) rfl (by exact markInt64S_len) rfl) <|
          ro_end ?_
      refine run_endB ?_
      refine run_region (q_move .n (.t rfl) rfl <|
          q_add .n (.t rfl) (.c rfl) (fun _ => by omega) rfl <|
          q_assign .n (.t rfl) rfl <|
          Lex.nil) ?_
      exact run_again (put' x1.1 x1.2.2 (m_laws_markInt64S (at' x1.1 x1.2.2) x1.2.1).2, (m_laws_markInt64S (at' x1.1 x1.2.2) x1.2.1).1, x1.2.2 + 1) ⟨by (simp only [List.length_append, List.length_cons, List.length_nil, List.length_replicate, put_len] at * <;> omega), by (simp only [List.length_append, List.length_cons, List.length_nil, List.length_replicate, put_len] at * <;> omega)⟩ (by (simp only [List.length_append, List.length_cons, List.length_nil, List.length_replicate, put_len] at * <;> omega)) (sub_of [] ⟨os_len rfl (by first | (simp only [put_len]; done) | (first | omega | assumption | (simp only [List.length_append, List.length_cons, List.length_nil, List.length_replicate, put_len] at * <;> omega))), rfl, rfl, trivial⟩ ⟨rfl, trivial⟩ rfl)
    · try simp only [Bool.and_eq_true, Bool.or_eq_true, Bool.not_eq_true', Bool.and_eq_false_iff, Bool.or_eq_false_iff, Bool.not_eq_false', decide_eq_true_eq, decide_eq_false_iff_not, beq_iff_eq, bne_iff_ne, beq_eq_false_iff_ne, bne_eq_false_iff_eq, Bool.true_and, ne_eq, Decidable.not_not, Int.not_lt, Int.not_le, Nat.not_lt, Nat.not_le, strB_nil, strB_nil', strB_nnil, strB_nnil'] at h4
      refine run_exit rfl ?_
      exact run_cont hk2 (x1.1, x1.2.1, x1.2.2) ⟨by omega, by omega, by omega⟩ (sub_of [] ⟨rfl, trivial⟩ ⟨rfl, trivial⟩ rfl)

/-! ### laws_heldInt64S -/
theorem c_laws_heldInt64S (a : List Int) (k_ : Int) : Con Try.prog 98 [.sl 1 (a.map (V.int .i64)), .int .i64 k_] [] (.int .i64 (m_laws_heldInt64S a k_)) ([]) := by
  refine con_intro (out := fun r : Int => ((.int .i64 r : V), ([] : List (Nat × Option O)))) (r := (m_laws_heldInt64S a k_)) Try.func98 rfl Try.ntmps98 rfl ?_
  refine run_fact (t := 0) rfl fun hl => ?_
  have l1 := hl; clear hl; simp only [List.length_map] at l1
  refine run_seq ?_
  refine run_region (q_assign .n (.c rfl) rfl <|
      Lex.nil) ?_
  refine run_seq ?_
  refine run_seq ?_
  refine run_region (q_assign .n (.c rfl) rfl <|
      Lex.nil) ?_
  refine run_block ?_
  refine run_LOOP (m_laws_heldInt64S_b1 a k_) _ _ _ rfl (fun (x1 : Int × Int) => 0 ≤ x1.2 ∧ x1.2 ≤ (a.length : Int)) (fun x1 => 0 ≤ x1.2 ∧ x1.2 ≤ (a.length : Int) ∧ (a.length : Int) ≤ x1.2) (fun x1 => ((a.length : Int) - x1.2 : Int).toNat) (fun x1 => ⟨[(0, some (true, .sl 1 (a.map (V.int .i64)))), (1, some (true, .int .i64 x1.1)), (5, some (true, .int .i64 x1.2))], []⟩) (fun x1 => ⟨[(1, some (true, .int .i64 x1.1))], []⟩) ⟨by omega, by omega⟩ (by omega) (sub_of [] ⟨rfl, rfl, rfl, trivial⟩ trivial rfl) ?_ ?_
  · intro x1 i6
    obtain ⟨e7, e8, e9⟩ := i6
    try dsimp only at *
    refine run_seq ?_
    refine run_region (q_move .n (.t rfl) rfl <|
        q_assign .n (.t rfl) rfl <|
        Lex.nil) ?_
    exact run_ret [] (.cons (.t rfl rfl) .nil) rfl trivial rfl
  · intro rec1 k1 hk2 x1 i3
    obtain ⟨e10, e11⟩ := i3
    try dsimp only at *
    refine run_seq ?_
    refine run_seq ?_
    refine run_region (q_move .n (.t rfl) rfl <|
        q_move .n (.t rfl) rfl <|
        q_len .n (.t rfl) rfl len_map ss_139 rfl <|
        q_int .n (.t rfl) (.t rfl) rfl rfl <|
        Lex.nil) ?_
    refine run_cond (.t rfl) rfl (fun h4 => ?_) (fun h4 => ?_)
    · try simp only [Bool.and_eq_true, Bool.or_eq_true, Bool.not_eq_true', Bool.and_eq_false_iff, Bool.or_eq_false_iff, Bool.not_eq_false', decide_eq_true_eq, decide_eq_false_iff_not, beq_iff_eq, bne_iff_ne, beq_eq_false_iff_ne, bne_eq_false_iff_eq, Bool.true_and, ne_eq, Decidable.not_not, Int.not_lt, Int.not_le, Nat.not_lt, Nat.not_le, strB_nil, strB_nil', strB_nnil, strB_nnil'] at h4
      refine run_skip ?_
      refine run_seq ?_
      refine run_block ?_
      refine run_seq ?_
      refine run_seq ?_
      refine run_region (q_move .n (.t rfl) rfl <|
          q_move .n (.t rfl) rfl <|
          q_idx_rm .n (.t rfl) (.t rfl) sl_139 (fun _ => by omega) rfl <|
          q_ld1_ro .n (.t rfl) rfl ic_2 rfl <|
          q_move .n (.t rfl) rfl <|
          q_int .n (.t rfl) (.t rfl) rfl rfl <|
          Lex.nil) ?_
      refine run_cond (.t rfl) rfl (fun h5 => ?_) (fun h5 => ?_)
      · try simp only [Bool.and_eq_true, Bool.or_eq_true, Bool.not_eq_true', Bool.and_eq_false_iff, Bool.or_eq_false_iff, Bool.not_eq_false', decide_eq_true_eq, decide_eq_false_iff_not, beq_iff_eq, bne_iff_ne, beq_eq_false_iff_ne, bne_eq_false_iff_eq, Bool.true_and, ne_eq, Decidable.not_not, Int.not_lt, Int.not_le, Nat.not_lt, Nat.not_le, strB_nil, strB_nil', strB_nnil, strB_nnil'] at h5
        refine run_seq ?_
        refine run_region (q_assign .n (.c rfl) rfl <|
            Lex.nil) ?_
        exact run_ret [] (.cons (.t rfl rfl) .nil) rfl trivial rfl
      · try simp only [Bool.and_eq_true, Bool.or_eq_true, Bool.not_eq_true', Bool.and_eq_false_iff, Bool.or_eq_false_iff, Bool.not_eq_false', decide_eq_true_eq, decide_eq_false_iff_not, beq_iff_eq, bne_iff_ne, beq_eq_false_iff_ne, bne_eq_false_iff_eq, Bool.true_and, ne_eq, Decidable.not_not, Int.not_lt, Int.not_le, Nat.not_lt, Nat.not_le, strB_nil, strB_nil', strB_nnil, strB_nnil'] at h5
        refine run_skip ?_
        refine run_region (q_move .n (.t rfl) rfl <|
            q_int .n (.t rfl) (.c rfl) rfl rfl <|
            q_assign .n (.t rfl) rfl <|
            Lex.nil) ?_
        refine run_endB ?_
        refine run_region (q_move .n (.t rfl) rfl <|
            q_add .n (.t rfl) (.c rfl) (fun _ => by omega) rfl <|
            q_assign .n (.t rfl) rfl <|
            Lex.nil) ?_
        exact run_again (IntKind.wrap .i64 (x1.1 + 1), x1.2 + 1) ⟨by omega, by omega⟩ (by omega) (sub_of [] ⟨rfl, rfl, rfl, trivial⟩ trivial rfl)
    · try simp only [Bool.and_eq_true, Bool.or_eq_true, Bool.not_eq_true', Bool.and_eq_false_iff, Bool.or_eq_false_iff, Bool.not_eq_false', decide_eq_true_eq, decide_eq_false_iff_not, beq_iff_eq, bne_iff_ne, beq_eq_false_iff_ne, bne_eq_false_iff_eq, Bool.true_and, ne_eq, Decidable.not_not, Int.not_lt, Int.not_le, Nat.not_lt, Nat.not_le, strB_nil, strB_nil', strB_nnil, strB_nnil'] at h4
      refine run_exit rfl ?_
      exact run_cont hk2 (x1.1, x1.2) ⟨by omega, by omega, by omega⟩ (sub_of [] ⟨rfl, trivial⟩ trivial rfl)

/-! ### laws_heldInt64SS -/
theorem c_laws_heldInt64SS (a : List (List Int)) (k_ : Int) : Con Try.prog 44 [.sl 1 (a.map (slv 1 (V.int .i64))), .int .i64 k_] [] (.int .i64 (m_laws_heldInt64SS a k_)) ([]) := by
  refine con_intro (out := fun r : Int => ((.int .i64 r : V), ([] : List (Nat × Option O)))) (r := (m_laws_heldInt64SS a k_)) Try.func44 rfl Try.ntmps44 rfl ?_
  refine run_fact (t := 0) rfl fun hl => ?_
  have l1 := hl; clear hl; simp only [List.length_map] at l1
  refine run_seq ?_
  refine run_region (q_assign .n (.c rfl) rfl <|
      Lex.nil) ?_
  refine run_seq ?_
  refine run_seq ?_
  refine run_region (q_assign .n (.c rfl) rfl <|
      Lex.nil) ?_
  refine run_block ?_
  refine run_LOOP (m_laws_heldInt64SS_b1 a k_) _ _ _ rfl (fun (x1 : Int × Int) => 0 ≤ x1.2 ∧ x1.2 ≤ (a.length : Int)) (fun x1 => 0 ≤ x1.2 ∧ x1.2 ≤ (a.length : Int) ∧ (a.length : Int) ≤ x1.2) (fun x1 => ((a.length : Int) - x1.2 : Int).toNat) (fun x1 => ⟨[(0, some (true, .sl 1 (a.map (slv 1 (V.int .i64))))), (1, some (true, .int .i64 x1.1)), (5, some (true, .int .i64 x1.2))], []⟩) (fun x1 => ⟨[(1, some (true, .int .i64 x1.1))], []⟩) ⟨by omega, by omega⟩ (by omega) (sub_of [] ⟨rfl, rfl, rfl, trivial⟩ trivial rfl) ?_ ?_
  · intro x1 i6
    obtain ⟨e7, e8, e9⟩ := i6
    try dsimp only at *
    refine run_seq ?_
    refine run_region (q_move .n (.t rfl) rfl <|
        q_assign .n (.t rfl) rfl <|
        Lex.nil) ?_
    exact run_ret [] (.cons (.t rfl rfl) .nil) rfl trivial rfl
  · intro rec1 k1 hk2 x1 i3
    obtain ⟨e10, e11⟩ := i3
    try dsimp only at *
    refine run_seq ?_
    refine run_seq ?_
    refine run_region (q_move .n (.t rfl) rfl <|
        q_move .n (.t rfl) rfl <|
        q_len .n (.t rfl) rfl len_map ss_73 rfl <|
        q_int .n (.t rfl) (.t rfl) rfl rfl <|
        Lex.nil) ?_
    refine run_cond (.t rfl) rfl (fun h4 => ?_) (fun h4 => ?_)
    · try simp only [Bool.and_eq_true, Bool.or_eq_true, Bool.not_eq_true', Bool.and_eq_false_iff, Bool.or_eq_false_iff, Bool.not_eq_false', decide_eq_true_eq, decide_eq_false_iff_not, beq_iff_eq, bne_iff_ne, beq_eq_false_iff_ne, bne_eq_false_iff_eq, Bool.true_and, ne_eq, Decidable.not_not, Int.not_lt, Int.not_le, Nat.not_lt, Nat.not_le, strB_nil, strB_nil', strB_nnil, strB_nnil'] at h4
      refine run_skip ?_
      refine run_seq ?_
      refine run_block ?_
      refine run_seq ?_
      refine run_region (q_move .n (.t rfl) rfl <|
          q_move .n (.t rfl) rfl <|
          q_idx_rm .n (.t rfl) (.t rfl) sl_73 (fun _ => by omega) rfl <|
          q_ld1_ro .n (.t rfl) rfl ic_139 rfl <|
          q_move .n (.t rfl) rfl <|
          q_call0 (full := false) .n .f en_98 (.cons (.t rfl) (.cons (.t rfl) .nil)) (.cons (.b (.a (.same rfl))) (.cons (.b (.a (.same rfl))) .nil)) (fun hg => c_laws_heldInt64S (at' a x1.2) x1.1) rfl (fun h => Bool.noConfusion h) rfl <|
          q_assign .n (.t rfl) rfl <|
          Lex.nil) ?_
      refine run_seq ?_
      refine run_region (q_move .n (.t rfl) rfl <|
          q_int .n (.t rfl) (.c rfl) rfl rfl <|
          Lex.nil) ?_
      refine run_cond (.t rfl) rfl (fun h5 => ?_) (fun h5 => ?_)
      · try simp only [Bool.and_eq_true, Bool.or_eq_true, Bool.not_eq_true', Bool.and_eq_false_iff, Bool.or_eq_false_iff, Bool.not_eq_false', decide_eq_true_eq, decide_eq_false_iff_not, beq_iff_eq, bne_iff_ne, beq_eq_false_iff_ne, bne_eq_false_iff_eq, Bool.true_and, ne_eq, Decidable.not_not, Int.not_lt, Int.not_le, Nat.not_lt, Nat.not_le, strB_nil, strB_nil', strB_nnil, strB_nnil'] at h5
        refine run_seq ?_
        refine run_region (q_assign .n (.c rfl) rfl <|
            Lex.nil) ?_
        exact run_ret [] (.cons (.t rfl rfl) .nil) rfl trivial rfl
      · try simp only [Bool.and_eq_true, Bool.or_eq_true, Bool.not_eq_true', Bool.and_eq_false_iff, Bool.or_eq_false_iff, Bool.not_eq_false', decide_eq_true_eq, decide_eq_false_iff_not, beq_iff_eq, bne_iff_ne, beq_eq_false_iff_ne, bne_eq_false_iff_eq, Bool.true_and, ne_eq, Decidable.not_not, Int.not_lt, Int.not_le, Nat.not_lt, Nat.not_le, strB_nil, strB_nil', strB_nnil, strB_nnil'] at h5
        refine run_skip ?_
        refine run_endB ?_
        refine run_region (q_move .n (.t rfl) rfl <|
            q_add .n (.t rfl) (.c rfl) (fun _ => by omega) rfl <|
            q_assign .n (.t rfl) rfl <|
            Lex.nil) ?_
        exact run_again (m_laws_heldInt64S (at' a x1.2) x1.1, x1.2 + 1) ⟨by omega, by omega⟩ (by omega) (sub_of [] ⟨rfl, rfl, rfl, trivial⟩ trivial rfl)
    · try simp only [Bool.and_eq_true, Bool.or_eq_true, Bool.not_eq_true', Bool.and_eq_false_iff, Bool.or_eq_false_iff, Bool.not_eq_false', decide_eq_true_eq, decide_eq_false_iff_not, beq_iff_eq, bne_iff_ne, beq_eq_false_iff_ne, bne_eq_false_iff_eq, Bool.true_and, ne_eq, Decidable.not_not, Int.not_lt, Int.not_le, Nat.not_lt, Nat.not_le, strB_nil, strB_nil', strB_nnil, strB_nnil'] at h4
      refine run_exit rfl ?_
      exact run_cont hk2 (x1.1, x1.2) ⟨by omega, by omega, by omega⟩ (sub_of [] ⟨rfl, trivial⟩ trivial rfl)

/-! ### laws_FnExactPermitClashes -/
set_option maxHeartbeats 4000000 in
theorem c_laws_FnExactPermitClashes (aM : gMine) (aList : List gPermit) (hp1 : gMine.ok aM) (hp2 : aList.length ≤ 9223372036854775807 ∧ ∀ y ∈ aList, gPermit.ok y) : Con Try.prog 6 [.st [.int .i64 aM.Junctions, .sl 7 (aM.Airways.map gAirway.v)], .sl 5 (aList.map gPermit.v)] [] (.bool (m_laws_FnExactPermitClashes aM aList)) ([]) := by
  refine con_intro (out := fun r : Bool => ((.bool r : V), ([] : List (Nat × Option O)))) (r := (m_laws_FnExactPermitClashes aM aList)) Try.func6 rfl Try.ntmps6 rfl ?_
  refine run_factS (t := 0) 1 rfl rfl fun hl => ?_
  have l1 := hl; clear hl; simp only [List.length_map] at l1
  refine run_fact (t := 1) rfl fun hl => ?_
  have l2 := hl; clear hl; simp only [List.length_map] at l2
  refine run_seq ?_
  refine run_region (q_box (l := 200) .n rfl (.t rfl) rfl rfl rfl rfl <|
      q_assign .n (.c rfl) rfl <|
      Lex.nil) ?_
  refine run_seq ?_
  refine run_region (q_assign .n (.c rfl) rfl <|
      Lex.nil) ?_
  refine run_seq ?_
  refine run_region (q_ldN_ow .n (.t rfl) rfl (.inr rfl) ag_36 (fun _ => rfl) rfl rfl <|
      q_move .n (.t rfl) rfl <|
      q_call0 (full := false) .n .f en_16 (.cons (.t rfl) (.cons (.t rfl) .nil)) (.cons (.sts rfl) (.cons (.b (.a (.same rfl))) .nil)) (fun hg => c_laws_szMine aM 1048576) rfl (fun h => Bool.noConfusion h) rfl <|
      q_assign .n (.t rfl) rfl <|
      Lex.nil) ?_
  refine run_seq ?_
  refine run_seq ?_
  refine run_region (q_move .n (.t rfl) rfl <|
      q_int .n (.t rfl) (.c rfl) rfl rfl <|
      Lex.nil) ?_
  refine run_cond (.t rfl) rfl (fun h3 => ?_) (fun h3 => ?_)
  · try simp only [Bool.and_eq_true, Bool.or_eq_true, Bool.not_eq_true', Bool.and_eq_false_iff, Bool.or_eq_false_iff, Bool.not_eq_false', decide_eq_true_eq, decide_eq_false_iff_not, beq_iff_eq, bne_iff_ne, beq_eq_false_iff_ne, bne_eq_false_iff_eq, Bool.true_and, ne_eq, Decidable.not_not, Int.not_lt, Int.not_le, Nat.not_lt, Nat.not_le, strB_nil, strB_nil', strB_nnil, strB_nnil'] at h3
    try have hf0h3 := szMine_impA (by assumption) (by omega) (by omega) h3
    try have hf1h3 := szMine_impA (by assumption) (by omega) (by omega) h3.1
    try have hf2h3 := szMine_impA (by assumption) (by omega) (by omega) h3.2
    try have hf3h3 := szMine_impA (by assumption) (by omega) (by omega) h3.1.1
    try have hf4h3 := szMine_impA (by assumption) (by omega) (by omega) h3.1.2
    try have hf5h3 := szMine_impA (by assumption) (by omega) (by omega) h3.2.1
    try have hf6h3 := szMine_impA (by assumption) (by omega) (by omega) h3.2.2
    try have hf7h3 := szMine_impB (by assumption) (by omega) (by omega) h3
    try have hf8h3 := szMine_impB (by assumption) (by omega) (by omega) h3.1
    try have hf9h3 := szMine_impB (by assumption) (by omega) (by omega) h3.2
    try have hf10h3 := szMine_impB (by assumption) (by omega) (by omega) h3.1.1
    try have hf11h3 := szMine_impB (by assumption) (by omega) (by omega) h3.1.2
    try have hf12h3 := szMine_impB (by assumption) (by omega) (by omega) h3.2.1
    try have hf13h3 := szMine_impB (by assumption) (by omega) (by omega) h3.2.2
    refine run_seq ?_
    refine run_region (q_assign .n (.c rfl) rfl <|
        Lex.nil) ?_
    exact run_ret [] (.cons (.t rfl rfl) .nil) rfl trivial rfl
  · try simp only [Bool.and_eq_true, Bool.or_eq_true, Bool.not_eq_true', Bool.and_eq_false_iff, Bool.or_eq_false_iff, Bool.not_eq_false', decide_eq_true_eq, decide_eq_false_iff_not, beq_iff_eq, bne_iff_ne, beq_eq_false_iff_ne, bne_eq_false_iff_eq, Bool.true_and, ne_eq, Decidable.not_not, Int.not_lt, Int.not_le, Nat.not_lt, Nat.not_le, strB_nil, strB_nil', strB_nnil, strB_nnil'] at h3
    try have hf0h3 := szMine_impA (by assumption) (by omega) (by omega) h3
    try have hf1h3 := szMine_impA (by assumption) (by omega) (by omega) h3.1
    try have hf2h3 := szMine_impA (by assumption) (by omega) (by omega) h3.2
    try have hf3h3 := szMine_impA (by assumption) (by omega) (by omega) h3.1.1
    try have hf4h3 := szMine_impA (by assumption) (by omega) (by omega) h3.1.2
    try have hf5h3 := szMine_impA (by assumption) (by omega) (by omega) h3.2.1
    try have hf6h3 := szMine_impA (by assumption) (by omega) (by omega) h3.2.2
    try have hf7h3 := szMine_impB (by assumption) (by omega) (by omega) h3
    try have hf8h3 := szMine_impB (by assumption) (by omega) (by omega) h3.1
    try have hf9h3 := szMine_impB (by assumption) (by omega) (by omega) h3.2
    try have hf10h3 := szMine_impB (by assumption) (by omega) (by omega) h3.1.1
    try have hf11h3 := szMine_impB (by assumption) (by omega) (by omega) h3.1.2
    try have hf12h3 := szMine_impB (by assumption) (by omega) (by omega) h3.2.1
    try have hf13h3 := szMine_impB (by assumption) (by omega) (by omega) h3.2.2
    refine run_skip ?_
    refine run_seq ?_
    refine run_region (q_move .n (.t rfl) rfl <|
        q_move .n (.t rfl) rfl <|
        q_call0 (full := false) .n .f en_17 (.cons (.t rfl) (.cons (.t rfl) .nil)) (.cons (.b (.a (.same rfl))) (.cons (.b (.a (.same rfl))) .nil)) (fun hg => c_laws_szPermitS aList (m_laws_szMine aM 1048576)) rfl (fun h => Bool.noConfusion h) rfl <|
        q_assign .n (.t rfl) rfl <|
        Lex.nil) ?_
    refine run_seq ?_
    refine run_seq ?_
    refine run_region (q_move .n (.t rfl) rfl <|
        q_int .n (.t rfl) (.c rfl) rfl rfl <|
        Lex.nil) ?_
    refine run_cond (.t rfl) rfl (fun h4 => ?_) (fun h4 => ?_)
    · try simp only [Bool.and_eq_true, Bool.or_eq_true, Bool.not_eq_true', Bool.and_eq_false_iff, Bool.or_eq_false_iff, Bool.not_eq_false', decide_eq_true_eq, decide_eq_false_iff_not, beq_iff_eq, bne_iff_ne, beq_eq_false_iff_ne, bne_eq_false_iff_eq, Bool.true_and, ne_eq, Decidable.not_not, Int.not_lt, Int.not_le, Nat.not_lt, Nat.not_le, strB_nil, strB_nil', strB_nnil, strB_nnil'] at h4
      try have hf0h4 := szPermitS_impA (by assumption) (by omega) (by omega) h4
      try have hf1h4 := szPermitS_impA (by assumption) (by omega) (by omega) h4.1
      try have hf2h4 := szPermitS_impA (by assumption) (by omega) (by omega) h4.2
      try have hf3h4 := szPermitS_impA (by assumption) (by omega) (by omega) h4.1.1
      try have hf4h4 := szPermitS_impA (by assumption) (by omega) (by omega) h4.1.2
      try have hf5h4 := szPermitS_impA (by assumption) (by omega) (by omega) h4.2.1
      try have hf6h4 := szPermitS_impA (by assumption) (by omega) (by omega) h4.2.2
      try have hf7h4 := szPermitS_impB (by assumption) (by omega) (by omega) h4
      try have hf8h4 := szPermitS_impB (by assumption) (by omega) (by omega) h4.1
      try have hf9h4 := szPermitS_impB (by assumption) (by omega) (by omega) h4.2
      try have hf10h4 := szPermitS_impB (by assumption) (by omega) (by omega) h4.1.1
      try have hf11h4 := szPermitS_impB (by assumption) (by omega) (by omega) h4.1.2
      try have hf12h4 := szPermitS_impB (by assumption) (by omega) (by omega) h4.2.1
      try have hf13h4 := szPermitS_impB (by assumption) (by omega) (by omega) h4.2.2
      refine run_seq ?_
      refine run_region (q_assign .n (.c rfl) rfl <|
          Lex.nil) ?_
      exact run_ret [] (.cons (.t rfl rfl) .nil) rfl trivial rfl
    · try simp only [Bool.and_eq_true, Bool.or_eq_true, Bool.not_eq_true', Bool.and_eq_false_iff, Bool.or_eq_false_iff, Bool.not_eq_false', decide_eq_true_eq, decide_eq_false_iff_not, beq_iff_eq, bne_iff_ne, beq_eq_false_iff_ne, bne_eq_false_iff_eq, Bool.true_and, ne_eq, Decidable.not_not, Int.not_lt, Int.not_le, Nat.not_lt, Nat.not_le, strB_nil, strB_nil', strB_nnil, strB_nnil'] at h4
      try have hf0h4 := szPermitS_impA (by assumption) (by omega) (by omega) h4
      try have hf1h4 := szPermitS_impA (by assumption) (by omega) (by omega) h4.1
      try have hf2h4 := szPermitS_impA (by assumption) (by omega) (by omega) h4.2
      try have hf3h4 := szPermitS_impA (by assumption) (by omega) (by omega) h4.1.1
      try have hf4h4 := szPermitS_impA (by assumption) (by omega) (by omega) h4.1.2
      try have hf5h4 := szPermitS_impA (by assumption) (by omega) (by omega) h4.2.1
      try have hf6h4 := szPermitS_impA (by assumption) (by omega) (by omega) h4.2.2
      try have hf7h4 := szPermitS_impB (by assumption) (by omega) (by omega) h4
      try have hf8h4 := szPermitS_impB (by assumption) (by omega) (by omega) h4.1
      try have hf9h4 := szPermitS_impB (by assumption) (by omega) (by omega) h4.2
      try have hf10h4 := szPermitS_impB (by assumption) (by omega) (by omega) h4.1.1
      try have hf11h4 := szPermitS_impB (by assumption) (by omega) (by omega) h4.1.2
      try have hf12h4 := szPermitS_impB (by assumption) (by omega) (by omega) h4.2.1
      try have hf13h4 := szPermitS_impB (by assumption) (by omega) (by omega) h4.2.2
      refine run_skip ?_
      refine run_seq ?_
      refine run_region (q_ldN_ow .n (.t rfl) rfl (.inr rfl) ag_36 (fun _ => rfl) rfl rfl <|
          q_callM (full := false) [] [(100, 201)] .n rfl .f en_20 (.cons (.t rfl) .nil) (.cons (.sts rfl) .nil) (c_laws_toMine aM (by omega)) trivial rfl rfl (fun h => Bool.noConfusion h) (fun h => Bool.noConfusion h) rfl <|
          q_move .n (.t rfl) rfl <|
          q_callM (full := false) [] [(100, 202)] .n rfl .f en_21 (.cons (.t rfl) .nil) (.cons (.b (.a (.same rfl))) .nil) (c_laws_toPermitS aList (by omega)) trivial rfl rfl (fun h => Bool.noConfusion h) (fun h => Bool.noConfusion h) rfl <|
          q_callM (full := true) [] [(100, 203)] .n rfl .f en_40 (.cons (.t rfl) (.cons (.t rfl) .nil)) (.cons (.st (.cons (.a (.same rfl)) (.cons (.a (.own rfl rfl rfl (take_all (by simp only [len_map, put_len, markAirwayS_len, markMine_len, markPermitS_len, markInt64S_len, markInt64SS_len] <;> rfl)) (by simp only [len_map, put_len, markAirwayS_len, markMine_len, markPermitS_len, markInt64S_len, markInt64SS_len] <;> rfl))) .nil))) (.cons (.b (.a (.own rfl rfl rfl (take_all (by simp only [len_map, put_len, markAirwayS_len, markMine_len, markPermitS_len, markInt64S_len, markInt64SS_len] <;> rfl)) (by simp only [len_map, put_len, markAirwayS_len, markMine_len, markPermitS_len, markInt64S_len, markInt64SS_len] <;> rfl)))) .nil)) (c_spec_PermitClashes (m_laws_toMine aM) (m_laws_toPermitS aList)) trivial rfl rfl (fun _ => rfl) (fun _ => (hr_nest (fun _ => rfl) (fun _ => rfl) (fun _ => rfl) hr_nil)) rfl <|
          q_move .n (.t rfl) rfl <|
          q_ext .n (.t rfl) rfl rfl rfl <|
          q_ext .n (.t rfl) rfl rfl rfl <|
          q_assign .n (.t rfl) rfl <|
          q_assign .n (.t rfl) rfl <|
          Lex.nil) ?_
      refine run_seq ?_
      refine run_region (q_ldN_ow .n (.t rfl) rfl (.inr rfl) ag_36 (fun _ => rfl) rfl rfl <|
          q_callM (full := false) [] [(100, 204)] .n rfl .f en_20 (.cons (.t rfl) .nil) (.cons (.sts rfl) .nil) (c_laws_toMine aM (by omega)) trivial rfl rfl (fun h => Bool.noConfusion h) (fun h => Bool.noConfusion h) rfl <|
          q_alloc (l := 205) .n rfl zv_48 rfl rfl <|
          q_st_boxm [.int .i64 (m_laws_toMine aM).Junctions, .os 204 (m_laws_toMine aM).Airways.length] .n rfl (.t rfl) (.t rfl) rfl ts_48 rfl rfl <|
          Lex.nil) ?_
      refine run_seq ?_
      refine run_region (q_move .n (.t rfl) rfl <|
          q_callM (full := false) [] [(100, 206)] .n rfl .f en_21 (.cons (.t rfl) .nil) (.cons (.b (.a (.same rfl))) .nil) (c_laws_toPermitS aList (by omega)) trivial rfl rfl (fun h => Bool.noConfusion h) (fun h => Bool.noConfusion h) rfl <|
          q_assign .n (.t rfl) rfl <|
          Lex.nil) ?_
      refine run_seq ?_
      refine run_region (q_ldN_ow .n (.t rfl) rfl (.inr rfl) ag_48 (fun _ => rfl) rfl rfl <|
          q_move .n (.t rfl) rfl <|
          q_callM (full := true) [] [(100, 207)] .n rfl .f en_41 (.cons (.t rfl) (.cons (.t rfl) .nil)) (.cons (.st (.cons (.a (.same rfl)) (.cons (.a (.own rfl rfl rfl (take_all (by simp only [len_map, put_len, markAirwayS_len, markMine_len, markPermitS_len, markInt64S_len, markInt64SS_len] <;> rfl)) (by simp only [len_map, put_len, markAirwayS_len, markMine_len, markPermitS_len, markInt64S_len, markInt64SS_len] <;> rfl))) .nil))) (.cons (.b (.a (.own rfl rfl rfl (take_all (by simp only [len_map, put_len, markAirwayS_len, markMine_len, markPermitS_len, markInt64S_len, markInt64SS_len] <;> rfl)) (by simp only [len_map, put_len, markAirwayS_len, markMine_len, markPermitS_len, markInt64S_len, markInt64SS_len] <;> rfl)))) .nil)) (c_impl_PermitClashes (m_laws_toMine aM) (m_laws_toPermitS aList)) trivial rfl rfl (fun _ => rfl) (fun _ => (hr_nest (fun _ => rfl) (fun _ => rfl) (fun _ => rfl) hr_nil)) rfl <|
          q_move .n (.t rfl) rfl <|
          q_ext .n (.t rfl) rfl rfl rfl <|
          q_ext .n (.t rfl) rfl rfl rfl <|
          q_assign .n (.t rfl) rfl <|
          q_assign .n (.t rfl) rfl <|
          Lex.nil) ?_
      refine run_seq ?_
      refine run_seq ?_
      refine run_region (q_move .n (.t rfl) rfl <|
          q_move .n (.t rfl) rfl <|
          q_call0 (full := true) .n .f en_42 (.cons (.t rfl) (.cons (.t rfl) .nil)) (.cons (.b (.a (.nown rfl rfl rfl (by simp only [len_map, put_len, markAirwayS_len, markMine_len, markPermitS_len, markInt64S_len, markInt64SS_len] <;> rfl)))) (.cons (.b (.a (.nown rfl rfl rfl (by simp only [len_map, put_len, markAirwayS_len, markMine_len, markPermitS_len, markInt64S_len, markInt64SS_len] <;> rfl)))) .nil)) (fun hg => c_laws_eqInt64SS (m_impl_PermitClashes (m_laws_toMine aM) (m_laws_toPermitS aList)).1 (m_spec_PermitClashes (m_laws_toMine aM) (m_laws_toPermitS aList)).1) rfl (fun _ => rfl) rfl <|
          q_not .n (.t rfl) rfl <|
          q_move .n (.t rfl) rfl <|
          q_move (.f rfl rfl) (.t rfl) rfl <|
          q_move (.f rfl rfl) (.t rfl) rfl <|
          q_int (.f rfl rfl) (.u rfl id) (.u rfl id) rfl rfl <|
          q_or .n (.t rfl) (.u rfl id) rfl <|
          Lex.nil) ?_
      refine run_cond (.t rfl) rfl (fun h5 => ?_) (fun h5 => ?_)
      · try simp only [Bool.and_eq_true, Bool.or_eq_true, Bool.not_eq_true', Bool.and_eq_false_iff, Bool.or_eq_false_iff, Bool.not_eq_false', decide_eq_true_eq, decide_eq_false_iff_not, beq_iff_eq, bne_iff_ne, beq_eq_false_iff_ne, bne_eq_false_iff_eq, Bool.true_and, ne_eq, Decidable.not_not, Int.not_lt, Int.not_le, Nat.not_lt, Nat.not_le, strB_nil, strB_nil', strB_nnil, strB_nnil'] at h5
        refine run_seq ?_
        refine run_region (q_assign .n (.c rfl) rfl <|
            Lex.nil) ?_
        exact run_ret [] (.cons (.t rfl rfl) .nil) rfl trivial rfl
      · try simp only [Bool.and_eq_true, Bool.or_eq_true, Bool.not_eq_true', Bool.and_eq_false_iff, Bool.or_eq_false_iff, Bool.not_eq_false', decide_eq_true_eq, decide_eq_false_iff_not, beq_iff_eq, bne_iff_ne, beq_eq_false_iff_ne, bne_eq_false_iff_eq, Bool.true_and, ne_eq, Decidable.not_not, Int.not_lt, Int.not_le, Nat.not_lt, Nat.not_le, strB_nil, strB_nil', strB_nnil, strB_nnil'] at h5
        refine run_skip ?_
        refine run_seq ?_
        refine run_seq ?_
        refine run_draw fmo (q_ldN_ow .n (.t rfl) rfl (.inr rfl) ag_48 (fun _ => rfl) rfl rfl <|
            q_ldN_ow .n (.t rfl) rfl (.inr rfl) ag_36 (fun _ => rfl) rfl rfl <|
            q_callM (full := false) [] [(100, 208)] .n rfl .f en_20 (.cons (.t rfl) .nil) (.cons (.sts rfl) .nil) (c_laws_toMine aM (by omega)) trivial rfl rfl (fun h => Bool.noConfusion h) (fun h => Bool.noConfusion h) rfl <|
            q_call0 (full := true) .n .f en_25 (.cons (.t rfl) (.cons (.t rfl) .nil)) (.cons (.st (.cons (.a (.same rfl)) (.cons (.a (.own rfl rfl rfl (take_all (by simp only [len_map, put_len, markAirwayS_len, markMine_len, markPermitS_len, markInt64S_len, markInt64SS_len] <;> rfl)) (by simp only [len_map, put_len, markAirwayS_len, markMine_len, markPermitS_len, markInt64S_len, markInt64SS_len] <;> rfl))) .nil))) (.cons (.st (.cons (.a (.same rfl)) (.cons (.a (.own rfl rfl rfl (take_all (by simp only [len_map, put_len, markAirwayS_len, markMine_len, markPermitS_len, markInt64S_len, markInt64SS_len] <;> rfl)) (by simp only [len_map, put_len, markAirwayS_len, markMine_len, markPermitS_len, markInt64S_len, markInt64SS_len] <;> rfl))) .nil))) .nil)) (fun hg => c_laws_eqMine (m_laws_toMine aM) (m_laws_toMine aM)) rfl (fun _ => rfl) rfl <|
            q_not .n (.t rfl) rfl <|
            Lex.nil) (by kernel_rfl) ?_
        refine run_cond (.t rfl) rfl (fun h6 => ?_) (fun h6 => ?_)
        · try simp only [Bool.and_eq_true, Bool.or_eq_true, Bool.not_eq_true', Bool.and_eq_false_iff, Bool.or_eq_false_iff, Bool.not_eq_false', decide_eq_true_eq, decide_eq_false_iff_not, beq_iff_eq, bne_iff_ne, beq_eq_false_iff_ne, bne_eq_false_iff_eq, Bool.true_and, ne_eq, Decidable.not_not, Int.not_lt, Int.not_le, Nat.not_lt, Nat.not_le, strB_nil, strB_nil', strB_nnil, strB_nnil'] at h6
          refine run_seq ?_
          refine run_region (q_assign .n (.c rfl) rfl <|
              Lex.nil) ?_
          exact run_ret [] (.cons (.t rfl rfl) .nil) rfl trivial rfl
        · try simp only [Bool.and_eq_true, Bool.or_eq_true, Bool.not_eq_true', Bool.and_eq_false_iff, Bool.or_eq_false_iff, Bool.not_eq_false', decide_eq_true_eq, decide_eq_false_iff_not, beq_iff_eq, bne_iff_ne, beq_eq_false_iff_ne, bne_eq_false_iff_eq, Bool.true_and, ne_eq, Decidable.not_not, Int.not_lt, Int.not_le, Nat.not_lt, Nat.not_le, strB_nil, strB_nil', strB_nnil, strB_nnil'] at h6
          refine run_skip ?_
          refine run_seq ?_
          refine run_seq ?_
          refine run_region (q_move .n (.t rfl) rfl <|
              q_move .n (.t rfl) rfl <|
              q_callM (full := false) [] [(100, 209)] .n rfl .f en_21 (.cons (.t rfl) .nil) (.cons (.b (.a (.same rfl))) .nil) (c_laws_toPermitS aList (by omega)) trivial rfl rfl (fun h => Bool.noConfusion h) (fun h => Bool.noConfusion h) rfl <|
              q_call0 (full := true) .n .f en_24 (.cons (.t rfl) (.cons (.t rfl) .nil)) (.cons (.b (.a (.own rfl rfl rfl (take_all (by simp only [len_map, put_len, markAirwayS_len, markMine_len, markPermitS_len, markInt64S_len, markInt64SS_len] <;> rfl)) (by simp only [len_map, put_len, markAirwayS_len, markMine_len, markPermitS_len, markInt64S_len, markInt64SS_len] <;> rfl)))) (.cons (.b (.a (.own rfl rfl rfl (take_all (by simp only [len_map, put_len, markAirwayS_len, markMine_len, markPermitS_len, markInt64S_len, markInt64SS_len] <;> rfl)) (by simp only [len_map, put_len, markAirwayS_len, markMine_len, markPermitS_len, markInt64S_len, markInt64SS_len] <;> rfl)))) .nil)) (fun hg => c_laws_eqPermitS (m_laws_toPermitS aList) (m_laws_toPermitS aList)) rfl (fun _ => rfl) rfl <|
              q_not .n (.t rfl) rfl <|
              Lex.nil) ?_
          refine run_cond (.t rfl) rfl (fun h7 => ?_) (fun h7 => ?_)
          · try simp only [Bool.and_eq_true, Bool.or_eq_true, Bool.not_eq_true', Bool.and_eq_false_iff, Bool.or_eq_false_iff, Bool.not_eq_false', decide_eq_true_eq, decide_eq_false_iff_not, beq_iff_eq, bne_iff_ne, beq_eq_false_iff_ne, bne_eq_false_iff_eq, Bool.true_and, ne_eq, Decidable.not_not, Int.not_lt, Int.not_le, Nat.not_lt, Nat.not_le, strB_nil, strB_nil', strB_nnil, strB_nnil'] at h7
            refine run_seq ?_
            refine run_region (q_assign .n (.c rfl) rfl <|
                Lex.nil) ?_
            exact run_ret [] (.cons (.t rfl rfl) .nil) rfl trivial rfl
          · try simp only [Bool.and_eq_true, Bool.or_eq_true, Bool.not_eq_true', Bool.and_eq_false_iff, Bool.or_eq_false_iff, Bool.not_eq_false', decide_eq_true_eq, decide_eq_false_iff_not, beq_iff_eq, bne_iff_ne, beq_eq_false_iff_ne, bne_eq_false_iff_eq, Bool.true_and, ne_eq, Decidable.not_not, Int.not_lt, Int.not_le, Nat.not_lt, Nat.not_le, strB_nil, strB_nil', strB_nnil, strB_nnil'] at h7
            refine run_skip ?_
            refine run_seq ?_
            refine run_region (q_assign .n (.c rfl) rfl <|
                Lex.nil) ?_
            refine run_seq ?_
            refine run_region (q_ldN_ow .n (.t rfl) rfl (.inr rfl) ag_48 (fun _ => rfl) rfl rfl <|
                q_move .n (.t rfl) rfl <|
                q_callM (full := false) [(11, 204)] [] .n rfl .f en_26 (.cons (.t rfl) (.cons (.t rfl) .nil)) (.cons (.st (.cons (.a (.same rfl)) (.cons (.muts rfl) .nil))) (.cons (.b (.a (.same rfl))) .nil)) (c_laws_markMine (m_laws_toMine aM) 1 (by omega)) ⟨rfl, trivial⟩ rfl rfl (fun h => Bool.noConfusion h) (fun h => Bool.noConfusion h) rfl <|
                q_assign .n (.t rfl) rfl <|
                Lex.nil) ?_
            refine run_seq ?_
            refine run_region (q_move .n (.t rfl) rfl <|
                q_move .n (.t rfl) rfl <|
                q_callM (full := false) [(0, 206)] [] .n rfl .f en_27 (.cons (.t rfl) (.cons (.t rfl) .nil)) (.cons (.b (.muts rfl)) (.cons (.b (.a (.same rfl))) .nil)) (c_laws_markPermitS (m_laws_toPermitS aList) (m_laws_markMine (m_laws_toMine aM) 1).1 (by ((repeat (first | omega | refine markAirwayS_le ?_ | refine markMine_le ?_ | refine markPermitS_le ?_ | refine markInt64S_le ?_ | refine markInt64SS_le ?_))))) ⟨rfl, trivial⟩ rfl rfl (fun h => Bool.noConfusion h) (fun h => Bool.noConfusion h) rfl <|
                q_assign .n (.t rfl) rfl <|
                Lex.nil) ?_
            refine run_seq ?_
            refine run_seq ?_
            refine run_region (q_move .n (.t rfl) rfl <|
                q_int .n (.t rfl) (.c rfl) rfl rfl <|
                q_move .n (.t rfl) rfl <|
                q_move (.f rfl rfl) (.t rfl) rfl <|
                q_move (.f rfl rfl) (.t rfl) rfl <|
                q_call0 (full := true) (.f rfl rfl) .f en_42 (.cons (.u rfl id) (.cons (.u rfl id) .nil)) (.cons (.b (.a (.nown rfl rfl rfl (by simp only [len_map, put_len, markAirwayS_len, markMine_len, markPermitS_len, markInt64S_len, markInt64SS_len] <;> rfl)))) (.cons (.b (.a (.nown rfl rfl rfl (by simp only [len_map, put_len, markAirwayS_len, markMine_len, markPermitS_len, markInt64S_len, markInt64SS_len] <;> rfl)))) .nil)) (fun hg => c_laws_eqInt64SS (m_impl_PermitClashes (m_laws_toMine aM) (m_laws_toPermitS aList)).1 (m_spec_PermitClashes (m_laws_toMine aM) (m_laws_toPermitS aList)).1) rfl (fun _ => rfl) rfl <|
                q_not (.f rfl rfl) (.u rfl id) rfl <|
                q_or .n (.t rfl) (.u rfl id) rfl <|
                q_move .n (.t rfl) rfl <|
                q_move (.f rfl rfl) (.t rfl) rfl <|
                q_move (.f rfl rfl) (.t rfl) rfl <|
                q_int (.f rfl rfl) (.u rfl id) (.u rfl id) rfl rfl <|
                q_or .n (.t rfl) (.u rfl id) rfl <|
                Lex.nil) ?_
            refine run_cond (.t rfl) rfl (fun h8 => ?_) (fun h8 => ?_)
            · try simp only [Bool.and_eq_true, Bool.or_eq_true, Bool.not_eq_true', Bool.and_eq_false_iff, Bool.or_eq_false_iff, Bool.not_eq_false', decide_eq_true_eq, decide_eq_false_iff_not, beq_iff_eq, bne_iff_ne, beq_eq_false_iff_ne, bne_eq_false_iff_eq, Bool.true_and, ne_eq, Decidable.not_not, Int.not_lt, Int.not_le, Nat.not_lt, Nat.not_le, strB_nil, strB_nil', strB_nnil, strB_nnil'] at h8
              refine run_seq ?_
              refine run_region (q_assign .n (.c rfl) rfl <|
                  Lex.nil) ?_
              exact run_ret [] (.cons (.t rfl rfl) .nil) rfl trivial rfl
            · try simp only [Bool.and_eq_true, Bool.or_eq_true, Bool.not_eq_true', Bool.and_eq_false_iff, Bool.or_eq_false_iff, Bool.not_eq_false', decide_eq_true_eq, decide_eq_false_iff_not, beq_iff_eq, bne_iff_ne, beq_eq_false_iff_ne, bne_eq_false_iff_eq, Bool.true_and, ne_eq, Decidable.not_not, Int.not_lt, Int.not_le, Nat.not_lt, Nat.not_le, strB_nil, strB_nil', strB_nnil, strB_nnil'] at h8
              refine run_skip ?_
              refine run_seq ?_
              refine run_region (q_assign .n (.c rfl) rfl <|
                  Lex.nil) ?_
              refine run_seq ?_
              refine run_region (q_move .n (.t rfl) rfl <|
                  q_move .n (.t rfl) rfl <|
                  q_callM (full := false) [(0, 207)] [] .n rfl .f en_43 (.cons (.t rfl) (.cons (.t rfl) .nil)) (.cons (.b (.muts rfl)) (.cons (.b (.a (.same rfl))) .nil)) (c_laws_markInt64SS (m_impl_PermitClashes (m_laws_toMine aM) (m_laws_toPermitS aList)).1 1) ⟨rfl, trivial⟩ rfl rfl (fun h => Bool.noConfusion h) (fun h => Bool.noConfusion h) rfl <|
                  q_assign .n (.t rfl) rfl <|
                  Lex.nil) ?_
              refine run_seq ?_
              refine run_region (q_assign .n (.c rfl) rfl <|
                  Lex.nil) ?_
              refine run_seq ?_
              refine run_region (q_move .n (.t rfl) rfl <|
                  q_move .n (.t rfl) rfl <|
                  q_call0 (full := true) .n .f en_44 (.cons (.t rfl) (.cons (.t rfl) .nil)) (.cons (.b (.a (.nown rfl rfl rfl (by simp only [len_map, put_len, markAirwayS_len, markMine_len, markPermitS_len, markInt64S_len, markInt64SS_len] <;> rfl)))) (.cons (.b (.a (.same rfl))) .nil)) (fun hg => c_laws_heldInt64SS (m_laws_markInt64SS (m_impl_PermitClashes (m_laws_toMine aM) (m_laws_toPermitS aList)).1 1).2 1) rfl (fun _ => rfl) rfl <|
                  q_assign .n (.t rfl) rfl <|
                  Lex.nil) ?_
              refine run_seq ?_
              refine run_seq ?_
              refine run_region (q_move .n (.t rfl) rfl <|
                  q_int .n (.t rfl) (.c rfl) rfl rfl <|
                  Lex.nil) ?_
              refine run_cond (.t rfl) rfl (fun h9 => ?_) (fun h9 => ?_)
              · try simp only [Bool.and_eq_true, Bool.or_eq_true, Bool.not_eq_true', Bool.and_eq_false_iff, Bool.or_eq_false_iff, Bool.not_eq_false', decide_eq_true_eq, decide_eq_false_iff_not, beq_iff_eq, bne_iff_ne, beq_eq_false_iff_ne, bne_eq_false_iff_eq, Bool.true_and, ne_eq, Decidable.not_not, Int.not_lt, Int.not_le, Nat.not_lt, Nat.not_le, strB_nil, strB_nil', strB_nnil, strB_nnil'] at h9
                refine run_seq ?_
                refine run_region (q_assign .n (.c rfl) rfl <|
                    Lex.nil) ?_
                exact run_ret [] (.cons (.t rfl rfl) .nil) rfl trivial rfl
              · try simp only [Bool.and_eq_true, Bool.or_eq_true, Bool.not_eq_true', Bool.and_eq_false_iff, Bool.or_eq_false_iff, Bool.not_eq_false', decide_eq_true_eq, decide_eq_false_iff_not, beq_iff_eq, bne_iff_ne, beq_eq_false_iff_ne, bne_eq_false_iff_eq, Bool.true_and, ne_eq, Decidable.not_not, Int.not_lt, Int.not_le, Nat.not_lt, Nat.not_le, strB_nil, strB_nil', strB_nnil, strB_nnil'] at h9
                refine run_skip ?_
                refine run_seq ?_
                refine run_seq ?_
                refine run_region (q_move .n (.t rfl) rfl <|
                    q_move .n (.t rfl) rfl <|
                    q_int .n (.t rfl) (.t rfl) rfl rfl <|
                    Lex.nil) ?_
                refine run_cond (.t rfl) rfl (fun h10 => ?_) (fun h10 => ?_)
                · try simp only [Bool.and_eq_true, Bool.or_eq_true, Bool.not_eq_true', Bool.and_eq_false_iff, Bool.or_eq_false_iff, Bool.not_eq_false', decide_eq_true_eq, decide_eq_false_iff_not, beq_iff_eq, bne_iff_ne, beq_eq_false_iff_ne, bne_eq_false_iff_eq, Bool.true_and, ne_eq, Decidable.not_not, Int.not_lt, Int.not_le, Nat.not_lt, Nat.not_le, strB_nil, strB_nil', strB_nnil, strB_nnil'] at h10
                  refine run_seq ?_
                  refine run_region (q_assign .n (.c rfl) rfl <|
                      Lex.nil) ?_
                  exact run_ret [] (.cons (.t rfl rfl) .nil) rfl trivial rfl
                · try simp only [Bool.and_eq_true, Bool.or_eq_true, Bool.not_eq_true', Bool.and_eq_false_iff, Bool.or_eq_false_iff, Bool.not_eq_false', decide_eq_true_eq, decide_eq_false_iff_not, beq_iff_eq, bne_iff_ne, beq_eq_false_iff_ne, bne_eq_false_iff_eq, Bool.true_and, ne_eq, Decidable.not_not, Int.not_lt, Int.not_le, Nat.not_lt, Nat.not_le, strB_nil, strB_nil', strB_nnil, strB_nnil'] at h10
                  refine run_skip ?_
                  refine run_seq ?_
                  refine run_region (q_ldN_ow .n (.t rfl) rfl (.inr rfl) ag_36 (fun _ => rfl) rfl rfl <|
                      q_callM (full := false) [] [(100, 210)] .n rfl .f en_20 (.cons (.t rfl) .nil) (.cons (.sts rfl) .nil) (c_laws_toMine aM (by omega)) trivial rfl rfl (fun h => Bool.noConfusion h) (fun h => Bool.noConfusion h) rfl <|
                      q_move .n (.t rfl) rfl <|
                      q_callM (full := false) [] [(100, 211)] .n rfl .f en_21 (.cons (.t rfl) .nil) (.cons (.b (.a (.same rfl))) .nil) (c_laws_toPermitS aList (by omega)) trivial rfl rfl (fun h => Bool.noConfusion h) (fun h => Bool.noConfusion h) rfl <|
                      q_callM (full := true) [] [(100, 212)] .n rfl .f en_41 (.cons (.t rfl) (.cons (.t rfl) .nil)) (.cons (.st (.cons (.a (.same rfl)) (.cons (.a (.own rfl rfl rfl (take_all (by simp only [len_map, put_len, markAirwayS_len, markMine_len, markPermitS_len, markInt64S_len, markInt64SS_len] <;> rfl)) (by simp only [len_map, put_len, markAirwayS_len, markMine_len, markPermitS_len, markInt64S_len, markInt64SS_len] <;> rfl))) .nil))) (.cons (.b (.a (.own rfl rfl rfl (take_all (by simp only [len_map, put_len, markAirwayS_len, markMine_len, markPermitS_len, markInt64S_len, markInt64SS_len] <;> rfl)) (by simp only [len_map, put_len, markAirwayS_len, markMine_len, markPermitS_len, markInt64S_len, markInt64SS_len] <;> rfl)))) .nil)) (c_impl_PermitClashes (m_laws_toMine aM) (m_laws_toPermitS aList)) trivial rfl rfl (fun _ => rfl) (fun _ => (hr_nest (fun _ => rfl) (fun _ => rfl) (fun _ => rfl) hr_nil)) rfl <|
                      q_move .n (.t rfl) rfl <|
                      q_ext .n (.t rfl) rfl rfl rfl <|
                      q_ext .n (.t rfl) rfl rfl rfl <|
                      q_assign .n (.t rfl) rfl <|
                      q_assign .n (.t rfl) rfl <|
                      Lex.nil) ?_
                  refine run_seq ?_
                  refine run_seq ?_
                  refine run_region (q_move .n (.t rfl) rfl <|
                      q_move .n (.t rfl) rfl <|
                      q_call0 (full := true) .n .f en_42 (.cons (.t rfl) (.cons (.t rfl) .nil)) (.cons (.b (.a (.nown rfl rfl rfl (by simp only [len_map, put_len, markAirwayS_len, markMine_len, markPermitS_len, markInt64S_len, markInt64SS_len] <;> rfl)))) (.cons (.b (.a (.nown rfl rfl rfl (by simp only [len_map, put_len, markAirwayS_len, markMine_len, markPermitS_len, markInt64S_len, markInt64SS_len] <;> rfl)))) .nil)) (fun hg => c_laws_eqInt64SS (m_impl_PermitClashes (m_laws_toMine aM) (m_laws_toPermitS aList)).1 (m_spec_PermitClashes (m_laws_toMine aM) (m_laws_toPermitS aList)).1) rfl (fun _ => rfl) rfl <|
                      q_not .n (.t rfl) rfl <|
                      q_move .n (.t rfl) rfl <|
                      q_move (.f rfl rfl) (.t rfl) rfl <|
                      q_move (.f rfl rfl) (.t rfl) rfl <|
                      q_int (.f rfl rfl) (.u rfl id) (.u rfl id) rfl rfl <|
                      q_or .n (.t rfl) (.u rfl id) rfl <|
                      Lex.nil) ?_
                  refine run_cond (.t rfl) rfl (fun h11 => ?_) (fun h11 => ?_)
                  · try simp only [Bool.and_eq_true, Bool.or_eq_true, Bool.not_eq_true', Bool.and_eq_false_iff, Bool.or_eq_false_iff, Bool.not_eq_false', decide_eq_true_eq, decide_eq_false_iff_not, beq_iff_eq, bne_iff_ne, beq_eq_false_iff_ne, bne_eq_false_iff_eq, Bool.true_and, ne_eq, Decidable.not_not, Int.not_lt, Int.not_le, Nat.not_lt, Nat.not_le, strB_nil, strB_nil', strB_nnil, strB_nnil'] at h11
                    refine run_seq ?_
                    refine run_region (q_assign .n (.c rfl) rfl <|
                        Lex.nil) ?_
                    exact run_ret [] (.cons (.t rfl rfl) .nil) rfl trivial rfl
                  · try simp only [Bool.and_eq_true, Bool.or_eq_true, Bool.not_eq_true', Bool.and_eq_false_iff, Bool.or_eq_false_iff, Bool.not_eq_false', decide_eq_true_eq, decide_eq_false_iff_not, beq_iff_eq, bne_iff_ne, beq_eq_false_iff_ne, bne_eq_false_iff_eq, Bool.true_and, ne_eq, Decidable.not_not, Int.not_lt, Int.not_le, Nat.not_lt, Nat.not_le, strB_nil, strB_nil', strB_nnil, strB_nnil'] at h11
                    refine run_skip ?_
                    refine run_seq ?_
                    refine run_region (q_assign .n (.c rfl) rfl <|
                        Lex.nil) ?_
                    refine run_seq ?_
                    refine run_region (q_move .n (.t rfl) rfl <|
                        q_move .n (.t rfl) rfl <|
                        q_call0 (full := true) .n .f en_44 (.cons (.t rfl) (.cons (.t rfl) .nil)) (.cons (.b (.a (.nown rfl rfl rfl (by simp only [len_map, put_len, markAirwayS_len, markMine_len, markPermitS_len, markInt64S_len, markInt64SS_len] <;> rfl)))) (.cons (.b (.a (.same rfl))) .nil)) (fun hg => c_laws_heldInt64SS (m_laws_markInt64SS (m_impl_PermitClashes (m_laws_toMine aM) (m_laws_toPermitS aList)).1 1).2 1) rfl (fun _ => rfl) rfl <|
                        q_assign .n (.t rfl) rfl <|
                        Lex.nil) ?_
                    refine run_seq ?_
                    refine run_seq ?_
                    refine run_region (q_move .n (.t rfl) rfl <|
                        q_int .n (.t rfl) (.c rfl) rfl rfl <|
                        Lex.nil) ?_
                    refine run_cond (.t rfl) rfl (fun h12 => ?_) (fun h12 => ?_)
                    · try simp only [Bool.and_eq_true, Bool.or_eq_true, Bool.not_eq_true', Bool.and_eq_false_iff, Bool.or_eq_false_iff, Bool.not_eq_false', decide_eq_true_eq, decide_eq_false_iff_not, beq_iff_eq, bne_iff_ne, beq_eq_false_iff_ne, bne_eq_false_iff_eq, Bool.true_and, ne_eq, Decidable.not_not, Int.not_lt, Int.not_le, Nat.not_lt, Nat.not_le, strB_nil, strB_nil', strB_nnil, strB_nnil'] at h12
                      refine run_seq ?_
                      refine run_region (q_assign .n (.c rfl) rfl <|
                          Lex.nil) ?_
                      exact run_ret [] (.cons (.t rfl rfl) .nil) rfl trivial rfl
                    · try simp only [Bool.and_eq_true, Bool.or_eq_true, Bool.not_eq_true', Bool.and_eq_false_iff, Bool.or_eq_false_iff, Bool.not_eq_false', decide_eq_true_eq, decide_eq_false_iff_not, beq_iff_eq, bne_iff_ne, beq_eq_false_iff_ne, bne_eq_false_iff_eq, Bool.true_and, ne_eq, Decidable.not_not, Int.not_lt, Int.not_le, Nat.not_lt, Nat.not_le, strB_nil, strB_nil', strB_nnil, strB_nnil'] at h12
                      refine run_skip ?_
                      refine run_seq ?_
                      refine run_seq ?_
                      refine run_region (q_move .n (.t rfl) rfl <|
                          q_move .n (.t rfl) rfl <|
                          q_int .n (.t rfl) (.t rfl) rfl rfl <|
                          Lex.nil) ?_
                      refine run_cond (.t rfl) rfl (fun h13 => ?_) (fun h13 => ?_)
                      · try simp only [Bool.and_eq_true, Bool.or_eq_true, Bool.not_eq_true', Bool.and_eq_false_iff, Bool.or_eq_false_iff, Bool.not_eq_false', decide_eq_true_eq, decide_eq_false_iff_not, beq_iff_eq, bne_iff_ne, beq_eq_false_iff_ne, bne_eq_false_iff_eq, Bool.true_and, ne_eq, Decidable.not_not, Int.not_lt, Int.not_le, Nat.not_lt, Nat.not_le, strB_nil, strB_nil', strB_nnil, strB_nnil'] at h13
                        refine run_seq ?_
                        refine run_region (q_assign .n (.c rfl) rfl <|
                            Lex.nil) ?_
                        exact run_ret [] (.cons (.t rfl rfl) .nil) rfl trivial rfl
                      · try simp only [Bool.and_eq_true, Bool.or_eq_true, Bool.not_eq_true', Bool.and_eq_false_iff, Bool.or_eq_false_iff, Bool.not_eq_false', decide_eq_true_eq, decide_eq_false_iff_not, beq_iff_eq, bne_iff_ne, beq_eq_false_iff_ne, bne_eq_false_iff_eq, Bool.true_and, ne_eq, Decidable.not_not, Int.not_lt, Int.not_le, Nat.not_lt, Nat.not_le, strB_nil, strB_nil', strB_nnil, strB_nnil'] at h13
                        refine run_skip ?_
                        refine run_seq ?_
                        refine run_region (q_assign .n (.c rfl) rfl <|
                            Lex.nil) ?_
                        exact run_ret [] (.cons (.t rfl rfl) .nil) rfl trivial rfl

end Go.Proofs.Ytbflomopgofkgaa
