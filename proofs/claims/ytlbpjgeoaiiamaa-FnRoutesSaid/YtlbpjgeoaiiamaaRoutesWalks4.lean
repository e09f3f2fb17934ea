/-
  THE WALKS: each Go function computes its model. Conditions: as each theorem states them (hp1, hp2 ..).
-/
import Derived.Test.YtlbpjgeoaiiamaaRoutesWalks3
set_option linter.unusedVariables false
set_option linter.unusedSimpArgs false
set_option linter.unusedSectionVars false
set_option linter.unnecessarySimpa false
namespace Go.Proofs.Ytlbpjgeoaiiamaa
open Go Go.RowKit Go.Proofs Go.Proofs.Ytlbpjgeoaiiamaa.E
/-! ### impl_EscapeTimes -/
theorem c_impl_EscapeTimes (m_ : gMine) (arrivals : List Int) (blocked : Int) (c_ : gCrew) (start : Int) : Con Try.prog 13 [.st [.int .i64 m_.Junctions, .sl 7 (m_.Airways.map gAirway.v)], .sl 1 (arrivals.map (V.int .i64)), .int .i64 blocked, .st [.str c_.Id, .int .i64 c_.Junction, .int .i64 c_.Speed], .int .i64 start] [] (.tup [.os 100 (m_impl_EscapeTimes m_ arrivals blocked c_ start).1.length, .int .i64 (m_impl_EscapeTimes m_ arrivals blocked c_ start).2]) ([(100, some (.row 2 1 ((m_impl_EscapeTimes m_ arrivals blocked c_ start).1.map (V.int .i64))))]) := by
  refine con_intro (out := fun r : (List Int) × Int => ((.tup [.os 100 r.1.length, .int .i64 r.2] : V), ([(100, some (.row 2 1 (r.1.map (V.int .i64))))] : List (Nat × Option O)))) (r := (m_impl_EscapeTimes m_ arrivals blocked c_ start)) Try.func13 rfl Try.ntmps13 rfl ?_
  refine run_factS (t := 0) 1 rfl rfl fun hl => ?_
  have l1 := hl; clear hl; simp only [List.length_map] at l1
  refine run_fact (t := 1) rfl fun hl => ?_
  have l2 := hl; clear hl; simp only [List.length_map] at l2
  refine run_seq ?_
  refine run_region (q_box (l := 200) .n rfl (.t rfl) rfl rfl rfl rfl <|
      q_box (l := 201) .n rfl (.t rfl) rfl rfl rfl rfl <|
      q_assign .n (.c rfl) rfl <|
      q_assign .n (.c rfl) rfl <|
      Lex.nil) ?_
  refine run_seq ?_
  refine run_region (q_ldN_ow .n (.t rfl) rfl (.inr rfl) ag_26 (fun _ => rfl) rfl rfl <|
      q_move .n (.t rfl) rfl <|
      q_move .n (.t rfl) rfl <|
      q_ldN_ow .n (.t rfl) rfl (.inr rfl) ag_34 (fun _ => rfl) rfl rfl <|
      q_bslicem ([c_] : List gCrew) (f := gCrew.v) (l := 202) .n rfl rfl (.cons (.t rfl) .nil) rfl si_78 zv_34 rfl rfl rfl <|
      q_move .n (.t rfl) rfl <|
      q_callM (full := false) [(3, 202)] [] .n rfl .f en_33 (.cons (.t rfl) (.cons (.t rfl) (.cons (.t rfl) (.cons (.t rfl) (.cons (.t rfl) (.cons (.c rfl) .nil)))))) (.cons (.sts rfl) (.cons (.b (.a (.same rfl))) (.cons (.b (.a (.same rfl))) (.cons (.b (.muts rfl)) (.cons (.b (.a (.same rfl))) (.cons (.b (.a .nls)) .nil)))))) (c_impl_escapeOf m_ arrivals blocked ([c_] : List gCrew) start []) ⟨rfl, trivial⟩ rfl rfl (fun h => Bool.noConfusion h) (fun h => Bool.noConfusion h) rfl <|
      q_move .n (.t rfl) rfl <|
      q_ext .n (.t rfl) rfl rfl rfl <|
      q_ext .n (.t rfl) rfl rfl rfl <|
      q_alloc (l := 203) .n rfl zv_75 rfl rfl <|
      q_st_boxm [.int .i64 (m_impl_escapeOf m_ arrivals blocked ([c_] : List gCrew) start []).1.mine.Junctions, .sl 7 ((m_impl_escapeOf m_ arrivals blocked ([c_] : List gCrew) start []).1.mine.Airways.map gAirway.v), .sl 1 ((m_impl_escapeOf m_ arrivals blocked ([c_] : List gCrew) start []).1.arrivals.map (V.int .i64)), .int .i64 (m_impl_escapeOf m_ arrivals blocked ([c_] : List gCrew) start []).1.blocked] .n rfl (.t rfl) (.t rfl) rfl ts_75 rfl rfl <|
      q_assign .n (.t rfl) rfl <|
      Lex.nil) ?_
  refine run_seq ?_
  refine run_seq ?_
  refine run_region (q_move .n (.t rfl) rfl <|
      q_int .n (.t rfl) (.c rfl) rfl rfl <|
      Lex.nil) ?_
  refine run_cond (.t rfl) rfl (fun h3 => ?_) (fun h3 => ?_)
  · try simp only [Bool.and_eq_true, Bool.or_eq_true, Bool.not_eq_true', Bool.and_eq_false_iff, Bool.or_eq_false_iff, Bool.not_eq_false', decide_eq_true_eq, decide_eq_false_iff_not, beq_iff_eq, bne_iff_ne, beq_eq_false_iff_ne, bne_eq_false_iff_eq, Bool.true_and, ne_eq, Decidable.not_not, Int.not_lt, Int.not_le, Nat.not_lt, Nat.not_le, strB_nil, strB_nil', strB_nnil, strB_nnil'] at h3
    try have hf0h3 := escapeOf_impS h3
    try have hf1h3 := escapeOf_impS h3.1
    try have hf2h3 := escapeOf_impS h3.2
    try have hf3h3 := escapeOf_impS h3.1.1
    try have hf4h3 := escapeOf_impS h3.1.2
    try have hf5h3 := escapeOf_impS h3.2.1
    try have hf6h3 := escapeOf_impS h3.2.2
    refine run_seq ?_
    refine run_region (q_move .n (.t rfl) rfl <|
        q_assign .n (.c rfl) rfl <|
        q_assign .n (.t rfl) rfl <|
        Lex.nil) ?_
    refine run_sub (sub_adopt (t := 10) (l := 204) (el := 2) (sz := 1) rfl rfl) ?_
    exact run_ret [(100, 204)] (.cons (.t rfl rfl) (.cons (.t rfl rfl) .nil)) (by first | rfl | (simp only [put_len]; rfl)) ⟨rfl, trivial⟩ rfl
  · try simp only [Bool.and_eq_true, Bool.or_eq_true, Bool.not_eq_true', Bool.and_eq_false_iff, Bool.or_eq_false_iff, Bool.not_eq_false', decide_eq_true_eq, decide_eq_false_iff_not, beq_iff_eq, bne_iff_ne, beq_eq_false_iff_ne, bne_eq_false_iff_eq, Bool.true_and, ne_eq, Decidable.not_not, Int.not_lt, Int.not_le, Nat.not_lt, Nat.not_le, strB_nil, strB_nil', strB_nnil, strB_nnil'] at h3
    try have hf0h3 := escapeOf_impS h3
    try have hf1h3 := escapeOf_impS h3.1
    try have hf2h3 := escapeOf_impS h3.2
    try have hf3h3 := escapeOf_impS h3.1.1
    try have hf4h3 := escapeOf_impS h3.1.2
    try have hf5h3 := escapeOf_impS h3.2.1
    try have hf6h3 := escapeOf_impS h3.2.2
    refine run_skip ?_
    refine run_seq ?_
    refine run_region (q_ldN_ow .n (.t rfl) rfl (.inr rfl) ag_75 (fun _ => rfl) rfl rfl <|
        q_ldN_ow .n (.t rfl) rfl (.inr rfl) ag_34 (fun _ => rfl) rfl rfl <|
        q_move .n (.t rfl) rfl <|
        q_callM (full := false) [] [(100, 205)] .n rfl .f en_37 (.cons (.t rfl) (.cons (.t rfl) (.cons (.t rfl) .nil))) (.cons (.sts rfl) (.cons (.sts rfl) (.cons (.b (.a (.same rfl))) .nil))) (c_impl_escape_times (m_impl_escapeOf m_ arrivals blocked ([c_] : List gCrew) start []).1 c_ start (by (exact escapeOf_impM (by assumption))) (by (exact escapeOf_impL (by assumption))) (by (exact escapeOf_impC (by assumption))) (by omega)) trivial rfl rfl (fun h => Bool.noConfusion h) (fun h => Bool.noConfusion h) rfl <|
        q_assign .n (.t rfl) rfl <|
        q_assign .n (.c rfl) rfl <|
        Lex.nil) ?_
    exact run_ret [(100, 205)] (.cons (.t rfl rfl) (.cons (.t rfl rfl) .nil)) (by first | rfl | (simp only [put_len]; rfl)) ⟨rfl, trivial⟩ rfl

/-! ### laws_r8At -/
theorem c_laws_r8At (code : List Int) (k_ : Int) (n_ : Int) (hp1 : 0 ≤ k_) : Con Try.prog 14 [.sl 1 (code.map (V.int .u8)), .int .i64 k_, .int .i64 n_] [] (.int .i64 (m_laws_r8At code k_ n_)) ([]) := by
  refine con_intro (out := fun r : Int => ((.int .i64 r : V), ([] : List (Nat × Option O)))) (r := (m_laws_r8At code k_ n_)) Try.func14 rfl Try.ntmps14 rfl ?_
  refine run_fact (t := 0) rfl fun hl => ?_
  have l1 := hl; clear hl; simp only [List.length_map] at l1
  refine run_seq ?_
  refine run_region (q_assign .n (.c rfl) rfl <|
      Lex.nil) ?_
  refine run_seq ?_
  refine run_seq ?_
  refine run_region (q_move .n (.t rfl) rfl <|
      q_int .n (.t rfl) (.c rfl) rfl rfl <|
      q_move .n (.t rfl) rfl <|
      q_move (.f rfl rfl) (.t rfl) rfl <|
      q_move (.f rfl rfl) (.t rfl) rfl <|
      q_len (.f rfl rfl) (.u rfl id) rfl len_map ss_22 rfl <|
      q_int (.f rfl rfl) (.u rfl id) (.u rfl id) rfl rfl <|
      q_or .n (.t rfl) (.u rfl id) rfl <|
      Lex.nil) ?_
  refine run_cond (.t rfl) rfl (fun h2 => ?_) (fun h2 => ?_)
  · try simp only [Bool.and_eq_true, Bool.or_eq_true, Bool.not_eq_true', Bool.and_eq_false_iff, Bool.or_eq_false_iff, Bool.not_eq_false', decide_eq_true_eq, decide_eq_false_iff_not, beq_iff_eq, bne_iff_ne, beq_eq_false_iff_ne, bne_eq_false_iff_eq, Bool.true_and, ne_eq, Decidable.not_not, Int.not_lt, Int.not_le, Nat.not_lt, Nat.not_le, strB_nil, strB_nil', strB_nnil, strB_nnil'] at h2
    refine run_seq ?_
    refine run_region (q_assign .n (.c rfl) rfl <|
        Lex.nil) ?_
    exact run_ret [] (.cons (.t rfl rfl) .nil) rfl trivial rfl
  · try simp only [Bool.and_eq_true, Bool.or_eq_true, Bool.not_eq_true', Bool.and_eq_false_iff, Bool.or_eq_false_iff, Bool.not_eq_false', decide_eq_true_eq, decide_eq_false_iff_not, beq_iff_eq, bne_iff_ne, beq_eq_false_iff_ne, bne_eq_false_iff_eq, Bool.true_and, ne_eq, Decidable.not_not, Int.not_lt, Int.not_le, Nat.not_lt, Nat.not_le, strB_nil, strB_nil', strB_nnil, strB_nnil'] at h2
    refine run_skip ?_
    refine run_seq ?_
    refine run_region (q_move .n (.t rfl) rfl <|
        q_move .n (.t rfl) rfl <|
        q_idx_rm .n (.t rfl) (.t rfl) sl_22 (fun _ => by omega) rfl <|
        q_ld1_ro .n (.t rfl) rfl ic_5 rfl <|
        q_conv .n (.t rfl) cv_5_2 rfl <|
        q_move .n (.t rfl) rfl <|
        q_rem .n (.t rfl) (.t rfl) (fun hg => by omega) rfl <|
        q_assign .n (.t rfl) rfl <|
        Lex.nil) ?_
    exact run_ret [] (.cons (.t rfl rfl) .nil) rfl trivial rfl

/-! ### impl_WalkTime -/
theorem c_impl_WalkTime (a : gAirway) (speed : Int) : Con Try.prog 15 [.st [.str a.Id, .int .i64 a.From, .int .i64 a.To, .int .i64 a.Length, .int .i64 a.Section, .int .i64 a.Friction, .int .i64 a.Shock], .int .i64 speed] [] (.tup [.int .i64 (m_impl_WalkTime a speed).1, .int .i64 (m_impl_WalkTime a speed).2]) ([]) := by
  refine con_intro (out := fun r : Int × Int => ((.tup [.int .i64 r.1, .int .i64 r.2] : V), ([] : List (Nat × Option O)))) (r := (m_impl_WalkTime a speed)) Try.func15 rfl Try.ntmps15 rfl ?_
  refine run_seq ?_
  refine run_region (q_box (l := 200) .n rfl (.t rfl) rfl rfl rfl rfl <|
      q_assign .n (.c rfl) rfl <|
      q_assign .n (.c rfl) rfl <|
      Lex.nil) ?_
  refine run_seq ?_
  refine run_block ?_
  refine run_seq ?_
  refine run_region (q_ldN_ow .n (.t rfl) rfl (.inr rfl) ag_46 (fun _ => rfl) rfl rfl <|
      q_call0 (full := false) .n .f en_44 (.cons (.t rfl) .nil) (.cons (.sts rfl) .nil) (fun hg => c_impl_ValidAirway a) rfl (fun h => Bool.noConfusion h) rfl <|
      q_not .n (.t rfl) rfl <|
      q_assign .n (.t rfl) rfl <|
      Lex.nil) ?_
  refine run_cond (.t rfl) rfl (fun h1 => ?_) (fun h1 => ?_)
  · try simp only [Bool.and_eq_true, Bool.or_eq_true, Bool.not_eq_true', Bool.and_eq_false_iff, Bool.or_eq_false_iff, Bool.not_eq_false', decide_eq_true_eq, decide_eq_false_iff_not, beq_iff_eq, bne_iff_ne, beq_eq_false_iff_ne, bne_eq_false_iff_eq, Bool.true_and, ne_eq, Decidable.not_not, Int.not_lt, Int.not_le, Nat.not_lt, Nat.not_le, strB_nil, strB_nil', strB_nnil, strB_nnil'] at h1
    refine run_seq ?_
    refine run_region (q_assign .n (.c rfl) rfl <|
        q_assign .n (.c rfl) rfl <|
        Lex.nil) ?_
    exact run_ret [] (.cons (.t rfl rfl) (.cons (.t rfl rfl) .nil)) rfl trivial rfl
  · try simp only [Bool.and_eq_true, Bool.or_eq_true, Bool.not_eq_true', Bool.and_eq_false_iff, Bool.or_eq_false_iff, Bool.not_eq_false', decide_eq_true_eq, decide_eq_false_iff_not, beq_iff_eq, bne_iff_ne, beq_eq_false_iff_ne, bne_eq_false_iff_eq, Bool.true_and, ne_eq, Decidable.not_not, Int.not_lt, Int.not_le, Nat.not_lt, Nat.not_le, strB_nil, strB_nil', strB_nnil, strB_nnil'] at h1
    refine run_seq ?_
    refine run_region (q_move .n (.t rfl) rfl <|
        q_call0 (full := false) .n .f en_45 (.cons (.t rfl) (.cons (.c rfl) (.cons (.c rfl) .nil))) (.cons (.b (.a (.same rfl))) (.cons (.b (.a (.same rfl))) (.cons (.b (.a (.same rfl))) .nil))) (fun hg => c_impl_within speed 10 300) rfl (fun h => Bool.noConfusion h) rfl <|
        q_not .n (.t rfl) rfl <|
        q_assign .n (.t rfl) rfl <|
        Lex.nil) ?_
    refine run_cond (.t rfl) rfl (fun h2 => ?_) (fun h2 => ?_)
    · try simp only [Bool.and_eq_true, Bool.or_eq_true, Bool.not_eq_true', Bool.and_eq_false_iff, Bool.or_eq_false_iff, Bool.not_eq_false', decide_eq_true_eq, decide_eq_false_iff_not, beq_iff_eq, bne_iff_ne, beq_eq_false_iff_ne, bne_eq_false_iff_eq, Bool.true_and, ne_eq, Decidable.not_not, Int.not_lt, Int.not_le, Nat.not_lt, Nat.not_le, strB_nil, strB_nil', strB_nnil, strB_nnil'] at h2
      try have hf0h2 := within_imp h2
      try have hf1h2 := within_imp h2.1
      try have hf2h2 := within_imp h2.2
      try have hf3h2 := within_imp h2.1.1
      try have hf4h2 := within_imp h2.1.2
      try have hf5h2 := within_imp h2.2.1
      try have hf6h2 := within_imp h2.2.2
      refine run_seq ?_
      refine run_region (q_assign .n (.c rfl) rfl <|
          q_assign .n (.c rfl) rfl <|
          Lex.nil) ?_
      exact run_ret [] (.cons (.t rfl rfl) (.cons (.t rfl rfl) .nil)) rfl trivial rfl
    · try simp only [Bool.and_eq_true, Bool.or_eq_true, Bool.not_eq_true', Bool.and_eq_false_iff, Bool.or_eq_false_iff, Bool.not_eq_false', decide_eq_true_eq, decide_eq_false_iff_not, beq_iff_eq, bne_iff_ne, beq_eq_false_iff_ne, bne_eq_false_iff_eq, Bool.true_and, ne_eq, Decidable.not_not, Int.not_lt, Int.not_le, Nat.not_lt, Nat.not_le, strB_nil, strB_nil', strB_nnil, strB_nnil'] at h2
      try have hf0h2 := within_imp h2
      try have hf1h2 := within_imp h2.1
      try have hf2h2 := within_imp h2.2
      try have hf3h2 := within_imp h2.1.1
      try have hf4h2 := within_imp h2.1.2
      try have hf5h2 := within_imp h2.2.1
      try have hf6h2 := within_imp h2.2.2
      refine run_skip ?_
      refine run_endB ?_
      refine run_seq ?_
      refine run_region (q_ldN_ow .n (.t rfl) rfl (.inr rfl) ag_46 (fun _ => rfl) rfl rfl <|
          q_move .n (.t rfl) rfl <|
          q_call0 (full := false) .n .f en_46 (.cons (.t rfl) (.cons (.t rfl) .nil)) (.cons (.sts rfl) (.cons (.b (.a (.same rfl))) .nil)) (fun hg => c_impl_Airway_walkTime a speed (by omega)) rfl (fun h => Bool.noConfusion h) rfl <|
          q_assign .n (.t rfl) rfl <|
          q_assign .n (.c rfl) rfl <|
          Lex.nil) ?_
      exact run_ret [] (.cons (.t rfl rfl) (.cons (.t rfl rfl) .nil)) rfl trivial rfl

/-! ### laws_FnRoutes -/
set_option maxRecDepth 100000 in
set_option maxHeartbeats 4000000 in
theorem c_laws_FnRoutes (code : List Int) (more : List Int) (hp1 : code.length ≤ 9223372036854775807 ∧ ∀ y ∈ code, 0 ≤ y ∧ y ≤ 255) (hp2 : more.length ≤ 9223372036854775807 ∧ ∀ y ∈ more, 0 ≤ y ∧ y ≤ 255) : Con Try.prog 3 [.sl 1 (code.map (V.int .u8)), .sl 1 (more.map (V.int .u8))] [] (.bool (m_laws_FnRoutes code more)) ([]) := by
  refine con_intro (out := fun r : Bool => ((.bool r : V), ([] : List (Nat × Option O)))) (r := (m_laws_FnRoutes code more)) Try.func3 rfl Try.ntmps3 rfl ?_
  refine run_fact (t := 0) rfl fun hl => ?_
  have l1 := hl; clear hl; simp only [List.length_map] at l1
  refine run_fact (t := 1) rfl fun hl => ?_
  have l2 := hl; clear hl; simp only [List.length_map] at l2
  refine run_seq ?_
  refine run_region (q_assign .n (.c rfl) rfl <|
      Lex.nil) ?_
  refine run_seq ?_
  refine run_seq ?_
  refine run_region (q_move .n (.t rfl) rfl <|
      q_move .n (.t rfl) rfl <|
      q_call0 (full := false) .n .f en_5 (.cons (.t rfl) (.cons (.t rfl) .nil)) (.cons (.b (.a (.same rfl))) (.cons (.b (.a (.same rfl))) .nil)) (fun hg => c_laws_r8Long code more) rfl (fun h => Bool.noConfusion h) rfl <|
      Lex.nil) ?_
  refine run_cond (.t rfl) rfl (fun h3 => ?_) (fun h3 => ?_)
  · try simp only [Bool.and_eq_true, Bool.or_eq_true, Bool.not_eq_true', Bool.and_eq_false_iff, Bool.or_eq_false_iff, Bool.not_eq_false', decide_eq_true_eq, decide_eq_false_iff_not, beq_iff_eq, bne_iff_ne, beq_eq_false_iff_ne, bne_eq_false_iff_eq, Bool.true_and, ne_eq, Decidable.not_not, Int.not_lt, Int.not_le, Nat.not_lt, Nat.not_le, strB_nil, strB_nil', strB_nnil, strB_nnil'] at h3
    refine run_seq ?_
    refine run_region (q_assign .n (.c rfl) rfl <|
        Lex.nil) ?_
    exact run_ret [] (.cons (.t rfl rfl) .nil) rfl trivial rfl
  · try simp only [Bool.and_eq_true, Bool.or_eq_true, Bool.not_eq_true', Bool.and_eq_false_iff, Bool.or_eq_false_iff, Bool.not_eq_false', decide_eq_true_eq, decide_eq_false_iff_not, beq_iff_eq, bne_iff_ne, beq_eq_false_iff_ne, bne_eq_false_iff_eq, Bool.true_and, ne_eq, Decidable.not_not, Int.not_lt, Int.not_le, Nat.not_lt, Nat.not_le, strB_nil, strB_nil', strB_nnil, strB_nnil'] at h3
    refine run_skip ?_
    refine run_seq ?_
    refine run_region (q_move .n (.t rfl) rfl <|
        q_callM (full := false) [] [(100, 200)] .n rfl .f en_6 (.cons (.t rfl) .nil) (.cons (.b (.a (.same rfl))) .nil) (c_spec_R8Mine code (by (exact hp1.2))) trivial rfl rfl (fun h => Bool.noConfusion h) (fun h => Bool.noConfusion h) rfl <|
        q_alloc (l := 201) .n rfl zv_26 rfl rfl <|
        q_st_boxm [.int .i64 (m_spec_R8Mine code).Junctions, .os 200 (m_spec_R8Mine code).Airways.length] .n rfl (.t rfl) (.t rfl) rfl ts_26 rfl rfl <|
        Lex.nil) ?_
    refine run_seq ?_
    refine run_seq ?_
    refine run_region (q_fld_ow .n (.t rfl) fo_26_1 rfl <|
        q_ld1_ow .n (.t rfl) rfl (.inr rfl) (fun _ => rfl) rfl ic_24 rfl <|
        q_len .n (.t rfl) rfl rfl ss_24 rfl <|
        q_int .n (.t rfl) (.c rfl) rfl rfl <|
        Lex.nil) ?_
    refine run_cond (.t rfl) rfl (fun h4 => ?_) (fun h4 => ?_)
    · try simp only [Bool.and_eq_true, Bool.or_eq_true, Bool.not_eq_true', Bool.and_eq_false_iff, Bool.or_eq_false_iff, Bool.not_eq_false', decide_eq_true_eq, decide_eq_false_iff_not, beq_iff_eq, bne_iff_ne, beq_eq_false_iff_ne, bne_eq_false_iff_eq, Bool.true_and, ne_eq, Decidable.not_not, Int.not_lt, Int.not_le, Nat.not_lt, Nat.not_le, strB_nil, strB_nil', strB_nnil, strB_nnil'] at h4
      refine run_seq ?_
      refine run_region (q_assign .n (.c rfl) rfl <|
          Lex.nil) ?_
      exact run_ret [] (.cons (.t rfl rfl) .nil) rfl trivial rfl
    · try simp only [Bool.and_eq_true, Bool.or_eq_true, Bool.not_eq_true', Bool.and_eq_false_iff, Bool.or_eq_false_iff, Bool.not_eq_false', decide_eq_true_eq, decide_eq_false_iff_not, beq_iff_eq, bne_iff_ne, beq_eq_false_iff_ne, bne_eq_false_iff_eq, Bool.true_and, ne_eq, Decidable.not_not, Int.not_lt, Int.not_le, Nat.not_lt, Nat.not_le, strB_nil, strB_nil', strB_nnil, strB_nnil'] at h4
      refine run_skip ?_
      refine run_seq ?_
      refine run_region (q_move .n (.t rfl) rfl <|
          q_ldN_ow .n (.t rfl) rfl (.inr rfl) ag_26 (fun _ => rfl) rfl rfl <|
          q_callM (full := true) [] [(100, 202)] .n rfl .f en_7 (.cons (.t rfl) (.cons (.t rfl) .nil)) (.cons (.b (.a (.same rfl))) (.cons (.st (.cons (.a (.same rfl)) (.cons (.a (.own rfl rfl rfl (take_all (by simp only [len_map, put_len] <;> rfl)) (by simp only [len_map, put_len] <;> rfl))) .nil))) .nil)) (c_spec_R8Flows more (m_spec_R8Mine code) (by (exact hp2.2)) (by (exact r8mine_in hp1.2))) trivial rfl rfl (fun _ => rfl) (fun _ => (hr_row (fun _ => rfl) hr_nil)) rfl <|
          q_assign .n (.t rfl) rfl <|
          Lex.nil) ?_
      refine run_seq ?_
      refine run_region (q_move .n (.t rfl) rfl <|
          q_ldN_ow .n (.t rfl) rfl (.inr rfl) ag_26 (fun _ => rfl) rfl rfl <|
          q_call0 (full := true) .n .f en_8 (.cons (.t rfl) (.cons (.t rfl) .nil)) (.cons (.b (.a (.same rfl))) (.cons (.st (.cons (.a (.same rfl)) (.cons (.a (.own rfl rfl rfl (take_all (by simp only [len_map, put_len] <;> rfl)) (by simp only [len_map, put_len] <;> rfl))) .nil))) .nil)) (fun hg => c_spec_R8Fire more (m_spec_R8Mine code) (by (exact hp2.2)) (by (exact r8mine_in hp1.2)) (by omega)) rfl (fun _ => rfl) rfl <|
          q_alloc (l := 203) .n rfl zv_31 rfl rfl <|
          q_st_boxm [.int .i64 (m_spec_R8Fire more (m_spec_R8Mine code)).Airway, .int .i64 (m_spec_R8Fire more (m_spec_R8Mine code)).At, .int .i64 (m_spec_R8Fire more (m_spec_R8Mine code)).Start] .n rfl (.t rfl) (.t rfl) rfl ts_31 rfl rfl <|
          Lex.nil) ?_
      refine run_seq ?_
      refine run_region (q_move .n (.t rfl) rfl <|
          q_ldN_ow .n (.t rfl) rfl (.inr rfl) ag_26 (fun _ => rfl) rfl rfl <|
          q_call0 (full := true) .n .f en_9 (.cons (.t rfl) (.cons (.t rfl) .nil)) (.cons (.b (.a (.same rfl))) (.cons (.st (.cons (.a (.same rfl)) (.cons (.a (.own rfl rfl rfl (take_all (by simp only [len_map, put_len] <;> rfl)) (by simp only [len_map, put_len] <;> rfl))) .nil))) .nil)) (fun hg => c_spec_R8Crew more (m_spec_R8Mine code) (by (exact hp2.2))) rfl (fun _ => rfl) rfl <|
          q_alloc (l := 204) .n rfl zv_34 rfl rfl <|
          q_st_boxm [.str (m_spec_R8Crew more (m_spec_R8Mine code)).Id, .int .i64 (m_spec_R8Crew more (m_spec_R8Mine code)).Junction, .int .i64 (m_spec_R8Crew more (m_spec_R8Mine code)).Speed] .n rfl (.t rfl) (.t rfl) rfl ts_34 rfl rfl <|
          Lex.nil) ?_
      refine run_seq ?_
      refine run_region (q_ldN_ow .n (.t rfl) rfl (.inr rfl) ag_26 (fun _ => rfl) rfl rfl <|
          q_move .n (.t rfl) rfl <|
          q_ldN_ow .n (.t rfl) rfl (.inr rfl) ag_31 (fun _ => rfl) rfl rfl <|
          q_callM (full := true) [] [(100, 205)] .n rfl .f en_10 (.cons (.t rfl) (.cons (.t rfl) (.cons (.t rfl) .nil))) (.cons (.st (.cons (.a (.same rfl)) (.cons (.a (.own rfl rfl rfl (take_all (by simp only [len_map, put_len] <;> rfl)) (by simp only [len_map, put_len] <;> rfl))) .nil))) (.cons (.b (.a (.own rfl rfl rfl (take_all (by simp only [len_map, put_len] <;> rfl)) (by simp only [len_map, put_len] <;> rfl)))) (.cons (.sts rfl) .nil))) (c_spec_ArrivalOf (m_spec_R8Mine code) (m_spec_R8Flows more (m_spec_R8Mine code)) (m_spec_R8Fire more (m_spec_R8Mine code))) trivial rfl rfl (fun _ => rfl) (fun _ => (hr_row (fun _ => rfl) hr_nil)) rfl <|
          q_move .n (.t rfl) rfl <|
          q_ext .n (.t rfl) rfl rfl rfl <|
          q_ext .n (.t rfl) rfl rfl rfl <|
          q_assign .n (.t rfl) rfl <|
          q_assign .n (.t rfl) rfl <|
          Lex.nil) ?_
      refine run_seq ?_
      refine run_region (q_bslicem ([0] : List Int) (f := V.int .i64) (l := 206) .n rfl rfl (.cons (.c rfl) .nil) rfl si_28 zv_2 rfl rfl rfl <|
          q_assign .n (.t rfl) rfl <|
          Lex.nil) ?_
      refine run_seq ?_
      refine run_region (q_ldN_ow .n (.t rfl) rfl (.inr rfl) ag_26 (fun _ => rfl) rfl rfl <|
          q_move .n (.t rfl) rfl <|
          q_fld_ow .n (.t rfl) fo_31_0 rfl <|
          q_ld1_ow .n (.t rfl) rfl (.inr rfl) (fun _ => rfl) rfl ic_2 rfl <|
          q_ldN_ow .n (.t rfl) rfl (.inr rfl) ag_34 (fun _ => rfl) rfl rfl <|
          q_move .n (.t rfl) rfl <|
          q_call0 (full := true) .n .f en_11 (.cons (.t rfl) (.cons (.t rfl) (.cons (.t rfl) (.cons (.t rfl) (.cons (.t rfl) .nil))))) (.cons (.st (.cons (.a (.same rfl)) (.cons (.a (.own rfl rfl rfl (take_all (by simp only [len_map, put_len] <;> rfl)) (by simp only [len_map, put_len] <;> rfl))) .nil))) (.cons (.b (.a (.own rfl rfl rfl (take_all (by simp only [len_map, put_len] <;> rfl)) (by simp only [len_map, put_len] <;> rfl)))) (.cons (.b (.a (.same rfl))) (.cons (.sts rfl) (.cons (.b (.a (.own rfl rfl rfl (take_all (by simp only [len_map, put_len] <;> rfl)) (by simp only [len_map, put_len] <;> rfl)))) .nil))))) (fun hg => c_impl_LastStart (m_spec_R8Mine code) (m_spec_ArrivalOf (m_spec_R8Mine code) (m_spec_R8Flows more (m_spec_R8Mine code)) (m_spec_R8Fire more (m_spec_R8Mine code))).1 (m_spec_R8Fire more (m_spec_R8Mine code)).Airway (m_spec_R8Crew more (m_spec_R8Mine code)) ([0] : List Int)) rfl (fun _ => rfl) rfl <|
          q_move .n (.t rfl) rfl <|
          q_ext .n (.t rfl) rfl rfl rfl <|
          q_ext .n (.t rfl) rfl rfl rfl <|
          q_assign .n (.t rfl) rfl <|
          q_assign .n (.t rfl) rfl <|
          Lex.nil) ?_
      refine run_seq ?_
      refine run_seq ?_
      refine run_region (q_move .n (.t rfl) rfl <|
          q_int .n (.t rfl) (.c rfl) rfl rfl <|
          Lex.nil) ?_
      refine run_join _ _ rfl (fun v5 : Unit => True) (fun v5 => ⟨[(1, some (true, .sl 1 (more.map (V.int .u8)))), (5, some (true, .op 201 0 0 0)), (7, some (true, .op 203 0 0 0)), (8, some (true, .op 204 0 0 0)), (9, some (true, .os 205 (m_spec_ArrivalOf (m_spec_R8Mine code) (m_spec_R8Flows more (m_spec_R8Mine code)) (m_spec_R8Fire more (m_spec_R8Mine code))).1.length))], [(200, some (.row 46 7 ((m_spec_R8Mine code).Airways.map gAirway.v))), (201, some (.box 26 [.int .i64 (m_spec_R8Mine code).Junctions, .os 200 (m_spec_R8Mine code).Airways.length])), (203, some (.box 31 [.int .i64 (m_spec_R8Fire more (m_spec_R8Mine code)).Airway, .int .i64 (m_spec_R8Fire more (m_spec_R8Mine code)).At, .int .i64 (m_spec_R8Fire more (m_spec_R8Mine code)).Start])), (204, some (.box 34 [.str (m_spec_R8Crew more (m_spec_R8Mine code)).Id, .int .i64 (m_spec_R8Crew more (m_spec_R8Mine code)).Junction, .int .i64 (m_spec_R8Crew more (m_spec_R8Mine code)).Speed])), (205, some (.row 2 1 ((m_spec_ArrivalOf (m_spec_R8Mine code) (m_spec_R8Flows more (m_spec_R8Mine code)) (m_spec_R8Fire more (m_spec_R8Mine code))).1.map (V.int .i64))))]⟩) (fun v5 _ => ?_) (fun j6 hj7 => ?_)
      · refine run_seq ?_
        refine run_region (q_ldN_ow .n (.t rfl) rfl (.inr rfl) ag_26 (fun _ => rfl) rfl rfl <|
            q_move .n (.t rfl) rfl <|
            q_fld_ow .n (.t rfl) fo_31_0 rfl <|
            q_ld1_ow .n (.t rfl) rfl (.inr rfl) (fun _ => rfl) rfl ic_2 rfl <|
            q_ldN_ow .n (.t rfl) rfl (.inr rfl) ag_34 (fun _ => rfl) rfl rfl <|
            q_callM (full := true) [] [(100, 209)] .n rfl .f en_13 (.cons (.t rfl) (.cons (.t rfl) (.cons (.t rfl) (.cons (.t rfl) (.cons (.c rfl) .nil))))) (.cons (.st (.cons (.a (.same rfl)) (.cons (.a (.own rfl rfl rfl (take_all (by simp only [len_map, put_len] <;> rfl)) (by simp only [len_map, put_len] <;> rfl))) .nil))) (.cons (.b (.a (.own rfl rfl rfl (take_all (by simp only [len_map, put_len] <;> rfl)) (by simp only [len_map, put_len] <;> rfl)))) (.cons (.b (.a (.same rfl))) (.cons (.sts rfl) (.cons (.b (.a (.same rfl))) .nil))))) (c_impl_EscapeTimes (m_spec_R8Mine code) (m_spec_ArrivalOf (m_spec_R8Mine code) (m_spec_R8Flows more (m_spec_R8Mine code)) (m_spec_R8Fire more (m_spec_R8Mine code))).1 (m_spec_R8Fire more (m_spec_R8Mine code)).Airway (m_spec_R8Crew more (m_spec_R8Mine code)) 0) trivial rfl rfl (fun _ => rfl) (fun _ => (hr_row (fun _ => rfl) hr_nil)) rfl <|
            q_move .n (.t rfl) rfl <|
            q_ext .n (.t rfl) rfl rfl rfl <|
            q_ext .n (.t rfl) rfl rfl rfl <|
            q_assign .n (.t rfl) rfl <|
            q_assign .n (.t rfl) rfl <|
            Lex.nil) ?_
        refine run_seq ?_
        refine run_region (q_ldN_ow .n (.t rfl) rfl (.inr rfl) ag_26 (fun _ => rfl) rfl rfl <|
            q_move .n (.t rfl) rfl <|
            q_ldN_ow .n (.t rfl) rfl (.inr rfl) ag_34 (fun _ => rfl) rfl rfl <|
            q_callM (full := true) [] [(100, 210)] .n rfl .f en_13 (.cons (.t rfl) (.cons (.t rfl) (.cons (.c rfl) (.cons (.t rfl) (.cons (.c rfl) .nil))))) (.cons (.st (.cons (.a (.same rfl)) (.cons (.a (.own rfl rfl rfl (take_all (by simp only [len_map, put_len] <;> rfl)) (by simp only [len_map, put_len] <;> rfl))) .nil))) (.cons (.b (.a (.own rfl rfl rfl (take_all (by simp only [len_map, put_len] <;> rfl)) (by simp only [len_map, put_len] <;> rfl)))) (.cons (.b (.a (.same rfl))) (.cons (.sts rfl) (.cons (.b (.a (.same rfl))) .nil))))) (c_impl_EscapeTimes (m_spec_R8Mine code) (m_spec_ArrivalOf (m_spec_R8Mine code) (m_spec_R8Flows more (m_spec_R8Mine code)) (m_spec_R8Fire more (m_spec_R8Mine code))).1 (-1) (m_spec_R8Crew more (m_spec_R8Mine code)) 0) trivial rfl rfl (fun _ => rfl) (fun _ => (hr_row (fun _ => rfl) hr_nil)) rfl <|
            q_move .n (.t rfl) rfl <|
            q_ext .n (.t rfl) rfl rfl rfl <|
            q_ext .n (.t rfl) rfl rfl rfl <|
            q_assign .n (.t rfl) rfl <|
            q_assign .n (.t rfl) rfl <|
            Lex.nil) ?_
        refine run_seq ?_
        refine run_seq ?_
        refine run_region (q_move .n (.t rfl) rfl <|
            q_int .n (.t rfl) (.c rfl) rfl rfl <|
            q_move .n (.t rfl) rfl <|
            q_move (.f rfl rfl) (.t rfl) rfl <|
            q_int (.f rfl rfl) (.u rfl id) (.c rfl) rfl rfl <|
            q_or .n (.t rfl) (.u rfl id) rfl <|
            q_move .n (.t rfl) rfl <|
            q_move (.f rfl rfl) (.t rfl) rfl <|
            q_len (.f rfl rfl) (.u rfl id) rfl rfl ss_28 rfl <|
            q_move (.f rfl rfl) (.t rfl) rfl <|
            q_len (.f rfl rfl) (.u rfl id) rfl rfl ss_28 rfl <|
            q_int (.f rfl rfl) (.u rfl id) (.u rfl id) rfl rfl <|
            q_or .n (.t rfl) (.u rfl id) rfl <|
            q_move .n (.t rfl) rfl <|
            q_move (.f rfl rfl) (.t rfl) rfl <|
            q_len (.f rfl rfl) (.u rfl id) rfl rfl ss_28 rfl <|
            q_fld_ow (.f rfl rfl) (.t rfl) fo_26_0 rfl <|
            q_ld1_ow (.f rfl rfl) (.u rfl id) rfl (.inr rfl) (fun _ => rfl) rfl ic_2 rfl <|
            q_int (.f rfl rfl) (.u rfl id) (.u rfl id) rfl rfl <|
            q_or .n (.t rfl) (.u rfl id) rfl <|
            Lex.nil) ?_
        refine run_cond (.t rfl) rfl (fun h11 => ?_) (fun h11 => ?_)
        · try simp only [Bool.and_eq_true, Bool.or_eq_true, Bool.not_eq_true', Bool.and_eq_false_iff, Bool.or_eq_false_iff, Bool.not_eq_false', decide_eq_true_eq, decide_eq_false_iff_not, beq_iff_eq, bne_iff_ne, beq_eq_false_iff_ne, bne_eq_false_iff_eq, Bool.true_and, ne_eq, Decidable.not_not, Int.not_lt, Int.not_le, Nat.not_lt, Nat.not_le, strB_nil, strB_nil', strB_nnil, strB_nnil'] at h11
          refine run_seq ?_
          refine run_region (q_assign .n (.c rfl) rfl <|
              Lex.nil) ?_
          exact run_ret [] (.cons (.t rfl rfl) .nil) rfl trivial rfl
        · try simp only [Bool.and_eq_true, Bool.or_eq_true, Bool.not_eq_true', Bool.and_eq_false_iff, Bool.or_eq_false_iff, Bool.not_eq_false', decide_eq_true_eq, decide_eq_false_iff_not, beq_iff_eq, bne_iff_ne, beq_eq_false_iff_ne, bne_eq_false_iff_eq, Bool.true_and, ne_eq, Decidable.not_not, Int.not_lt, Int.not_le, Nat.not_lt, Nat.not_le, strB_nil, strB_nil', strB_nnil, strB_nnil'] at h11
          refine run_skip ?_
          refine run_seq ?_
          refine run_seq ?_
          refine run_region (q_assign .n (.c rfl) rfl <|
              Lex.nil) ?_
          refine run_block ?_
          refine run_LOOP (m_laws_FnRoutes_b1 code more v5) _ _ _ rfl (fun (x1 : Int) => 0 ≤ x1 ∧ x1 ≤ ((m_impl_EscapeTimes (m_spec_R8Mine code) (m_spec_ArrivalOf (m_spec_R8Mine code) (m_spec_R8Flows more (m_spec_R8Mine code)) (m_spec_R8Fire more (m_spec_R8Mine code))).1 (m_spec_R8Fire more (m_spec_R8Mine code)).Airway (m_spec_R8Crew more (m_spec_R8Mine code)) 0).1.length : Int)) (fun x1 => 0 ≤ x1 ∧ x1 ≤ ((m_impl_EscapeTimes (m_spec_R8Mine code) (m_spec_ArrivalOf (m_spec_R8Mine code) (m_spec_R8Flows more (m_spec_R8Mine code)) (m_spec_R8Fire more (m_spec_R8Mine code))).1 (m_spec_R8Fire more (m_spec_R8Mine code)).Airway (m_spec_R8Crew more (m_spec_R8Mine code)) 0).1.length : Int) ∧ ((m_impl_EscapeTimes (m_spec_R8Mine code) (m_spec_ArrivalOf (m_spec_R8Mine code) (m_spec_R8Flows more (m_spec_R8Mine code)) (m_spec_R8Fire more (m_spec_R8Mine code))).1 (m_spec_R8Fire more (m_spec_R8Mine code)).Airway (m_spec_R8Crew more (m_spec_R8Mine code)) 0).1.length : Int) ≤ x1) (fun x1 => (((m_impl_EscapeTimes (m_spec_R8Mine code) (m_spec_ArrivalOf (m_spec_R8Mine code) (m_spec_R8Flows more (m_spec_R8Mine code)) (m_spec_R8Fire more (m_spec_R8Mine code))).1 (m_spec_R8Fire more (m_spec_R8Mine code)).Airway (m_spec_R8Crew more (m_spec_R8Mine code)) 0).1.length : Int) - x1 : Int).toNat) (fun x1 => ⟨[(1, some (true, .sl 1 (more.map (V.int .u8)))), (5, some (true, .op 201 0 0 0)), (8, some (true, .op 204 0 0 0)), (20, some (true, .os 209 (m_impl_EscapeTimes (m_spec_R8Mine code) (m_spec_ArrivalOf (m_spec_R8Mine code) (m_spec_R8Flows more (m_spec_R8Mine code)) (m_spec_R8Fire more (m_spec_R8Mine code))).1 (m_spec_R8Fire more (m_spec_R8Mine code)).Airway (m_spec_R8Crew more (m_spec_R8Mine code)) 0).1.length)), (22, some (true, .os 210 (m_impl_EscapeTimes (m_spec_R8Mine code) (m_spec_ArrivalOf (m_spec_R8Mine code) (m_spec_R8Flows more (m_spec_R8Mine code)) (m_spec_R8Fire more (m_spec_R8Mine code))).1 (-1) (m_spec_R8Crew more (m_spec_R8Mine code)) 0).1.length)), (24, some (true, .int .i64 x1))], [(200, some (.row 46 7 ((m_spec_R8Mine code).Airways.map gAirway.v))), (201, some (.box 26 [.int .i64 (m_spec_R8Mine code).Junctions, .os 200 (m_spec_R8Mine code).Airways.length])), (204, some (.box 34 [.str (m_spec_R8Crew more (m_spec_R8Mine code)).Id, .int .i64 (m_spec_R8Crew more (m_spec_R8Mine code)).Junction, .int .i64 (m_spec_R8Crew more (m_spec_R8Mine code)).Speed])), (209, some (.row 2 1 ((m_impl_EscapeTimes (m_spec_R8Mine code) (m_spec_ArrivalOf (m_spec_R8Mine code) (m_spec_R8Flows more (m_spec_R8Mine code)) (m_spec_R8Fire more (m_spec_R8Mine code))).1 (m_spec_R8Fire more (m_spec_R8Mine code)).Airway (m_spec_R8Crew more (m_spec_R8Mine code)) 0).1.map (V.int .i64)))), (210, some (.row 2 1 ((m_impl_EscapeTimes (m_spec_R8Mine code) (m_spec_ArrivalOf (m_spec_R8Mine code) (m_spec_R8Flows more (m_spec_R8Mine code)) (m_spec_R8Fire more (m_spec_R8Mine code))).1 (-1) (m_spec_R8Crew more (m_spec_R8Mine code)) 0).1.map (V.int .i64))))]⟩) (fun x1 => ⟨[(1, some (true, .sl 1 (more.map (V.int .u8)))), (5, some (true, .op 201 0 0 0)), (8, some (true, .op 204 0 0 0))], [(200, some (.row 46 7 ((m_spec_R8Mine code).Airways.map gAirway.v))), (201, some (.box 26 [.int .i64 (m_spec_R8Mine code).Junctions, .os 200 (m_spec_R8Mine code).Airways.length])), (204, some (.box 34 [.str (m_spec_R8Crew more (m_spec_R8Mine code)).Id, .int .i64 (m_spec_R8Crew more (m_spec_R8Mine code)).Junction, .int .i64 (m_spec_R8Crew more (m_spec_R8Mine code)).Speed]))]⟩) ⟨by omega, by omega⟩ (by omega) (sub_of [] ⟨rfl, rfl, rfl, rfl, rfl, rfl, trivial⟩ ⟨rfl, rfl, rfl, rfl, rfl, trivial⟩ rfl) ?_ ?_
          · intro x1 i16
            obtain ⟨e17, e18, e19⟩ := i16
            try dsimp only at *
            refine run_seq ?_
            refine run_region (q_move .n (.t rfl) rfl <|
                q_fld_ow .n (.t rfl) fo_26_1 rfl <|
                q_ld1_ow .n (.t rfl) rfl (.inr rfl) (fun _ => rfl) rfl ic_24 rfl <|
                q_len .n (.t rfl) rfl rfl ss_24 rfl <|
                q_call0 (full := false) .n .f en_14 (.cons (.t rfl) (.cons (.c rfl) (.cons (.t rfl) .nil))) (.cons (.b (.a (.same rfl))) (.cons (.b (.a (.same rfl))) (.cons (.b (.a (.same rfl))) .nil))) (fun hg => c_laws_r8At more 0 ((m_spec_R8Mine code).Airways.length : Int) (by omega)) rfl (fun h => Bool.noConfusion h) rfl <|
                q_assign .n (.t rfl) rfl <|
                Lex.nil) ?_
            refine run_seq ?_
            refine run_draw fmo (q_fld_ow .n (.t rfl) fo_26_1 rfl <|
                q_ld1_ow .n (.t rfl) rfl (.inr rfl) (fun _ => rfl) rfl ic_24 rfl <|
                q_move .n (.t rfl) rfl <|
                q_idx_ow .n (.t rfl) (.t rfl) sl_24 (fun _ => by ((have hq := r8At_rng hp2.2 (k := 0) (n := ((m_spec_R8Mine code).Airways.length : Int)) (by omega); omega))) rfl <|
                q_ldN_row .n (.t rfl) rfl (fun _ => by ((have hq := r8At_rng hp2.2 (k := 0) (n := ((m_spec_R8Mine code).Airways.length : Int)) (by omega); omega))) rfl ag_46 rfl rfl rfl <|
                q_fld_ow .n (.t rfl) fo_34_2 rfl <|
                q_ld1_ow .n (.t rfl) rfl (.inr rfl) (fun _ => rfl) rfl ic_2 rfl <|
                q_call0 (full := false) .n .f en_15 (.cons (.t rfl) (.cons (.t rfl) .nil)) (.cons (.sts rfl) (.cons (.b (.a (.same rfl))) .nil)) (fun hg => c_impl_WalkTime (at' (m_spec_R8Mine code).Airways (m_laws_r8At more 0 ((m_spec_R8Mine code).Airways.length : Int))) (m_spec_R8Crew more (m_spec_R8Mine code)).Speed) rfl (fun h => Bool.noConfusion h) rfl <|
                q_move .n (.t rfl) rfl <|
                q_ext .n (.t rfl) rfl rfl rfl <|
                q_ext .n (.t rfl) rfl rfl rfl <|
                q_assign .n (.t rfl) rfl <|
                q_assign .n (.t rfl) rfl <|
                Lex.nil) (by kernel_rfl) ?_
            refine run_seq ?_
            refine run_draw fmo (q_move .n (.t rfl) rfl <|
                q_int .n (.t rfl) (.c rfl) rfl rfl <|
                q_move .n (.t rfl) rfl <|
                q_move (.t rfl rfl) (.t rfl) rfl <|
                q_fld_ow (.t rfl rfl) (.t rfl) fo_34_2 rfl <|
                q_ld1_ow (.t rfl rfl) (.u rfl id) rfl (.inr rfl) (fun _ => rfl) rfl ic_2 rfl <|
                q_int (.t rfl rfl) (.u rfl id) (.u rfl id) rfl rfl <|
                q_fld_ow (.t rfl rfl) (.t rfl) fo_26_1 rfl <|
                q_ld1_ow (.t rfl rfl) (.u rfl id) rfl (.inr rfl) (fun _ => rfl) rfl ic_24 rfl <|
                q_move (.t rfl rfl) (.t rfl) rfl <|
                q_idx_ow (.t rfl rfl) (.u rfl id) (.u rfl id) sl_24 (fun hg => by simp only [Bool.and_eq_true, Bool.or_eq_true, Bool.not_eq_true', Bool.and_eq_false_iff, Bool.or_eq_false_iff, Bool.not_eq_false', decide_eq_true_eq, decide_eq_false_iff_not, beq_iff_eq, bne_iff_ne, beq_eq_false_iff_ne, bne_eq_false_iff_eq, Bool.true_and, ne_eq, Decidable.not_not, Int.not_lt, Int.not_le, Nat.not_lt, Nat.not_le, strB_nil, strB_nil', strB_nnil, strB_nnil'] at hg; ((have hq := r8At_rng hp2.2 (k := 0) (n := ((m_spec_R8Mine code).Airways.length : Int)) (by omega); omega))) rfl <|
                q_fld_ow (.t rfl rfl) (.u rfl id) fo_46_3 rfl <|
                q_ld1_row (.t rfl rfl) (.u rfl id) rfl (fun hg => by simp only [Bool.and_eq_true, Bool.or_eq_true, Bool.not_eq_true', Bool.and_eq_false_iff, Bool.or_eq_false_iff, Bool.not_eq_false', decide_eq_true_eq, decide_eq_false_iff_not, beq_iff_eq, bne_iff_ne, beq_eq_false_iff_ne, bne_eq_false_iff_eq, Bool.true_and, ne_eq, Decidable.not_not, Int.not_lt, Int.not_le, Nat.not_lt, Nat.not_le, strB_nil, strB_nil', strB_nnil, strB_nnil'] at hg; ((have hq := r8At_rng hp2.2 (k := 0) (n := ((m_spec_R8Mine code).Airways.length : Int)) (by omega); omega))) rfl rfl rfl ic_2 rfl <|
                q_int (.t rfl rfl) (.c rfl) (.u rfl id) rfl rfl <|
                q_int (.t rfl rfl) (.u rfl id) (.u rfl id) rfl rfl <|
                q_and .n (.t rfl) (.u rfl id) rfl <|
                q_move .n (.t rfl) rfl <|
                q_move (.t rfl rfl) (.t rfl) rfl <|
                q_int (.t rfl rfl) (.u rfl id) (.c rfl) rfl rfl <|
                q_fld_ow (.t rfl rfl) (.t rfl) fo_34_2 rfl <|
                q_ld1_ow (.t rfl rfl) (.u rfl id) rfl (.inr rfl) (fun _ => rfl) rfl ic_2 rfl <|
                q_int (.t rfl rfl) (.u rfl id) (.u rfl id) rfl rfl <|
                q_fld_ow (.t rfl rfl) (.t rfl) fo_26_1 rfl <|
                q_ld1_ow (.t rfl rfl) (.u rfl id) rfl (.inr rfl) (fun _ => rfl) rfl ic_24 rfl <|
                q_move (.t rfl rfl) (.t rfl) rfl <|
                q_idx_ow (.t rfl rfl) (.u rfl id) (.u rfl id) sl_24 (fun hg => by simp only [Bool.and_eq_true, Bool.or_eq_true, Bool.not_eq_true', Bool.and_eq_false_iff, Bool.or_eq_false_iff, Bool.not_eq_false', decide_eq_true_eq, decide_eq_false_iff_not, beq_iff_eq, bne_iff_ne, beq_eq_false_iff_ne, bne_eq_false_iff_eq, Bool.true_and, ne_eq, Decidable.not_not, Int.not_lt, Int.not_le, Nat.not_lt, Nat.not_le, strB_nil, strB_nil', strB_nnil, strB_nnil'] at hg; ((have hq := r8At_rng hp2.2 (k := 0) (n := ((m_spec_R8Mine code).Airways.length : Int)) (by omega); omega))) rfl <|
                q_fld_ow (.t rfl rfl) (.u rfl id) fo_46_3 rfl <|
                q_ld1_row (.t rfl rfl) (.u rfl id) rfl (fun hg => by simp only [Bool.and_eq_true, Bool.or_eq_true, Bool.not_eq_true', Bool.and_eq_false_iff, Bool.or_eq_false_iff, Bool.not_eq_false', decide_eq_true_eq, decide_eq_false_iff_not, beq_iff_eq, bne_iff_ne, beq_eq_false_iff_ne, bne_eq_false_iff_eq, Bool.true_and, ne_eq, Decidable.not_not, Int.not_lt, Int.not_le, Nat.not_lt, Nat.not_le, strB_nil, strB_nil', strB_nnil, strB_nnil'] at hg; ((have hq := r8At_rng hp2.2 (k := 0) (n := ((m_spec_R8Mine code).Airways.length : Int)) (by omega); omega))) rfl rfl rfl ic_2 rfl <|
                q_int (.t rfl rfl) (.c rfl) (.u rfl id) rfl rfl <|
                q_int (.t rfl rfl) (.u rfl id) (.u rfl id) rfl rfl <|
                q_and .n (.t rfl) (.u rfl id) rfl <|
                q_assign .n (.t rfl) rfl <|
                Lex.nil) (by kernel_rfl) ?_
            exact run_ret [] (.cons (.t rfl rfl) .nil) rfl trivial rfl
          · intro rec1 k1 hk12 x1 i13
            obtain ⟨e20, e21⟩ := i13
            try dsimp only at *
            refine run_seq ?_
            refine run_seq ?_
            refine run_region (q_move .n (.t rfl) rfl <|
                q_move .n (.t rfl) rfl <|
                q_len .n (.t rfl) rfl rfl ss_28 rfl <|
                q_int .n (.t rfl) (.t rfl) rfl rfl <|
                Lex.nil) ?_
            refine run_cond (.t rfl) rfl (fun h14 => ?_) (fun h14 => ?_)
            · try simp only [Bool.and_eq_true, Bool.or_eq_true, Bool.not_eq_true', Bool.and_eq_false_iff, Bool.or_eq_false_iff, Bool.not_eq_false', decide_eq_true_eq, decide_eq_false_iff_not, beq_iff_eq, bne_iff_ne, beq_eq_false_iff_ne, bne_eq_false_iff_eq, Bool.true_and, ne_eq, Decidable.not_not, Int.not_lt, Int.not_le, Nat.not_lt, Nat.not_le, strB_nil, strB_nil', strB_nnil, strB_nnil'] at h14
              refine run_skip ?_
              refine run_seq ?_
              refine run_block ?_
              refine run_seq ?_
              refine run_draw fmo (q_move .n (.t rfl) rfl <|
                  q_move .n (.t rfl) rfl <|
                  q_idx_ow .n (.t rfl) (.t rfl) sl_28 (fun _ => by omega) rfl <|
                  q_ld1_row .n (.t rfl) rfl (fun _ => by omega) rfl rfl rfl ic_2 rfl <|
                  q_int .n (.t rfl) (.c rfl) rfl rfl <|
                  q_move .n (.t rfl) rfl <|
                  q_move (.t rfl rfl) (.t rfl) rfl <|
                  q_move (.t rfl rfl) (.t rfl) rfl <|
                  q_idx_ow (.t rfl rfl) (.u rfl id) (.u rfl id) sl_28 (fun hg => by simp only [Bool.and_eq_true, Bool.or_eq_true, Bool.not_eq_true', Bool.and_eq_false_iff, Bool.or_eq_false_iff, Bool.not_eq_false', decide_eq_true_eq, decide_eq_false_iff_not, beq_iff_eq, bne_iff_ne, beq_eq_false_iff_ne, bne_eq_false_iff_eq, Bool.true_and, ne_eq, Decidable.not_not, Int.not_lt, Int.not_le, Nat.not_lt, Nat.not_le, strB_nil, strB_nil', strB_nnil, strB_nnil'] at hg; omega) rfl <|
                  q_ld1_row (.t rfl rfl) (.u rfl id) rfl (fun hg => by simp only [Bool.and_eq_true, Bool.or_eq_true, Bool.not_eq_true', Bool.and_eq_false_iff, Bool.or_eq_false_iff, Bool.not_eq_false', decide_eq_true_eq, decide_eq_false_iff_not, beq_iff_eq, bne_iff_ne, beq_eq_false_iff_ne, bne_eq_false_iff_eq, Bool.true_and, ne_eq, Decidable.not_not, Int.not_lt, Int.not_le, Nat.not_lt, Nat.not_le, strB_nil, strB_nil', strB_nnil, strB_nnil'] at hg; omega) rfl rfl rfl ic_2 rfl <|
                  q_int (.t rfl rfl) (.u rfl id) (.c rfl) rfl rfl <|
                  q_move (.t rfl rfl) (.u rfl id) rfl <|
                  q_move (.f rfl rfl) (.t rfl) rfl <|
                  q_move (.f rfl rfl) (.t rfl) rfl <|
                  q_idx_ow (.f rfl rfl) (.u rfl id) (.u rfl id) sl_28 (fun hg => by simp only [Bool.and_eq_true, Bool.or_eq_true, Bool.not_eq_true', Bool.and_eq_false_iff, Bool.or_eq_false_iff, Bool.not_eq_false', decide_eq_true_eq, decide_eq_false_iff_not, beq_iff_eq, bne_iff_ne, beq_eq_false_iff_ne, bne_eq_false_iff_eq, Bool.true_and, ne_eq, Decidable.not_not, Int.not_lt, Int.not_le, Nat.not_lt, Nat.not_le, strB_nil, strB_nil', strB_nnil, strB_nnil'] at hg; omega) rfl <|
                  q_ld1_row (.f rfl rfl) (.u rfl id) rfl (fun hg => by simp only [Bool.and_eq_true, Bool.or_eq_true, Bool.not_eq_true', Bool.and_eq_false_iff, Bool.or_eq_false_iff, Bool.not_eq_false', decide_eq_true_eq, decide_eq_false_iff_not, beq_iff_eq, bne_iff_ne, beq_eq_false_iff_ne, bne_eq_false_iff_eq, Bool.true_and, ne_eq, Decidable.not_not, Int.not_lt, Int.not_le, Nat.not_lt, Nat.not_le, strB_nil, strB_nil', strB_nnil, strB_nnil'] at hg; omega) rfl rfl rfl ic_2 rfl <|
                  q_move (.f rfl rfl) (.t rfl) rfl <|
                  q_move (.f rfl rfl) (.t rfl) rfl <|
                  q_idx_ow (.f rfl rfl) (.u rfl id) (.u rfl id) sl_28 (fun hg => by simp only [Bool.and_eq_true, Bool.or_eq_true, Bool.not_eq_true', Bool.and_eq_false_iff, Bool.or_eq_false_iff, Bool.not_eq_false', decide_eq_true_eq, decide_eq_false_iff_not, beq_iff_eq, bne_iff_ne, beq_eq_false_iff_ne, bne_eq_false_iff_eq, Bool.true_and, ne_eq, Decidable.not_not, Int.not_lt, Int.not_le, Nat.not_lt, Nat.not_le, strB_nil, strB_nil', strB_nnil, strB_nnil'] at hg; omega) rfl <|
                  q_ld1_row (.f rfl rfl) (.u rfl id) rfl (fun hg => by simp only [Bool.and_eq_true, Bool.or_eq_true, Bool.not_eq_true', Bool.and_eq_false_iff, Bool.or_eq_false_iff, Bool.not_eq_false', decide_eq_true_eq, decide_eq_false_iff_not, beq_iff_eq, bne_iff_ne, beq_eq_false_iff_ne, bne_eq_false_iff_eq, Bool.true_and, ne_eq, Decidable.not_not, Int.not_lt, Int.not_le, Nat.not_lt, Nat.not_le, strB_nil, strB_nil', strB_nnil, strB_nnil'] at hg; omega) rfl rfl rfl ic_2 rfl <|
                  q_int (.f rfl rfl) (.u rfl id) (.u rfl id) rfl rfl <|
                  q_or (.t rfl rfl) (.u rfl id) (.u rfl id) rfl <|
                  q_and .n (.t rfl) (.u rfl id) rfl <|
                  Lex.nil) (by kernel_rfl) ?_
              refine run_cond (.t rfl) rfl (fun h15 => ?_) (fun h15 => ?_)
              · try simp only [Bool.and_eq_true, Bool.or_eq_true, Bool.not_eq_true', Bool.and_eq_false_iff, Bool.or_eq_false_iff, Bool.not_eq_false', decide_eq_true_eq, decide_eq_false_iff_not, beq_iff_eq, bne_iff_ne, beq_eq_false_iff_ne, bne_eq_false_iff_eq, Bool.true_and, ne_eq, Decidable.not_not, Int.not_lt, Int.not_le, Nat.not_lt, Nat.not_le, strB_nil, strB_nil', strB_nnil, strB_nnil'] at h15
                refine run_seq ?_
                refine run_region (q_assign .n (.c rfl) rfl <|
                    Lex.nil) ?_
                exact run_ret [] (.cons (.t rfl rfl) .nil) rfl trivial rfl
              · try simp only [Bool.and_eq_true, Bool.or_eq_true, Bool.not_eq_true', Bool.and_eq_false_iff, Bool.or_eq_false_iff, Bool.not_eq_false', decide_eq_true_eq, decide_eq_false_iff_not, beq_iff_eq, bne_iff_ne, beq_eq_false_iff_ne, bne_eq_false_iff_eq, Bool.true_and, ne_eq, Decidable.not_not, Int.not_lt, Int.not_le, Nat.not_lt, Nat.not_le, strB_nil, strB_nil', strB_nnil, strB_nnil'] at h15
                refine run_skip ?_
                refine run_endB ?_
                refine run_region (q_move .n (.t rfl) rfl <|
                    q_add .n (.t rfl) (.c rfl) (fun _ => by ((have hq := esc_len hp1.2 hp2.2 (by omega); omega))) rfl <|
                    q_assign .n (.t rfl) rfl <|
                    Lex.nil) ?_
                exact run_again (x1 + 1) ⟨by omega, by omega⟩ (by omega) (sub_of [] ⟨rfl, rfl, rfl, rfl, rfl, rfl, trivial⟩ ⟨rfl, rfl, rfl, rfl, rfl, trivial⟩ rfl)
            · try simp only [Bool.and_eq_true, Bool.or_eq_true, Bool.not_eq_true', Bool.and_eq_false_iff, Bool.or_eq_false_iff, Bool.not_eq_false', decide_eq_true_eq, decide_eq_false_iff_not, beq_iff_eq, bne_iff_ne, beq_eq_false_iff_ne, bne_eq_false_iff_eq, Bool.true_and, ne_eq, Decidable.not_not, Int.not_lt, Int.not_le, Nat.not_lt, Nat.not_le, strB_nil, strB_nil', strB_nnil, strB_nnil'] at h14
              refine run_exit rfl ?_
              exact run_cont hk12 x1 ⟨by omega, by omega, by omega⟩ (sub_of [] ⟨rfl, rfl, rfl, trivial⟩ ⟨rfl, rfl, rfl, trivial⟩ rfl)
      · refine run_cond (.t rfl) rfl (fun h8 => ?_) (fun h8 => ?_)
        · try simp only [Bool.and_eq_true, Bool.or_eq_true, Bool.not_eq_true', Bool.and_eq_false_iff, Bool.or_eq_false_iff, Bool.not_eq_false', decide_eq_true_eq, decide_eq_false_iff_not, beq_iff_eq, bne_iff_ne, beq_eq_false_iff_ne, bne_eq_false_iff_eq, Bool.true_and, ne_eq, Decidable.not_not, Int.not_lt, Int.not_le, Nat.not_lt, Nat.not_le, strB_nil, strB_nil', strB_nnil, strB_nnil'] at h8
          refine run_seq ?_
          refine run_region (q_ldN_ow .n (.t rfl) rfl (.inr rfl) ag_26 (fun _ => rfl) rfl rfl <|
              q_move .n (.t rfl) rfl <|
              q_fld_ow .n (.t rfl) fo_31_0 rfl <|
              q_ld1_ow .n (.t rfl) rfl (.inr rfl) (fun _ => rfl) rfl ic_2 rfl <|
              q_ldN_ow .n (.t rfl) rfl (.inr rfl) ag_34 (fun _ => rfl) rfl rfl <|
              q_move .n (.t rfl) rfl <|
              q_move .n (.t rfl) rfl <|
              q_callM (full := true) [] [(100, 207)] .n rfl .f en_12 (.cons (.t rfl) (.cons (.t rfl) (.cons (.t rfl) (.cons (.t rfl) (.cons (.t rfl) (.cons (.t rfl) .nil)))))) (.cons (.st (.cons (.a (.same rfl)) (.cons (.a (.own rfl rfl rfl (take_all (by simp only [len_map, put_len] <;> rfl)) (by simp only [len_map, put_len] <;> rfl))) .nil))) (.cons (.b (.a (.own rfl rfl rfl (take_all (by simp only [len_map, put_len] <;> rfl)) (by simp only [len_map, put_len] <;> rfl)))) (.cons (.b (.a (.same rfl))) (.cons (.sts rfl) (.cons (.b (.a (.same rfl))) (.cons (.b (.a (.own rfl rfl rfl (take_all (by simp only [len_map, put_len] <;> rfl)) (by simp only [len_map, put_len] <;> rfl)))) .nil)))))) (c_spec_EscapeRoute (m_spec_R8Mine code) (m_spec_ArrivalOf (m_spec_R8Mine code) (m_spec_R8Flows more (m_spec_R8Mine code)) (m_spec_R8Fire more (m_spec_R8Mine code))).1 (m_spec_R8Fire more (m_spec_R8Mine code)).Airway (m_spec_R8Crew more (m_spec_R8Mine code)) (m_impl_LastStart (m_spec_R8Mine code) (m_spec_ArrivalOf (m_spec_R8Mine code) (m_spec_R8Flows more (m_spec_R8Mine code)) (m_spec_R8Fire more (m_spec_R8Mine code))).1 (m_spec_R8Fire more (m_spec_R8Mine code)).Airway (m_spec_R8Crew more (m_spec_R8Mine code)) ([0] : List Int)).1 ([0] : List Int)) trivial rfl rfl (fun _ => rfl) (fun _ => (hr_row (fun _ => rfl) hr_nil)) rfl <|
              q_move .n (.t rfl) rfl <|
              q_ext .n (.t rfl) rfl rfl rfl <|
              q_ext .n (.t rfl) rfl rfl rfl <|
              q_ext .n (.t rfl) rfl rfl rfl <|
              q_assign .n (.t rfl) rfl <|
              q_assign .n (.t rfl) rfl <|
              q_assign .n (.t rfl) rfl <|
              Lex.nil) ?_
          refine run_seq ?_
          refine run_region (q_ldN_ow .n (.t rfl) rfl (.inr rfl) ag_26 (fun _ => rfl) rfl rfl <|
              q_move .n (.t rfl) rfl <|
              q_fld_ow .n (.t rfl) fo_31_0 rfl <|
              q_ld1_ow .n (.t rfl) rfl (.inr rfl) (fun _ => rfl) rfl ic_2 rfl <|
              q_ldN_ow .n (.t rfl) rfl (.inr rfl) ag_34 (fun _ => rfl) rfl rfl <|
              q_move .n (.t rfl) rfl <|
              q_int .n (.t rfl) (.c rfl) rfl rfl <|
              q_move .n (.t rfl) rfl <|
              q_callM (full := true) [] [(100, 208)] .n rfl .f en_12 (.cons (.t rfl) (.cons (.t rfl) (.cons (.t rfl) (.cons (.t rfl) (.cons (.t rfl) (.cons (.t rfl) .nil)))))) (.cons (.st (.cons (.a (.same rfl)) (.cons (.a (.own rfl rfl rfl (take_all (by simp only [len_map, put_len] <;> rfl)) (by simp only [len_map, put_len] <;> rfl))) .nil))) (.cons (.b (.a (.own rfl rfl rfl (take_all (by simp only [len_map, put_len] <;> rfl)) (by simp only [len_map, put_len] <;> rfl)))) (.cons (.b (.a (.same rfl))) (.cons (.sts rfl) (.cons (.b (.a (.same rfl))) (.cons (.b (.a (.own rfl rfl rfl (take_all (by simp only [len_map, put_len] <;> rfl)) (by simp only [len_map, put_len] <;> rfl)))) .nil)))))) (c_spec_EscapeRoute (m_spec_R8Mine code) (m_spec_ArrivalOf (m_spec_R8Mine code) (m_spec_R8Flows more (m_spec_R8Mine code)) (m_spec_R8Fire more (m_spec_R8Mine code))).1 (m_spec_R8Fire more (m_spec_R8Mine code)).Airway (m_spec_R8Crew more (m_spec_R8Mine code)) (IntKind.wrap .i64 ((m_impl_LastStart (m_spec_R8Mine code) (m_spec_ArrivalOf (m_spec_R8Mine code) (m_spec_R8Flows more (m_spec_R8Mine code)) (m_spec_R8Fire more (m_spec_R8Mine code))).1 (m_spec_R8Fire more (m_spec_R8Mine code)).Airway (m_spec_R8Crew more (m_spec_R8Mine code)) ([0] : List Int)).1 + 1)) ([0] : List Int)) trivial rfl rfl (fun _ => rfl) (fun _ => (hr_row (fun _ => rfl) hr_nil)) rfl <|
              q_move .n (.t rfl) rfl <|
              q_ext .n (.t rfl) rfl rfl rfl <|
              q_ext .n (.t rfl) rfl rfl rfl <|
              q_ext .n (.t rfl) rfl rfl rfl <|
              q_assign .n (.t rfl) rfl <|
              q_assign .n (.t rfl) rfl <|
              q_assign .n (.t rfl) rfl <|
              Lex.nil) ?_
          refine run_seq ?_
          refine run_region (q_move .n (.t rfl) rfl <|
              q_int .n (.t rfl) (.c rfl) rfl rfl <|
              q_move .n (.t rfl) rfl <|
              q_move (.f rfl rfl) (.t rfl) rfl <|
              q_int (.f rfl rfl) (.u rfl id) (.c rfl) rfl rfl <|
              q_or .n (.t rfl) (.u rfl id) rfl <|
              q_move .n (.t rfl) rfl <|
              q_move (.f rfl rfl) (.t rfl) rfl <|
              q_int (.f rfl rfl) (.u rfl id) (.c rfl) rfl rfl <|
              q_or .n (.t rfl) (.u rfl id) rfl <|
              q_move .n (.t rfl) rfl <|
              q_move (.f rfl rfl) (.t rfl) rfl <|
              q_int (.f rfl rfl) (.u rfl id) (.c rfl) rfl rfl <|
              q_move (.f rfl rfl) (.u rfl id) rfl <|
              q_move (.t rfl rfl) (.t rfl) rfl <|
              q_int (.t rfl rfl) (.u rfl id) (.c rfl) rfl rfl <|
              q_and (.f rfl rfl) (.u rfl id) (.u rfl id) rfl <|
              q_or .n (.t rfl) (.u rfl id) rfl <|
              Lex.nil) ?_
          refine run_cond (.t rfl) rfl (fun h9 => ?_) (fun h9 => ?_)
          · try simp only [Bool.and_eq_true, Bool.or_eq_true, Bool.not_eq_true', Bool.and_eq_false_iff, Bool.or_eq_false_iff, Bool.not_eq_false', decide_eq_true_eq, decide_eq_false_iff_not, beq_iff_eq, bne_iff_ne, beq_eq_false_iff_ne, bne_eq_false_iff_eq, Bool.true_and, ne_eq, Decidable.not_not, Int.not_lt, Int.not_le, Nat.not_lt, Nat.not_le, strB_nil, strB_nil', strB_nnil, strB_nnil'] at h9
            refine run_seq ?_
            refine run_region (q_assign .n (.c rfl) rfl <|
                Lex.nil) ?_
            exact run_ret [] (.cons (.t rfl rfl) .nil) rfl trivial rfl
          · try simp only [Bool.and_eq_true, Bool.or_eq_true, Bool.not_eq_true', Bool.and_eq_false_iff, Bool.or_eq_false_iff, Bool.not_eq_false', decide_eq_true_eq, decide_eq_false_iff_not, beq_iff_eq, bne_iff_ne, beq_eq_false_iff_ne, bne_eq_false_iff_eq, Bool.true_and, ne_eq, Decidable.not_not, Int.not_lt, Int.not_le, Nat.not_lt, Nat.not_le, strB_nil, strB_nil', strB_nnil, strB_nnil'] at h9
            refine run_skip ?_
            exact run_cont hj7 () trivial (sub_of [] ⟨rfl, rfl, rfl, rfl, rfl, trivial⟩ ⟨rfl, rfl, rfl, rfl, rfl, trivial⟩ rfl)
        · try simp only [Bool.and_eq_true, Bool.or_eq_true, Bool.not_eq_true', Bool.and_eq_false_iff, Bool.or_eq_false_iff, Bool.not_eq_false', decide_eq_true_eq, decide_eq_false_iff_not, beq_iff_eq, bne_iff_ne, beq_eq_false_iff_ne, bne_eq_false_iff_eq, Bool.true_and, ne_eq, Decidable.not_not, Int.not_lt, Int.not_le, Nat.not_lt, Nat.not_le, strB_nil, strB_nil', strB_nnil, strB_nnil'] at h8
          refine run_seq ?_
          refine run_region (q_move .n (.t rfl) rfl <|
              q_int .n (.t rfl) (.c rfl) rfl rfl <|
              Lex.nil) ?_
          refine run_cond (.t rfl) rfl (fun h10 => ?_) (fun h10 => ?_)
          · try simp only [Bool.and_eq_true, Bool.or_eq_true, Bool.not_eq_true', Bool.and_eq_false_iff, Bool.or_eq_false_iff, Bool.not_eq_false', decide_eq_true_eq, decide_eq_false_iff_not, beq_iff_eq, bne_iff_ne, beq_eq_false_iff_ne, bne_eq_false_iff_eq, Bool.true_and, ne_eq, Decidable.not_not, Int.not_lt, Int.not_le, Nat.not_lt, Nat.not_le, strB_nil, strB_nil', strB_nnil, strB_nnil'] at h10
            refine run_seq ?_
            refine run_region (q_assign .n (.c rfl) rfl <|
                Lex.nil) ?_
            exact run_ret [] (.cons (.t rfl rfl) .nil) rfl trivial rfl
          · try simp only [Bool.and_eq_true, Bool.or_eq_true, Bool.not_eq_true', Bool.and_eq_false_iff, Bool.or_eq_false_iff, Bool.not_eq_false', decide_eq_true_eq, decide_eq_false_iff_not, beq_iff_eq, bne_iff_ne, beq_eq_false_iff_ne, bne_eq_false_iff_eq, Bool.true_and, ne_eq, Decidable.not_not, Int.not_lt, Int.not_le, Nat.not_lt, Nat.not_le, strB_nil, strB_nil', strB_nnil, strB_nnil'] at h10
            refine run_skip ?_
            exact run_cont hj7 () trivial (sub_of [] ⟨rfl, rfl, rfl, rfl, rfl, trivial⟩ ⟨rfl, rfl, rfl, rfl, rfl, trivial⟩ rfl)

end Go.Proofs.Ytlbpjgeoaiiamaa
