/-
  THE WALKS: each Go function computes its model. Conditions: as each theorem states them (hp1, hp2 ..).
-/
import Derived.Test.YtfiedbefaoeoaaaStartsWalks2
set_option linter.unusedVariables false
set_option linter.unusedSimpArgs false
set_option linter.unusedSectionVars false
set_option linter.unnecessarySimpa false
namespace Go.Proofs.Ytfiedbefaoeoaaa
open Go Go.RowKit Go.Proofs Go.Proofs.Ytfiedbefaoeoaaa.E
/-! ### spec_l26Draw -/
set_option maxRecDepth 100000 in
set_option maxHeartbeats 4000000 in
theorem c_spec_l26Draw (s_ : gl00Src) (hp1 : Lim s_ 400000) : Con Try.prog 27 [.op 0 0 0 0] [(0, some (.box 95 [.sl 1 (s_.code.map (V.int .u8)), .int .i64 s_.at_, .int .u64 s_.seed]))] (.tup [.st [.int .i64 (m_spec_l26Draw s_).1.Junctions, .os 100 (m_spec_l26Draw s_).1.Airways.length], .os 101 (m_spec_l26Draw s_).2.1.length]) ([(100, some (.row 66 7 ((m_spec_l26Draw s_).1.Airways.map gAirway.v))), (101, some (.row 29 5 ((m_spec_l26Draw s_).2.1.map gPermit.v))), (0, some (.box 95 [.sl 1 ((m_spec_l26Draw s_).2.2.code.map (V.int .u8)), .int .i64 (m_spec_l26Draw s_).2.2.at_, .int .u64 (m_spec_l26Draw s_).2.2.seed]))]) := by
  refine con_intro (out := fun r : gMine × (List gPermit) × gl00Src => ((.tup [.st [.int .i64 r.1.Junctions, .os 100 r.1.Airways.length], .os 101 r.2.1.length] : V), ([(100, some (.row 66 7 (r.1.Airways.map gAirway.v))), (101, some (.row 29 5 (r.2.1.map gPermit.v))), (0, some (.box 95 [.sl 1 (r.2.2.code.map (V.int .u8)), .int .i64 r.2.2.at_, .int .u64 r.2.2.seed]))] : List (Nat × Option O)))) (r := (m_spec_l26Draw s_)) Try.func27 rfl Try.ntmps27 rfl ?_
  refine run_seq ?_
  refine run_region (q_alloc (l := 200) .n rfl zv_26 rfl rfl <|
      q_assign .n (.c rfl) rfl <|
      Lex.nil) ?_
  refine run_seq ?_
  refine run_region (q_move .n (.t rfl) rfl <|
      q_callM (full := false) [(0, 0)] [(100, 201)] .n rfl .f en_57 (.cons (.t rfl) .nil) (.cons (.b (.mutp rfl)) .nil) (c_spec_l04Draw s_ (by (try dsimp only); (with_reducible (first | apply Lim.mono | apply Lim.out | apply LimA.mono)); (repeat (with_reducible (first | assumption | apply Lim.among | apply Lim.one | apply Lim.pick | apply Lim.bend26 | apply Lim.one26 | apply Lim.dmk | apply Lim.d26 | apply Lim.mk))); omega)) ⟨rfl, trivial⟩ rfl rfl (fun h => Bool.noConfusion h) (fun h => Bool.noConfusion h) rfl <|
      q_alloc (l := 202) .n rfl zv_26 rfl rfl <|
      q_st_boxm [.int .i64 (m_spec_l04Draw s_).1.Junctions, .os 201 (m_spec_l04Draw s_).1.Airways.length] .n rfl (.t rfl) (.t rfl) rfl ts_26 rfl rfl <|
      Lex.nil) ?_
  refine run_seq ?_
  refine run_region (q_bslicem ([([97] : List UInt8), ([98] : List UInt8), ([99] : List UInt8), ([100] : List UInt8), ([101] : List UInt8), ([102] : List UInt8)] : List (List UInt8)) (f := V.str) (l := 203) .n rfl rfl (.cons (.c rfl) (.cons (.c rfl) (.cons (.c rfl) (.cons (.c rfl) (.cons (.c rfl) (.cons (.c rfl) .nil)))))) rfl si_88 zv_9 rfl rfl rfl <|
      q_assign .n (.t rfl) rfl <|
      Lex.nil) ?_
  refine run_seq ?_
  refine run_region (q_bslicem ([] : List gPermit) (f := gPermit.v) (l := 204) .n rfl rfl .nil rfl si_27 zv_29 rfl rfl rfl <|
      q_assign .n (.t rfl) rfl <|
      Lex.nil) ?_
  refine run_seq ?_
  refine run_region (q_fld_ow .n (.t rfl) fo_26_1 rfl <|
      q_ld1_ow .n (.t rfl) rfl (.inr rfl) (fun _ => rfl) rfl ic_24 rfl <|
      q_len .n (.t rfl) rfl rfl ss_24 rfl <|
      q_call0 (full := false) .n .f en_58 (.cons (.c rfl) (.cons (.t rfl) .nil)) (.cons (.b (.a (.same rfl))) (.cons (.b (.a (.same rfl))) .nil)) (fun hg => c_spec_l00Max 1 ((m_spec_l04Draw s_).1.Airways.length : Int)) rfl (fun h => Bool.noConfusion h) rfl <|
      q_assign .n (.t rfl) rfl <|
      Lex.nil) ?_
  refine run_seq ?_
  refine run_seq ?_
  refine run_region (q_assign .n (.c rfl) rfl <|
      Lex.nil) ?_
  refine run_block ?_
  refine run_LOOP (m_spec_l26Draw_b1 s_) _ _ _ rfl (fun (x1 : (List Int) × Int × Int × Int × (List gPermit)) => 0 ≤ x1.2.2.2.1 ∧ x1.2.2.2.1 ≤ (([([97] : List UInt8), ([98] : List UInt8), ([99] : List UInt8), ([100] : List UInt8), ([101] : List UInt8), ([102] : List UInt8)] : List (List UInt8)).length : Int) ∧ (x1.2.2.2.2.length : Int) + 0 ≤ x1.2.2.2.1 + (([] : List gPermit).length : Int) ∧ x1.2.2.2.1 ≤ 6 ∧ LimA x1.1 x1.2.1 (400500 + 10 * x1.2.2.2.1)) (fun x1 => 0 ≤ x1.2.2.2.1 ∧ x1.2.2.2.1 ≤ (([([97] : List UInt8), ([98] : List UInt8), ([99] : List UInt8), ([100] : List UInt8), ([101] : List UInt8), ([102] : List UInt8)] : List (List UInt8)).length : Int) ∧ (x1.2.2.2.2.length : Int) + 0 ≤ x1.2.2.2.1 + (([] : List gPermit).length : Int) ∧ x1.2.2.2.1 ≤ 6 ∧ LimA x1.1 x1.2.1 (400500 + 10 * x1.2.2.2.1) ∧ (([([97] : List UInt8), ([98] : List UInt8), ([99] : List UInt8), ([100] : List UInt8), ([101] : List UInt8), ([102] : List UInt8)] : List (List UInt8)).length : Int) ≤ x1.2.2.2.1) (fun x1 => ((([([97] : List UInt8), ([98] : List UInt8), ([99] : List UInt8), ([100] : List UInt8), ([101] : List UInt8), ([102] : List UInt8)] : List (List UInt8)).length : Int) - x1.2.2.2.1 : Int).toNat) (fun x1 => ⟨[(0, some (true, .op 0 0 0 0)), (2, some (true, .op 200 0 0 0)), (4, some (true, .op 202 0 0 0)), (5, some (true, .os 203 ([([97] : List UInt8), ([98] : List UInt8), ([99] : List UInt8), ([100] : List UInt8), ([101] : List UInt8), ([102] : List UInt8)] : List (List UInt8)).length)), (6, some (true, .os 204 x1.2.2.2.2.length)), (7, some (true, .int .i64 (m_spec_l00Max 1 ((m_spec_l04Draw s_).1.Airways.length : Int)))), (8, some (true, .int .i64 x1.2.2.2.1))], [(0, some (.box 95 [.sl 1 (x1.1.map (V.int .u8)), .int .i64 x1.2.1, .int .u64 x1.2.2.1])), (200, some (.box 26 [.int .i64 0, .nls])), (201, some (.row 66 7 ((m_spec_l04Draw s_).1.Airways.map gAirway.v))), (202, some (.box 26 [.int .i64 (m_spec_l04Draw s_).1.Junctions, .os 201 (m_spec_l04Draw s_).1.Airways.length])), (203, some (.row 9 1 (([([97] : List UInt8), ([98] : List UInt8), ([99] : List UInt8), ([100] : List UInt8), ([101] : List UInt8), ([102] : List UInt8)] : List (List UInt8)).map V.str))), (204, some (.row 29 5 (x1.2.2.2.2.map gPermit.v)))]⟩) (fun x1 => ⟨[(0, some (true, .op 0 0 0 0)), (2, some (true, .op 200 0 0 0)), (4, some (true, .op 202 0 0 0)), (6, some (true, .os 204 x1.2.2.2.2.length))], [(0, some (.box 95 [.sl 1 (x1.1.map (V.int .u8)), .int .i64 x1.2.1, .int .u64 x1.2.2.1])), (200, some (.box 26 [.int .i64 0, .nls])), (201, some (.row 66 7 ((m_spec_l04Draw s_).1.Airways.map gAirway.v))), (202, some (.box 26 [.int .i64 (m_spec_l04Draw s_).1.Junctions, .os 201 (m_spec_l04Draw s_).1.Airways.length])), (204, some (.row 29 5 (x1.2.2.2.2.map gPermit.v)))]⟩) ⟨by first | omega | assumption | (simp only [List.length_append, List.length_cons, List.length_nil, List.length_replicate, put_len] at * <;> omega) | (exact max1_ne) | ((have hM := among_rng (x := 16) (y := 17) (Lim.pick (k := 20) (Lim.mk (b := x1.2.2.1) (by assumption))) (by decide); simp only [List.length_append, List.length_cons, List.length_nil]; omega)) | ((have hM := among_rng (x := 16) (y := 17) (Lim.pick (k := 20) (Lim.mk (b := x1.2.2.1) (by assumption))) (by decide); omega)) | ((rw [chars_len]; simp only [List.length_cons, List.length_nil]; omega)) | ((have hM := among_rng (x := 16) (y := 17) (Lim.pick (k := 20) (Lim.mk (b := x1.2.2.1) (by assumption))) (by decide); rw [chars_len]; simp only [List.length_cons, List.length_nil]; omega)), by first | omega | assumption | (simp only [List.length_append, List.length_cons, List.length_nil, List.length_replicate, put_len] at * <;> omega) | (exact max1_ne) | ((have hM := among_rng (x := 16) (y := 17) (Lim.pick (k := 20) (Lim.mk (b := x1.2.2.1) (by assumption))) (by decide); simp only [List.length_append, List.length_cons, List.length_nil]; omega)) | ((have hM := among_rng (x := 16) (y := 17) (Lim.pick (k := 20) (Lim.mk (b := x1.2.2.1) (by assumption))) (by decide); omega)) | ((rw [chars_len]; simp only [List.length_cons, List.length_nil]; omega)) | ((have hM := among_rng (x := 16) (y := 17) (Lim.pick (k := 20) (Lim.mk (b := x1.2.2.1) (by assumption))) (by decide); rw [chars_len]; simp only [List.length_cons, List.length_nil]; omega)), by first | omega | assumption | (simp only [List.length_append, List.length_cons, List.length_nil, List.length_replicate, put_len] at * <;> omega) | (exact max1_ne) | ((have hM := among_rng (x := 16) (y := 17) (Lim.pick (k := 20) (Lim.mk (b := x1.2.2.1) (by assumption))) (by decide); simp only [List.length_append, List.length_cons, List.length_nil]; omega)) | ((have hM := among_rng (x := 16) (y := 17) (Lim.pick (k := 20) (Lim.mk (b := x1.2.2.1) (by assumption))) (by decide); omega)) | ((rw [chars_len]; simp only [List.length_cons, List.length_nil]; omega)) | ((have hM := among_rng (x := 16) (y := 17) (Lim.pick (k := 20) (Lim.mk (b := x1.2.2.1) (by assumption))) (by decide); rw [chars_len]; simp only [List.length_cons, List.length_nil]; omega)), by first | omega | assumption | (simp only [List.length_append, List.length_cons, List.length_nil, List.length_replicate, put_len] at * <;> omega) | (exact max1_ne) | ((have hM := among_rng (x := 16) (y := 17) (Lim.pick (k := 20) (Lim.mk (b := x1.2.2.1) (by assumption))) (by decide); simp only [List.length_append, List.length_cons, List.length_nil]; omega)) | ((have hM := among_rng (x := 16) (y := 17) (Lim.pick (k := 20) (Lim.mk (b := x1.2.2.1) (by assumption))) (by decide); omega)) | ((rw [chars_len]; simp only [List.length_cons, List.length_nil]; omega)) | ((have hM := among_rng (x := 16) (y := 17) (Lim.pick (k := 20) (Lim.mk (b := x1.2.2.1) (by assumption))) (by decide); rw [chars_len]; simp only [List.length_cons, List.length_nil]; omega)), by (try dsimp only); (with_reducible (first | apply Lim.mono | apply Lim.out | apply LimA.mono)); (repeat (with_reducible (first | assumption | apply Lim.among | apply Lim.one | apply Lim.pick | apply Lim.bend26 | apply Lim.one26 | apply Lim.dmk | apply Lim.d26 | apply Lim.mk))); omega⟩ (by first | omega | assumption | (simp only [List.length_append, List.length_cons, List.length_nil, List.length_replicate, put_len] at * <;> omega) | (exact max1_ne) | ((have hM := among_rng (x := 16) (y := 17) (Lim.pick (k := 20) (Lim.mk (b := x1.2.2.1) (by assumption))) (by decide); simp only [List.length_append, List.length_cons, List.length_nil]; omega)) | ((have hM := among_rng (x := 16) (y := 17) (Lim.pick (k := 20) (Lim.mk (b := x1.2.2.1) (by assumption))) (by decide); omega)) | ((rw [chars_len]; simp only [List.length_cons, List.length_nil]; omega)) | ((have hM := among_rng (x := 16) (y := 17) (Lim.pick (k := 20) (Lim.mk (b := x1.2.2.1) (by assumption))) (by decide); rw [chars_len]; simp only [List.length_cons, List.length_nil]; omega))) (sub_of [] ⟨rfl, rfl, rfl, rfl, rfl, rfl, rfl, trivial⟩ ⟨rfl, rfl, rfl, rfl, rfl, rfl, trivial⟩ rfl) ?_ ?_
  · intro x1 i5
    obtain ⟨e21, e22, e23, e24, e25, e26⟩ := i5
    try dsimp only at *
    refine run_seq ?_
    refine run_seq ?_
    refine run_region (q_move .n (.t rfl) rfl <|
        q_callM (full := false) [(0, 0)] [] .n rfl .f en_47 (.cons (.t rfl) (.cons (.c rfl) .nil)) (.cons (.b (.mutp rfl)) (.cons (.b (.a (.same rfl))) .nil)) (c_spec_l00Src_pick (gl00Src.mk x1.1 x1.2.1 x1.2.2.1) 20 (by (try dsimp only); (with_reducible (first | apply Lim.mono | apply Lim.out | apply LimA.mono)); (repeat (with_reducible (first | assumption | apply Lim.among | apply Lim.one | apply Lim.pick | apply Lim.bend26 | apply Lim.one26 | apply Lim.dmk | apply Lim.d26 | apply Lim.mk))); omega)) ⟨rfl, trivial⟩ rfl rfl (fun h => Bool.noConfusion h) (fun h => Bool.noConfusion h) rfl <|
        Lex.nil) ?_
    refine run_block ?_
    refine run_seq ?_
    refine run_region (q_int .n (.t rfl) (.c rfl) rfl rfl <|
        q_assign .n (.t rfl) rfl <|
        Lex.nil) ?_
    refine run_cond (.t rfl) rfl (fun h6 => ?_) (fun h6 => ?_)
    · try simp only [Bool.and_eq_true, Bool.or_eq_true, Bool.not_eq_true', Bool.and_eq_false_iff, Bool.or_eq_false_iff, Bool.not_eq_false', decide_eq_true_eq, decide_eq_false_iff_not, beq_iff_eq, bne_iff_ne, beq_eq_false_iff_ne, bne_eq_false_iff_eq, Bool.true_and, ne_eq, Decidable.not_not, Int.not_lt, Int.not_le, Nat.not_lt, Nat.not_le, strB_nil, strB_nil', strB_nnil, strB_nnil'] at h6
      refine run_region (q_move .n (.t rfl) rfl <|
          q_move .n (.t rfl) rfl <|
          q_move .n (.t rfl) rfl <|
          q_callM (full := false) [(0, 0)] [] .n rfl .f en_29 (.cons (.t rfl) (.cons (.c rfl) .nil)) (.cons (.b (.mutp rfl)) (.cons (.b (.a (.same rfl))) .nil)) (c_spec_l26DrawOne (m_spec_l00Src_pick (gl00Src.mk x1.1 x1.2.1 x1.2.2.1) 20).2 ([122, 122] : List UInt8) (by (try dsimp only); (with_reducible (first | apply Lim.mono | apply Lim.out | apply LimA.mono)); (repeat (with_reducible (first | assumption | apply Lim.among | apply Lim.one | apply Lim.pick | apply Lim.bend26 | apply Lim.one26 | apply Lim.dmk | apply Lim.d26 | apply Lim.mk))); omega)) ⟨rfl, trivial⟩ rfl rfl (fun h => Bool.noConfusion h) (fun h => Bool.noConfusion h) rfl <|
          q_callM (full := false) [(0, 0)] [] .n rfl .f en_28 (.cons (.t rfl) (.cons (.t rfl) .nil)) (.cons (.b (.mutp rfl)) (.cons (.sts rfl) .nil)) (c_spec_l26Bend (m_spec_l26DrawOne (m_spec_l00Src_pick (gl00Src.mk x1.1 x1.2.1 x1.2.2.1) 20).2 ([122, 122] : List UInt8)).2 (m_spec_l26DrawOne (m_spec_l00Src_pick (gl00Src.mk x1.1 x1.2.1 x1.2.2.1) 20).2 ([122, 122] : List UInt8)).1 (by (try dsimp only); (with_reducible (first | apply Lim.mono | apply Lim.out | apply LimA.mono)); (repeat (with_reducible (first | assumption | apply Lim.among | apply Lim.one | apply Lim.pick | apply Lim.bend26 | apply Lim.one26 | apply Lim.dmk | apply Lim.d26 | apply Lim.mk))); omega)) ⟨rfl, trivial⟩ rfl rfl (fun h => Bool.noConfusion h) (fun h => Bool.noConfusion h) rfl <|
          q_bslicem ([(m_spec_l26Bend (m_spec_l26DrawOne (m_spec_l00Src_pick (gl00Src.mk x1.1 x1.2.1 x1.2.2.1) 20).2 ([122, 122] : List UInt8)).2 (m_spec_l26DrawOne (m_spec_l00Src_pick (gl00Src.mk x1.1 x1.2.1 x1.2.2.1) 20).2 ([122, 122] : List UInt8)).1).1] : List gPermit) (f := gPermit.v) (l := 208) .n rfl rfl (.cons (.t rfl) .nil) rfl si_27 zv_29 rfl rfl rfl <|
          q_appm (xs := x1.2.2.2.2) (ys := ([(m_spec_l26Bend (m_spec_l26DrawOne (m_spec_l00Src_pick (gl00Src.mk x1.1 x1.2.1 x1.2.2.1) 20).2 ([122, 122] : List UInt8)).2 (m_spec_l26DrawOne (m_spec_l00Src_pick (gl00Src.mk x1.1 x1.2.1 x1.2.2.1) 20).2 ([122, 122] : List UInt8)).1).1] : List gPermit)) (f := gPermit.v) (l := 209) .n rfl (.ow (.t rfl) rfl (take_all (by simp only [len_map, put_len] <;> rfl)) (by simp only [len_map, put_len] <;> rfl)) (.ow (.t rfl) rfl (take_all (by simp only [len_map, put_len] <;> rfl)) (by simp only [len_map, put_len] <;> rfl)) si_27 zv_29 rfl (by first | omega | assumption | (simp only [List.length_append, List.length_cons, List.length_nil, List.length_replicate, put_len] at * <;> omega) | (exact max1_ne) | ((have hM := among_rng (x := 16) (y := 17) (Lim.pick (k := 20) (Lim.mk (b := x1.2.2.1) (by assumption))) (by decide); simp only [List.length_append, List.length_cons, List.length_nil]; omega)) | ((have hM := among_rng (x := 16) (y := 17) (Lim.pick (k := 20) (Lim.mk (b := x1.2.2.1) (by assumption))) (by decide); omega)) | ((rw [chars_len]; simp only [List.length_cons, List.length_nil]; omega)) | ((have hM := among_rng (x := 16) (y := 17) (Lim.pick (k := 20) (Lim.mk (b := x1.2.2.1) (by assumption))) (by decide); rw [chars_len]; simp only [List.length_cons, List.length_nil]; omega))) rfl rfl <|
          q_assign .n (.t rfl) rfl <|
          Lex.nil) ?_
      refine run_endB ?_
      refine run_seq ?_
      refine run_region (q_ldN_ow .n (.t rfl) rfl (.inr rfl) ag_26 (fun _ => rfl) rfl rfl <|
          q_move .n (.t rfl) rfl <|
          q_st_boxm [.int .i64 (m_spec_l04Draw s_).1.Junctions, .os 201 (m_spec_l04Draw s_).1.Airways.length] .n rfl (.t rfl) (.t rfl) rfl ts_26 rfl rfl <|
          q_assign .n (.t rfl) rfl <|
          Lex.nil) ?_
      exact run_ret [(100, 201), (101, 209)] (.cons (.cN rfl rfl ag_26 rfl rfl) (.cons (.t rfl rfl) .nil)) (by first | rfl | (simp only [put_len]; rfl)) ⟨rfl, rfl, rfl, trivial⟩ rfl
    · try simp only [Bool.and_eq_true, Bool.or_eq_true, Bool.not_eq_true', Bool.and_eq_false_iff, Bool.or_eq_false_iff, Bool.not_eq_false', decide_eq_true_eq, decide_eq_false_iff_not, beq_iff_eq, bne_iff_ne, beq_eq_false_iff_ne, bne_eq_false_iff_eq, Bool.true_and, ne_eq, Decidable.not_not, Int.not_lt, Int.not_le, Nat.not_lt, Nat.not_le, strB_nil, strB_nil', strB_nnil, strB_nnil'] at h6
      refine run_seq ?_
      refine run_region (q_int .n (.t rfl) (.c rfl) rfl rfl <|
          q_assign .n (.t rfl) rfl <|
          Lex.nil) ?_
      refine run_cond (.t rfl) rfl (fun h7 => ?_) (fun h7 => ?_)
      · try simp only [Bool.and_eq_true, Bool.or_eq_true, Bool.not_eq_true', Bool.and_eq_false_iff, Bool.or_eq_false_iff, Bool.not_eq_false', decide_eq_true_eq, decide_eq_false_iff_not, beq_iff_eq, bne_iff_ne, beq_eq_false_iff_ne, bne_eq_false_iff_eq, Bool.true_and, ne_eq, Decidable.not_not, Int.not_lt, Int.not_le, Nat.not_lt, Nat.not_le, strB_nil, strB_nil', strB_nnil, strB_nnil'] at h7
        refine run_seq ?_
        refine run_region (q_move .n (.t rfl) rfl <|
            q_bslicem ([16, 17] : List Int) (f := V.int .i64) (l := 210) .n rfl rfl (.cons (.c rfl) (.cons (.c rfl) .nil)) rfl si_36 zv_2 rfl rfl rfl <|
            q_callM (full := false) [(0, 0), (1, 210)] [] .n rfl .f en_59 (.cons (.t rfl) (.cons (.t rfl) .nil)) (.cons (.b (.mutp rfl)) (.cons (.b (.muts rfl)) .nil)) (c_spec_l00Src_among (m_spec_l00Src_pick (gl00Src.mk x1.1 x1.2.1 x1.2.2.1) 20).2 ([16, 17] : List Int) (by (try dsimp only); (with_reducible (first | apply Lim.mono | apply Lim.out | apply LimA.mono)); (repeat (with_reducible (first | assumption | apply Lim.among | apply Lim.one | apply Lim.pick | apply Lim.bend26 | apply Lim.one26 | apply Lim.dmk | apply Lim.d26 | apply Lim.mk))); omega) (by first | omega | assumption | (simp only [List.length_append, List.length_cons, List.length_nil, List.length_replicate, put_len] at * <;> omega) | (exact max1_ne) | ((have hM := among_rng (x := 16) (y := 17) (Lim.pick (k := 20) (Lim.mk (b := x1.2.2.1) (by assumption))) (by decide); simp only [List.length_append, List.length_cons, List.length_nil]; omega)) | ((have hM := among_rng (x := 16) (y := 17) (Lim.pick (k := 20) (Lim.mk (b := x1.2.2.1) (by assumption))) (by decide); omega)) | ((rw [chars_len]; simp only [List.length_cons, List.length_nil]; omega)) | ((have hM := among_rng (x := 16) (y := 17) (Lim.pick (k := 20) (Lim.mk (b := x1.2.2.1) (by assumption))) (by decide); rw [chars_len]; simp only [List.length_cons, List.length_nil]; omega)))) ⟨rfl, rfl, trivial⟩ rfl rfl (fun h => Bool.noConfusion h) (fun h => Bool.noConfusion h) rfl <|
            q_assign .n (.t rfl) rfl <|
            Lex.nil) ?_
        refine run_seq ?_
        refine run_region (q_bslicem ([] : List gPermit) (f := gPermit.v) (l := 211) .n rfl rfl .nil rfl si_27 zv_29 rfl rfl rfl <|
            q_assign .n (.t rfl) rfl <|
            Lex.nil) ?_
        refine run_seq ?_
        refine run_region (q_assign .n (.c rfl) rfl <|
            Lex.nil) ?_
        refine run_block ?_
        refine run_LOOP (m_spec_l26Draw_b2 s_ x1) _ _ _ rfl (fun (x2 : (List gPermit) × Int) => 0 ≤ x2.2 ∧ x2.2 ≤ (m_spec_l00Src_among (m_spec_l00Src_pick (gl00Src.mk x1.1 x1.2.1 x1.2.2.1) 20).2 ([16, 17] : List Int)).1 ∧ (x2.1.length : Int) + 0 ≤ x2.2 + (([] : List gPermit).length : Int) ∧ (x2.1.length : Int) ≤ x2.2) (fun x2 => 0 ≤ x2.2 ∧ x2.2 ≤ (m_spec_l00Src_among (m_spec_l00Src_pick (gl00Src.mk x1.1 x1.2.1 x1.2.2.1) 20).2 ([16, 17] : List Int)).1 ∧ (x2.1.length : Int) + 0 ≤ x2.2 + (([] : List gPermit).length : Int) ∧ (x2.1.length : Int) ≤ x2.2 ∧ (m_spec_l00Src_among (m_spec_l00Src_pick (gl00Src.mk x1.1 x1.2.1 x1.2.2.1) 20).2 ([16, 17] : List Int)).1 ≤ x2.2) (fun x2 => ((m_spec_l00Src_among (m_spec_l00Src_pick (gl00Src.mk x1.1 x1.2.1 x1.2.2.1) 20).2 ([16, 17] : List Int)).1 - x2.2 : Int).toNat) (fun x2 => ⟨[(2, some (true, .op 200 0 0 0)), (4, some (true, .op 202 0 0 0)), (6, some (true, .os 211 x2.1.length)), (10, some (true, .int .i64 (m_spec_l00Src_among (m_spec_l00Src_pick (gl00Src.mk x1.1 x1.2.1 x1.2.2.1) 20).2 ([16, 17] : List Int)).1)), (11, some (true, .int .i64 x2.2))], [(0, some (.box 95 [.sl 1 ((m_spec_l00Src_among (m_spec_l00Src_pick (gl00Src.mk x1.1 x1.2.1 x1.2.2.1) 20).2 ([16, 17] : List Int)).2.1.code.map (V.int .u8)), .int .i64 (m_spec_l00Src_among (m_spec_l00Src_pick (gl00Src.mk x1.1 x1.2.1 x1.2.2.1) 20).2 ([16, 17] : List Int)).2.1.at_, .int .u64 (m_spec_l00Src_among (m_spec_l00Src_pick (gl00Src.mk x1.1 x1.2.1 x1.2.2.1) 20).2 ([16, 17] : List Int)).2.1.seed])), (200, some (.box 26 [.int .i64 0, .nls])), (201, some (.row 66 7 ((m_spec_l04Draw s_).1.Airways.map gAirway.v))), (202, some (.box 26 [.int .i64 (m_spec_l04Draw s_).1.Junctions, .os 201 (m_spec_l04Draw s_).1.Airways.length])), (211, some (.row 29 5 (x2.1.map gPermit.v)))]⟩) (fun x2 => ⟨[(2, some (true, .op 200 0 0 0)), (4, some (true, .op 202 0 0 0)), (6, some (true, .os 211 x2.1.length))], [(0, some (.box 95 [.sl 1 ((m_spec_l00Src_among (m_spec_l00Src_pick (gl00Src.mk x1.1 x1.2.1 x1.2.2.1) 20).2 ([16, 17] : List Int)).2.1.code.map (V.int .u8)), .int .i64 (m_spec_l00Src_among (m_spec_l00Src_pick (gl00Src.mk x1.1 x1.2.1 x1.2.2.1) 20).2 ([16, 17] : List Int)).2.1.at_, .int .u64 (m_spec_l00Src_among (m_spec_l00Src_pick (gl00Src.mk x1.1 x1.2.1 x1.2.2.1) 20).2 ([16, 17] : List Int)).2.1.seed])), (200, some (.box 26 [.int .i64 0, .nls])), (201, some (.row 66 7 ((m_spec_l04Draw s_).1.Airways.map gAirway.v))), (202, some (.box 26 [.int .i64 (m_spec_l04Draw s_).1.Junctions, .os 201 (m_spec_l04Draw s_).1.Airways.length])), (211, some (.row 29 5 (x2.1.map gPermit.v)))]⟩) ⟨by first | omega | assumption | (simp only [List.length_append, List.length_cons, List.length_nil, List.length_replicate, put_len] at * <;> omega) | (exact max1_ne) | ((have hM := among_rng (x := 16) (y := 17) (Lim.pick (k := 20) (Lim.mk (b := x1.2.2.1) (by assumption))) (by decide); simp only [List.length_append, List.length_cons, List.length_nil]; omega)) | ((have hM := among_rng (x := 16) (y := 17) (Lim.pick (k := 20) (Lim.mk (b := x1.2.2.1) (by assumption))) (by decide); omega)) | ((rw [chars_len]; simp only [List.length_cons, List.length_nil]; omega)) | ((have hM := among_rng (x := 16) (y := 17) (Lim.pick (k := 20) (Lim.mk (b := x1.2.2.1) (by assumption))) (by decide); rw [chars_len]; simp only [List.length_cons, List.length_nil]; omega)), by first | omega | assumption | (simp only [List.length_append, List.length_cons, List.length_nil, List.length_replicate, put_len] at * <;> omega) | (exact max1_ne) | ((have hM := among_rng (x := 16) (y := 17) (Lim.pick (k := 20) (Lim.mk (b := x1.2.2.1) (by assumption))) (by decide); simp only [List.length_append, List.length_cons, List.length_nil]; omega)) | ((have hM := among_rng (x := 16) (y := 17) (Lim.pick (k := 20) (Lim.mk (b := x1.2.2.1) (by assumption))) (by decide); omega)) | ((rw [chars_len]; simp only [List.length_cons, List.length_nil]; omega)) | ((have hM := among_rng (x := 16) (y := 17) (Lim.pick (k := 20) (Lim.mk (b := x1.2.2.1) (by assumption))) (by decide); rw [chars_len]; simp only [List.length_cons, List.length_nil]; omega)), by first | omega | assumption | (simp only [List.length_append, List.length_cons, List.length_nil, List.length_replicate, put_len] at * <;> omega) | (exact max1_ne) | ((have hM := among_rng (x := 16) (y := 17) (Lim.pick (k := 20) (Lim.mk (b := x1.2.2.1) (by assumption))) (by decide); simp only [List.length_append, List.length_cons, List.length_nil]; omega)) | ((have hM := among_rng (x := 16) (y := 17) (Lim.pick (k := 20) (Lim.mk (b := x1.2.2.1) (by assumption))) (by decide); omega)) | ((rw [chars_len]; simp only [List.length_cons, List.length_nil]; omega)) | ((have hM := among_rng (x := 16) (y := 17) (Lim.pick (k := 20) (Lim.mk (b := x1.2.2.1) (by assumption))) (by decide); rw [chars_len]; simp only [List.length_cons, List.length_nil]; omega)), by first | omega | assumption | (simp only [List.length_append, List.length_cons, List.length_nil, List.length_replicate, put_len] at * <;> omega) | (exact max1_ne) | ((have hM := among_rng (x := 16) (y := 17) (Lim.pick (k := 20) (Lim.mk (b := x1.2.2.1) (by assumption))) (by decide); simp only [List.length_append, List.length_cons, List.length_nil]; omega)) | ((have hM := among_rng (x := 16) (y := 17) (Lim.pick (k := 20) (Lim.mk (b := x1.2.2.1) (by assumption))) (by decide); omega)) | ((rw [chars_len]; simp only [List.length_cons, List.length_nil]; omega)) | ((have hM := among_rng (x := 16) (y := 17) (Lim.pick (k := 20) (Lim.mk (b := x1.2.2.1) (by assumption))) (by decide); rw [chars_len]; simp only [List.length_cons, List.length_nil]; omega))⟩ (by first | omega | assumption | (simp only [List.length_append, List.length_cons, List.length_nil, List.length_replicate, put_len] at * <;> omega) | (exact max1_ne) | ((have hM := among_rng (x := 16) (y := 17) (Lim.pick (k := 20) (Lim.mk (b := x1.2.2.1) (by assumption))) (by decide); simp only [List.length_append, List.length_cons, List.length_nil]; omega)) | ((have hM := among_rng (x := 16) (y := 17) (Lim.pick (k := 20) (Lim.mk (b := x1.2.2.1) (by assumption))) (by decide); omega)) | ((rw [chars_len]; simp only [List.length_cons, List.length_nil]; omega)) | ((have hM := among_rng (x := 16) (y := 17) (Lim.pick (k := 20) (Lim.mk (b := x1.2.2.1) (by assumption))) (by decide); rw [chars_len]; simp only [List.length_cons, List.length_nil]; omega))) (sub_of [] ⟨rfl, rfl, rfl, rfl, rfl, trivial⟩ ⟨rfl, rfl, rfl, rfl, rfl, trivial⟩ rfl) ?_ ?_
        · intro x2 i11
          obtain ⟨e12, e13, e14, e15, e16⟩ := i11
          try dsimp only at *
          refine run_endB ?_
          refine run_seq ?_
          refine run_region (q_ldN_ow .n (.t rfl) rfl (.inr rfl) ag_26 (fun _ => rfl) rfl rfl <|
              q_move .n (.t rfl) rfl <|
              q_st_boxm [.int .i64 (m_spec_l04Draw s_).1.Junctions, .os 201 (m_spec_l04Draw s_).1.Airways.length] .n rfl (.t rfl) (.t rfl) rfl ts_26 rfl rfl <|
              q_assign .n (.t rfl) rfl <|
              Lex.nil) ?_
          exact run_ret [(100, 201), (101, 211)] (.cons (.cN rfl rfl ag_26 rfl rfl) (.cons (.t rfl rfl) .nil)) (by first | rfl | (simp only [put_len]; rfl)) ⟨rfl, rfl, rfl, trivial⟩ rfl
        · intro rec2 k2 hk8 x2 i9
          obtain ⟨e17, e18, e19, e20⟩ := i9
          try dsimp only at *
          refine run_seq ?_
          refine run_seq ?_
          refine run_region (q_move .n (.t rfl) rfl <|
              q_move .n (.t rfl) rfl <|
              q_int .n (.t rfl) (.t rfl) rfl rfl <|
              Lex.nil) ?_
          refine run_cond (.t rfl) rfl (fun h10 => ?_) (fun h10 => ?_)
          · try simp only [Bool.and_eq_true, Bool.or_eq_true, Bool.not_eq_true', Bool.and_eq_false_iff, Bool.or_eq_false_iff, Bool.not_eq_false', decide_eq_true_eq, decide_eq_false_iff_not, beq_iff_eq, bne_iff_ne, beq_eq_false_iff_ne, bne_eq_false_iff_eq, Bool.true_and, ne_eq, Decidable.not_not, Int.not_lt, Int.not_le, Nat.not_lt, Nat.not_le, strB_nil, strB_nil', strB_nnil, strB_nnil'] at h10
            refine run_skip ?_
            refine run_seq ?_
            refine run_block ?_
            refine run_region (q_move .n (.t rfl) rfl <|
                q_move .n (.t rfl) rfl <|
                q_int .n (.c rfl) (.t rfl) rfl rfl <|
                q_conv .n (.t rfl) cv_2_5 rfl <|
                q_bslicem ([IntKind.wrap .u8 (IntKind.wrap .i64 (97 + x2.2))] : List Int) (f := V.int .u8) (l := 212) .n rfl rfl (.cons (.t rfl) .nil) rfl si_22 zv_5 rfl rfl rfl <|
                q_b2s (xs := ([IntKind.wrap .u8 (IntKind.wrap .i64 (97 + x2.2))] : List Int)) .n (.ow (.t rfl) rfl (take_all (by simp only [len_map, put_len] <;> rfl)) (by simp only [len_map, put_len] <;> rfl)) bs_22_9 rfl <|
                q_strcat .n (.c rfl) (.t rfl) (fun _ => by first | omega | assumption | (simp only [List.length_append, List.length_cons, List.length_nil, List.length_replicate, put_len] at * <;> omega) | (exact max1_ne) | ((have hM := among_rng (x := 16) (y := 17) (Lim.pick (k := 20) (Lim.mk (b := x1.2.2.1) (by assumption))) (by decide); simp only [List.length_append, List.length_cons, List.length_nil]; omega)) | ((have hM := among_rng (x := 16) (y := 17) (Lim.pick (k := 20) (Lim.mk (b := x1.2.2.1) (by assumption))) (by decide); omega)) | ((rw [chars_len]; simp only [List.length_cons, List.length_nil]; omega)) | ((have hM := among_rng (x := 16) (y := 17) (Lim.pick (k := 20) (Lim.mk (b := x1.2.2.1) (by assumption))) (by decide); rw [chars_len]; simp only [List.length_cons, List.length_nil]; omega))) rfl <|
                q_build (us := [.str (([110] : List UInt8) ++ (chars ([IntKind.wrap .u8 (IntKind.wrap .i64 (97 + x2.2))] : List Int))), .int .i64 1, .int .i64 0, .int .i64 0, .int .i64 10]) .n (.cons (.t rfl) (.cons (.c rfl) (.cons (.c rfl) .nil))) zv_29 pl_29 rfl rfl rfl <|
                q_bslicem ([gPermit.mk (([110] : List UInt8) ++ (chars ([IntKind.wrap .u8 (IntKind.wrap .i64 (97 + x2.2))] : List Int))) 1 0 0 10] : List gPermit) (f := gPermit.v) (l := 213) .n rfl rfl (.cons (.t rfl) .nil) rfl si_27 zv_29 rfl rfl rfl <|
                q_appm (xs := x2.1) (ys := ([gPermit.mk (([110] : List UInt8) ++ (chars ([IntKind.wrap .u8 (IntKind.wrap .i64 (97 + x2.2))] : List Int))) 1 0 0 10] : List gPermit)) (f := gPermit.v) (l := 214) .n rfl (.ow (.t rfl) rfl (take_all (by simp only [len_map, put_len] <;> rfl)) (by simp only [len_map, put_len] <;> rfl)) (.ow (.t rfl) rfl (take_all (by simp only [len_map, put_len] <;> rfl)) (by simp only [len_map, put_len] <;> rfl)) si_27 zv_29 rfl (by first | omega | assumption | (simp only [List.length_append, List.length_cons, List.length_nil, List.length_replicate, put_len] at * <;> omega) | (exact max1_ne) | ((have hM := among_rng (x := 16) (y := 17) (Lim.pick (k := 20) (Lim.mk (b := x1.2.2.1) (by assumption))) (by decide); simp only [List.length_append, List.length_cons, List.length_nil]; omega)) | ((have hM := among_rng (x := 16) (y := 17) (Lim.pick (k := 20) (Lim.mk (b := x1.2.2.1) (by assumption))) (by decide); omega)) | ((rw [chars_len]; simp only [List.length_cons, List.length_nil]; omega)) | ((have hM := among_rng (x := 16) (y := 17) (Lim.pick (k := 20) (Lim.mk (b := x1.2.2.1) (by assumption))) (by decide); rw [chars_len]; simp only [List.length_cons, List.length_nil]; omega))) rfl rfl <|
                q_assign .n (.t rfl) rfl <|
                Lex.nil) ?_
            refine run_endB ?_
            refine run_region (q_move .n (.t rfl) rfl <|
                q_add .n (.t rfl) (.c rfl) (fun _ => by first | omega | assumption | (simp only [List.length_append, List.length_cons, List.length_nil, List.length_replicate, put_len] at * <;> omega) | (exact max1_ne) | ((have hM := among_rng (x := 16) (y := 17) (Lim.pick (k := 20) (Lim.mk (b := x1.2.2.1) (by assumption))) (by decide); simp only [List.length_append, List.length_cons, List.length_nil]; omega)) | ((have hM := among_rng (x := 16) (y := 17) (Lim.pick (k := 20) (Lim.mk (b := x1.2.2.1) (by assumption))) (by decide); omega)) | ((rw [chars_len]; simp only [List.length_cons, List.length_nil]; omega)) | ((have hM := among_rng (x := 16) (y := 17) (Lim.pick (k := 20) (Lim.mk (b := x1.2.2.1) (by assumption))) (by decide); rw [chars_len]; simp only [List.length_cons, List.length_nil]; omega))) rfl <|
                q_assign .n (.t rfl) rfl <|
                Lex.nil) ?_
            exact run_again (x2.1 ++ ([gPermit.mk (([110] : List UInt8) ++ (chars ([IntKind.wrap .u8 (IntKind.wrap .i64 (97 + x2.2))] : List Int))) 1 0 0 10] : List gPermit), x2.2 + 1) ⟨by first | omega | assumption | (simp only [List.length_append, List.length_cons, List.length_nil, List.length_replicate, put_len] at * <;> omega) | (exact max1_ne) | ((have hM := among_rng (x := 16) (y := 17) (Lim.pick (k := 20) (Lim.mk (b := x1.2.2.1) (by assumption))) (by decide); simp only [List.length_append, List.length_cons, List.length_nil]; omega)) | ((have hM := among_rng (x := 16) (y := 17) (Lim.pick (k := 20) (Lim.mk (b := x1.2.2.1) (by assumption))) (by decide); omega)) | ((rw [chars_len]; simp only [List.length_cons, List.length_nil]; omega)) | ((have hM := among_rng (x := 16) (y := 17) (Lim.pick (k := 20) (Lim.mk (b := x1.2.2.1) (by assumption))) (by decide); rw [chars_len]; simp only [List.length_cons, List.length_nil]; omega)), by first | omega | assumption | (simp only [List.length_append, List.length_cons, List.length_nil, List.length_replicate, put_len] at * <;> omega) | (exact max1_ne) | ((have hM := among_rng (x := 16) (y := 17) (Lim.pick (k := 20) (Lim.mk (b := x1.2.2.1) (by assumption))) (by decide); simp only [List.length_append, List.length_cons, List.length_nil]; omega)) | ((have hM := among_rng (x := 16) (y := 17) (Lim.pick (k := 20) (Lim.mk (b := x1.2.2.1) (by assumption))) (by decide); omega)) | ((rw [chars_len]; simp only [List.length_cons, List.length_nil]; omega)) | ((have hM := among_rng (x := 16) (y := 17) (Lim.pick (k := 20) (Lim.mk (b := x1.2.2.1) (by assumption))) (by decide); rw [chars_len]; simp only [List.length_cons, List.length_nil]; omega)), by first | omega | assumption | (simp only [List.length_append, List.length_cons, List.length_nil, List.length_replicate, put_len] at * <;> omega) | (exact max1_ne) | ((have hM := among_rng (x := 16) (y := 17) (Lim.pick (k := 20) (Lim.mk (b := x1.2.2.1) (by assumption))) (by decide); simp only [List.length_append, List.length_cons, List.length_nil]; omega)) | ((have hM := among_rng (x := 16) (y := 17) (Lim.pick (k := 20) (Lim.mk (b := x1.2.2.1) (by assumption))) (by decide); omega)) | ((rw [chars_len]; simp only [List.length_cons, List.length_nil]; omega)) | ((have hM := among_rng (x := 16) (y := 17) (Lim.pick (k := 20) (Lim.mk (b := x1.2.2.1) (by assumption))) (by decide); rw [chars_len]; simp only [List.length_cons, List.length_nil]; omega)), by first | omega | assumption | (simp only [List.length_append, List.length_cons, List.length_nil, List.length_replicate, put_len] at * <;> omega) | (exact max1_ne) | ((have hM := among_rng (x := 16) (y := 17) (Lim.pick (k := 20) (Lim.mk (b := x1.2.2.1) (by assumption))) (by decide); simp only [List.length_append, List.length_cons, List.length_nil]; omega)) | ((have hM := among_rng (x := 16) (y := 17) (Lim.pick (k := 20) (Lim.mk (b := x1.2.2.1) (by assumption))) (by decide); omega)) | ((rw [chars_len]; simp only [List.length_cons, List.length_nil]; omega)) | ((have hM := among_rng (x := 16) (y := 17) (Lim.pick (k := 20) (Lim.mk (b := x1.2.2.1) (by assumption))) (by decide); rw [chars_len]; simp only [List.length_cons, List.length_nil]; omega))⟩ (by first | omega | assumption | (simp only [List.length_append, List.length_cons, List.length_nil, List.length_replicate, put_len] at * <;> omega) | (exact max1_ne) | ((have hM := among_rng (x := 16) (y := 17) (Lim.pick (k := 20) (Lim.mk (b := x1.2.2.1) (by assumption))) (by decide); simp only [List.length_append, List.length_cons, List.length_nil]; omega)) | ((have hM := among_rng (x := 16) (y := 17) (Lim.pick (k := 20) (Lim.mk (b := x1.2.2.1) (by assumption))) (by decide); omega)) | ((rw [chars_len]; simp only [List.length_cons, List.length_nil]; omega)) | ((have hM := among_rng (x := 16) (y := 17) (Lim.pick (k := 20) (Lim.mk (b := x1.2.2.1) (by assumption))) (by decide); rw [chars_len]; simp only [List.length_cons, List.length_nil]; omega))) (sub_of [(211, 214)] ⟨rfl, rfl, rfl, rfl, rfl, trivial⟩ ⟨rfl, rfl, rfl, rfl, rfl, trivial⟩ rfl)
          · try simp only [Bool.and_eq_true, Bool.or_eq_true, Bool.not_eq_true', Bool.and_eq_false_iff, Bool.or_eq_false_iff, Bool.not_eq_false', decide_eq_true_eq, decide_eq_false_iff_not, beq_iff_eq, bne_iff_ne, beq_eq_false_iff_ne, bne_eq_false_iff_eq, Bool.true_and, ne_eq, Decidable.not_not, Int.not_lt, Int.not_le, Nat.not_lt, Nat.not_le, strB_nil, strB_nil', strB_nnil, strB_nnil'] at h10
            refine run_exit rfl ?_
            exact run_cont hk8 (x2.1, x2.2) ⟨by first | omega | assumption | (simp only [List.length_append, List.length_cons, List.length_nil, List.length_replicate, put_len] at * <;> omega) | (exact max1_ne) | ((have hM := among_rng (x := 16) (y := 17) (Lim.pick (k := 20) (Lim.mk (b := x1.2.2.1) (by assumption))) (by decide); simp only [List.length_append, List.length_cons, List.length_nil]; omega)) | ((have hM := among_rng (x := 16) (y := 17) (Lim.pick (k := 20) (Lim.mk (b := x1.2.2.1) (by assumption))) (by decide); omega)) | ((rw [chars_len]; simp only [List.length_cons, List.length_nil]; omega)) | ((have hM := among_rng (x := 16) (y := 17) (Lim.pick (k := 20) (Lim.mk (b := x1.2.2.1) (by assumption))) (by decide); rw [chars_len]; simp only [List.length_cons, List.length_nil]; omega)), by first | omega | assumption | (simp only [List.length_append, List.length_cons, List.length_nil, List.length_replicate, put_len] at * <;> omega) | (exact max1_ne) | ((have hM := among_rng (x := 16) (y := 17) (Lim.pick (k := 20) (Lim.mk (b := x1.2.2.1) (by assumption))) (by decide); simp only [List.length_append, List.length_cons, List.length_nil]; omega)) | ((have hM := among_rng (x := 16) (y := 17) (Lim.pick (k := 20) (Lim.mk (b := x1.2.2.1) (by assumption))) (by decide); omega)) | ((rw [chars_len]; simp only [List.length_cons, List.length_nil]; omega)) | ((have hM := among_rng (x := 16) (y := 17) (Lim.pick (k := 20) (Lim.mk (b := x1.2.2.1) (by assumption))) (by decide); rw [chars_len]; simp only [List.length_cons, List.length_nil]; omega)), by first | omega | assumption | (simp only [List.length_append, List.length_cons, List.length_nil, List.length_replicate, put_len] at * <;> omega) | (exact max1_ne) | ((have hM := among_rng (x := 16) (y := 17) (Lim.pick (k := 20) (Lim.mk (b := x1.2.2.1) (by assumption))) (by decide); simp only [List.length_append, List.length_cons, List.length_nil]; omega)) | ((have hM := among_rng (x := 16) (y := 17) (Lim.pick (k := 20) (Lim.mk (b := x1.2.2.1) (by assumption))) (by decide); omega)) | ((rw [chars_len]; simp only [List.length_cons, List.length_nil]; omega)) | ((have hM := among_rng (x := 16) (y := 17) (Lim.pick (k := 20) (Lim.mk (b := x1.2.2.1) (by assumption))) (by decide); rw [chars_len]; simp only [List.length_cons, List.length_nil]; omega)), by first | omega | assumption | (simp only [List.length_append, List.length_cons, List.length_nil, List.length_replicate, put_len] at * <;> omega) | (exact max1_ne) | ((have hM := among_rng (x := 16) (y := 17) (Lim.pick (k := 20) (Lim.mk (b := x1.2.2.1) (by assumption))) (by decide); simp only [List.length_append, List.length_cons, List.length_nil]; omega)) | ((have hM := among_rng (x := 16) (y := 17) (Lim.pick (k := 20) (Lim.mk (b := x1.2.2.1) (by assumption))) (by decide); omega)) | ((rw [chars_len]; simp only [List.length_cons, List.length_nil]; omega)) | ((have hM := among_rng (x := 16) (y := 17) (Lim.pick (k := 20) (Lim.mk (b := x1.2.2.1) (by assumption))) (by decide); rw [chars_len]; simp only [List.length_cons, List.length_nil]; omega)), by first | omega | assumption | (simp only [List.length_append, List.length_cons, List.length_nil, List.length_replicate, put_len] at * <;> omega) | (exact max1_ne) | ((have hM := among_rng (x := 16) (y := 17) (Lim.pick (k := 20) (Lim.mk (b := x1.2.2.1) (by assumption))) (by decide); simp only [List.length_append, List.length_cons, List.length_nil]; omega)) | ((have hM := among_rng (x := 16) (y := 17) (Lim.pick (k := 20) (Lim.mk (b := x1.2.2.1) (by assumption))) (by decide); omega)) | ((rw [chars_len]; simp only [List.length_cons, List.length_nil]; omega)) | ((have hM := among_rng (x := 16) (y := 17) (Lim.pick (k := 20) (Lim.mk (b := x1.2.2.1) (by assumption))) (by decide); rw [chars_len]; simp only [List.length_cons, List.length_nil]; omega))⟩ (sub_of [] ⟨rfl, rfl, rfl, trivial⟩ ⟨rfl, rfl, rfl, rfl, rfl, trivial⟩ rfl)
      · try simp only [Bool.and_eq_true, Bool.or_eq_true, Bool.not_eq_true', Bool.and_eq_false_iff, Bool.or_eq_false_iff, Bool.not_eq_false', decide_eq_true_eq, decide_eq_false_iff_not, beq_iff_eq, bne_iff_ne, beq_eq_false_iff_ne, bne_eq_false_iff_eq, Bool.true_and, ne_eq, Decidable.not_not, Int.not_lt, Int.not_le, Nat.not_lt, Nat.not_le, strB_nil, strB_nil', strB_nnil, strB_nnil'] at h7
        refine run_skip ?_
        refine run_endB ?_
        refine run_seq ?_
        refine run_region (q_ldN_ow .n (.t rfl) rfl (.inr rfl) ag_26 (fun _ => rfl) rfl rfl <|
            q_move .n (.t rfl) rfl <|
            q_st_boxm [.int .i64 (m_spec_l04Draw s_).1.Junctions, .os 201 (m_spec_l04Draw s_).1.Airways.length] .n rfl (.t rfl) (.t rfl) rfl ts_26 rfl rfl <|
            q_assign .n (.t rfl) rfl <|
            Lex.nil) ?_
        exact run_ret [(100, 201), (101, 204)] (.cons (.cN rfl rfl ag_26 rfl rfl) (.cons (.t rfl rfl) .nil)) (by first | rfl | (simp only [put_len]; rfl)) ⟨rfl, rfl, rfl, trivial⟩ rfl
  · intro rec1 k1 hk1 x1 i2
    obtain ⟨e27, e28, e29, e30, e31⟩ := i2
    try dsimp only at *
    refine run_seq ?_
    refine run_seq ?_
    refine run_region (q_move .n (.t rfl) rfl <|
        q_move .n (.t rfl) rfl <|
        q_len .n (.t rfl) rfl rfl ss_88 rfl <|
        q_int .n (.t rfl) (.t rfl) rfl rfl <|
        Lex.nil) ?_
    refine run_cond (.t rfl) rfl (fun h3 => ?_) (fun h3 => ?_)
    · try simp only [Bool.and_eq_true, Bool.or_eq_true, Bool.not_eq_true', Bool.and_eq_false_iff, Bool.or_eq_false_iff, Bool.not_eq_false', decide_eq_true_eq, decide_eq_false_iff_not, beq_iff_eq, bne_iff_ne, beq_eq_false_iff_ne, bne_eq_false_iff_eq, Bool.true_and, ne_eq, Decidable.not_not, Int.not_lt, Int.not_le, Nat.not_lt, Nat.not_le, strB_nil, strB_nil', strB_nnil, strB_nnil'] at h3
      refine run_skip ?_
      refine run_seq ?_
      refine run_block ?_
      refine run_seq ?_
      refine run_seq ?_
      refine run_region (q_move .n (.t rfl) rfl <|
          q_callM (full := false) [(0, 0)] [] .n rfl .f en_30 (.cons (.t rfl) (.cons (.c rfl) .nil)) (.cons (.b (.mutp rfl)) (.cons (.b (.a (.same rfl))) .nil)) (c_spec_l00Src_one (gl00Src.mk x1.1 x1.2.1 x1.2.2.1) 3 (by (try dsimp only); (with_reducible (first | apply Lim.mono | apply Lim.out | apply LimA.mono)); (repeat (with_reducible (first | assumption | apply Lim.among | apply Lim.one | apply Lim.pick | apply Lim.bend26 | apply Lim.one26 | apply Lim.dmk | apply Lim.d26 | apply Lim.mk))); omega)) ⟨rfl, trivial⟩ rfl rfl (fun h => Bool.noConfusion h) (fun h => Bool.noConfusion h) rfl <|
          Lex.nil) ?_
      refine run_cond (.t rfl) rfl (fun h4 => ?_) (fun h4 => ?_)
      · try simp only [Bool.and_eq_true, Bool.or_eq_true, Bool.not_eq_true', Bool.and_eq_false_iff, Bool.or_eq_false_iff, Bool.not_eq_false', decide_eq_true_eq, decide_eq_false_iff_not, beq_iff_eq, bne_iff_ne, beq_eq_false_iff_ne, bne_eq_false_iff_eq, Bool.true_and, ne_eq, Decidable.not_not, Int.not_lt, Int.not_le, Nat.not_lt, Nat.not_le, strB_nil, strB_nil', strB_nnil, strB_nnil'] at h4
        refine run_exit rfl ?_
        refine run_region (q_move .n (.t rfl) rfl <|
            q_add .n (.t rfl) (.c rfl) (fun _ => by first | omega | assumption | (simp only [List.length_append, List.length_cons, List.length_nil, List.length_replicate, put_len] at * <;> omega) | (exact max1_ne) | ((have hM := among_rng (x := 16) (y := 17) (Lim.pick (k := 20) (Lim.mk (b := x1.2.2.1) (by assumption))) (by decide); simp only [List.length_append, List.length_cons, List.length_nil]; omega)) | ((have hM := among_rng (x := 16) (y := 17) (Lim.pick (k := 20) (Lim.mk (b := x1.2.2.1) (by assumption))) (by decide); omega)) | ((rw [chars_len]; simp only [List.length_cons, List.length_nil]; omega)) | ((have hM := among_rng (x := 16) (y := 17) (Lim.pick (k := 20) (Lim.mk (b := x1.2.2.1) (by assumption))) (by decide); rw [chars_len]; simp only [List.length_cons, List.length_nil]; omega))) rfl <|
            q_assign .n (.t rfl) rfl <|
            Lex.nil) ?_
        exact run_again ((m_spec_l00Src_one (gl00Src.mk x1.1 x1.2.1 x1.2.2.1) 3).2.code, (m_spec_l00Src_one (gl00Src.mk x1.1 x1.2.1 x1.2.2.1) 3).2.at_, (m_spec_l00Src_one (gl00Src.mk x1.1 x1.2.1 x1.2.2.1) 3).2.seed, x1.2.2.2.1 + 1, x1.2.2.2.2) ⟨by first | omega | assumption | (simp only [List.length_append, List.length_cons, List.length_nil, List.length_replicate, put_len] at * <;> omega) | (exact max1_ne) | ((have hM := among_rng (x := 16) (y := 17) (Lim.pick (k := 20) (Lim.mk (b := x1.2.2.1) (by assumption))) (by decide); simp only [List.length_append, List.length_cons, List.length_nil]; omega)) | ((have hM := among_rng (x := 16) (y := 17) (Lim.pick (k := 20) (Lim.mk (b := x1.2.2.1) (by assumption))) (by decide); omega)) | ((rw [chars_len]; simp only [List.length_cons, List.length_nil]; omega)) | ((have hM := among_rng (x := 16) (y := 17) (Lim.pick (k := 20) (Lim.mk (b := x1.2.2.1) (by assumption))) (by decide); rw [chars_len]; simp only [List.length_cons, List.length_nil]; omega)), by first | omega | assumption | (simp only [List.length_append, List.length_cons, List.length_nil, List.length_replicate, put_len] at * <;> omega) | (exact max1_ne) | ((have hM := among_rng (x := 16) (y := 17) (Lim.pick (k := 20) (Lim.mk (b := x1.2.2.1) (by assumption))) (by decide); simp only [List.length_append, List.length_cons, List.length_nil]; omega)) | ((have hM := among_rng (x := 16) (y := 17) (Lim.pick (k := 20) (Lim.mk (b := x1.2.2.1) (by assumption))) (by decide); omega)) | ((rw [chars_len]; simp only [List.length_cons, List.length_nil]; omega)) | ((have hM := among_rng (x := 16) (y := 17) (Lim.pick (k := 20) (Lim.mk (b := x1.2.2.1) (by assumption))) (by decide); rw [chars_len]; simp only [List.length_cons, List.length_nil]; omega)), by first | omega | assumption | (simp only [List.length_append, List.length_cons, List.length_nil, List.length_replicate, put_len] at * <;> omega) | (exact max1_ne) | ((have hM := among_rng (x := 16) (y := 17) (Lim.pick (k := 20) (Lim.mk (b := x1.2.2.1) (by assumption))) (by decide); simp only [List.length_append, List.length_cons, List.length_nil]; omega)) | ((have hM := among_rng (x := 16) (y := 17) (Lim.pick (k := 20) (Lim.mk (b := x1.2.2.1) (by assumption))) (by decide); omega)) | ((rw [chars_len]; simp only [List.length_cons, List.length_nil]; omega)) | ((have hM := among_rng (x := 16) (y := 17) (Lim.pick (k := 20) (Lim.mk (b := x1.2.2.1) (by assumption))) (by decide); rw [chars_len]; simp only [List.length_cons, List.length_nil]; omega)), by first | omega | assumption | (simp only [List.length_append, List.length_cons, List.length_nil, List.length_replicate, put_len] at * <;> omega) | (exact max1_ne) | ((have hM := among_rng (x := 16) (y := 17) (Lim.pick (k := 20) (Lim.mk (b := x1.2.2.1) (by assumption))) (by decide); simp only [List.length_append, List.length_cons, List.length_nil]; omega)) | ((have hM := among_rng (x := 16) (y := 17) (Lim.pick (k := 20) (Lim.mk (b := x1.2.2.1) (by assumption))) (by decide); omega)) | ((rw [chars_len]; simp only [List.length_cons, List.length_nil]; omega)) | ((have hM := among_rng (x := 16) (y := 17) (Lim.pick (k := 20) (Lim.mk (b := x1.2.2.1) (by assumption))) (by decide); rw [chars_len]; simp only [List.length_cons, List.length_nil]; omega)), by (try dsimp only); (with_reducible (first | apply Lim.mono | apply Lim.out | apply LimA.mono)); (repeat (with_reducible (first | assumption | apply Lim.among | apply Lim.one | apply Lim.pick | apply Lim.bend26 | apply Lim.one26 | apply Lim.dmk | apply Lim.d26 | apply Lim.mk))); omega⟩ (by first | omega | assumption | (simp only [List.length_append, List.length_cons, List.length_nil, List.length_replicate, put_len] at * <;> omega) | (exact max1_ne) | ((have hM := among_rng (x := 16) (y := 17) (Lim.pick (k := 20) (Lim.mk (b := x1.2.2.1) (by assumption))) (by decide); simp only [List.length_append, List.length_cons, List.length_nil]; omega)) | ((have hM := among_rng (x := 16) (y := 17) (Lim.pick (k := 20) (Lim.mk (b := x1.2.2.1) (by assumption))) (by decide); omega)) | ((rw [chars_len]; simp only [List.length_cons, List.length_nil]; omega)) | ((have hM := among_rng (x := 16) (y := 17) (Lim.pick (k := 20) (Lim.mk (b := x1.2.2.1) (by assumption))) (by decide); rw [chars_len]; simp only [List.length_cons, List.length_nil]; omega))) (sub_of [] ⟨rfl, rfl, rfl, rfl, rfl, rfl, rfl, trivial⟩ ⟨rfl, rfl, rfl, rfl, rfl, rfl, trivial⟩ rfl)
      · try simp only [Bool.and_eq_true, Bool.or_eq_true, Bool.not_eq_true', Bool.and_eq_false_iff, Bool.or_eq_false_iff, Bool.not_eq_false', decide_eq_true_eq, decide_eq_false_iff_not, beq_iff_eq, bne_iff_ne, beq_eq_false_iff_ne, bne_eq_false_iff_eq, Bool.true_and, ne_eq, Decidable.not_not, Int.not_lt, Int.not_le, Nat.not_lt, Nat.not_le, strB_nil, strB_nil', strB_nnil, strB_nnil'] at h4
        refine run_skip ?_
        refine run_seq ?_
        refine run_region (q_move .n (.t rfl) rfl <|
            q_move .n (.t rfl) rfl <|
            q_move .n (.t rfl) rfl <|
            q_idx_ow .n (.t rfl) (.t rfl) sl_88 (fun _ => by first | omega | assumption | (simp only [List.length_append, List.length_cons, List.length_nil, List.length_replicate, put_len] at * <;> omega) | (exact max1_ne) | ((have hM := among_rng (x := 16) (y := 17) (Lim.pick (k := 20) (Lim.mk (b := x1.2.2.1) (by assumption))) (by decide); simp only [List.length_append, List.length_cons, List.length_nil]; omega)) | ((have hM := among_rng (x := 16) (y := 17) (Lim.pick (k := 20) (Lim.mk (b := x1.2.2.1) (by assumption))) (by decide); omega)) | ((rw [chars_len]; simp only [List.length_cons, List.length_nil]; omega)) | ((have hM := among_rng (x := 16) (y := 17) (Lim.pick (k := 20) (Lim.mk (b := x1.2.2.1) (by assumption))) (by decide); rw [chars_len]; simp only [List.length_cons, List.length_nil]; omega))) rfl <|
            q_ld1_row .n (.t rfl) rfl (fun _ => by first | omega | assumption | (simp only [List.length_append, List.length_cons, List.length_nil, List.length_replicate, put_len] at * <;> omega) | (exact max1_ne) | ((have hM := among_rng (x := 16) (y := 17) (Lim.pick (k := 20) (Lim.mk (b := x1.2.2.1) (by assumption))) (by decide); simp only [List.length_append, List.length_cons, List.length_nil]; omega)) | ((have hM := among_rng (x := 16) (y := 17) (Lim.pick (k := 20) (Lim.mk (b := x1.2.2.1) (by assumption))) (by decide); omega)) | ((rw [chars_len]; simp only [List.length_cons, List.length_nil]; omega)) | ((have hM := among_rng (x := 16) (y := 17) (Lim.pick (k := 20) (Lim.mk (b := x1.2.2.1) (by assumption))) (by decide); rw [chars_len]; simp only [List.length_cons, List.length_nil]; omega))) rfl rfl rfl ic_9 rfl <|
            q_callM (full := false) [(0, 0)] [] .n rfl .f en_29 (.cons (.t rfl) (.cons (.t rfl) .nil)) (.cons (.b (.mutp rfl)) (.cons (.b (.a (.same rfl))) .nil)) (c_spec_l26DrawOne (m_spec_l00Src_one (gl00Src.mk x1.1 x1.2.1 x1.2.2.1) 3).2 (at' ([([97] : List UInt8), ([98] : List UInt8), ([99] : List UInt8), ([100] : List UInt8), ([101] : List UInt8), ([102] : List UInt8)] : List (List UInt8)) x1.2.2.2.1) (by (try dsimp only); (with_reducible (first | apply Lim.mono | apply Lim.out | apply LimA.mono)); (repeat (with_reducible (first | assumption | apply Lim.among | apply Lim.one | apply Lim.pick | apply Lim.bend26 | apply Lim.one26 | apply Lim.dmk | apply Lim.d26 | apply Lim.mk))); omega)) ⟨rfl, trivial⟩ rfl rfl (fun h => Bool.noConfusion h) (fun h => Bool.noConfusion h) rfl <|
            q_alloc (l := 205) .n rfl zv_29 rfl rfl <|
            q_st_boxm [.str (m_spec_l26DrawOne (m_spec_l00Src_one (gl00Src.mk x1.1 x1.2.1 x1.2.2.1) 3).2 (at' ([([97] : List UInt8), ([98] : List UInt8), ([99] : List UInt8), ([100] : List UInt8), ([101] : List UInt8), ([102] : List UInt8)] : List (List UInt8)) x1.2.2.2.1)).1.Id, .int .i64 (m_spec_l26DrawOne (m_spec_l00Src_one (gl00Src.mk x1.1 x1.2.1 x1.2.2.1) 3).2 (at' ([([97] : List UInt8), ([98] : List UInt8), ([99] : List UInt8), ([100] : List UInt8), ([101] : List UInt8), ([102] : List UInt8)] : List (List UInt8)) x1.2.2.2.1)).1.Kind, .int .i64 (m_spec_l26DrawOne (m_spec_l00Src_one (gl00Src.mk x1.1 x1.2.1 x1.2.2.1) 3).2 (at' ([([97] : List UInt8), ([98] : List UInt8), ([99] : List UInt8), ([100] : List UInt8), ([101] : List UInt8), ([102] : List UInt8)] : List (List UInt8)) x1.2.2.2.1)).1.Airway, .int .i64 (m_spec_l26DrawOne (m_spec_l00Src_one (gl00Src.mk x1.1 x1.2.1 x1.2.2.1) 3).2 (at' ([([97] : List UInt8), ([98] : List UInt8), ([99] : List UInt8), ([100] : List UInt8), ([101] : List UInt8), ([102] : List UInt8)] : List (List UInt8)) x1.2.2.2.1)).1.From, .int .i64 (m_spec_l26DrawOne (m_spec_l00Src_one (gl00Src.mk x1.1 x1.2.1 x1.2.2.1) 3).2 (at' ([([97] : List UInt8), ([98] : List UInt8), ([99] : List UInt8), ([100] : List UInt8), ([101] : List UInt8), ([102] : List UInt8)] : List (List UInt8)) x1.2.2.2.1)).1.Until] .n rfl (.t rfl) (.t rfl) rfl ts_29 rfl rfl <|
            Lex.nil) ?_
        refine run_seq ?_
        refine run_region (q_fld_ow .n (.t rfl) fo_29_2 rfl <|
            q_ld1_ow .n (.t rfl) rfl (.inr rfl) (fun _ => rfl) rfl ic_2 rfl <|
            q_move .n (.t rfl) rfl <|
            q_rem .n (.t rfl) (.t rfl) (fun hg => by first | omega | assumption | (simp only [List.length_append, List.length_cons, List.length_nil, List.length_replicate, put_len] at * <;> omega) | (exact max1_ne) | ((have hM := among_rng (x := 16) (y := 17) (Lim.pick (k := 20) (Lim.mk (b := x1.2.2.1) (by assumption))) (by decide); simp only [List.length_append, List.length_cons, List.length_nil]; omega)) | ((have hM := among_rng (x := 16) (y := 17) (Lim.pick (k := 20) (Lim.mk (b := x1.2.2.1) (by assumption))) (by decide); omega)) | ((rw [chars_len]; simp only [List.length_cons, List.length_nil]; omega)) | ((have hM := among_rng (x := 16) (y := 17) (Lim.pick (k := 20) (Lim.mk (b := x1.2.2.1) (by assumption))) (by decide); rw [chars_len]; simp only [List.length_cons, List.length_nil]; omega))) rfl <|
            q_fld_ow .n (.t rfl) fo_29_2 rfl <|
            q_st_boxm [.str (m_spec_l26DrawOne (m_spec_l00Src_one (gl00Src.mk x1.1 x1.2.1 x1.2.2.1) 3).2 (at' ([([97] : List UInt8), ([98] : List UInt8), ([99] : List UInt8), ([100] : List UInt8), ([101] : List UInt8), ([102] : List UInt8)] : List (List UInt8)) x1.2.2.2.1)).1.Id, .int .i64 (m_spec_l26DrawOne (m_spec_l00Src_one (gl00Src.mk x1.1 x1.2.1 x1.2.2.1) 3).2 (at' ([([97] : List UInt8), ([98] : List UInt8), ([99] : List UInt8), ([100] : List UInt8), ([101] : List UInt8), ([102] : List UInt8)] : List (List UInt8)) x1.2.2.2.1)).1.Kind, .int .i64 (Int.tmod (m_spec_l26DrawOne (m_spec_l00Src_one (gl00Src.mk x1.1 x1.2.1 x1.2.2.1) 3).2 (at' ([([97] : List UInt8), ([98] : List UInt8), ([99] : List UInt8), ([100] : List UInt8), ([101] : List UInt8), ([102] : List UInt8)] : List (List UInt8)) x1.2.2.2.1)).1.Airway (m_spec_l00Max 1 ((m_spec_l04Draw s_).1.Airways.length : Int))), .int .i64 (m_spec_l26DrawOne (m_spec_l00Src_one (gl00Src.mk x1.1 x1.2.1 x1.2.2.1) 3).2 (at' ([([97] : List UInt8), ([98] : List UInt8), ([99] : List UInt8), ([100] : List UInt8), ([101] : List UInt8), ([102] : List UInt8)] : List (List UInt8)) x1.2.2.2.1)).1.From, .int .i64 (m_spec_l26DrawOne (m_spec_l00Src_one (gl00Src.mk x1.1 x1.2.1 x1.2.2.1) 3).2 (at' ([([97] : List UInt8), ([98] : List UInt8), ([99] : List UInt8), ([100] : List UInt8), ([101] : List UInt8), ([102] : List UInt8)] : List (List UInt8)) x1.2.2.2.1)).1.Until] .n rfl (.t rfl) (.t rfl) rfl ts_2 rfl rfl <|
            Lex.nil) ?_
        refine run_region (q_move .n (.t rfl) rfl <|
            q_ldN_ow .n (.t rfl) rfl (.inr rfl) ag_29 (fun _ => rfl) rfl rfl <|
            q_bslicem ([gPermit.mk (m_spec_l26DrawOne (m_spec_l00Src_one (gl00Src.mk x1.1 x1.2.1 x1.2.2.1) 3).2 (at' ([([97] : List UInt8), ([98] : List UInt8), ([99] : List UInt8), ([100] : List UInt8), ([101] : List UInt8), ([102] : List UInt8)] : List (List UInt8)) x1.2.2.2.1)).1.Id (m_spec_l26DrawOne (m_spec_l00Src_one (gl00Src.mk x1.1 x1.2.1 x1.2.2.1) 3).2 (at' ([([97] : List UInt8), ([98] : List UInt8), ([99] : List UInt8), ([100] : List UInt8), ([101] : List UInt8), ([102] : List UInt8)] : List (List UInt8)) x1.2.2.2.1)).1.Kind (Int.tmod (m_spec_l26DrawOne (m_spec_l00Src_one (gl00Src.mk x1.1 x1.2.1 x1.2.2.1) 3).2 (at' ([([97] : List UInt8), ([98] : List UInt8), ([99] : List UInt8), ([100] : List UInt8), ([101] : List UInt8), ([102] : List UInt8)] : List (List UInt8)) x1.2.2.2.1)).1.Airway (m_spec_l00Max 1 ((m_spec_l04Draw s_).1.Airways.length : Int))) (m_spec_l26DrawOne (m_spec_l00Src_one (gl00Src.mk x1.1 x1.2.1 x1.2.2.1) 3).2 (at' ([([97] : List UInt8), ([98] : List UInt8), ([99] : List UInt8), ([100] : List UInt8), ([101] : List UInt8), ([102] : List UInt8)] : List (List UInt8)) x1.2.2.2.1)).1.From (m_spec_l26DrawOne (m_spec_l00Src_one (gl00Src.mk x1.1 x1.2.1 x1.2.2.1) 3).2 (at' ([([97] : List UInt8), ([98] : List UInt8), ([99] : List UInt8), ([100] : List UInt8), ([101] : List UInt8), ([102] : List UInt8)] : List (List UInt8)) x1.2.2.2.1)).1.Until] : List gPermit) (f := gPermit.v) (l := 206) .n rfl rfl (.cons (.t rfl) .nil) rfl si_27 zv_29 rfl rfl rfl <|
            q_appm (xs := x1.2.2.2.2) (ys := ([gPermit.mk (m_spec_l26DrawOne (m_spec_l00Src_one (gl00Src.mk x1.1 x1.2.1 x1.2.2.1) 3).2 (at' ([([97] : List UInt8), ([98] : List UInt8), ([99] : List UInt8), ([100] : List UInt8), ([101] : List UInt8), ([102] : List UInt8)] : List (List UInt8)) x1.2.2.2.1)).1.Id (m_spec_l26DrawOne (m_spec_l00Src_one (gl00Src.mk x1.1 x1.2.1 x1.2.2.1) 3).2 (at' ([([97] : List UInt8), ([98] : List UInt8), ([99] : List UInt8), ([100] : List UInt8), ([101] : List UInt8), ([102] : List UInt8)] : List (List UInt8)) x1.2.2.2.1)).1.Kind (Int.tmod (m_spec_l26DrawOne (m_spec_l00Src_one (gl00Src.mk x1.1 x1.2.1 x1.2.2.1) 3).2 (at' ([([97] : List UInt8), ([98] : List UInt8), ([99] : List UInt8), ([100] : List UInt8), ([101] : List UInt8), ([102] : List UInt8)] : List (List UInt8)) x1.2.2.2.1)).1.Airway (m_spec_l00Max 1 ((m_spec_l04Draw s_).1.Airways.length : Int))) (m_spec_l26DrawOne (m_spec_l00Src_one (gl00Src.mk x1.1 x1.2.1 x1.2.2.1) 3).2 (at' ([([97] : List UInt8), ([98] : List UInt8), ([99] : List UInt8), ([100] : List UInt8), ([101] : List UInt8), ([102] : List UInt8)] : List (List UInt8)) x1.2.2.2.1)).1.From (m_spec_l26DrawOne (m_spec_l00Src_one (gl00Src.mk x1.1 x1.2.1 x1.2.2.1) 3).2 (at' ([([97] : List UInt8), ([98] : List UInt8), ([99] : List UInt8), ([100] : List UInt8), ([101] : List UInt8), ([102] : List UInt8)] : List (List UInt8)) x1.2.2.2.1)).1.Until] : List gPermit)) (f := gPermit.v) (l := 207) .n rfl (.ow (.t rfl) rfl (take_all (by simp only [len_map, put_len] <;> rfl)) (by simp only [len_map, put_len] <;> rfl)) (.ow (.t rfl) rfl (take_all (by simp only [len_map, put_len] <;> rfl)) (by simp only [len_map, put_len] <;> rfl)) si_27 zv_29 rfl (by first | omega | assumption | (simp only [List.length_append, List.length_cons, List.length_nil, List.length_replicate, put_len] at * <;> omega) | (exact max1_ne) | ((have hM := among_rng (x := 16) (y := 17) (Lim.pick (k := 20) (Lim.mk (b := x1.2.2.1) (by assumption))) (by decide); simp only [List.length_append, List.length_cons, List.length_nil]; omega)) | ((have hM := among_rng (x := 16) (y := 17) (Lim.pick (k := 20) (Lim.mk (b := x1.2.2.1) (by assumption))) (by decide); omega)) | ((rw [chars_len]; simp only [List.length_cons, List.length_nil]; omega)) | ((have hM := among_rng (x := 16) (y := 17) (Lim.pick (k := 20) (Lim.mk (b := x1.2.2.1) (by assumption))) (by decide); rw [chars_len]; simp only [List.length_cons, List.length_nil]; omega))) rfl rfl <|
            q_assign .n (.t rfl) rfl <|
            Lex.nil) ?_
        refine run_endB ?_
        refine run_region (q_move .n (.t rfl) rfl <|
            q_add .n (.t rfl) (.c rfl) (fun _ => by first | omega | assumption | (simp only [List.length_append, List.length_cons, List.length_nil, List.length_replicate, put_len] at * <;> omega) | (exact max1_ne) | ((have hM := among_rng (x := 16) (y := 17) (Lim.pick (k := 20) (Lim.mk (b := x1.2.2.1) (by assumption))) (by decide); simp only [List.length_append, List.length_cons, List.length_nil]; omega)) | ((have hM := among_rng (x := 16) (y := 17) (Lim.pick (k := 20) (Lim.mk (b := x1.2.2.1) (by assumption))) (by decide); omega)) | ((rw [chars_len]; simp only [List.length_cons, List.length_nil]; omega)) | ((have hM := among_rng (x := 16) (y := 17) (Lim.pick (k := 20) (Lim.mk (b := x1.2.2.1) (by assumption))) (by decide); rw [chars_len]; simp only [List.length_cons, List.length_nil]; omega))) rfl <|
            q_assign .n (.t rfl) rfl <|
            Lex.nil) ?_
        exact run_again ((m_spec_l26DrawOne (m_spec_l00Src_one (gl00Src.mk x1.1 x1.2.1 x1.2.2.1) 3).2 (at' ([([97] : List UInt8), ([98] : List UInt8), ([99] : List UInt8), ([100] : List UInt8), ([101] : List UInt8), ([102] : List UInt8)] : List (List UInt8)) x1.2.2.2.1)).2.code, (m_spec_l26DrawOne (m_spec_l00Src_one (gl00Src.mk x1.1 x1.2.1 x1.2.2.1) 3).2 (at' ([([97] : List UInt8), ([98] : List UInt8), ([99] : List UInt8), ([100] : List UInt8), ([101] : List UInt8), ([102] : List UInt8)] : List (List UInt8)) x1.2.2.2.1)).2.at_, (m_spec_l26DrawOne (m_spec_l00Src_one (gl00Src.mk x1.1 x1.2.1 x1.2.2.1) 3).2 (at' ([([97] : List UInt8), ([98] : List UInt8), ([99] : List UInt8), ([100] : List UInt8), ([101] : List UInt8), ([102] : List UInt8)] : List (List UInt8)) x1.2.2.2.1)).2.seed, x1.2.2.2.1 + 1, x1.2.2.2.2 ++ ([gPermit.mk (m_spec_l26DrawOne (m_spec_l00Src_one (gl00Src.mk x1.1 x1.2.1 x1.2.2.1) 3).2 (at' ([([97] : List UInt8), ([98] : List UInt8), ([99] : List UInt8), ([100] : List UInt8), ([101] : List UInt8), ([102] : List UInt8)] : List (List UInt8)) x1.2.2.2.1)).1.Id (m_spec_l26DrawOne (m_spec_l00Src_one (gl00Src.mk x1.1 x1.2.1 x1.2.2.1) 3).2 (at' ([([97] : List UInt8), ([98] : List UInt8), ([99] : List UInt8), ([100] : List UInt8), ([101] : List UInt8), ([102] : List UInt8)] : List (List UInt8)) x1.2.2.2.1)).1.Kind (Int.tmod (m_spec_l26DrawOne (m_spec_l00Src_one (gl00Src.mk x1.1 x1.2.1 x1.2.2.1) 3).2 (at' ([([97] : List UInt8), ([98] : List UInt8), ([99] : List UInt8), ([100] : List UInt8), ([101] : List UInt8), ([102] : List UInt8)] : List (List UInt8)) x1.2.2.2.1)).1.Airway (m_spec_l00Max 1 ((m_spec_l04Draw s_).1.Airways.length : Int))) (m_spec_l26DrawOne (m_spec_l00Src_one (gl00Src.mk x1.1 x1.2.1 x1.2.2.1) 3).2 (at' ([([97] : List UInt8), ([98] : List UInt8), ([99] : List UInt8), ([100] : List UInt8), ([101] : List UInt8), ([102] : List UInt8)] : List (List UInt8)) x1.2.2.2.1)).1.From (m_spec_l26DrawOne (m_spec_l00Src_one (gl00Src.mk x1.1 x1.2.1 x1.2.2.1) 3).2 (at' ([([97] : List UInt8), ([98] : List UInt8), ([99] : List UInt8), ([100] : List UInt8), ([101] : List UInt8), ([102] : List UInt8)] : List (List UInt8)) x1.2.2.2.1)).1.Until] : List gPermit)) ⟨by first | omega | assumption | (simp only [List.length_append, List.length_cons, List.length_nil, List.length_replicate, put_len] at * <;> omega) | (exact max1_ne) | ((have hM := among_rng (x := 16) (y := 17) (Lim.pick (k := 20) (Lim.mk (b := x1.2.2.1) (by assumption))) (by decide); simp only [List.length_append, List.length_cons, List.length_nil]; omega)) | ((have hM := among_rng (x := 16) (y := 17) (Lim.pick (k := 20) (Lim.mk (b := x1.2.2.1) (by assumption))) (by decide); omega)) | ((rw [chars_len]; simp only [List.length_cons, List.length_nil]; omega)) | ((have hM := among_rng (x := 16) (y := 17) (Lim.pick (k := 20) (Lim.mk (b := x1.2.2.1) (by assumption))) (by decide); rw [chars_len]; simp only [List.length_cons, List.length_nil]; omega)), by first | omega | assumption | (simp only [List.length_append, List.length_cons, List.length_nil, List.length_replicate, put_len] at * <;> omega) | (exact max1_ne) | ((have hM := among_rng (x := 16) (y := 17) (Lim.pick (k := 20) (Lim.mk (b := x1.2.2.1) (by assumption))) (by decide); simp only [List.length_append, List.length_cons, List.length_nil]; omega)) | ((have hM := among_rng (x := 16) (y := 17) (Lim.pick (k := 20) (Lim.mk (b := x1.2.2.1) (by assumption))) (by decide); omega)) | ((rw [chars_len]; simp only [List.length_cons, List.length_nil]; omega)) | ((have hM := among_rng (x := 16) (y := 17) (Lim.pick (k := 20) (Lim.mk (b := x1.2.2.1) (by assumption))) (by decide); rw [chars_len]; simp only [List.length_cons, List.length_nil]; omega)), by first | omega | assumption | (simp only [List.length_append, List.length_cons, List.length_nil, List.length_replicate, put_len] at * <;> omega) | (exact max1_ne) | ((have hM := among_rng (x := 16) (y := 17) (Lim.pick (k := 20) (Lim.mk (b := x1.2.2.1) (by assumption))) (by decide); simp only [List.length_append, List.length_cons, List.length_nil]; omega)) | ((have hM := among_rng (x := 16) (y := 17) (Lim.pick (k := 20) (Lim.mk (b := x1.2.2.1) (by assumption))) (by decide); omega)) | ((rw [chars_len]; simp only [List.length_cons, List.length_nil]; omega)) | ((have hM := among_rng (x := 16) (y := 17) (Lim.pick (k := 20) (Lim.mk (b := x1.2.2.1) (by assumption))) (by decide); rw [chars_len]; simp only [List.length_cons, List.length_nil]; omega)), by first | omega | assumption | (simp only [List.length_append, List.length_cons, List.length_nil, List.length_replicate, put_len] at * <;> omega) | (exact max1_ne) | ((have hM := among_rng (x := 16) (y := 17) (Lim.pick (k := 20) (Lim.mk (b := x1.2.2.1) (by assumption))) (by decide); simp only [List.length_append, List.length_cons, List.length_nil]; omega)) | ((have hM := among_rng (x := 16) (y := 17) (Lim.pick (k := 20) (Lim.mk (b := x1.2.2.1) (by assumption))) (by decide); omega)) | ((rw [chars_len]; simp only [List.length_cons, List.length_nil]; omega)) | ((have hM := among_rng (x := 16) (y := 17) (Lim.pick (k := 20) (Lim.mk (b := x1.2.2.1) (by assumption))) (by decide); rw [chars_len]; simp only [List.length_cons, List.length_nil]; omega)), by (try dsimp only); (with_reducible (first | apply Lim.mono | apply Lim.out | apply LimA.mono)); (repeat (with_reducible (first | assumption | apply Lim.among | apply Lim.one | apply Lim.pick | apply Lim.bend26 | apply Lim.one26 | apply Lim.dmk | apply Lim.d26 | apply Lim.mk))); omega⟩ (by first | omega | assumption | (simp only [List.length_append, List.length_cons, List.length_nil, List.length_replicate, put_len] at * <;> omega) | (exact max1_ne) | ((have hM := among_rng (x := 16) (y := 17) (Lim.pick (k := 20) (Lim.mk (b := x1.2.2.1) (by assumption))) (by decide); simp only [List.length_append, List.length_cons, List.length_nil]; omega)) | ((have hM := among_rng (x := 16) (y := 17) (Lim.pick (k := 20) (Lim.mk (b := x1.2.2.1) (by assumption))) (by decide); omega)) | ((rw [chars_len]; simp only [List.length_cons, List.length_nil]; omega)) | ((have hM := among_rng (x := 16) (y := 17) (Lim.pick (k := 20) (Lim.mk (b := x1.2.2.1) (by assumption))) (by decide); rw [chars_len]; simp only [List.length_cons, List.length_nil]; omega))) (sub_of [(204, 207)] ⟨rfl, rfl, rfl, rfl, rfl, rfl, rfl, trivial⟩ ⟨rfl, rfl, rfl, rfl, rfl, rfl, trivial⟩ rfl)
    · try simp only [Bool.and_eq_true, Bool.or_eq_true, Bool.not_eq_true', Bool.and_eq_false_iff, Bool.or_eq_false_iff, Bool.not_eq_false', decide_eq_true_eq, decide_eq_false_iff_not, beq_iff_eq, bne_iff_ne, beq_eq_false_iff_ne, bne_eq_false_iff_eq, Bool.true_and, ne_eq, Decidable.not_not, Int.not_lt, Int.not_le, Nat.not_lt, Nat.not_le, strB_nil, strB_nil', strB_nnil, strB_nnil'] at h3
      refine run_exit rfl ?_
      exact run_cont hk1 (x1.1, x1.2.1, x1.2.2.1, x1.2.2.2.1, x1.2.2.2.2) ⟨by first | omega | assumption | (simp only [List.length_append, List.length_cons, List.length_nil, List.length_replicate, put_len] at * <;> omega) | (exact max1_ne) | ((have hM := among_rng (x := 16) (y := 17) (Lim.pick (k := 20) (Lim.mk (b := x1.2.2.1) (by assumption))) (by decide); simp only [List.length_append, List.length_cons, List.length_nil]; omega)) | ((have hM := among_rng (x := 16) (y := 17) (Lim.pick (k := 20) (Lim.mk (b := x1.2.2.1) (by assumption))) (by decide); omega)) | ((rw [chars_len]; simp only [List.length_cons, List.length_nil]; omega)) | ((have hM := among_rng (x := 16) (y := 17) (Lim.pick (k := 20) (Lim.mk (b := x1.2.2.1) (by assumption))) (by decide); rw [chars_len]; simp only [List.length_cons, List.length_nil]; omega)), by first | omega | assumption | (simp only [List.length_append, List.length_cons, List.length_nil, List.length_replicate, put_len] at * <;> omega) | (exact max1_ne) | ((have hM := among_rng (x := 16) (y := 17) (Lim.pick (k := 20) (Lim.mk (b := x1.2.2.1) (by assumption))) (by decide); simp only [List.length_append, List.length_cons, List.length_nil]; omega)) | ((have hM := among_rng (x := 16) (y := 17) (Lim.pick (k := 20) (Lim.mk (b := x1.2.2.1) (by assumption))) (by decide); omega)) | ((rw [chars_len]; simp only [List.length_cons, List.length_nil]; omega)) | ((have hM := among_rng (x := 16) (y := 17) (Lim.pick (k := 20) (Lim.mk (b := x1.2.2.1) (by assumption))) (by decide); rw [chars_len]; simp only [List.length_cons, List.length_nil]; omega)), by first | omega | assumption | (simp only [List.length_append, List.length_cons, List.length_nil, List.length_replicate, put_len] at * <;> omega) | (exact max1_ne) | ((have hM := among_rng (x := 16) (y := 17) (Lim.pick (k := 20) (Lim.mk (b := x1.2.2.1) (by assumption))) (by decide); simp only [List.length_append, List.length_cons, List.length_nil]; omega)) | ((have hM := among_rng (x := 16) (y := 17) (Lim.pick (k := 20) (Lim.mk (b := x1.2.2.1) (by assumption))) (by decide); omega)) | ((rw [chars_len]; simp only [List.length_cons, List.length_nil]; omega)) | ((have hM := among_rng (x := 16) (y := 17) (Lim.pick (k := 20) (Lim.mk (b := x1.2.2.1) (by assumption))) (by decide); rw [chars_len]; simp only [List.length_cons, List.length_nil]; omega)), by first | omega | assumption | (simp only [List.length_append, List.length_cons, List.length_nil, List.length_replicate, put_len] at * <;> omega) | (exact max1_ne) | ((have hM := among_rng (x := 16) (y := 17) (Lim.pick (k := 20) (Lim.mk (b := x1.2.2.1) (by assumption))) (by decide); simp only [List.length_append, List.length_cons, List.length_nil]; omega)) | ((have hM := among_rng (x := 16) (y := 17) (Lim.pick (k := 20) (Lim.mk (b := x1.2.2.1) (by assumption))) (by decide); omega)) | ((rw [chars_len]; simp only [List.length_cons, List.length_nil]; omega)) | ((have hM := among_rng (x := 16) (y := 17) (Lim.pick (k := 20) (Lim.mk (b := x1.2.2.1) (by assumption))) (by decide); rw [chars_len]; simp only [List.length_cons, List.length_nil]; omega)), by (try dsimp only); (with_reducible (first | apply Lim.mono | apply Lim.out | apply LimA.mono)); (repeat (with_reducible (first | assumption | apply Lim.among | apply Lim.one | apply Lim.pick | apply Lim.bend26 | apply Lim.one26 | apply Lim.dmk | apply Lim.d26 | apply Lim.mk))); omega, by first | omega | assumption | (simp only [List.length_append, List.length_cons, List.length_nil, List.length_replicate, put_len] at * <;> omega) | (exact max1_ne) | ((have hM := among_rng (x := 16) (y := 17) (Lim.pick (k := 20) (Lim.mk (b := x1.2.2.1) (by assumption))) (by decide); simp only [List.length_append, List.length_cons, List.length_nil]; omega)) | ((have hM := among_rng (x := 16) (y := 17) (Lim.pick (k := 20) (Lim.mk (b := x1.2.2.1) (by assumption))) (by decide); omega)) | ((rw [chars_len]; simp only [List.length_cons, List.length_nil]; omega)) | ((have hM := among_rng (x := 16) (y := 17) (Lim.pick (k := 20) (Lim.mk (b := x1.2.2.1) (by assumption))) (by decide); rw [chars_len]; simp only [List.length_cons, List.length_nil]; omega))⟩ (sub_of [] ⟨rfl, rfl, rfl, rfl, trivial⟩ ⟨rfl, rfl, rfl, rfl, rfl, trivial⟩ rfl)

/-! ### spec_DrawFirstStart -/
set_option maxRecDepth 100000 in
theorem c_spec_DrawFirstStart (code : List Int) (hp1 : ∀ y ∈ code, 0 ≤ y ∧ y ≤ 255) : Con Try.prog 7 [.sl 1 (code.map (V.int .u8))] [] (.tup [.st [.int .i64 (m_spec_DrawFirstStart code).1.Junctions, .os 100 (m_spec_DrawFirstStart code).1.Airways.length], .os 101 (m_spec_DrawFirstStart code).2.1.length, .st [.str (m_spec_DrawFirstStart code).2.2.Id, .int .i64 (m_spec_DrawFirstStart code).2.2.Kind, .int .i64 (m_spec_DrawFirstStart code).2.2.Airway, .int .i64 (m_spec_DrawFirstStart code).2.2.From, .int .i64 (m_spec_DrawFirstStart code).2.2.Until]]) ([(100, some (.row 66 7 ((m_spec_DrawFirstStart code).1.Airways.map gAirway.v))), (101, some (.row 29 5 ((m_spec_DrawFirstStart code).2.1.map gPermit.v)))]) := by
  refine con_intro (out := fun r : gMine × (List gPermit) × gPermit => ((.tup [.st [.int .i64 r.1.Junctions, .os 100 r.1.Airways.length], .os 101 r.2.1.length, .st [.str r.2.2.Id, .int .i64 r.2.2.Kind, .int .i64 r.2.2.Airway, .int .i64 r.2.2.From, .int .i64 r.2.2.Until]] : V), ([(100, some (.row 66 7 (r.1.Airways.map gAirway.v))), (101, some (.row 29 5 (r.2.1.map gPermit.v)))] : List (Nat × Option O)))) (r := (m_spec_DrawFirstStart code)) Try.func7 rfl Try.ntmps7 rfl ?_
  have hF := Lim.from hp1
  refine run_fact (t := 0) rfl fun hl => ?_
  have l1 := hl; clear hl; simp only [List.length_map] at l1
  refine run_seq ?_
  refine run_region (q_alloc (l := 200) .n rfl zv_26 rfl rfl <|
      q_assign .n (.c rfl) rfl <|
      q_alloc (l := 201) .n rfl zv_29 rfl rfl <|
      Lex.nil) ?_
  refine run_seq ?_
  refine run_region (q_move .n (.t rfl) rfl <|
      q_callM (full := false) [] [(100, 202)] .n rfl .f en_26 (.cons (.t rfl) .nil) (.cons (.b (.a (.same rfl))) .nil) (c_spec_l00From code) trivial rfl rfl (fun h => Bool.noConfusion h) (fun h => Bool.noConfusion h) rfl <|
      q_assign .n (.t rfl) rfl <|
      Lex.nil) ?_
  refine run_seq ?_
  refine run_region (q_move .n (.t rfl) rfl <|
      q_callM (full := false) [(0, 202)] [(100, 203), (101, 204)] .n rfl .f en_27 (.cons (.t rfl) .nil) (.cons (.b (.mutp rfl)) .nil) (c_spec_l26Draw (m_spec_l00From code) (by (try dsimp only); (with_reducible (first | apply Lim.mono | apply Lim.out | apply LimA.mono)); (repeat (with_reducible (first | assumption | apply Lim.among | apply Lim.one | apply Lim.pick | apply Lim.bend26 | apply Lim.one26 | apply Lim.dmk | apply Lim.d26 | apply Lim.mk))); omega)) ⟨rfl, trivial⟩ rfl rfl (fun h => Bool.noConfusion h) (fun h => Bool.noConfusion h) rfl <|
      q_move .n (.t rfl) rfl <|
      q_ext .n (.t rfl) rfl rfl rfl <|
      q_ext .n (.t rfl) rfl rfl rfl <|
      q_alloc (l := 205) .n rfl zv_26 rfl rfl <|
      q_st_boxm [.int .i64 (m_spec_l26Draw (m_spec_l00From code)).1.Junctions, .os 203 (m_spec_l26Draw (m_spec_l00From code)).1.Airways.length] .n rfl (.t rfl) (.t rfl) rfl ts_26 rfl rfl <|
      q_assign .n (.t rfl) rfl <|
      Lex.nil) ?_
  refine run_seq ?_
  refine run_region (q_move .n (.t rfl) rfl <|
      q_move .n (.t rfl) rfl <|
      q_callM (full := false) [(0, 202)] [] .n rfl .f en_29 (.cons (.t rfl) (.cons (.c rfl) .nil)) (.cons (.b (.mutp rfl)) (.cons (.b (.a (.same rfl))) .nil)) (c_spec_l26DrawOne (m_spec_l26Draw (m_spec_l00From code)).2.2 ([110, 101, 119] : List UInt8) (by (try dsimp only); (with_reducible (first | apply Lim.mono | apply Lim.out | apply LimA.mono)); (repeat (with_reducible (first | assumption | apply Lim.among | apply Lim.one | apply Lim.pick | apply Lim.bend26 | apply Lim.one26 | apply Lim.dmk | apply Lim.d26 | apply Lim.mk))); omega)) ⟨rfl, trivial⟩ rfl rfl (fun h => Bool.noConfusion h) (fun h => Bool.noConfusion h) rfl <|
      q_callM (full := false) [(0, 202)] [] .n rfl .f en_28 (.cons (.t rfl) (.cons (.t rfl) .nil)) (.cons (.b (.mutp rfl)) (.cons (.sts rfl) .nil)) (c_spec_l26Bend (m_spec_l26DrawOne (m_spec_l26Draw (m_spec_l00From code)).2.2 ([110, 101, 119] : List UInt8)).2 (m_spec_l26DrawOne (m_spec_l26Draw (m_spec_l00From code)).2.2 ([110, 101, 119] : List UInt8)).1 (by (try dsimp only); (with_reducible (first | apply Lim.mono | apply Lim.out | apply LimA.mono)); (repeat (with_reducible (first | assumption | apply Lim.among | apply Lim.one | apply Lim.pick | apply Lim.bend26 | apply Lim.one26 | apply Lim.dmk | apply Lim.d26 | apply Lim.mk))); omega)) ⟨rfl, trivial⟩ rfl rfl (fun h => Bool.noConfusion h) (fun h => Bool.noConfusion h) rfl <|
      q_alloc (l := 206) .n rfl zv_29 rfl rfl <|
      q_st_boxm [.str (m_spec_l26Bend (m_spec_l26DrawOne (m_spec_l26Draw (m_spec_l00From code)).2.2 ([110, 101, 119] : List UInt8)).2 (m_spec_l26DrawOne (m_spec_l26Draw (m_spec_l00From code)).2.2 ([110, 101, 119] : List UInt8)).1).1.Id, .int .i64 (m_spec_l26Bend (m_spec_l26DrawOne (m_spec_l26Draw (m_spec_l00From code)).2.2 ([110, 101, 119] : List UInt8)).2 (m_spec_l26DrawOne (m_spec_l26Draw (m_spec_l00From code)).2.2 ([110, 101, 119] : List UInt8)).1).1.Kind, .int .i64 (m_spec_l26Bend (m_spec_l26DrawOne (m_spec_l26Draw (m_spec_l00From code)).2.2 ([110, 101, 119] : List UInt8)).2 (m_spec_l26DrawOne (m_spec_l26Draw (m_spec_l00From code)).2.2 ([110, 101, 119] : List UInt8)).1).1.Airway, .int .i64 (m_spec_l26Bend (m_spec_l26DrawOne (m_spec_l26Draw (m_spec_l00From code)).2.2 ([110, 101, 119] : List UInt8)).2 (m_spec_l26DrawOne (m_spec_l26Draw (m_spec_l00From code)).2.2 ([110, 101, 119] : List UInt8)).1).1.From, .int .i64 (m_spec_l26Bend (m_spec_l26DrawOne (m_spec_l26Draw (m_spec_l00From code)).2.2 ([110, 101, 119] : List UInt8)).2 (m_spec_l26DrawOne (m_spec_l26Draw (m_spec_l00From code)).2.2 ([110, 101, 119] : List UInt8)).1).1.Until] .n rfl (.t rfl) (.t rfl) rfl ts_29 rfl rfl <|
      Lex.nil) ?_
  refine run_seq ?_
  refine run_seq ?_
  refine run_region (q_move .n (.t rfl) rfl <|
      q_callM (full := false) [(0, 202)] [] .n rfl .f en_30 (.cons (.t rfl) (.cons (.c rfl) .nil)) (.cons (.b (.mutp rfl)) (.cons (.b (.a (.same rfl))) .nil)) (c_spec_l00Src_one (m_spec_l26Bend (m_spec_l26DrawOne (m_spec_l26Draw (m_spec_l00From code)).2.2 ([110, 101, 119] : List UInt8)).2 (m_spec_l26DrawOne (m_spec_l26Draw (m_spec_l00From code)).2.2 ([110, 101, 119] : List UInt8)).1).2 8 (by (try dsimp only); (with_reducible (first | apply Lim.mono | apply Lim.out | apply LimA.mono)); (repeat (with_reducible (first | assumption | apply Lim.among | apply Lim.one | apply Lim.pick | apply Lim.bend26 | apply Lim.one26 | apply Lim.dmk | apply Lim.d26 | apply Lim.mk))); omega)) ⟨rfl, trivial⟩ rfl rfl (fun h => Bool.noConfusion h) (fun h => Bool.noConfusion h) rfl <|
      Lex.nil) ?_
  refine run_cond (.t rfl) rfl (fun h2 => ?_) (fun h2 => ?_)
  · try simp only [Bool.and_eq_true, Bool.or_eq_true, Bool.not_eq_true', Bool.and_eq_false_iff, Bool.or_eq_false_iff, Bool.not_eq_false', decide_eq_true_eq, decide_eq_false_iff_not, beq_iff_eq, bne_iff_ne, beq_eq_false_iff_ne, bne_eq_false_iff_eq, Bool.true_and, ne_eq, Decidable.not_not, Int.not_lt, Int.not_le, Nat.not_lt, Nat.not_le, strB_nil, strB_nil', strB_nnil, strB_nnil'] at h2
    refine run_region (q_fld_ow .n (.t rfl) fo_29_3 rfl <|
        q_ld1_ow .n (.t rfl) rfl (.inr rfl) (fun _ => rfl) rfl ic_2 rfl <|
        q_int .n (.t rfl) (.c rfl) rfl rfl <|
        q_fld_ow .n (.t rfl) fo_29_4 rfl <|
        q_st_boxm [.str (m_spec_l26Bend (m_spec_l26DrawOne (m_spec_l26Draw (m_spec_l00From code)).2.2 ([110, 101, 119] : List UInt8)).2 (m_spec_l26DrawOne (m_spec_l26Draw (m_spec_l00From code)).2.2 ([110, 101, 119] : List UInt8)).1).1.Id, .int .i64 (m_spec_l26Bend (m_spec_l26DrawOne (m_spec_l26Draw (m_spec_l00From code)).2.2 ([110, 101, 119] : List UInt8)).2 (m_spec_l26DrawOne (m_spec_l26Draw (m_spec_l00From code)).2.2 ([110, 101, 119] : List UInt8)).1).1.Kind, .int .i64 (m_spec_l26Bend (m_spec_l26DrawOne (m_spec_l26Draw (m_spec_l00From code)).2.2 ([110, 101, 119] : List UInt8)).2 (m_spec_l26DrawOne (m_spec_l26Draw (m_spec_l00From code)).2.2 ([110, 101, 119] : List UInt8)).1).1.Airway, .int .i64 (m_spec_l26Bend (m_spec_l26DrawOne (m_spec_l26Draw (m_spec_l00From code)).2.2 ([110, 101, 119] : List UInt8)).2 (m_spec_l26DrawOne (m_spec_l26Draw (m_spec_l00From code)).2.2 ([110, 101, 119] : List UInt8)).1).1.From, .int .i64 (IntKind.wrap .i64 ((m_spec_l26Bend (m_spec_l26DrawOne (m_spec_l26Draw (m_spec_l00From code)).2.2 ([110, 101, 119] : List UInt8)).2 (m_spec_l26DrawOne (m_spec_l26Draw (m_spec_l00From code)).2.2 ([110, 101, 119] : List UInt8)).1).1.From + 99800))] .n rfl (.t rfl) (.t rfl) rfl ts_2 rfl rfl <|
        Lex.nil) ?_
    refine run_seq ?_
    refine run_draw fmo (q_ldN_ow .n (.t rfl) rfl (.inr rfl) ag_26 (fun _ => rfl) rfl rfl <|
        q_move .n (.t rfl) rfl <|
        q_ldN_ow .n (.t rfl) rfl (.inr rfl) ag_29 (fun _ => rfl) rfl rfl <|
        q_st_boxm [.int .i64 (m_spec_l26Draw (m_spec_l00From code)).1.Junctions, .os 203 (m_spec_l26Draw (m_spec_l00From code)).1.Airways.length] .n rfl (.t rfl) (.t rfl) rfl ts_26 rfl rfl <|
        q_assign .n (.t rfl) rfl <|
        q_st_boxm [.str (m_spec_l26Bend (m_spec_l26DrawOne (m_spec_l26Draw (m_spec_l00From code)).2.2 ([110, 101, 119] : List UInt8)).2 (m_spec_l26DrawOne (m_spec_l26Draw (m_spec_l00From code)).2.2 ([110, 101, 119] : List UInt8)).1).1.Id, .int .i64 (m_spec_l26Bend (m_spec_l26DrawOne (m_spec_l26Draw (m_spec_l00From code)).2.2 ([110, 101, 119] : List UInt8)).2 (m_spec_l26DrawOne (m_spec_l26Draw (m_spec_l00From code)).2.2 ([110, 101, 119] : List UInt8)).1).1.Kind, .int .i64 (m_spec_l26Bend (m_spec_l26DrawOne (m_spec_l26Draw (m_spec_l00From code)).2.2 ([110, 101, 119] : List UInt8)).2 (m_spec_l26DrawOne (m_spec_l26Draw (m_spec_l00From code)).2.2 ([110, 101, 119] : List UInt8)).1).1.Airway, .int .i64 (m_spec_l26Bend (m_spec_l26DrawOne (m_spec_l26Draw (m_spec_l00From code)).2.2 ([110, 101, 119] : List UInt8)).2 (m_spec_l26DrawOne (m_spec_l26Draw (m_spec_l00From code)).2.2 ([110, 101, 119] : List UInt8)).1).1.From, .int .i64 (IntKind.wrap .i64 ((m_spec_l26Bend (m_spec_l26DrawOne (m_spec_l26Draw (m_spec_l00From code)).2.2 ([110, 101, 119] : List UInt8)).2 (m_spec_l26DrawOne (m_spec_l26Draw (m_spec_l00From code)).2.2 ([110, 101, 119] : List UInt8)).1).1.From + 99800))] .n rfl (.t rfl) (.t rfl) rfl ts_29 rfl rfl <|
        Lex.nil) (by kernel_rfl) ?_
    exact run_ret [(100, 203), (101, 204)] (.cons (.cN rfl rfl ag_26 rfl rfl) (.cons (.t rfl rfl) (.cons (.cN rfl rfl ag_29 rfl rfl) .nil))) (by first | rfl | (simp only [put_len]; rfl)) ⟨rfl, rfl, trivial⟩ rfl
  · try simp only [Bool.and_eq_true, Bool.or_eq_true, Bool.not_eq_true', Bool.and_eq_false_iff, Bool.or_eq_false_iff, Bool.not_eq_false', decide_eq_true_eq, decide_eq_false_iff_not, beq_iff_eq, bne_iff_ne, beq_eq_false_iff_ne, bne_eq_false_iff_eq, Bool.true_and, ne_eq, Decidable.not_not, Int.not_lt, Int.not_le, Nat.not_lt, Nat.not_le, strB_nil, strB_nil', strB_nnil, strB_nnil'] at h2
    refine run_skip ?_
    refine run_seq ?_
    refine run_draw fmo (q_ldN_ow .n (.t rfl) rfl (.inr rfl) ag_26 (fun _ => rfl) rfl rfl <|
        q_move .n (.t rfl) rfl <|
        q_ldN_ow .n (.t rfl) rfl (.inr rfl) ag_29 (fun _ => rfl) rfl rfl <|
        q_st_boxm [.int .i64 (m_spec_l26Draw (m_spec_l00From code)).1.Junctions, .os 203 (m_spec_l26Draw (m_spec_l00From code)).1.Airways.length] .n rfl (.t rfl) (.t rfl) rfl ts_26 rfl rfl <|
        q_assign .n (.t rfl) rfl <|
        q_st_boxm [.str (m_spec_l26Bend (m_spec_l26DrawOne (m_spec_l26Draw (m_spec_l00From code)).2.2 ([110, 101, 119] : List UInt8)).2 (m_spec_l26DrawOne (m_spec_l26Draw (m_spec_l00From code)).2.2 ([110, 101, 119] : List UInt8)).1).1.Id, .int .i64 (m_spec_l26Bend (m_spec_l26DrawOne (m_spec_l26Draw (m_spec_l00From code)).2.2 ([110, 101, 119] : List UInt8)).2 (m_spec_l26DrawOne (m_spec_l26Draw (m_spec_l00From code)).2.2 ([110, 101, 119] : List UInt8)).1).1.Kind, .int .i64 (m_spec_l26Bend (m_spec_l26DrawOne (m_spec_l26Draw (m_spec_l00From code)).2.2 ([110, 101, 119] : List UInt8)).2 (m_spec_l26DrawOne (m_spec_l26Draw (m_spec_l00From code)).2.2 ([110, 101, 119] : List UInt8)).1).1.Airway, .int .i64 (m_spec_l26Bend (m_spec_l26DrawOne (m_spec_l26Draw (m_spec_l00From code)).2.2 ([110, 101, 119] : List UInt8)).2 (m_spec_l26DrawOne (m_spec_l26Draw (m_spec_l00From code)).2.2 ([110, 101, 119] : List UInt8)).1).1.From, .int .i64 (m_spec_l26Bend (m_spec_l26DrawOne (m_spec_l26Draw (m_spec_l00From code)).2.2 ([110, 101, 119] : List UInt8)).2 (m_spec_l26DrawOne (m_spec_l26Draw (m_spec_l00From code)).2.2 ([110, 101, 119] : List UInt8)).1).1.Until] .n rfl (.t rfl) (.t rfl) rfl ts_29 rfl rfl <|
        Lex.nil) (by kernel_rfl) ?_
    exact run_ret [(100, 203), (101, 204)] (.cons (.cN rfl rfl ag_26 rfl rfl) (.cons (.t rfl rfl) (.cons (.cN rfl rfl ag_29 rfl rfl) .nil))) (by first | rfl | (simp only [put_len]; rfl)) ⟨rfl, rfl, trivial⟩ rfl

/-! ### impl_within -/
theorem c_impl_within (n_ : Int) (low : Int) (high : Int) : Con Try.prog 39 [.int .i64 n_, .int .i64 low, .int .i64 high] [] (.bool (m_impl_within n_ low high)) ([]) := by
  refine con_intro (out := fun r : Bool => ((.bool r : V), ([] : List (Nat × Option O)))) (r := (m_impl_within n_ low high)) Try.func39 rfl Try.ntmps39 rfl ?_
  refine run_seq ?_
  refine run_region (q_assign .n (.c rfl) rfl <|
      Lex.nil) ?_
  refine run_seq ?_
  refine run_region (q_move .n (.t rfl) rfl <|
      q_move .n (.t rfl) rfl <|
      q_int .n (.t rfl) (.t rfl) rfl rfl <|
      q_move .n (.t rfl) rfl <|
      q_move (.t rfl rfl) (.t rfl) rfl <|
      q_move (.t rfl rfl) (.t rfl) rfl <|
      q_int (.t rfl rfl) (.u rfl id) (.u rfl id) rfl rfl <|
      q_and .n (.t rfl) (.u rfl id) rfl <|
      q_assign .n (.t rfl) rfl <|
      Lex.nil) ?_
  exact run_ret [] (.cons (.t rfl rfl) .nil) rfl trivial rfl

/-! ### impl_onlyNameBytes -/
theorem c_impl_onlyNameBytes (s_ : List UInt8) (hp1 : s_.length ≤ 10) : Con Try.prog 89 [.str s_] [] (.bool (m_impl_onlyNameBytes s_)) ([]) := by
  refine con_intro (out := fun r : Bool => ((.bool r : V), ([] : List (Nat × Option O)))) (r := (m_impl_onlyNameBytes s_)) Try.func89 rfl Try.ntmps89 rfl ?_
  refine run_seq ?_
  refine run_region (q_assign .n (.c rfl) rfl <|
      Lex.nil) ?_
  refine run_seq ?_
  refine run_seq ?_
  refine run_region (q_move .n (.t rfl) rfl <|
      q_len .n (.t rfl) rfl rfl st_9 rfl <|
      q_move .n (.c rfl) rfl <|
      Lex.nil) ?_
  refine run_block ?_
  refine run_LOOP (m_impl_onlyNameBytes_b1 s_) _ _ _ rfl (fun (x1 : Int) => 0 ≤ x1 ∧ x1 ≤ (s_.length : Int)) (fun x1 => 0 ≤ x1 ∧ x1 ≤ (s_.length : Int) ∧ (s_.length : Int) ≤ x1) (fun x1 => ((s_.length : Int) - x1 : Int).toNat) (fun x1 => ⟨[(0, some (true, .str s_)), (6, some (true, .int .i64 (s_.length : Int))), (7, some (true, .int .i64 x1))], []⟩) (fun x1 => ⟨[], []⟩) ⟨by first | omega | assumption | (simp only [List.length_append, List.length_cons, List.length_nil, List.length_replicate, put_len] at * <;> omega), by first | omega | assumption | (simp only [List.length_append, List.length_cons, List.length_nil, List.length_replicate, put_len] at * <;> omega)⟩ (by first | omega | assumption | (simp only [List.length_append, List.length_cons, List.length_nil, List.length_replicate, put_len] at * <;> omega)) (sub_of [] ⟨rfl, rfl, rfl, trivial⟩ trivial rfl) ?_ ?_
  · intro x1 i5
    obtain ⟨e6, e7, e8⟩ := i5
    try dsimp only at *
    refine run_seq ?_
    refine run_region (q_assign .n (.c rfl) rfl <|
        Lex.nil) ?_
    exact run_ret [] (.cons (.t rfl rfl) .nil) rfl trivial rfl
  · intro rec1 k1 hk1 x1 i2
    obtain ⟨e9, e10⟩ := i2
    try dsimp only at *
    refine run_seq ?_
    refine run_region (q_int .n (.t rfl) (.t rfl) rfl rfl <|
        Lex.nil) ?_
    refine run_seq ?_
    refine run_cond (.t rfl) rfl (fun h3 => ?_) (fun h3 => ?_)
    · try simp only [Bool.and_eq_true, Bool.or_eq_true, Bool.not_eq_true', Bool.and_eq_false_iff, Bool.or_eq_false_iff, Bool.not_eq_false', decide_eq_true_eq, decide_eq_false_iff_not, beq_iff_eq, bne_iff_ne, beq_eq_false_iff_ne, bne_eq_false_iff_eq, Bool.true_and, ne_eq, Decidable.not_not, Int.not_lt, Int.not_le, Nat.not_lt, Nat.not_le, strB_nil, strB_nil', strB_nnil, strB_nnil'] at h3
      refine run_skip ?_
      refine run_seq ?_
      refine run_block ?_
      refine run_seq ?_
      refine run_region (q_move .n (.t rfl) rfl <|
          q_assign .n (.t rfl) rfl <|
          Lex.nil) ?_
      refine run_seq ?_
      refine run_region (q_move .n (.t rfl) rfl <|
          q_move .n (.t rfl) rfl <|
          q_strat .n (.t rfl) (.t rfl) st_9 (fun _ => by first | omega | assumption | (simp only [List.length_append, List.length_cons, List.length_nil, List.length_replicate, put_len] at * <;> omega)) rfl <|
          q_assign .n (.t rfl) rfl <|
          Lex.nil) ?_
      refine run_seq ?_
      refine run_region (q_move .n (.t rfl) rfl <|
          q_int .n (.t rfl) (.c rfl) rfl rfl <|
          q_move .n (.t rfl) rfl <|
          q_move (.f rfl rfl) (.t rfl) rfl <|
          q_int (.f rfl rfl) (.u rfl id) (.c rfl) rfl rfl <|
          q_or .n (.t rfl) (.u rfl id) rfl <|
          q_move .n (.t rfl) rfl <|
          q_move (.t rfl rfl) (.t rfl) rfl <|
          q_int (.t rfl rfl) (.u rfl id) (.c rfl) rfl rfl <|
          q_move (.t rfl rfl) (.u rfl id) rfl <|
          q_move (.f rfl rfl) (.t rfl) rfl <|
          q_int (.f rfl rfl) (.u rfl id) (.c rfl) rfl rfl <|
          q_or (.t rfl rfl) (.u rfl id) (.u rfl id) rfl <|
          q_and .n (.t rfl) (.u rfl id) rfl <|
          Lex.nil) ?_
      refine run_cond (.t rfl) rfl (fun h4 => ?_) (fun h4 => ?_)
      · try simp only [Bool.and_eq_true, Bool.or_eq_true, Bool.not_eq_true', Bool.and_eq_false_iff, Bool.or_eq_false_iff, Bool.not_eq_false', decide_eq_true_eq, decide_eq_false_iff_not, beq_iff_eq, bne_iff_ne, beq_eq_false_iff_ne, bne_eq_false_iff_eq, Bool.true_and, ne_eq, Decidable.not_not, Int.not_lt, Int.not_le, Nat.not_lt, Nat.not_le, strB_nil, strB_nil', strB_nnil, strB_nnil'] at h4
        refine run_seq ?_
        refine run_region (q_assign .n (.c rfl) rfl <|
            Lex.nil) ?_
        exact run_ret [] (.cons (.t rfl rfl) .nil) rfl trivial rfl
      · try simp only [Bool.and_eq_true, Bool.or_eq_true, Bool.not_eq_true', Bool.and_eq_false_iff, Bool.or_eq_false_iff, Bool.not_eq_false', decide_eq_true_eq, decide_eq_false_iff_not, beq_iff_eq, bne_iff_ne, beq_eq_false_iff_ne, bne_eq_false_iff_eq, Bool.true_and, ne_eq, Decidable.not_not, Int.not_lt, Int.not_le, Nat.not_lt, Nat.not_le, strB_nil, strB_nil', strB_nnil, strB_nnil'] at h4
        refine run_skip ?_
        refine run_endB ?_
        refine run_region (q_add .n (.t rfl) (.c rfl) (fun _ => by first | omega | assumption | (simp only [List.length_append, List.length_cons, List.length_nil, List.length_replicate, put_len] at * <;> omega)) rfl <|
            q_move .n (.t rfl) rfl <|
            Lex.nil) ?_
        exact run_again (x1 + 1) ⟨by first | omega | assumption | (simp only [List.length_append, List.length_cons, List.length_nil, List.length_replicate, put_len] at * <;> omega), by first | omega | assumption | (simp only [List.length_append, List.length_cons, List.length_nil, List.length_replicate, put_len] at * <;> omega)⟩ (by first | omega | assumption | (simp only [List.length_append, List.length_cons, List.length_nil, List.length_replicate, put_len] at * <;> omega)) (sub_of [] ⟨rfl, rfl, rfl, trivial⟩ trivial rfl)
    · try simp only [Bool.and_eq_true, Bool.or_eq_true, Bool.not_eq_true', Bool.and_eq_false_iff, Bool.or_eq_false_iff, Bool.not_eq_false', decide_eq_true_eq, decide_eq_false_iff_not, beq_iff_eq, bne_iff_ne, beq_eq_false_iff_ne, bne_eq_false_iff_eq, Bool.true_and, ne_eq, Decidable.not_not, Int.not_lt, Int.not_le, Nat.not_lt, Nat.not_le, strB_nil, strB_nil', strB_nnil, strB_nnil'] at h3
      refine run_exit rfl ?_
      exact run_cont hk1 x1 ⟨by first | omega | assumption | (simp only [List.length_append, List.length_cons, List.length_nil, List.length_replicate, put_len] at * <;> omega), by first | omega | assumption | (simp only [List.length_append, List.length_cons, List.length_nil, List.length_replicate, put_len] at * <;> omega), by first | omega | assumption | (simp only [List.length_append, List.length_cons, List.length_nil, List.length_replicate, put_len] at * <;> omega)⟩ (sub_of [] trivial trivial rfl)

/-! ### impl_IsName -/
theorem c_impl_IsName (s_ : List UInt8) : Con Try.prog 61 [.str s_] [] (.bool (m_impl_IsName s_)) ([]) := by
  refine con_intro (out := fun r : Bool => ((.bool r : V), ([] : List (Nat × Option O)))) (r := (m_impl_IsName s_)) Try.func61 rfl Try.ntmps61 rfl ?_
  refine run_seq ?_
  refine run_region (q_assign .n (.c rfl) rfl <|
      Lex.nil) ?_
  refine run_seq ?_
  refine run_seq ?_
  refine run_region (q_move .n (.t rfl) rfl <|
      q_len .n (.t rfl) rfl rfl st_9 rfl <|
      q_int .n (.t rfl) (.c rfl) rfl rfl <|
      q_move .n (.t rfl) rfl <|
      q_move (.f rfl rfl) (.t rfl) rfl <|
      q_len (.f rfl rfl) (.u rfl id) rfl rfl st_9 rfl <|
      q_int (.f rfl rfl) (.u rfl id) (.c rfl) rfl rfl <|
      q_or .n (.t rfl) (.u rfl id) rfl <|
      q_move .n (.t rfl) rfl <|
      q_move (.f rfl rfl) (.t rfl) rfl <|
      q_strat (.f rfl rfl) (.u rfl id) (.c rfl) st_9 (fun hg => by simp only [Bool.and_eq_true, Bool.or_eq_true, Bool.not_eq_true', Bool.and_eq_false_iff, Bool.or_eq_false_iff, Bool.not_eq_false', decide_eq_true_eq, decide_eq_false_iff_not, beq_iff_eq, bne_iff_ne, beq_eq_false_iff_ne, bne_eq_false_iff_eq, Bool.true_and, ne_eq, Decidable.not_not, Int.not_lt, Int.not_le, Nat.not_lt, Nat.not_le, strB_nil, strB_nil', strB_nnil, strB_nnil'] at hg; first | omega | assumption | (simp only [List.length_append, List.length_cons, List.length_nil, List.length_replicate, put_len] at * <;> omega)) rfl <|
      q_int (.f rfl rfl) (.u rfl id) (.c rfl) rfl rfl <|
      q_or .n (.t rfl) (.u rfl id) rfl <|
      q_move .n (.t rfl) rfl <|
      q_move (.f rfl rfl) (.t rfl) rfl <|
      q_strat (.f rfl rfl) (.u rfl id) (.c rfl) st_9 (fun hg => by simp only [Bool.and_eq_true, Bool.or_eq_true, Bool.not_eq_true', Bool.and_eq_false_iff, Bool.or_eq_false_iff, Bool.not_eq_false', decide_eq_true_eq, decide_eq_false_iff_not, beq_iff_eq, bne_iff_ne, beq_eq_false_iff_ne, bne_eq_false_iff_eq, Bool.true_and, ne_eq, Decidable.not_not, Int.not_lt, Int.not_le, Nat.not_lt, Nat.not_le, strB_nil, strB_nil', strB_nnil, strB_nnil'] at hg; first | omega | assumption | (simp only [List.length_append, List.length_cons, List.length_nil, List.length_replicate, put_len] at * <;> omega)) rfl <|
      q_int (.f rfl rfl) (.u rfl id) (.c rfl) rfl rfl <|
      q_or .n (.t rfl) (.u rfl id) rfl <|
      Lex.nil) ?_
  refine run_cond (.t rfl) rfl (fun h1 => ?_) (fun h1 => ?_)
  · try simp only [Bool.and_eq_true, Bool.or_eq_true, Bool.not_eq_true', Bool.and_eq_false_iff, Bool.or_eq_false_iff, Bool.not_eq_false', decide_eq_true_eq, decide_eq_false_iff_not, beq_iff_eq, bne_iff_ne, beq_eq_false_iff_ne, bne_eq_false_iff_eq, Bool.true_and, ne_eq, Decidable.not_not, Int.not_lt, Int.not_le, Nat.not_lt, Nat.not_le, strB_nil, strB_nil', strB_nnil, strB_nnil'] at h1
    refine run_seq ?_
    refine run_region (q_assign .n (.c rfl) rfl <|
        Lex.nil) ?_
    exact run_ret [] (.cons (.t rfl rfl) .nil) rfl trivial rfl
  · try simp only [Bool.and_eq_true, Bool.or_eq_true, Bool.not_eq_true', Bool.and_eq_false_iff, Bool.or_eq_false_iff, Bool.not_eq_false', decide_eq_true_eq, decide_eq_false_iff_not, beq_iff_eq, bne_iff_ne, beq_eq_false_iff_ne, bne_eq_false_iff_eq, Bool.true_and, ne_eq, Decidable.not_not, Int.not_lt, Int.not_le, Nat.not_lt, Nat.not_le, strB_nil, strB_nil', strB_nnil, strB_nnil'] at h1
    refine run_skip ?_
    refine run_seq ?_
    refine run_region (q_move .n (.t rfl) rfl <|
        q_call0 (full := false) .n .f en_89 (.cons (.t rfl) .nil) (.cons (.b (.a (.same rfl))) .nil) (fun hg => c_impl_onlyNameBytes s_ (by first | omega | assumption | (simp only [List.length_append, List.length_cons, List.length_nil, List.length_replicate, put_len] at * <;> omega))) rfl (fun h => Bool.noConfusion h) rfl <|
        q_assign .n (.t rfl) rfl <|
        Lex.nil) ?_
    exact run_ret [] (.cons (.t rfl rfl) .nil) rfl trivial rfl

/-! ### impl_kindOk -/
theorem c_impl_kindOk (n_ : Int) : Con Try.prog 62 [.int .i64 n_] [] (.bool (m_impl_kindOk n_)) ([]) := by
  refine con_intro (out := fun r : Bool => ((.bool r : V), ([] : List (Nat × Option O)))) (r := (m_impl_kindOk n_)) Try.func62 rfl Try.ntmps62 rfl ?_
  refine run_seq ?_
  refine run_region (q_assign .n (.c rfl) rfl <|
      Lex.nil) ?_
  refine run_seq ?_
  refine run_region (q_move .n (.t rfl) rfl <|
      q_call0 (full := false) .n .f en_39 (.cons (.t rfl) (.cons (.c rfl) (.cons (.c rfl) .nil))) (.cons (.b (.a (.same rfl))) (.cons (.b (.a (.same rfl))) (.cons (.b (.a (.same rfl))) .nil))) (fun hg => c_impl_within n_ 1 4) rfl (fun h => Bool.noConfusion h) rfl <|
      q_assign .n (.t rfl) rfl <|
      Lex.nil) ?_
  exact run_ret [] (.cons (.t rfl rfl) .nil) rfl trivial rfl

/-! ### impl_Permit_valid -/
theorem c_impl_Permit_valid (x_ : gPermit) : Con Try.prog 32 [.st [.str x_.Id, .int .i64 x_.Kind, .int .i64 x_.Airway, .int .i64 x_.From, .int .i64 x_.Until]] [] (.bool (m_impl_Permit_valid x_)) ([]) := by
  refine con_intro (out := fun r : Bool => ((.bool r : V), ([] : List (Nat × Option O)))) (r := (m_impl_Permit_valid x_)) Try.func32 rfl Try.ntmps32 rfl ?_
  refine run_seq ?_
  refine run_region (q_box (l := 200) .n rfl (.t rfl) rfl rfl rfl rfl <|
      q_assign .n (.c rfl) rfl <|
      Lex.nil) ?_
  refine run_seq ?_
  refine run_region (q_fld_ow .n (.t rfl) fo_29_0 rfl <|
      q_ld1_ow .n (.t rfl) rfl (.inr rfl) (fun _ => rfl) rfl ic_9 rfl <|
      q_call0 (full := false) .n .f en_61 (.cons (.t rfl) .nil) (.cons (.b (.a (.same rfl))) .nil) (fun hg => c_impl_IsName x_.Id) rfl (fun h => Bool.noConfusion h) rfl <|
      q_move .n (.t rfl) rfl <|
      q_fld_ow (.t rfl rfl) (.t rfl) fo_29_1 rfl <|
      q_ld1_ow (.t rfl rfl) (.u rfl id) rfl (.inr rfl) (fun _ => rfl) rfl ic_2 rfl <|
      q_call0 (full := false) (.t rfl rfl) .f en_62 (.cons (.u rfl id) .nil) (.cons (.b (.a (.same rfl))) .nil) (fun hg => c_impl_kindOk x_.Kind) rfl (fun h => Bool.noConfusion h) rfl <|
      q_and .n (.t rfl) (.u rfl id) rfl <|
      q_move .n (.t rfl) rfl <|
      q_fld_ow (.t rfl rfl) (.t rfl) fo_29_2 rfl <|
      q_ld1_ow (.t rfl rfl) (.u rfl id) rfl (.inr rfl) (fun _ => rfl) rfl ic_2 rfl <|
      q_call0 (full := false) (.t rfl rfl) .f en_39 (.cons (.u rfl id) (.cons (.c rfl) (.cons (.c rfl) .nil))) (.cons (.b (.a (.same rfl))) (.cons (.b (.a (.same rfl))) (.cons (.b (.a (.same rfl))) .nil))) (fun hg => c_impl_within x_.Airway 0 23) rfl (fun h => Bool.noConfusion h) rfl <|
      q_and .n (.t rfl) (.u rfl id) rfl <|
      q_move .n (.t rfl) rfl <|
      q_fld_ow (.t rfl rfl) (.t rfl) fo_29_4 rfl <|
      q_ld1_ow (.t rfl rfl) (.u rfl id) rfl (.inr rfl) (fun _ => rfl) rfl ic_2 rfl <|
      q_call0 (full := false) (.t rfl rfl) .f en_39 (.cons (.u rfl id) (.cons (.c rfl) (.cons (.c rfl) .nil))) (.cons (.b (.a (.same rfl))) (.cons (.b (.a (.same rfl))) (.cons (.b (.a (.same rfl))) .nil))) (fun hg => c_impl_within x_.Until 0 100000) rfl (fun h => Bool.noConfusion h) rfl <|
      q_and .n (.t rfl) (.u rfl id) rfl <|
      q_move .n (.t rfl) rfl <|
      q_fld_ow (.t rfl rfl) (.t rfl) fo_29_3 rfl <|
      q_ld1_ow (.t rfl rfl) (.u rfl id) rfl (.inr rfl) (fun _ => rfl) rfl ic_2 rfl <|
      q_fld_ow (.t rfl rfl) (.t rfl) fo_29_4 rfl <|
      q_ld1_ow (.t rfl rfl) (.u rfl id) rfl (.inr rfl) (fun _ => rfl) rfl ic_2 rfl <|
      q_int (.t rfl rfl) (.u rfl id) (.c rfl) rfl rfl <|
      q_call0 (full := false) (.t rfl rfl) .f en_39 (.cons (.u rfl id) (.cons (.c rfl) (.cons (.u rfl id) .nil))) (.cons (.b (.a (.same rfl))) (.cons (.b (.a (.same rfl))) (.cons (.b (.a (.same rfl))) .nil))) (fun hg => c_impl_within x_.From 0 (IntKind.wrap .i64 (x_.Until - 1))) rfl (fun h => Bool.noConfusion h) rfl <|
      q_and .n (.t rfl) (.u rfl id) rfl <|
      q_assign .n (.t rfl) rfl <|
      Lex.nil) ?_
  exact run_ret [] (.cons (.t rfl rfl) .nil) rfl trivial rfl

/-! ### impl_indexValid_impl_Airway -/
theorem c_impl_indexValid_impl_Airway (list : List gAirway) (k_ : Int) : Con Try.prog 33 [.sl 7 (list.map gAirway.v), .int .i64 k_] [] (.bool (m_impl_indexValid_impl_Airway list k_)) ([]) := by
  refine con_intro (out := fun r : Bool => ((.bool r : V), ([] : List (Nat × Option O)))) (r := (m_impl_indexValid_impl_Airway list k_)) Try.func33 rfl Try.ntmps33 rfl ?_
  refine run_fact (t := 0) rfl fun hl => ?_
  have l1 := hl; clear hl; simp only [List.length_map] at l1
  refine run_seq ?_
  refine run_region (q_assign .n (.c rfl) rfl <|
      Lex.nil) ?_
  refine run_seq ?_
  refine run_region (q_move .n (.t rfl) rfl <|
      q_move .n (.t rfl) rfl <|
      q_len .n (.t rfl) rfl len_map ss_24 rfl <|
      q_sub .n (.t rfl) (.c rfl) (fun _ => by first | omega | assumption | (simp only [List.length_append, List.length_cons, List.length_nil, List.length_replicate, put_len] at * <;> omega)) rfl <|
      q_call0 (full := false) .n .f en_39 (.cons (.t rfl) (.cons (.c rfl) (.cons (.t rfl) .nil))) (.cons (.b (.a (.same rfl))) (.cons (.b (.a (.same rfl))) (.cons (.b (.a (.same rfl))) .nil))) (fun hg => c_impl_within k_ 0 ((list.length : Int) - 1)) rfl (fun h => Bool.noConfusion h) rfl <|
      q_assign .n (.t rfl) rfl <|
      Lex.nil) ?_
  exact run_ret [] (.cons (.t rfl rfl) .nil) rfl trivial rfl

/-! ### impl_junctionOk -/
theorem c_impl_junctionOk (n_ : Int) : Con Try.prog 103 [.int .i64 n_] [] (.bool (m_impl_junctionOk n_)) ([]) := by
  refine con_intro (out := fun r : Bool => ((.bool r : V), ([] : List (Nat × Option O)))) (r := (m_impl_junctionOk n_)) Try.func103 rfl Try.ntmps103 rfl ?_
  refine run_seq ?_
  refine run_region (q_assign .n (.c rfl) rfl <|
      Lex.nil) ?_
  refine run_seq ?_
  refine run_region (q_move .n (.t rfl) rfl <|
      q_call0 (full := false) .n .f en_39 (.cons (.t rfl) (.cons (.c rfl) (.cons (.c rfl) .nil))) (.cons (.b (.a (.same rfl))) (.cons (.b (.a (.same rfl))) (.cons (.b (.a (.same rfl))) .nil))) (fun hg => c_impl_within n_ 0 15) rfl (fun h => Bool.noConfusion h) rfl <|
      q_assign .n (.t rfl) rfl <|
      Lex.nil) ?_
  exact run_ret [] (.cons (.t rfl rfl) .nil) rfl trivial rfl

/-! ### impl_ValidAirway -/
theorem c_impl_ValidAirway (a : gAirway) : Con Try.prog 87 [.st [.str a.Id, .int .i64 a.From, .int .i64 a.To, .int .i64 a.Length, .int .i64 a.Section, .int .i64 a.Friction, .int .i64 a.Shock]] [] (.bool (m_impl_ValidAirway a)) ([]) := by
  refine con_intro (out := fun r : Bool => ((.bool r : V), ([] : List (Nat × Option O)))) (r := (m_impl_ValidAirway a)) Try.func87 rfl Try.ntmps87 rfl ?_
  refine run_seq ?_
  refine run_region (q_box (l := 200) .n rfl (.t rfl) rfl rfl rfl rfl <|
      q_assign .n (.c rfl) rfl <|
      Lex.nil) ?_
  refine run_seq ?_
  refine run_region (q_fld_ow .n (.t rfl) fo_66_0 rfl <|
      q_ld1_ow .n (.t rfl) rfl (.inr rfl) (fun _ => rfl) rfl ic_9 rfl <|
      q_call0 (full := false) .n .f en_61 (.cons (.t rfl) .nil) (.cons (.b (.a (.same rfl))) .nil) (fun hg => c_impl_IsName a.Id) rfl (fun h => Bool.noConfusion h) rfl <|
      q_move .n (.t rfl) rfl <|
      q_fld_ow (.t rfl rfl) (.t rfl) fo_66_1 rfl <|
      q_ld1_ow (.t rfl rfl) (.u rfl id) rfl (.inr rfl) (fun _ => rfl) rfl ic_2 rfl <|
      q_call0 (full := false) (.t rfl rfl) .f en_103 (.cons (.u rfl id) .nil) (.cons (.b (.a (.same rfl))) .nil) (fun hg => c_impl_junctionOk a.From) rfl (fun h => Bool.noConfusion h) rfl <|
      q_and .n (.t rfl) (.u rfl id) rfl <|
      q_move .n (.t rfl) rfl <|
      q_fld_ow (.t rfl rfl) (.t rfl) fo_66_2 rfl <|
      q_ld1_ow (.t rfl rfl) (.u rfl id) rfl (.inr rfl) (fun _ => rfl) rfl ic_2 rfl <|
      q_call0 (full := false) (.t rfl rfl) .f en_103 (.cons (.u rfl id) .nil) (.cons (.b (.a (.same rfl))) .nil) (fun hg => c_impl_junctionOk a.To) rfl (fun h => Bool.noConfusion h) rfl <|
      q_and .n (.t rfl) (.u rfl id) rfl <|
      q_move .n (.t rfl) rfl <|
      q_fld_ow (.t rfl rfl) (.t rfl) fo_66_1 rfl <|
      q_ld1_ow (.t rfl rfl) (.u rfl id) rfl (.inr rfl) (fun _ => rfl) rfl ic_2 rfl <|
      q_fld_ow (.t rfl rfl) (.t rfl) fo_66_2 rfl <|
      q_ld1_ow (.t rfl rfl) (.u rfl id) rfl (.inr rfl) (fun _ => rfl) rfl ic_2 rfl <|
      q_int (.t rfl rfl) (.u rfl id) (.u rfl id) rfl rfl <|
      q_and .n (.t rfl) (.u rfl id) rfl <|
      q_move .n (.t rfl) rfl <|
      q_fld_ow (.t rfl rfl) (.t rfl) fo_66_3 rfl <|
      q_ld1_ow (.t rfl rfl) (.u rfl id) rfl (.inr rfl) (fun _ => rfl) rfl ic_2 rfl <|
      q_call0 (full := false) (.t rfl rfl) .f en_39 (.cons (.u rfl id) (.cons (.c rfl) (.cons (.c rfl) .nil))) (.cons (.b (.a (.same rfl))) (.cons (.b (.a (.same rfl))) (.cons (.b (.a (.same rfl))) .nil))) (fun hg => c_impl_within a.Length 1 10000) rfl (fun h => Bool.noConfusion h) rfl <|
      q_and .n (.t rfl) (.u rfl id) rfl <|
      q_move .n (.t rfl) rfl <|
      q_fld_ow (.t rfl rfl) (.t rfl) fo_66_4 rfl <|
      q_ld1_ow (.t rfl rfl) (.u rfl id) rfl (.inr rfl) (fun _ => rfl) rfl ic_2 rfl <|
      q_call0 (full := false) (.t rfl rfl) .f en_39 (.cons (.u rfl id) (.cons (.c rfl) (.cons (.c rfl) .nil))) (.cons (.b (.a (.same rfl))) (.cons (.b (.a (.same rfl))) (.cons (.b (.a (.same rfl))) .nil))) (fun hg => c_impl_within a.Section 50 5000) rfl (fun h => Bool.noConfusion h) rfl <|
      q_and .n (.t rfl) (.u rfl id) rfl <|
      q_move .n (.t rfl) rfl <|
      q_fld_ow (.t rfl rfl) (.t rfl) fo_66_5 rfl <|
      q_ld1_ow (.t rfl rfl) (.u rfl id) rfl (.inr rfl) (fun _ => rfl) rfl ic_2 rfl <|
      q_call0 (full := false) (.t rfl rfl) .f en_39 (.cons (.u rfl id) (.cons (.c rfl) (.cons (.c rfl) .nil))) (.cons (.b (.a (.same rfl))) (.cons (.b (.a (.same rfl))) (.cons (.b (.a (.same rfl))) .nil))) (fun hg => c_impl_within a.Friction 1 1000) rfl (fun h => Bool.noConfusion h) rfl <|
      q_and .n (.t rfl) (.u rfl id) rfl <|
      q_move .n (.t rfl) rfl <|
      q_fld_ow (.t rfl rfl) (.t rfl) fo_66_6 rfl <|
      q_ld1_ow (.t rfl rfl) (.u rfl id) rfl (.inr rfl) (fun _ => rfl) rfl ic_2 rfl <|
      q_call0 (full := false) (.t rfl rfl) .f en_39 (.cons (.u rfl id) (.cons (.c rfl) (.cons (.c rfl) .nil))) (.cons (.b (.a (.same rfl))) (.cons (.b (.a (.same rfl))) (.cons (.b (.a (.same rfl))) .nil))) (fun hg => c_impl_within a.Shock 0 1000) rfl (fun h => Bool.noConfusion h) rfl <|
      q_and .n (.t rfl) (.u rfl id) rfl <|
      q_assign .n (.t rfl) rfl <|
      Lex.nil) ?_
  exact run_ret [] (.cons (.t rfl rfl) .nil) rfl trivial rfl

/-! ### impl_Mine_hasJunction -/
theorem c_impl_Mine_hasJunction (m_ : gMine) (n_ : Int) : Con Try.prog 104 [.st [.int .i64 m_.Junctions, .sl 7 (m_.Airways.map gAirway.v)], .int .i64 n_] [] (.bool (m_impl_Mine_hasJunction m_ n_)) ([]) := by
  refine con_intro (out := fun r : Bool => ((.bool r : V), ([] : List (Nat × Option O)))) (r := (m_impl_Mine_hasJunction m_ n_)) Try.func104 rfl Try.ntmps104 rfl ?_
  refine run_factS (t := 0) 1 rfl rfl fun hl => ?_
  have l1 := hl; clear hl; simp only [List.length_map] at l1
  refine run_seq ?_
  refine run_region (q_box (l := 200) .n rfl (.t rfl) rfl rfl rfl rfl <|
      q_assign .n (.c rfl) rfl <|
      Lex.nil) ?_
  refine run_seq ?_
  refine run_region (q_move .n (.t rfl) rfl <|
      q_fld_ow .n (.t rfl) fo_26_0 rfl <|
      q_ld1_ow .n (.t rfl) rfl (.inr rfl) (fun _ => rfl) rfl ic_2 rfl <|
      q_int .n (.t rfl) (.c rfl) rfl rfl <|
      q_call0 (full := false) .n .f en_39 (.cons (.t rfl) (.cons (.c rfl) (.cons (.t rfl) .nil))) (.cons (.b (.a (.same rfl))) (.cons (.b (.a (.same rfl))) (.cons (.b (.a (.same rfl))) .nil))) (fun hg => c_impl_within n_ 0 (IntKind.wrap .i64 (m_.Junctions - 1))) rfl (fun h => Bool.noConfusion h) rfl <|
      q_assign .n (.t rfl) rfl <|
      Lex.nil) ?_
  exact run_ret [] (.cons (.t rfl rfl) .nil) rfl trivial rfl

/-! ### impl_Mine_hasEnds -/
theorem c_impl_Mine_hasEnds (m_ : gMine) (a : gAirway) : Con Try.prog 88 [.st [.int .i64 m_.Junctions, .sl 7 (m_.Airways.map gAirway.v)], .st [.str a.Id, .int .i64 a.From, .int .i64 a.To, .int .i64 a.Length, .int .i64 a.Section, .int .i64 a.Friction, .int .i64 a.Shock]] [] (.bool (m_impl_Mine_hasEnds m_ a)) ([]) := by
  refine con_intro (out := fun r : Bool => ((.bool r : V), ([] : List (Nat × Option O)))) (r := (m_impl_Mine_hasEnds m_ a)) Try.func88 rfl Try.ntmps88 rfl ?_
  refine run_factS (t := 0) 1 rfl rfl fun hl => ?_
  have l1 := hl; clear hl; simp only [List.length_map] at l1
  refine run_seq ?_
  refine run_region (q_box (l := 200) .n rfl (.t rfl) rfl rfl rfl rfl <|
      q_box (l := 201) .n rfl (.t rfl) rfl rfl rfl rfl <|
      q_assign .n (.c rfl) rfl <|
      Lex.nil) ?_
  refine run_seq ?_
  refine run_region (q_ldN_ow .n (.t rfl) rfl (.inr rfl) ag_26 (fun _ => rfl) rfl rfl <|
      q_fld_ow .n (.t rfl) fo_66_1 rfl <|
      q_ld1_ow .n (.t rfl) rfl (.inr rfl) (fun _ => rfl) rfl ic_2 rfl <|
      q_call0 (full := false) .n .f en_104 (.cons (.t rfl) (.cons (.t rfl) .nil)) (.cons (.sts rfl) (.cons (.b (.a (.same rfl))) .nil)) (fun hg => c_impl_Mine_hasJunction m_ a.From) rfl (fun h => Bool.noConfusion h) rfl <|
      q_move .n (.t rfl) rfl <|
      q_ldN_ow (.t rfl rfl) (.t rfl) rfl (.inr rfl) ag_26 (fun _ => rfl) rfl rfl <|
      q_fld_ow (.t rfl rfl) (.t rfl) fo_66_2 rfl <|
      q_ld1_ow (.t rfl rfl) (.u rfl id) rfl (.inr rfl) (fun _ => rfl) rfl ic_2 rfl <|
      q_call0 (full := false) (.t rfl rfl) .f en_104 (.cons (.u rfl id) (.cons (.u rfl id) .nil)) (.cons (.sts rfl) (.cons (.b (.a (.same rfl))) .nil)) (fun hg => c_impl_Mine_hasJunction m_ a.To) rfl (fun h => Bool.noConfusion h) rfl <|
      q_and .n (.t rfl) (.u rfl id) rfl <|
      q_assign .n (.t rfl) rfl <|
      Lex.nil) ?_
  exact run_ret [] (.cons (.t rfl rfl) .nil) rfl trivial rfl

/-! ### impl_ValidMine -/
theorem c_impl_ValidMine (m_ : gMine) : Con Try.prog 60 [.st [.int .i64 m_.Junctions, .sl 7 (m_.Airways.map gAirway.v)]] [] (.bool (m_impl_ValidMine m_)) ([]) := by
  refine con_intro (out := fun r : Bool => ((.bool r : V), ([] : List (Nat × Option O)))) (r := (m_impl_ValidMine m_)) Try.func60 rfl Try.ntmps60 rfl ?_
  refine run_factS (t := 0) 1 rfl rfl fun hl => ?_
  have l1 := hl; clear hl; simp only [List.length_map] at l1
  refine run_seq ?_
  refine run_region (q_box (l := 200) .n rfl (.t rfl) rfl rfl rfl rfl <|
      q_assign .n (.c rfl) rfl <|
      Lex.nil) ?_
  refine run_seq ?_
  refine run_seq ?_
  refine run_region (q_fld_ow .n (.t rfl) fo_26_0 rfl <|
      q_ld1_ow .n (.t rfl) rfl (.inr rfl) (fun _ => rfl) rfl ic_2 rfl <|
      q_call0 (full := false) .n .f en_39 (.cons (.t rfl) (.cons (.c rfl) (.cons (.c rfl) .nil))) (.cons (.b (.a (.same rfl))) (.cons (.b (.a (.same rfl))) (.cons (.b (.a (.same rfl))) .nil))) (fun hg => c_impl_within m_.Junctions 1 16) rfl (fun h => Bool.noConfusion h) rfl <|
      q_not .n (.t rfl) rfl <|
      q_move .n (.t rfl) rfl <|
      q_fld_ow (.f rfl rfl) (.t rfl) fo_26_1 rfl <|
      q_ld1_ow (.f rfl rfl) (.u rfl id) rfl (.inr rfl) (fun _ => rfl) rfl ic_24 rfl <|
      q_len (.f rfl rfl) (.u rfl id) rfl len_map ss_24 rfl <|
      q_int (.f rfl rfl) (.u rfl id) (.c rfl) rfl rfl <|
      q_or .n (.t rfl) (.u rfl id) rfl <|
      Lex.nil) ?_
  refine run_cond (.t rfl) rfl (fun h2 => ?_) (fun h2 => ?_)
  · try simp only [Bool.and_eq_true, Bool.or_eq_true, Bool.not_eq_true', Bool.and_eq_false_iff, Bool.or_eq_false_iff, Bool.not_eq_false', decide_eq_true_eq, decide_eq_false_iff_not, beq_iff_eq, bne_iff_ne, beq_eq_false_iff_ne, bne_eq_false_iff_eq, Bool.true_and, ne_eq, Decidable.not_not, Int.not_lt, Int.not_le, Nat.not_lt, Nat.not_le, strB_nil, strB_nil', strB_nnil, strB_nnil'] at h2
    try have hf0h2 := within_imp h2
    try have hf1h2 := within_imp h2.1
    try have hf2h2 := within_imp h2.2
    try have hf3h2 := within_imp h2.1.1
    try have hf4h2 := within_imp h2.1.2
    try have hf5h2 := within_imp h2.2.1
    try have hf6h2 := within_imp h2.2.2
    refine run_seq ?_
    refine run_region (q_assign .n (.c rfl) rfl <|
        Lex.nil) ?_
    exact run_ret [] (.cons (.t rfl rfl) .nil) rfl trivial rfl
  · try simp only [Bool.and_eq_true, Bool.or_eq_true, Bool.not_eq_true', Bool.and_eq_false_iff, Bool.or_eq_false_iff, Bool.not_eq_false', decide_eq_true_eq, decide_eq_false_iff_not, beq_iff_eq, bne_iff_ne, beq_eq_false_iff_ne, bne_eq_false_iff_eq, Bool.true_and, ne_eq, Decidable.not_not, Int.not_lt, Int.not_le, Nat.not_lt, Nat.not_le, strB_nil, strB_nil', strB_nnil, strB_nnil'] at h2
    try have hf0h2 := within_imp h2
    try have hf1h2 := within_imp h2.1
    try have hf2h2 := within_imp h2.2
    try have hf3h2 := within_imp h2.1.1
    try have hf4h2 := within_imp h2.1.2
    try have hf5h2 := within_imp h2.2.1
    try have hf6h2 := within_imp h2.2.2
    refine run_skip ?_
    refine run_seq ?_
    refine run_seq ?_
    refine run_region (q_fld_ow .n (.t rfl) fo_26_1 rfl <|
        q_ld1_ow .n (.t rfl) rfl (.inr rfl) (fun _ => rfl) rfl ic_24 rfl <|
        q_len .n (.t rfl) rfl len_map ss_24 rfl <|
        q_move .n (.c rfl) rfl <|
        Lex.nil) ?_
    refine run_block ?_
    refine run_LOOP (m_impl_ValidMine_b1 m_) _ _ _ rfl (fun (x1 : Int) => 0 ≤ x1 ∧ x1 ≤ (m_.Airways.length : Int)) (fun x1 => 0 ≤ x1 ∧ x1 ≤ (m_.Airways.length : Int) ∧ (m_.Airways.length : Int) ≤ x1) (fun x1 => ((m_.Airways.length : Int) - x1 : Int).toNat) (fun x1 => ⟨[(1, some (true, .op 200 0 0 0)), (16, some (true, .sl 7 (m_.Airways.map gAirway.v))), (17, some (true, .int .i64 (m_.Airways.length : Int))), (18, some (true, .int .i64 x1))], [(200, some (.box 26 [.int .i64 m_.Junctions, .sl 7 (m_.Airways.map gAirway.v)]))]⟩) (fun x1 => ⟨[], []⟩) ⟨by first | omega | assumption | (simp only [List.length_append, List.length_cons, List.length_nil, List.length_replicate, put_len] at * <;> omega), by first | omega | assumption | (simp only [List.length_append, List.length_cons, List.length_nil, List.length_replicate, put_len] at * <;> omega)⟩ (by first | omega | assumption | (simp only [List.length_append, List.length_cons, List.length_nil, List.length_replicate, put_len] at * <;> omega)) (sub_of [] ⟨rfl, rfl, rfl, rfl, trivial⟩ ⟨rfl, trivial⟩ rfl) ?_ ?_
    · intro x1 i7
      obtain ⟨e8, e9, e10⟩ := i7
      try dsimp only at *
      refine run_seq ?_
      refine run_region (q_assign .n (.c rfl) rfl <|
          Lex.nil) ?_
      exact run_ret [] (.cons (.t rfl rfl) .nil) rfl trivial rfl
    · intro rec1 k1 hk3 x1 i4
      obtain ⟨e11, e12⟩ := i4
      try dsimp only at *
      refine run_seq ?_
      refine run_region (q_int .n (.t rfl) (.t rfl) rfl rfl <|
          Lex.nil) ?_
      refine run_seq ?_
      refine run_cond (.t rfl) rfl (fun h5 => ?_) (fun h5 => ?_)
      · try simp only [Bool.and_eq_true, Bool.or_eq_true, Bool.not_eq_true', Bool.and_eq_false_iff, Bool.or_eq_false_iff, Bool.not_eq_false', decide_eq_true_eq, decide_eq_false_iff_not, beq_iff_eq, bne_iff_ne, beq_eq_false_iff_ne, bne_eq_false_iff_eq, Bool.true_and, ne_eq, Decidable.not_not, Int.not_lt, Int.not_le, Nat.not_lt, Nat.not_le, strB_nil, strB_nil', strB_nnil, strB_nnil'] at h5
        refine run_skip ?_
        refine run_seq ?_
        refine run_block ?_
        refine run_seq ?_
        refine run_region (q_move .n (.t rfl) rfl <|
            q_idx_rm .n (.t rfl) (.t rfl) sl_24 (fun _ => by first | omega | assumption | (simp only [List.length_append, List.length_cons, List.length_nil, List.length_replicate, put_len] at * <;> omega)) rfl <|
            q_ldN_ro .n (.t rfl) ag_66 rfl rfl rfl <|
            q_alloc (l := 201) .n rfl zv_66 rfl rfl <|
            q_assign .n (.t rfl) rfl <|
            q_st_boxm [.str (at' m_.Airways x1).Id, .int .i64 (at' m_.Airways x1).From, .int .i64 (at' m_.Airways x1).To, .int .i64 (at' m_.Airways x1).Length, .int .i64 (at' m_.Airways x1).Section, .int .i64 (at' m_.Airways x1).Friction, .int .i64 (at' m_.Airways x1).Shock] .n rfl (.t rfl) (.t rfl) rfl ts_66 rfl rfl <|
            Lex.nil) ?_
        refine run_seq ?_
        refine run_draw fmo (q_ldN_ow .n (.t rfl) rfl (.inr rfl) ag_66 (fun _ => rfl) rfl rfl <|
            q_call0 (full := false) .n .f en_87 (.cons (.t rfl) .nil) (.cons (.sts rfl) .nil) (fun hg => c_impl_ValidAirway (at' m_.Airways x1)) rfl (fun h => Bool.noConfusion h) rfl <|
            q_not .n (.t rfl) rfl <|
            q_move .n (.t rfl) rfl <|
            q_ldN_ow (.f rfl rfl) (.t rfl) rfl (.inr rfl) ag_26 (fun _ => rfl) rfl rfl <|
            q_ldN_ow (.f rfl rfl) (.t rfl) rfl (.inr rfl) ag_66 (fun _ => rfl) rfl rfl <|
            q_call0 (full := false) (.f rfl rfl) .f en_88 (.cons (.u rfl id) (.cons (.u rfl id) .nil)) (.cons (.sts rfl) (.cons (.sts rfl) .nil)) (fun hg => c_impl_Mine_hasEnds m_ (at' m_.Airways x1)) rfl (fun h => Bool.noConfusion h) rfl <|
            q_not (.f rfl rfl) (.u rfl id) rfl <|
            q_or .n (.t rfl) (.u rfl id) rfl <|
            q_move .n (.t rfl) rfl <|
            q_move (.f rfl rfl) (.t rfl) rfl <|
            q_int (.f rfl rfl) (.u rfl id) (.c rfl) rfl rfl <|
            q_move (.f rfl rfl) (.u rfl id) rfl <|
            q_fld_ow (.t rfl rfl) (.t rfl) fo_66_0 rfl <|
            q_ld1_ow (.t rfl rfl) (.u rfl id) rfl (.inr rfl) (fun _ => rfl) rfl ic_9 rfl <|
            q_fld_ow (.t rfl rfl) (.t rfl) fo_26_1 rfl <|
            q_ld1_ow (.t rfl rfl) (.u rfl id) rfl (.inr rfl) (fun _ => rfl) rfl ic_24 rfl <|
            q_move (.t rfl rfl) (.t rfl) rfl <|
            q_sub (.t rfl rfl) (.u rfl id) (.c rfl) (fun hg => by simp only [Bool.and_eq_true, Bool.or_eq_true, Bool.not_eq_true', Bool.and_eq_false_iff, Bool.or_eq_false_iff, Bool.not_eq_false', decide_eq_true_eq, decide_eq_false_iff_not, beq_iff_eq, bne_iff_ne, beq_eq_false_iff_ne, bne_eq_false_iff_eq, Bool.true_and, ne_eq, Decidable.not_not, Int.not_lt, Int.not_le, Nat.not_lt, Nat.not_le, strB_nil, strB_nil', strB_nnil, strB_nnil'] at hg; first | omega | assumption | (simp only [List.length_append, List.length_cons, List.length_nil, List.length_replicate, put_len] at * <;> omega)) rfl <|
            q_idx_rm (.t rfl rfl) (.u rfl id) (.u rfl id) sl_24 (fun hg => by simp only [Bool.and_eq_true, Bool.or_eq_true, Bool.not_eq_true', Bool.and_eq_false_iff, Bool.or_eq_false_iff, Bool.not_eq_false', decide_eq_true_eq, decide_eq_false_iff_not, beq_iff_eq, bne_iff_ne, beq_eq_false_iff_ne, bne_eq_false_iff_eq, Bool.true_and, ne_eq, Decidable.not_not, Int.not_lt, Int.not_le, Nat.not_lt, Nat.not_le, strB_nil, strB_nil', strB_nnil, strB_nnil'] at hg; first | omega | assumption | (simp only [List.length_append, List.length_cons, List.length_nil, List.length_replicate, put_len] at * <;> omega)) rfl <|
            q_fld_ro (.t rfl rfl) (.u rfl id) fo_66_0 rfl <|
            q_ld1_ro (.t rfl rfl) (.u rfl id) rfl ic_9 rfl <|
            q_strcmp (.t rfl rfl) (.u rfl id) (.u rfl id) rfl rfl <|
            q_and (.f rfl rfl) (.u rfl id) (.u rfl id) rfl <|
            q_or .n (.t rfl) (.u rfl id) rfl <|
            Lex.nil) (by kernel_rfl) ?_
        refine run_cond (.t rfl) rfl (fun h6 => ?_) (fun h6 => ?_)
        · try simp only [Bool.and_eq_true, Bool.or_eq_true, Bool.not_eq_true', Bool.and_eq_false_iff, Bool.or_eq_false_iff, Bool.not_eq_false', decide_eq_true_eq, decide_eq_false_iff_not, beq_iff_eq, bne_iff_ne, beq_eq_false_iff_ne, bne_eq_false_iff_eq, Bool.true_and, ne_eq, Decidable.not_not, Int.not_lt, Int.not_le, Nat.not_lt, Nat.not_le, strB_nil, strB_nil', strB_nnil, strB_nnil'] at h6
          refine run_seq ?_
          refine run_region (q_assign .n (.c rfl) rfl <|
              Lex.nil) ?_
          exact run_ret [] (.cons (.t rfl rfl) .nil) rfl trivial rfl
        · try simp only [Bool.and_eq_true, Bool.or_eq_true, Bool.not_eq_true', Bool.and_eq_false_iff, Bool.or_eq_false_iff, Bool.not_eq_false', decide_eq_true_eq, decide_eq_false_iff_not, beq_iff_eq, bne_iff_ne, beq_eq_false_iff_ne, bne_eq_false_iff_eq, Bool.true_and, ne_eq, Decidable.not_not, Int.not_lt, Int.not_le, Nat.not_lt, Nat.not_le, strB_nil, strB_nil', strB_nnil, strB_nnil'] at h6
          refine run_skip ?_
          refine run_endB ?_
          refine run_region (q_add .n (.t rfl) (.c rfl) (fun _ => by first | omega | assumption | (simp only [List.length_append, List.length_cons, List.length_nil, List.length_replicate, put_len] at * <;> omega)) rfl <|
              q_move .n (.t rfl) rfl <|
              Lex.nil) ?_
          exact run_again (x1 + 1) ⟨by first | omega | assumption | (simp only [List.length_append, List.length_cons, List.length_nil, List.length_replicate, put_len] at * <;> omega), by first | omega | assumption | (simp only [List.length_append, List.length_cons, List.length_nil, List.length_replicate, put_len] at * <;> omega)⟩ (by first | omega | assumption | (simp only [List.length_append, List.length_cons, List.length_nil, List.length_replicate, put_len] at * <;> omega)) (sub_of [] ⟨rfl, rfl, rfl, rfl, trivial⟩ ⟨rfl, trivial⟩ rfl)
      · try simp only [Bool.and_eq_true, Bool.or_eq_true, Bool.not_eq_true', Bool.and_eq_false_iff, Bool.or_eq_false_iff, Bool.not_eq_false', decide_eq_true_eq, decide_eq_false_iff_not, beq_iff_eq, bne_iff_ne, beq_eq_false_iff_ne, bne_eq_false_iff_eq, Bool.true_and, ne_eq, Decidable.not_not, Int.not_lt, Int.not_le, Nat.not_lt, Nat.not_le, strB_nil, strB_nil', strB_nnil, strB_nnil'] at h5
        refine run_exit rfl ?_
        exact run_cont hk3 x1 ⟨by first | omega | assumption | (simp only [List.length_append, List.length_cons, List.length_nil, List.length_replicate, put_len] at * <;> omega), by first | omega | assumption | (simp only [List.length_append, List.length_cons, List.length_nil, List.length_replicate, put_len] at * <;> omega), by first | omega | assumption | (simp only [List.length_append, List.length_cons, List.length_nil, List.length_replicate, put_len] at * <;> omega)⟩ (sub_of [] trivial trivial rfl)

/-! ### impl_ValidPermits -/
theorem c_impl_ValidPermits (m_ : gMine) (list : List gPermit) : Con Try.prog 31 [.st [.int .i64 m_.Junctions, .sl 7 (m_.Airways.map gAirway.v)], .sl 5 (list.map gPermit.v)] [] (.bool (m_impl_ValidPermits m_ list)) ([]) := by
  refine con_intro (out := fun r : Bool => ((.bool r : V), ([] : List (Nat × Option O)))) (r := (m_impl_ValidPermits m_ list)) Try.func31 rfl Try.ntmps31 rfl ?_
  refine run_factS (t := 0) 1 rfl rfl fun hl => ?_
  have l1 := hl; clear hl; simp only [List.length_map] at l1
  refine run_fact (t := 1) rfl fun hl => ?_
  have l2 := hl; clear hl; simp only [List.length_map] at l2
  refine run_seq ?_
  refine run_region (q_box (l := 200) .n rfl (.t rfl) rfl rfl rfl rfl <|
      q_assign .n (.c rfl) rfl <|
      Lex.nil) ?_
  refine run_seq ?_
  refine run_seq ?_
  refine run_region (q_ldN_ow .n (.t rfl) rfl (.inr rfl) ag_26 (fun _ => rfl) rfl rfl <|
      q_call0 (full := false) .n .f en_60 (.cons (.t rfl) .nil) (.cons (.sts rfl) .nil) (fun hg => c_impl_ValidMine m_) rfl (fun h => Bool.noConfusion h) rfl <|
      q_not .n (.t rfl) rfl <|
      q_move .n (.t rfl) rfl <|
      q_move (.f rfl rfl) (.t rfl) rfl <|
      q_len (.f rfl rfl) (.u rfl id) rfl len_map ss_27 rfl <|
      q_int (.f rfl rfl) (.u rfl id) (.c rfl) rfl rfl <|
      q_or .n (.t rfl) (.u rfl id) rfl <|
      Lex.nil) ?_
  refine run_cond (.t rfl) rfl (fun h3 => ?_) (fun h3 => ?_)
  · try simp only [Bool.and_eq_true, Bool.or_eq_true, Bool.not_eq_true', Bool.and_eq_false_iff, Bool.or_eq_false_iff, Bool.not_eq_false', decide_eq_true_eq, decide_eq_false_iff_not, beq_iff_eq, bne_iff_ne, beq_eq_false_iff_ne, bne_eq_false_iff_eq, Bool.true_and, ne_eq, Decidable.not_not, Int.not_lt, Int.not_le, Nat.not_lt, Nat.not_le, strB_nil, strB_nil', strB_nnil, strB_nnil'] at h3
    try have hf0h3 := ValidMine_imp h3
    try have hf1h3 := ValidMine_imp h3.1
    try have hf2h3 := ValidMine_imp h3.2
    try have hf3h3 := ValidMine_imp h3.1.1
    try have hf4h3 := ValidMine_imp h3.1.2
    try have hf5h3 := ValidMine_imp h3.2.1
    try have hf6h3 := ValidMine_imp h3.2.2
    refine run_seq ?_
    refine run_region (q_assign .n (.c rfl) rfl <|
        Lex.nil) ?_
    exact run_ret [] (.cons (.t rfl rfl) .nil) rfl trivial rfl
  · try simp only [Bool.and_eq_true, Bool.or_eq_true, Bool.not_eq_true', Bool.and_eq_false_iff, Bool.or_eq_false_iff, Bool.not_eq_false', decide_eq_true_eq, decide_eq_false_iff_not, beq_iff_eq, bne_iff_ne, beq_eq_false_iff_ne, bne_eq_false_iff_eq, Bool.true_and, ne_eq, Decidable.not_not, Int.not_lt, Int.not_le, Nat.not_lt, Nat.not_le, strB_nil, strB_nil', strB_nnil, strB_nnil'] at h3
    try have hf0h3 := ValidMine_imp h3
    try have hf1h3 := ValidMine_imp h3.1
    try have hf2h3 := ValidMine_imp h3.2
    try have hf3h3 := ValidMine_imp h3.1.1
    try have hf4h3 := ValidMine_imp h3.1.2
    try have hf5h3 := ValidMine_imp h3.2.1
    try have hf6h3 := ValidMine_imp h3.2.2
    refine run_skip ?_
    refine run_seq ?_
    refine run_seq ?_
    refine run_region (q_move .n (.t rfl) rfl <|
        q_len .n (.t rfl) rfl len_map ss_27 rfl <|
        q_move .n (.c rfl) rfl <|
        Lex.nil) ?_
    refine run_block ?_
    refine run_LOOP (m_impl_ValidPermits_b1 m_ list) _ _ _ rfl (fun (x1 : Int) => 0 ≤ x1 ∧ x1 ≤ (list.length : Int)) (fun x1 => 0 ≤ x1 ∧ x1 ≤ (list.length : Int) ∧ (list.length : Int) ≤ x1) (fun x1 => ((list.length : Int) - x1 : Int).toNat) (fun x1 => ⟨[(1, some (true, .sl 5 (list.map gPermit.v))), (2, some (true, .op 200 0 0 0)), (15, some (true, .sl 5 (list.map gPermit.v))), (16, some (true, .int .i64 (list.length : Int))), (17, some (true, .int .i64 x1))], [(200, some (.box 26 [.int .i64 m_.Junctions, .sl 7 (m_.Airways.map gAirway.v)]))]⟩) (fun x1 => ⟨[], []⟩) ⟨by first | omega | assumption | (simp only [List.length_append, List.length_cons, List.length_nil, List.length_replicate, put_len] at * <;> omega), by first | omega | assumption | (simp only [List.length_append, List.length_cons, List.length_nil, List.length_replicate, put_len] at * <;> omega)⟩ (by first | omega | assumption | (simp only [List.length_append, List.length_cons, List.length_nil, List.length_replicate, put_len] at * <;> omega)) (sub_of [] ⟨rfl, rfl, rfl, rfl, rfl, trivial⟩ ⟨rfl, trivial⟩ rfl) ?_ ?_
    · intro x1 i8
      obtain ⟨e9, e10, e11⟩ := i8
      try dsimp only at *
      refine run_seq ?_
      refine run_region (q_assign .n (.c rfl) rfl <|
          Lex.nil) ?_
      exact run_ret [] (.cons (.t rfl rfl) .nil) rfl trivial rfl
    · intro rec1 k1 hk4 x1 i5
      obtain ⟨e12, e13⟩ := i5
      try dsimp only at *
      refine run_seq ?_
      refine run_region (q_int .n (.t rfl) (.t rfl) rfl rfl <|
          Lex.nil) ?_
      refine run_seq ?_
      refine run_cond (.t rfl) rfl (fun h6 => ?_) (fun h6 => ?_)
      · try simp only [Bool.and_eq_true, Bool.or_eq_true, Bool.not_eq_true', Bool.and_eq_false_iff, Bool.or_eq_false_iff, Bool.not_eq_false', decide_eq_true_eq, decide_eq_false_iff_not, beq_iff_eq, bne_iff_ne, beq_eq_false_iff_ne, bne_eq_false_iff_eq, Bool.true_and, ne_eq, Decidable.not_not, Int.not_lt, Int.not_le, Nat.not_lt, Nat.not_le, strB_nil, strB_nil', strB_nnil, strB_nnil'] at h6
        refine run_skip ?_
        refine run_seq ?_
        refine run_block ?_
        refine run_seq ?_
        refine run_region (q_move .n (.t rfl) rfl <|
            q_idx_rm .n (.t rfl) (.t rfl) sl_27 (fun _ => by first | omega | assumption | (simp only [List.length_append, List.length_cons, List.length_nil, List.length_replicate, put_len] at * <;> omega)) rfl <|
            q_ldN_ro .n (.t rfl) ag_29 rfl rfl rfl <|
            q_alloc (l := 201) .n rfl zv_29 rfl rfl <|
            q_assign .n (.t rfl) rfl <|
            q_st_boxm [.str (at' list x1).Id, .int .i64 (at' list x1).Kind, .int .i64 (at' list x1).Airway, .int .i64 (at' list x1).From, .int .i64 (at' list x1).Until] .n rfl (.t rfl) (.t rfl) rfl ts_29 rfl rfl <|
            Lex.nil) ?_
        refine run_seq ?_
        refine run_draw fmo (q_ldN_ow .n (.t rfl) rfl (.inr rfl) ag_29 (fun _ => rfl) rfl rfl <|
            q_call0 (full := false) .n .f en_32 (.cons (.t rfl) .nil) (.cons (.sts rfl) .nil) (fun hg => c_impl_Permit_valid (at' list x1)) rfl (fun h => Bool.noConfusion h) rfl <|
            q_not .n (.t rfl) rfl <|
            q_move .n (.t rfl) rfl <|
            q_fld_ow (.f rfl rfl) (.t rfl) fo_26_1 rfl <|
            q_ld1_ow (.f rfl rfl) (.u rfl id) rfl (.inr rfl) (fun _ => rfl) rfl ic_24 rfl <|
            q_fld_ow (.f rfl rfl) (.t rfl) fo_29_2 rfl <|
            q_ld1_ow (.f rfl rfl) (.u rfl id) rfl (.inr rfl) (fun _ => rfl) rfl ic_2 rfl <|
            q_call0 (full := false) (.f rfl rfl) .f en_33 (.cons (.u rfl id) (.cons (.u rfl id) .nil)) (.cons (.b (.a (.same rfl))) (.cons (.b (.a (.same rfl))) .nil)) (fun hg => c_impl_indexValid_impl_Airway m_.Airways (at' list x1).Airway) rfl (fun h => Bool.noConfusion h) rfl <|
            q_not (.f rfl rfl) (.u rfl id) rfl <|
            q_or .n (.t rfl) (.u rfl id) rfl <|
            q_move .n (.t rfl) rfl <|
            q_move (.f rfl rfl) (.t rfl) rfl <|
            q_int (.f rfl rfl) (.u rfl id) (.c rfl) rfl rfl <|
            q_move (.f rfl rfl) (.u rfl id) rfl <|
            q_fld_ow (.t rfl rfl) (.t rfl) fo_29_0 rfl <|
            q_ld1_ow (.t rfl rfl) (.u rfl id) rfl (.inr rfl) (fun _ => rfl) rfl ic_9 rfl <|
            q_move (.t rfl rfl) (.t rfl) rfl <|
            q_move (.t rfl rfl) (.t rfl) rfl <|
            q_sub (.t rfl rfl) (.u rfl id) (.c rfl) (fun hg => by simp only [Bool.and_eq_true, Bool.or_eq_true, Bool.not_eq_true', Bool.and_eq_false_iff, Bool.or_eq_false_iff, Bool.not_eq_false', decide_eq_true_eq, decide_eq_false_iff_not, beq_iff_eq, bne_iff_ne, beq_eq_false_iff_ne, bne_eq_false_iff_eq, Bool.true_and, ne_eq, Decidable.not_not, Int.not_lt, Int.not_le, Nat.not_lt, Nat.not_le, strB_nil, strB_nil', strB_nnil, strB_nnil'] at hg; first | omega | assumption | (simp only [List.length_append, List.length_cons, List.length_nil, List.length_replicate, put_len] at * <;> omega)) rfl <|
            q_idx_rm (.t rfl rfl) (.u rfl id) (.u rfl id) sl_27 (fun hg => by simp only [Bool.and_eq_true, Bool.or_eq_true, Bool.not_eq_true', Bool.and_eq_false_iff, Bool.or_eq_false_iff, Bool.not_eq_false', decide_eq_true_eq, decide_eq_false_iff_not, beq_iff_eq, bne_iff_ne, beq_eq_false_iff_ne, bne_eq_false_iff_eq, Bool.true_and, ne_eq, Decidable.not_not, Int.not_lt, Int.not_le, Nat.not_lt, Nat.not_le, strB_nil, strB_nil', strB_nnil, strB_nnil'] at hg; first | omega | assumption | (simp only [List.length_append, List.length_cons, List.length_nil, List.length_replicate, put_len] at * <;> omega)) rfl <|
            q_fld_ro (.t rfl rfl) (.u rfl id) fo_29_0 rfl <|
            q_ld1_ro (.t rfl rfl) (.u rfl id) rfl ic_9 rfl <|
            q_strcmp (.t rfl rfl) (.u rfl id) (.u rfl id) rfl rfl <|
            q_and (.f rfl rfl) (.u rfl id) (.u rfl id) rfl <|
            q_or .n (.t rfl) (.u rfl id) rfl <|
            Lex.nil) (by kernel_rfl) ?_
        refine run_cond (.t rfl) rfl (fun h7 => ?_) (fun h7 => ?_)
        · try simp only [Bool.and_eq_true, Bool.or_eq_true, Bool.not_eq_true', Bool.and_eq_false_iff, Bool.or_eq_false_iff, Bool.not_eq_false', decide_eq_true_eq, decide_eq_false_iff_not, beq_iff_eq, bne_iff_ne, beq_eq_false_iff_ne, bne_eq_false_iff_eq, Bool.true_and, ne_eq, Decidable.not_not, Int.not_lt, Int.not_le, Nat.not_lt, Nat.not_le, strB_nil, strB_nil', strB_nnil, strB_nnil'] at h7
          try have hf0h7 := permit_imp h7
          try have hf1h7 := permit_imp h7.1
          try have hf2h7 := permit_imp h7.2
          try have hf3h7 := permit_imp h7.1.1
          try have hf4h7 := permit_imp h7.1.2
          try have hf5h7 := permit_imp h7.2.1
          try have hf6h7 := permit_imp h7.2.2
          try have hf7h7 := permit_imp h7.1.1.1
          try have hf8h7 := permit_imp h7.1.1.2
          try have hf9h7 := indexValid_imp h7
          try have hf10h7 := indexValid_imp h7.1
          try have hf11h7 := indexValid_imp h7.2
          try have hf12h7 := indexValid_imp h7.1.1
          try have hf13h7 := indexValid_imp h7.1.2
          try have hf14h7 := indexValid_imp h7.2.1
          try have hf15h7 := indexValid_imp h7.2.2
          try have hf16h7 := indexValid_imp h7.1.1.1
          try have hf17h7 := indexValid_imp h7.1.1.2
          refine run_seq ?_
          refine run_region (q_assign .n (.c rfl) rfl <|
              Lex.nil) ?_
          exact run_ret [] (.cons (.t rfl rfl) .nil) rfl trivial rfl
        · try simp only [Bool.and_eq_true, Bool.or_eq_true, Bool.not_eq_true', Bool.and_eq_false_iff, Bool.or_eq_false_iff, Bool.not_eq_false', decide_eq_true_eq, decide_eq_false_iff_not, beq_iff_eq, bne_iff_ne, beq_eq_false_iff_ne, bne_eq_false_iff_eq, Bool.true_and, ne_eq, Decidable.not_not, Int.not_lt, Int.not_le, Nat.not_lt, Nat.not_le, strB_nil, strB_nil', strB_nnil, strB_nnil'] at h7
          try have hf0h7 := permit_imp h7
          try have hf1h7 := permit_imp h7.1
          try have hf2h7 := permit_imp h7.2
          try have hf3h7 := permit_imp h7.1.1
          try have hf4h7 := permit_imp h7.1.2
          try have hf5h7 := permit_imp h7.2.1
          try have hf6h7 := permit_imp h7.2.2
          try have hf7h7 := permit_imp h7.1.1.1
          try have hf8h7 := permit_imp h7.1.1.2
          try have hf9h7 := indexValid_imp h7
          try have hf10h7 := indexValid_imp h7.1
          try have hf11h7 := indexValid_imp h7.2
          try have hf12h7 := indexValid_imp h7.1.1
          try have hf13h7 := indexValid_imp h7.1.2
          try have hf14h7 := indexValid_imp h7.2.1
          try have hf15h7 := indexValid_imp h7.2.2
          try have hf16h7 := indexValid_imp h7.1.1.1
          try have hf17h7 := indexValid_imp h7.1.1.2
          refine run_skip ?_
          refine run_endB ?_
          refine run_region (q_add .n (.t rfl) (.c rfl) (fun _ => by first | omega | assumption | (simp only [List.length_append, List.length_cons, List.length_nil, List.length_replicate, put_len] at * <;> omega)) rfl <|
              q_move .n (.t rfl) rfl <|
              Lex.nil) ?_
          exact run_again (x1 + 1) ⟨by first | omega | assumption | (simp only [List.length_append, List.length_cons, List.length_nil, List.length_replicate, put_len] at * <;> omega), by first | omega | assumption | (simp only [List.length_append, List.length_cons, List.length_nil, List.length_replicate, put_len] at * <;> omega)⟩ (by first | omega | assumption | (simp only [List.length_append, List.length_cons, List.length_nil, List.length_replicate, put_len] at * <;> omega)) (sub_of [] ⟨rfl, rfl, rfl, rfl, rfl, trivial⟩ ⟨rfl, trivial⟩ rfl)
      · try simp only [Bool.and_eq_true, Bool.or_eq_true, Bool.not_eq_true', Bool.and_eq_false_iff, Bool.or_eq_false_iff, Bool.not_eq_false', decide_eq_true_eq, decide_eq_false_iff_not, beq_iff_eq, bne_iff_ne, beq_eq_false_iff_ne, bne_eq_false_iff_eq, Bool.true_and, ne_eq, Decidable.not_not, Int.not_lt, Int.not_le, Nat.not_lt, Nat.not_le, strB_nil, strB_nil', strB_nnil, strB_nnil'] at h6
        refine run_exit rfl ?_
        exact run_cont hk4 x1 ⟨by first | omega | assumption | (simp only [List.length_append, List.length_cons, List.length_nil, List.length_replicate, put_len] at * <;> omega), by first | omega | assumption | (simp only [List.length_append, List.length_cons, List.length_nil, List.length_replicate, put_len] at * <;> omega), by first | omega | assumption | (simp only [List.length_append, List.length_cons, List.length_nil, List.length_replicate, put_len] at * <;> omega)⟩ (sub_of [] trivial trivial rfl)

/-! ### slices_IndexFunc_impl_Permit -/
theorem c_slices_IndexFunc_impl_Permit (s_ : List gPermit) (f : gPermit → Bool) (F_f : FuncId) (C_f : List V) (he_f : entB Try.prog F_f = true) (hr_f : C_f.all V.ro = true) (Q_f : gPermit → Prop) (hc_f : ∀ (a0 : gPermit), Q_f a0 → Con Try.prog F_f ([.st [.str a0.Id, .int .i64 a0.Kind, .int .i64 a0.Airway, .int .i64 a0.From, .int .i64 a0.Until]] ++ C_f) [] (.bool (f a0)) []) (hp1 : ∀ x ∈ s_, Q_f x) : Con Try.prog 90 [.sl 5 (s_.map gPermit.v), .clo F_f C_f] [] (.int .i64 (m_slices_IndexFunc_impl_Permit s_ f)) ([]) := by
  refine con_intro (out := fun r : Int => ((.int .i64 r : V), ([] : List (Nat × Option O)))) (r := (m_slices_IndexFunc_impl_Permit s_ f)) Try.func90 rfl Try.ntmps90 rfl ?_
  refine run_fact (t := 0) rfl fun hl => ?_
  have l1 := hl; clear hl; simp only [List.length_map] at l1
  refine run_seq ?_
  refine run_region (q_assign .n (.c rfl) rfl <|
      Lex.nil) ?_
  refine run_seq ?_
  refine run_seq ?_
  refine run_region (q_move .n (.t rfl) rfl <|
      q_len .n (.t rfl) rfl len_map ss_27 rfl <|
      q_move .n (.c rfl) rfl <|
      Lex.nil) ?_
  refine run_block ?_
  refine run_LOOP (m_slices_IndexFunc_impl_Permit_b1 s_ f) _ _ _ rfl (fun (x1 : Int) => 0 ≤ x1 ∧ x1 ≤ (s_.length : Int)) (fun x1 => 0 ≤ x1 ∧ x1 ≤ (s_.length : Int) ∧ (s_.length : Int) ≤ x1) (fun x1 => ((s_.length : Int) - x1 : Int).toNat) (fun x1 => ⟨[(0, some (true, .sl 5 (s_.map gPermit.v))), (1, some (true, .clo F_f C_f)), (7, some (true, .int .i64 (s_.length : Int))), (8, some (true, .int .i64 x1))], []⟩) (fun x1 => ⟨[], []⟩) ⟨by first | omega | assumption | (simp only [List.length_append, List.length_cons, List.length_nil, List.length_replicate, put_len] at * <;> omega), by first | omega | assumption | (simp only [List.length_append, List.length_cons, List.length_nil, List.length_replicate, put_len] at * <;> omega)⟩ (by first | omega | assumption | (simp only [List.length_append, List.length_cons, List.length_nil, List.length_replicate, put_len] at * <;> omega)) (sub_of [] ⟨rfl, clo_ren hr_f rfl, rfl, rfl, trivial⟩ trivial rfl) ?_ ?_
  · intro x1 i6
    obtain ⟨e7, e8, e9⟩ := i6
    try dsimp only at *
    refine run_seq ?_
    refine run_region (q_assign .n (.c rfl) rfl <|
        Lex.nil) ?_
    exact run_ret [] (.cons (.t rfl rfl) .nil) rfl trivial rfl
  · intro rec1 k1 hk2 x1 i3
    obtain ⟨e10, e11⟩ := i3
    try dsimp only at *
    refine run_seq ?_
    refine run_region (q_int .n (.t rfl) (.t rfl) rfl rfl <|
        Lex.nil) ?_
    refine run_seq ?_
    refine run_cond (.t rfl) rfl (fun h4 => ?_) (fun h4 => ?_)
    · try simp only [Bool.and_eq_true, Bool.or_eq_true, Bool.not_eq_true', Bool.and_eq_false_iff, Bool.or_eq_false_iff, Bool.not_eq_false', decide_eq_true_eq, decide_eq_false_iff_not, beq_iff_eq, bne_iff_ne, beq_eq_false_iff_ne, bne_eq_false_iff_eq, Bool.true_and, ne_eq, Decidable.not_not, Int.not_lt, Int.not_le, Nat.not_lt, Nat.not_le, strB_nil, strB_nil', strB_nnil, strB_nnil'] at h4
      refine run_skip ?_
      refine run_seq ?_
      refine run_block ?_
      refine run_seq ?_
      refine run_region (q_move .n (.t rfl) rfl <|
          q_assign .n (.t rfl) rfl <|
          Lex.nil) ?_
      refine run_seq ?_
      refine run_region (q_move .n (.t rfl) rfl <|
          q_move .n (.t rfl) rfl <|
          q_move .n (.t rfl) rfl <|
          q_idx_rm .n (.t rfl) (.t rfl) sl_27 (fun _ => by first | omega | assumption | (simp only [List.length_append, List.length_cons, List.length_nil, List.length_replicate, put_len] at * <;> omega)) rfl <|
          q_ldN_ro .n (.t rfl) ag_29 rfl rfl rfl <|
          q_call0 (full := false) .n (.c (.t rfl)) he_f (.cons (.t rfl) .nil) (passes_app hr_f (.cons (.sts rfl) .nil)) (fun hg => hc_f (at' s_ x1) (by exact at_all hp1 (by omega))) rfl (fun h => Bool.noConfusion h) rfl <|
          Lex.nil) ?_
      refine run_cond (.t rfl) rfl (fun h5 => ?_) (fun h5 => ?_)
      · try simp only [Bool.and_eq_true, Bool.or_eq_true, Bool.not_eq_true', Bool.and_eq_false_iff, Bool.or_eq_false_iff, Bool.not_eq_false', decide_eq_true_eq, decide_eq_false_iff_not, beq_iff_eq, bne_iff_ne, beq_eq_false_iff_ne, bne_eq_false_iff_eq, Bool.true_and, ne_eq, Decidable.not_not, Int.not_lt, Int.not_le, Nat.not_lt, Nat.not_le, strB_nil, strB_nil', strB_nnil, strB_nnil'] at h5
        refine run_seq ?_
        refine run_region (q_move .n (.t rfl) rfl <|
            q_assign .n (.t rfl) rfl <|
            Lex.nil) ?_
        exact run_ret [] (.cons (.t rfl rfl) .nil) rfl trivial rfl
      · try simp only [Bool.and_eq_true, Bool.or_eq_true, Bool.not_eq_true', Bool.and_eq_false_iff, Bool.or_eq_false_iff, Bool.not_eq_false', decide_eq_true_eq, decide_eq_false_iff_not, beq_iff_eq, bne_iff_ne, beq_eq_false_iff_ne, bne_eq_false_iff_eq, Bool.true_and, ne_eq, Decidable.not_not, Int.not_lt, Int.not_le, Nat.not_lt, Nat.not_le, strB_nil, strB_nil', strB_nnil, strB_nnil'] at h5
        refine run_skip ?_
        refine run_endB ?_
        refine run_region (q_add .n (.t rfl) (.c rfl) (fun _ => by first | omega | assumption | (simp only [List.length_append, List.length_cons, List.length_nil, List.length_replicate, put_len] at * <;> omega)) rfl <|
            q_move .n (.t rfl) rfl <|
            Lex.nil) ?_
        exact run_again (x1 + 1) ⟨by first | omega | assumption | (simp only [List.length_append, List.length_cons, List.length_nil, List.length_replicate, put_len] at * <;> omega), by first | omega | assumption | (simp only [List.length_append, List.length_cons, List.length_nil, List.length_replicate, put_len] at * <;> omega)⟩ (by first | omega | assumption | (simp only [List.length_append, List.length_cons, List.length_nil, List.length_replicate, put_len] at * <;> omega)) (sub_of [] ⟨rfl, clo_ren hr_f rfl, rfl, rfl, trivial⟩ trivial rfl)
    · try simp only [Bool.and_eq_true, Bool.or_eq_true, Bool.not_eq_true', Bool.and_eq_false_iff, Bool.or_eq_false_iff, Bool.not_eq_false', decide_eq_true_eq, decide_eq_false_iff_not, beq_iff_eq, bne_iff_ne, beq_eq_false_iff_ne, bne_eq_false_iff_eq, Bool.true_and, ne_eq, Decidable.not_not, Int.not_lt, Int.not_le, Nat.not_lt, Nat.not_le, strB_nil, strB_nil', strB_nnil, strB_nnil'] at h4
      refine run_exit rfl ?_
      exact run_cont hk2 x1 ⟨by first | omega | assumption | (simp only [List.length_append, List.length_cons, List.length_nil, List.length_replicate, put_len] at * <;> omega), by first | omega | assumption | (simp only [List.length_append, List.length_cons, List.length_nil, List.length_replicate, put_len] at * <;> omega), by first | omega | assumption | (simp only [List.length_append, List.length_cons, List.length_nil, List.length_replicate, put_len] at * <;> omega)⟩ (sub_of [] trivial trivial rfl)

/-! ### slices_ContainsFunc_impl_Permit -/
theorem c_slices_ContainsFunc_impl_Permit (s_ : List gPermit) (f : gPermit → Bool) (F_f : FuncId) (C_f : List V) (he_f : entB Try.prog F_f = true) (hr_f : C_f.all V.ro = true) (Q_f : gPermit → Prop) (hc_f : ∀ (a0 : gPermit), Q_f a0 → Con Try.prog F_f ([.st [.str a0.Id, .int .i64 a0.Kind, .int .i64 a0.Airway, .int .i64 a0.From, .int .i64 a0.Until]] ++ C_f) [] (.bool (f a0)) []) (hp1 : ∀ x ∈ s_, Q_f x) : Con Try.prog 63 [.sl 5 (s_.map gPermit.v), .clo F_f C_f] [] (.bool (m_slices_ContainsFunc_impl_Permit s_ f)) ([]) := by
  refine con_intro (out := fun r : Bool => ((.bool r : V), ([] : List (Nat × Option O)))) (r := (m_slices_ContainsFunc_impl_Permit s_ f)) Try.func63 rfl Try.ntmps63 rfl ?_
  refine run_fact (t := 0) rfl fun hl => ?_
  have l1 := hl; clear hl; simp only [List.length_map] at l1
  refine run_seq ?_
  refine run_region (q_assign .n (.c rfl) rfl <|
      Lex.nil) ?_
  refine run_seq ?_
  refine run_region (q_move .n (.t rfl) rfl <|
      q_move .n (.t rfl) rfl <|
      q_call0 (full := false) .n .f en_90 (.cons (.t rfl) (.cons (.t rfl) .nil)) (.cons (.b (.a (.same rfl))) (.cons (.clo (passBs_ro hr_f)) .nil)) (fun hg => c_slices_IndexFunc_impl_Permit s_ f F_f C_f he_f hr_f Q_f hc_f (by first | omega | assumption | (simp only [List.length_append, List.length_cons, List.length_nil, List.length_replicate, put_len] at * <;> omega))) rfl (fun h => Bool.noConfusion h) rfl <|
      q_int .n (.t rfl) (.c rfl) rfl rfl <|
      q_assign .n (.t rfl) rfl <|
      Lex.nil) ?_
  exact run_ret [] (.cons (.t rfl rfl) .nil) rfl trivial rfl

/-! ### impl_Airway_other -/
theorem c_impl_Airway_other (a : gAirway) (junction : Int) : Con Try.prog 91 [.st [.str a.Id, .int .i64 a.From, .int .i64 a.To, .int .i64 a.Length, .int .i64 a.Section, .int .i64 a.Friction, .int .i64 a.Shock], .int .i64 junction] [] (.tup [.int .i64 (m_impl_Airway_other a junction).1, .bool (m_impl_Airway_other a junction).2]) ([]) := by
  refine con_intro (out := fun r : Int × Bool => ((.tup [.int .i64 r.1, .bool r.2] : V), ([] : List (Nat × Option O)))) (r := (m_impl_Airway_other a junction)) Try.func91 rfl Try.ntmps91 rfl ?_
  refine run_seq ?_
  refine run_region (q_box (l := 200) .n rfl (.t rfl) rfl rfl rfl rfl <|
      q_assign .n (.c rfl) rfl <|
      q_assign .n (.c rfl) rfl <|
      Lex.nil) ?_
  refine run_seq ?_
  refine run_seq ?_
  refine run_region (q_move .n (.t rfl) rfl <|
      Lex.nil) ?_
  refine run_block ?_
  refine run_seq ?_
  refine run_region (q_fld_ow .n (.t rfl) fo_66_1 rfl <|
      q_ld1_ow .n (.t rfl) rfl (.inr rfl) (fun _ => rfl) rfl ic_2 rfl <|
      q_int .n (.t rfl) (.t rfl) rfl rfl <|
      q_assign .n (.t rfl) rfl <|
      Lex.nil) ?_
  refine run_cond (.t rfl) rfl (fun h1 => ?_) (fun h1 => ?_)
  · try simp only [Bool.and_eq_true, Bool.or_eq_true, Bool.not_eq_true', Bool.and_eq_false_iff, Bool.or_eq_false_iff, Bool.not_eq_false', decide_eq_true_eq, decide_eq_false_iff_not, beq_iff_eq, bne_iff_ne, beq_eq_false_iff_ne, bne_eq_false_iff_eq, Bool.true_and, ne_eq, Decidable.not_not, Int.not_lt, Int.not_le, Nat.not_lt, Nat.not_le, strB_nil, strB_nil', strB_nnil, strB_nnil'] at h1
    refine run_seq ?_
    refine run_region (q_fld_ow .n (.t rfl) fo_66_2 rfl <|
        q_ld1_ow .n (.t rfl) rfl (.inr rfl) (fun _ => rfl) rfl ic_2 rfl <|
        q_assign .n (.t rfl) rfl <|
        q_assign .n (.c rfl) rfl <|
        Lex.nil) ?_
    exact run_ret [] (.cons (.t rfl rfl) (.cons (.t rfl rfl) .nil)) rfl trivial rfl
  · try simp only [Bool.and_eq_true, Bool.or_eq_true, Bool.not_eq_true', Bool.and_eq_false_iff, Bool.or_eq_false_iff, Bool.not_eq_false', decide_eq_true_eq, decide_eq_false_iff_not, beq_iff_eq, bne_iff_ne, beq_eq_false_iff_ne, bne_eq_false_iff_eq, Bool.true_and, ne_eq, Decidable.not_not, Int.not_lt, Int.not_le, Nat.not_lt, Nat.not_le, strB_nil, strB_nil', strB_nnil, strB_nnil'] at h1
    refine run_seq ?_
    refine run_region (q_fld_ow .n (.t rfl) fo_66_2 rfl <|
        q_ld1_ow .n (.t rfl) rfl (.inr rfl) (fun _ => rfl) rfl ic_2 rfl <|
        q_int .n (.t rfl) (.t rfl) rfl rfl <|
        q_assign .n (.t rfl) rfl <|
        Lex.nil) ?_
    refine run_cond (.t rfl) rfl (fun h2 => ?_) (fun h2 => ?_)
    · try simp only [Bool.and_eq_true, Bool.or_eq_true, Bool.not_eq_true', Bool.and_eq_false_iff, Bool.or_eq_false_iff, Bool.not_eq_false', decide_eq_true_eq, decide_eq_false_iff_not, beq_iff_eq, bne_iff_ne, beq_eq_false_iff_ne, bne_eq_false_iff_eq, Bool.true_and, ne_eq, Decidable.not_not, Int.not_lt, Int.not_le, Nat.not_lt, Nat.not_le, strB_nil, strB_nil', strB_nnil, strB_nnil'] at h2
      refine run_seq ?_
      refine run_region (q_fld_ow .n (.t rfl) fo_66_1 rfl <|
          q_ld1_ow .n (.t rfl) rfl (.inr rfl) (fun _ => rfl) rfl ic_2 rfl <|
          q_assign .n (.t rfl) rfl <|
          q_assign .n (.c rfl) rfl <|
          Lex.nil) ?_
      exact run_ret [] (.cons (.t rfl rfl) (.cons (.t rfl rfl) .nil)) rfl trivial rfl
    · try simp only [Bool.and_eq_true, Bool.or_eq_true, Bool.not_eq_true', Bool.and_eq_false_iff, Bool.or_eq_false_iff, Bool.not_eq_false', decide_eq_true_eq, decide_eq_false_iff_not, beq_iff_eq, bne_iff_ne, beq_eq_false_iff_ne, bne_eq_false_iff_eq, Bool.true_and, ne_eq, Decidable.not_not, Int.not_lt, Int.not_le, Nat.not_lt, Nat.not_le, strB_nil, strB_nil', strB_nnil, strB_nnil'] at h2
      refine run_skip ?_
      refine run_endB ?_
      refine run_seq ?_
      refine run_region (q_assign .n (.c rfl) rfl <|
          q_assign .n (.c rfl) rfl <|
          Lex.nil) ?_
      exact run_ret [] (.cons (.t rfl rfl) (.cons (.t rfl rfl) .nil)) rfl trivial rfl

/-! ### impl_KindsClash -/
theorem c_impl_KindsClash (a : Int) (b : Int) (same : Bool) : Con Try.prog 92 [.int .i64 a, .int .i64 b, .bool same] [] (.bool (m_impl_KindsClash a b same)) ([]) := by
  refine con_intro (out := fun r : Bool => ((.bool r : V), ([] : List (Nat × Option O)))) (r := (m_impl_KindsClash a b same)) Try.func92 rfl Try.ntmps92 rfl ?_
  refine run_seq ?_
  refine run_region (q_assign .n (.c rfl) rfl <|
      Lex.nil) ?_
  refine run_seq ?_
  refine run_seq ?_
  refine run_region (q_move .n (.t rfl) rfl <|
      q_call0 (full := false) .n .f en_62 (.cons (.t rfl) .nil) (.cons (.b (.a (.same rfl))) .nil) (fun hg => c_impl_kindOk a) rfl (fun h => Bool.noConfusion h) rfl <|
      q_not .n (.t rfl) rfl <|
      q_move .n (.t rfl) rfl <|
      q_move (.f rfl rfl) (.t rfl) rfl <|
      q_call0 (full := false) (.f rfl rfl) .f en_62 (.cons (.u rfl id) .nil) (.cons (.b (.a (.same rfl))) .nil) (fun hg => c_impl_kindOk b) rfl (fun h => Bool.noConfusion h) rfl <|
      q_not (.f rfl rfl) (.u rfl id) rfl <|
      q_or .n (.t rfl) (.u rfl id) rfl <|
      Lex.nil) ?_
  refine run_cond (.t rfl) rfl (fun h1 => ?_) (fun h1 => ?_)
  · try simp only [Bool.and_eq_true, Bool.or_eq_true, Bool.not_eq_true', Bool.and_eq_false_iff, Bool.or_eq_false_iff, Bool.not_eq_false', decide_eq_true_eq, decide_eq_false_iff_not, beq_iff_eq, bne_iff_ne, beq_eq_false_iff_ne, bne_eq_false_iff_eq, Bool.true_and, ne_eq, Decidable.not_not, Int.not_lt, Int.not_le, Nat.not_lt, Nat.not_le, strB_nil, strB_nil', strB_nnil, strB_nnil'] at h1
    try have hf0h1 := kindOk_imp h1
    try have hf1h1 := kindOk_imp h1.1
    try have hf2h1 := kindOk_imp h1.2
    try have hf3h1 := kindOk_imp h1.1.1
    try have hf4h1 := kindOk_imp h1.1.2
    try have hf5h1 := kindOk_imp h1.2.1
    try have hf6h1 := kindOk_imp h1.2.2
    refine run_seq ?_
    refine run_region (q_assign .n (.c rfl) rfl <|
        Lex.nil) ?_
    exact run_ret [] (.cons (.t rfl rfl) .nil) rfl trivial rfl
  · try simp only [Bool.and_eq_true, Bool.or_eq_true, Bool.not_eq_true', Bool.and_eq_false_iff, Bool.or_eq_false_iff, Bool.not_eq_false', decide_eq_true_eq, decide_eq_false_iff_not, beq_iff_eq, bne_iff_ne, beq_eq_false_iff_ne, bne_eq_false_iff_eq, Bool.true_and, ne_eq, Decidable.not_not, Int.not_lt, Int.not_le, Nat.not_lt, Nat.not_le, strB_nil, strB_nil', strB_nnil, strB_nnil'] at h1
    try have hf0h1 := kindOk_imp h1
    try have hf1h1 := kindOk_imp h1.1
    try have hf2h1 := kindOk_imp h1.2
    try have hf3h1 := kindOk_imp h1.1.1
    try have hf4h1 := kindOk_imp h1.1.2
    try have hf5h1 := kindOk_imp h1.2.1
    try have hf6h1 := kindOk_imp h1.2.2
    refine run_skip ?_
    refine run_seq ?_
    refine run_seq ?_
    refine run_region (q_move .n (.t rfl) rfl <|
        q_move .n (.t rfl) rfl <|
        q_min .n (.t rfl) (.t rfl) rfl <|
        q_move .n (.t rfl) rfl <|
        q_move .n (.t rfl) rfl <|
        q_max .n (.t rfl) (.t rfl) rfl <|
        q_assign .n (.t rfl) rfl <|
        q_assign .n (.t rfl) rfl <|
        Lex.nil) ?_
    refine run_block ?_
    refine run_seq ?_
    refine run_region (q_move .n (.t rfl) rfl <|
        q_int .n (.t rfl) (.c rfl) rfl rfl <|
        q_assign .n (.t rfl) rfl <|
        Lex.nil) ?_
    refine run_cond (.t rfl) rfl (fun h2 => ?_) (fun h2 => ?_)
    · try simp only [Bool.and_eq_true, Bool.or_eq_true, Bool.not_eq_true', Bool.and_eq_false_iff, Bool.or_eq_false_iff, Bool.not_eq_false', decide_eq_true_eq, decide_eq_false_iff_not, beq_iff_eq, bne_iff_ne, beq_eq_false_iff_ne, bne_eq_false_iff_eq, Bool.true_and, ne_eq, Decidable.not_not, Int.not_lt, Int.not_le, Nat.not_lt, Nat.not_le, strB_nil, strB_nil', strB_nnil, strB_nnil'] at h2
      refine run_seq ?_
      refine run_region (q_assign .n (.c rfl) rfl <|
          Lex.nil) ?_
      exact run_ret [] (.cons (.t rfl rfl) .nil) rfl trivial rfl
    · try simp only [Bool.and_eq_true, Bool.or_eq_true, Bool.not_eq_true', Bool.and_eq_false_iff, Bool.or_eq_false_iff, Bool.not_eq_false', decide_eq_true_eq, decide_eq_false_iff_not, beq_iff_eq, bne_iff_ne, beq_eq_false_iff_ne, bne_eq_false_iff_eq, Bool.true_and, ne_eq, Decidable.not_not, Int.not_lt, Int.not_le, Nat.not_lt, Nat.not_le, strB_nil, strB_nil', strB_nnil, strB_nnil'] at h2
      refine run_seq ?_
      refine run_region (q_move .n (.t rfl) rfl <|
          q_int .n (.t rfl) (.c rfl) rfl rfl <|
          q_assign .n (.t rfl) rfl <|
          Lex.nil) ?_
      refine run_cond (.t rfl) rfl (fun h3 => ?_) (fun h3 => ?_)
      · try simp only [Bool.and_eq_true, Bool.or_eq_true, Bool.not_eq_true', Bool.and_eq_false_iff, Bool.or_eq_false_iff, Bool.not_eq_false', decide_eq_true_eq, decide_eq_false_iff_not, beq_iff_eq, bne_iff_ne, beq_eq_false_iff_ne, bne_eq_false_iff_eq, Bool.true_and, ne_eq, Decidable.not_not, Int.not_lt, Int.not_le, Nat.not_lt, Nat.not_le, strB_nil, strB_nil', strB_nnil, strB_nnil'] at h3
        refine run_seq ?_
        refine run_region (q_move .n (.t rfl) rfl <|
            q_int .n (.t rfl) (.c rfl) rfl rfl <|
            q_move .n (.t rfl) rfl <|
            q_move (.f rfl rfl) (.t rfl) rfl <|
            q_or .n (.t rfl) (.u rfl id) rfl <|
            q_assign .n (.t rfl) rfl <|
            Lex.nil) ?_
        exact run_ret [] (.cons (.t rfl rfl) .nil) rfl trivial rfl
      · try simp only [Bool.and_eq_true, Bool.or_eq_true, Bool.not_eq_true', Bool.and_eq_false_iff, Bool.or_eq_false_iff, Bool.not_eq_false', decide_eq_true_eq, decide_eq_false_iff_not, beq_iff_eq, bne_iff_ne, beq_eq_false_iff_ne, bne_eq_false_iff_eq, Bool.true_and, ne_eq, Decidable.not_not, Int.not_lt, Int.not_le, Nat.not_lt, Nat.not_le, strB_nil, strB_nil', strB_nnil, strB_nnil'] at h3
        refine run_seq ?_
        refine run_region (q_move .n (.t rfl) rfl <|
            q_int .n (.t rfl) (.c rfl) rfl rfl <|
            q_assign .n (.t rfl) rfl <|
            Lex.nil) ?_
        refine run_cond (.t rfl) rfl (fun h4 => ?_) (fun h4 => ?_)
        · try simp only [Bool.and_eq_true, Bool.or_eq_true, Bool.not_eq_true', Bool.and_eq_false_iff, Bool.or_eq_false_iff, Bool.not_eq_false', decide_eq_true_eq, decide_eq_false_iff_not, beq_iff_eq, bne_iff_ne, beq_eq_false_iff_ne, bne_eq_false_iff_eq, Bool.true_and, ne_eq, Decidable.not_not, Int.not_lt, Int.not_le, Nat.not_lt, Nat.not_le, strB_nil, strB_nil', strB_nnil, strB_nnil'] at h4
          refine run_seq ?_
          refine run_region (q_move .n (.t rfl) rfl <|
              q_assign .n (.t rfl) rfl <|
              Lex.nil) ?_
          exact run_ret [] (.cons (.t rfl rfl) .nil) rfl trivial rfl
        · try simp only [Bool.and_eq_true, Bool.or_eq_true, Bool.not_eq_true', Bool.and_eq_false_iff, Bool.or_eq_false_iff, Bool.not_eq_false', decide_eq_true_eq, decide_eq_false_iff_not, beq_iff_eq, bne_iff_ne, beq_eq_false_iff_ne, bne_eq_false_iff_eq, Bool.true_and, ne_eq, Decidable.not_not, Int.not_lt, Int.not_le, Nat.not_lt, Nat.not_le, strB_nil, strB_nil', strB_nnil, strB_nnil'] at h4
          refine run_skip ?_
          refine run_endB ?_
          refine run_seq ?_
          refine run_region (q_assign .n (.c rfl) rfl <|
              Lex.nil) ?_
          exact run_ret [] (.cons (.t rfl rfl) .nil) rfl trivial rfl

/-! ### impl_Mine_clash -/
theorem c_impl_Mine_clash (m_ : gMine) (x_ : gPermit) (y : gPermit) (hp1 : 0 ≤ x_.Airway ∧ x_.Airway < m_.Airways.length) (hp2 : 0 ≤ y.Airway ∧ y.Airway < m_.Airways.length) : Con Try.prog 65 [.st [.int .i64 m_.Junctions, .sl 7 (m_.Airways.map gAirway.v)], .st [.str x_.Id, .int .i64 x_.Kind, .int .i64 x_.Airway, .int .i64 x_.From, .int .i64 x_.Until], .st [.str y.Id, .int .i64 y.Kind, .int .i64 y.Airway, .int .i64 y.From, .int .i64 y.Until]] [] (.bool (m_impl_Mine_clash m_ x_ y)) ([]) := by
  refine con_intro (out := fun r : Bool => ((.bool r : V), ([] : List (Nat × Option O)))) (r := (m_impl_Mine_clash m_ x_ y)) Try.func65 rfl Try.ntmps65 rfl ?_
  refine run_factS (t := 0) 1 rfl rfl fun hl => ?_
  have l1 := hl; clear hl; simp only [List.length_map] at l1
  refine run_seq ?_
  refine run_region (q_box (l := 200) .n rfl (.t rfl) rfl rfl rfl rfl <|
      q_box (l := 201) .n rfl (.t rfl) rfl rfl rfl rfl <|
      q_box (l := 202) .n rfl (.t rfl) rfl rfl rfl rfl <|
      q_assign .n (.c rfl) rfl <|
      Lex.nil) ?_
  refine run_seq ?_
  refine run_seq ?_
  refine run_region (q_fld_ow .n (.t rfl) fo_29_3 rfl <|
      q_ld1_ow .n (.t rfl) rfl (.inr rfl) (fun _ => rfl) rfl ic_2 rfl <|
      q_fld_ow .n (.t rfl) fo_29_4 rfl <|
      q_ld1_ow .n (.t rfl) rfl (.inr rfl) (fun _ => rfl) rfl ic_2 rfl <|
      q_int .n (.t rfl) (.t rfl) rfl rfl <|
      q_move .n (.t rfl) rfl <|
      q_fld_ow (.f rfl rfl) (.t rfl) fo_29_3 rfl <|
      q_ld1_ow (.f rfl rfl) (.u rfl id) rfl (.inr rfl) (fun _ => rfl) rfl ic_2 rfl <|
      q_fld_ow (.f rfl rfl) (.t rfl) fo_29_4 rfl <|
      q_ld1_ow (.f rfl rfl) (.u rfl id) rfl (.inr rfl) (fun _ => rfl) rfl ic_2 rfl <|
      q_int (.f rfl rfl) (.u rfl id) (.u rfl id) rfl rfl <|
      q_or .n (.t rfl) (.u rfl id) rfl <|
      Lex.nil) ?_
  refine run_cond (.t rfl) rfl (fun h2 => ?_) (fun h2 => ?_)
  · try simp only [Bool.and_eq_true, Bool.or_eq_true, Bool.not_eq_true', Bool.and_eq_false_iff, Bool.or_eq_false_iff, Bool.not_eq_false', decide_eq_true_eq, decide_eq_false_iff_not, beq_iff_eq, bne_iff_ne, beq_eq_false_iff_ne, bne_eq_false_iff_eq, Bool.true_and, ne_eq, Decidable.not_not, Int.not_lt, Int.not_le, Nat.not_lt, Nat.not_le, strB_nil, strB_nil', strB_nnil, strB_nnil'] at h2
    refine run_seq ?_
    refine run_region (q_assign .n (.c rfl) rfl <|
        Lex.nil) ?_
    exact run_ret [] (.cons (.t rfl rfl) .nil) rfl trivial rfl
  · try simp only [Bool.and_eq_true, Bool.or_eq_true, Bool.not_eq_true', Bool.and_eq_false_iff, Bool.or_eq_false_iff, Bool.not_eq_false', decide_eq_true_eq, decide_eq_false_iff_not, beq_iff_eq, bne_iff_ne, beq_eq_false_iff_ne, bne_eq_false_iff_eq, Bool.true_and, ne_eq, Decidable.not_not, Int.not_lt, Int.not_le, Nat.not_lt, Nat.not_le, strB_nil, strB_nil', strB_nnil, strB_nnil'] at h2
    refine run_skip ?_
    refine run_seq ?_
    refine run_region (q_fld_ow .n (.t rfl) fo_26_1 rfl <|
        q_ld1_ow .n (.t rfl) rfl (.inr rfl) (fun _ => rfl) rfl ic_24 rfl <|
        q_fld_ow .n (.t rfl) fo_29_2 rfl <|
        q_ld1_ow .n (.t rfl) rfl (.inr rfl) (fun _ => rfl) rfl ic_2 rfl <|
        q_idx_rm .n (.t rfl) (.t rfl) sl_24 (fun _ => by first | omega | assumption | (simp only [List.length_append, List.length_cons, List.length_nil, List.length_replicate, put_len] at * <;> omega)) rfl <|
        q_ldN_ro .n (.t rfl) ag_66 rfl rfl rfl <|
        q_alloc (l := 203) .n rfl zv_66 rfl rfl <|
        q_st_boxm [.str (at' m_.Airways x_.Airway).Id, .int .i64 (at' m_.Airways x_.Airway).From, .int .i64 (at' m_.Airways x_.Airway).To, .int .i64 (at' m_.Airways x_.Airway).Length, .int .i64 (at' m_.Airways x_.Airway).Section, .int .i64 (at' m_.Airways x_.Airway).Friction, .int .i64 (at' m_.Airways x_.Airway).Shock] .n rfl (.t rfl) (.t rfl) rfl ts_66 rfl rfl <|
        Lex.nil) ?_
    refine run_seq ?_
    refine run_draw fmo (q_fld_ow .n (.t rfl) fo_26_1 rfl <|
        q_ld1_ow .n (.t rfl) rfl (.inr rfl) (fun _ => rfl) rfl ic_24 rfl <|
        q_fld_ow .n (.t rfl) fo_29_2 rfl <|
        q_ld1_ow .n (.t rfl) rfl (.inr rfl) (fun _ => rfl) rfl ic_2 rfl <|
        q_idx_rm .n (.t rfl) (.t rfl) sl_24 (fun _ => by first | omega | assumption | (simp only [List.length_append, List.length_cons, List.length_nil, List.length_replicate, put_len] at * <;> omega)) rfl <|
        q_ldN_ro .n (.t rfl) ag_66 rfl rfl rfl <|
        q_fld_ow .n (.t rfl) fo_66_1 rfl <|
        q_ld1_ow .n (.t rfl) rfl (.inr rfl) (fun _ => rfl) rfl ic_2 rfl <|
        q_call0 (full := false) .n .f en_91 (.cons (.t rfl) (.cons (.t rfl) .nil)) (.cons (.sts rfl) (.cons (.b (.a (.same rfl))) .nil)) (fun hg => c_impl_Airway_other (at' m_.Airways y.Airway) (at' m_.Airways x_.Airway).From) rfl (fun h => Bool.noConfusion h) rfl <|
        q_move .n (.t rfl) rfl <|
        q_ext .n (.t rfl) rfl rfl rfl <|
        q_ext .n (.t rfl) rfl rfl rfl <|
        q_assign .n (.t rfl) rfl <|
        q_assign .n (.t rfl) rfl <|
        Lex.nil) (by kernel_rfl) ?_
    refine run_seq ?_
    refine run_draw fmo (q_fld_ow .n (.t rfl) fo_26_1 rfl <|
        q_ld1_ow .n (.t rfl) rfl (.inr rfl) (fun _ => rfl) rfl ic_24 rfl <|
        q_fld_ow .n (.t rfl) fo_29_2 rfl <|
        q_ld1_ow .n (.t rfl) rfl (.inr rfl) (fun _ => rfl) rfl ic_2 rfl <|
        q_idx_rm .n (.t rfl) (.t rfl) sl_24 (fun _ => by first | omega | assumption | (simp only [List.length_append, List.length_cons, List.length_nil, List.length_replicate, put_len] at * <;> omega)) rfl <|
        q_ldN_ro .n (.t rfl) ag_66 rfl rfl rfl <|
        q_fld_ow .n (.t rfl) fo_66_2 rfl <|
        q_ld1_ow .n (.t rfl) rfl (.inr rfl) (fun _ => rfl) rfl ic_2 rfl <|
        q_call0 (full := false) .n .f en_91 (.cons (.t rfl) (.cons (.t rfl) .nil)) (.cons (.sts rfl) (.cons (.b (.a (.same rfl))) .nil)) (fun hg => c_impl_Airway_other (at' m_.Airways y.Airway) (at' m_.Airways x_.Airway).To) rfl (fun h => Bool.noConfusion h) rfl <|
        q_move .n (.t rfl) rfl <|
        q_ext .n (.t rfl) rfl rfl rfl <|
        q_ext .n (.t rfl) rfl rfl rfl <|
        q_assign .n (.t rfl) rfl <|
        q_assign .n (.t rfl) rfl <|
        Lex.nil) (by kernel_rfl) ?_
    refine run_seq ?_
    refine run_region (q_move .n (.t rfl) rfl <|
        q_move .n (.t rfl) rfl <|
        q_move (.f rfl rfl) (.t rfl) rfl <|
        q_or .n (.t rfl) (.u rfl id) rfl <|
        q_move .n (.t rfl) rfl <|
        q_fld_ow (.t rfl rfl) (.t rfl) fo_29_1 rfl <|
        q_ld1_ow (.t rfl rfl) (.u rfl id) rfl (.inr rfl) (fun _ => rfl) rfl ic_2 rfl <|
        q_fld_ow (.t rfl rfl) (.t rfl) fo_29_1 rfl <|
        q_ld1_ow (.t rfl rfl) (.u rfl id) rfl (.inr rfl) (fun _ => rfl) rfl ic_2 rfl <|
        q_fld_ow (.t rfl rfl) (.t rfl) fo_29_2 rfl <|
        q_ld1_ow (.t rfl rfl) (.u rfl id) rfl (.inr rfl) (fun _ => rfl) rfl ic_2 rfl <|
        q_fld_ow (.t rfl rfl) (.t rfl) fo_29_2 rfl <|
        q_ld1_ow (.t rfl rfl) (.u rfl id) rfl (.inr rfl) (fun _ => rfl) rfl ic_2 rfl <|
        q_int (.t rfl rfl) (.u rfl id) (.u rfl id) rfl rfl <|
        q_call0 (full := false) (.t rfl rfl) .f en_92 (.cons (.u rfl id) (.cons (.u rfl id) (.cons (.u rfl id) .nil))) (.cons (.b (.a (.same rfl))) (.cons (.b (.a (.same rfl))) (.cons (.b (.a (.same rfl))) .nil))) (fun hg => c_impl_KindsClash x_.Kind y.Kind (x_.Airway == y.Airway)) rfl (fun h => Bool.noConfusion h) rfl <|
        q_and .n (.t rfl) (.u rfl id) rfl <|
        q_assign .n (.t rfl) rfl <|
        Lex.nil) ?_
    exact run_ret [] (.cons (.t rfl rfl) .nil) rfl trivial rfl

/-! ### impl_Mine_clashesWith_1 -/
theorem c_impl_Mine_clashesWith_1 (y : gPermit) (p1 : gMine) (p2 : gPermit) (hp1 : 0 ≤ p2.Airway ∧ p2.Airway < p1.Airways.length) (hp2 : 0 ≤ y.Airway ∧ y.Airway < p1.Airways.length) : Con Try.prog 64 [.st [.str y.Id, .int .i64 y.Kind, .int .i64 y.Airway, .int .i64 y.From, .int .i64 y.Until], .rp [.int .i64 p1.Junctions, .sl 7 (p1.Airways.map gAirway.v)], .rp [.str p2.Id, .int .i64 p2.Kind, .int .i64 p2.Airway, .int .i64 p2.From, .int .i64 p2.Until]] [] (.bool (m_impl_Mine_clashesWith_1 y p1 p2)) ([]) := by
  refine con_intro (out := fun r : Bool => ((.bool r : V), ([] : List (Nat × Option O)))) (r := (m_impl_Mine_clashesWith_1 y p1 p2)) Try.func64 rfl Try.ntmps64 rfl ?_
  refine run_factP (t := 1) 1 rfl rfl fun hl => ?_
  have l1 := hl; clear hl; simp only [List.length_map] at l1
  refine run_seq ?_
  refine run_region (q_box (l := 200) .n rfl (.t rfl) rfl rfl rfl rfl <|
      q_assign .n (.c rfl) rfl <|
      Lex.nil) ?_
  refine run_seq ?_
  refine run_region (q_ldN_ro .n (.t rfl) ag_26 rfl rfl rfl <|
      q_ldN_ro .n (.t rfl) ag_29 rfl rfl rfl <|
      q_ldN_ow .n (.t rfl) rfl (.inr rfl) ag_29 (fun _ => rfl) rfl rfl <|
      q_call0 (full := false) .n .f en_65 (.cons (.t rfl) (.cons (.t rfl) (.cons (.t rfl) .nil))) (.cons (.sts rfl) (.cons (.sts rfl) (.cons (.sts rfl) .nil))) (fun hg => c_impl_Mine_clash p1 p2 y (by first | omega | assumption | (simp only [List.length_append, List.length_cons, List.length_nil, List.length_replicate, put_len] at * <;> omega)) (by first | omega | assumption | (simp only [List.length_append, List.length_cons, List.length_nil, List.length_replicate, put_len] at * <;> omega))) rfl (fun h => Bool.noConfusion h) rfl <|
      q_assign .n (.t rfl) rfl <|
      Lex.nil) ?_
  exact run_ret [] (.cons (.t rfl rfl) .nil) rfl trivial rfl

/-! ### impl_Mine_clashesWith -/
theorem c_impl_Mine_clashesWith (m_ : gMine) (x_ : gPermit) (list : List gPermit) (hp1 : 0 ≤ x_.Airway ∧ x_.Airway < m_.Airways.length) (hp2 : ∀ y ∈ list, 0 ≤ y.Airway ∧ y.Airway < m_.Airways.length) : Con Try.prog 34 [.st [.int .i64 m_.Junctions, .sl 7 (m_.Airways.map gAirway.v)], .st [.str x_.Id, .int .i64 x_.Kind, .int .i64 x_.Airway, .int .i64 x_.From, .int .i64 x_.Until], .sl 5 (list.map gPermit.v)] [] (.bool (m_impl_Mine_clashesWith m_ x_ list)) ([]) := by
  refine con_intro (out := fun r : Bool => ((.bool r : V), ([] : List (Nat × Option O)))) (r := (m_impl_Mine_clashesWith m_ x_ list)) Try.func34 rfl Try.ntmps34 rfl ?_
  refine run_factS (t := 0) 1 rfl rfl fun hl => ?_
  have l1 := hl; clear hl; simp only [List.length_map] at l1
  refine run_fact (t := 2) rfl fun hl => ?_
  have l2 := hl; clear hl; simp only [List.length_map] at l2
  refine run_seq ?_
  refine run_region (q_box (l := 200) .n rfl (.t rfl) rfl rfl rfl rfl <|
      q_box (l := 201) .n rfl (.t rfl) rfl rfl rfl rfl <|
      q_assign .n (.c rfl) rfl <|
      Lex.nil) ?_
  refine run_seq ?_
  refine run_region (q_move .n (.t rfl) rfl <|
      q_clo .n (.cons (.t rfl) (.cons (.t rfl) .nil)) rfl rfl <|
      q_call0 (full := true) .n .f en_63 (.cons (.t rfl) (.cons (.t rfl) .nil)) (.cons (.b (.a (.same rfl))) (.cons (.clo (.cons (.ptr rfl rfl (.inr rfl) rfl rfl (.cons (.same rfl) (.cons (.same rfl) .nil))) (.cons (.ptr rfl rfl (.inr rfl) rfl rfl (.cons (.same rfl) (.cons (.same rfl) (.cons (.same rfl) (.cons (.same rfl) (.cons (.same rfl) .nil)))))) .nil))) .nil)) (fun hg => c_slices_ContainsFunc_impl_Permit list (fun (a0 : gPermit) => m_impl_Mine_clashesWith_1 a0 m_ x_) 64 [.rp [.int .i64 m_.Junctions, .sl 7 (m_.Airways.map gAirway.v)], .rp [.str x_.Id, .int .i64 x_.Kind, .int .i64 x_.Airway, .int .i64 x_.From, .int .i64 x_.Until]] en_64 rfl (fun y => 0 ≤ y.Airway ∧ y.Airway < m_.Airways.length) (fun a0 hq0 => c_impl_Mine_clashesWith_1 a0 m_ x_ (by (try dsimp only at *); first | omega | assumption | (simp only [List.length_append, List.length_cons, List.length_nil, List.length_replicate, put_len] at * <;> omega)) (by (try dsimp only at *); first | omega | assumption | (simp only [List.length_append, List.length_cons, List.length_nil, List.length_replicate, put_len] at * <;> omega))) (by first | omega | assumption | (simp only [List.length_append, List.length_cons, List.length_nil, List.length_replicate, put_len] at * <;> omega))) rfl (fun _ => rfl) rfl <|
      q_assign .n (.t rfl) rfl <|
      Lex.nil) ?_
  exact run_ret [] (.cons (.t rfl rfl) .nil) rfl trivial rfl

/-! ### impl_orNotFound -/
theorem c_impl_orNotFound (n_ : Int) (ok : Bool) : Con Try.prog 35 [.int .i64 n_, .bool ok] [] (.tup [.int .i64 (m_impl_orNotFound n_ ok).1, .int .i64 (m_impl_orNotFound n_ ok).2]) ([]) := by
  refine con_intro (out := fun r : Int × Int => ((.tup [.int .i64 r.1, .int .i64 r.2] : V), ([] : List (Nat × Option O)))) (r := (m_impl_orNotFound n_ ok)) Try.func35 rfl Try.ntmps35 rfl ?_
  refine run_seq ?_
  refine run_region (q_assign .n (.c rfl) rfl <|
      q_assign .n (.c rfl) rfl <|
      Lex.nil) ?_
  refine run_seq ?_
  refine run_seq ?_
  refine run_region (q_move .n (.t rfl) rfl <|
      q_not .n (.t rfl) rfl <|
      Lex.nil) ?_
  refine run_cond (.t rfl) rfl (fun h1 => ?_) (fun h1 => ?_)
  · try simp only [Bool.and_eq_true, Bool.or_eq_true, Bool.not_eq_true', Bool.and_eq_false_iff, Bool.or_eq_false_iff, Bool.not_eq_false', decide_eq_true_eq, decide_eq_false_iff_not, beq_iff_eq, bne_iff_ne, beq_eq_false_iff_ne, bne_eq_false_iff_eq, Bool.true_and, ne_eq, Decidable.not_not, Int.not_lt, Int.not_le, Nat.not_lt, Nat.not_le, strB_nil, strB_nil', strB_nnil, strB_nnil'] at h1
    refine run_seq ?_
    refine run_region (q_assign .n (.c rfl) rfl <|
        q_assign .n (.c rfl) rfl <|
        Lex.nil) ?_
    exact run_ret [] (.cons (.t rfl rfl) (.cons (.t rfl rfl) .nil)) rfl trivial rfl
  · try simp only [Bool.and_eq_true, Bool.or_eq_true, Bool.not_eq_true', Bool.and_eq_false_iff, Bool.or_eq_false_iff, Bool.not_eq_false', decide_eq_true_eq, decide_eq_false_iff_not, beq_iff_eq, bne_iff_ne, beq_eq_false_iff_ne, bne_eq_false_iff_eq, Bool.true_and, ne_eq, Decidable.not_not, Int.not_lt, Int.not_le, Nat.not_lt, Nat.not_le, strB_nil, strB_nil', strB_nnil, strB_nnil'] at h1
    refine run_skip ?_
    refine run_seq ?_
    refine run_region (q_move .n (.t rfl) rfl <|
        q_assign .n (.t rfl) rfl <|
        q_assign .n (.c rfl) rfl <|
        Lex.nil) ?_
    exact run_ret [] (.cons (.t rfl rfl) (.cons (.t rfl rfl) .nil)) rfl trivial rfl

/-! ### impl_FirstStart -/
theorem c_impl_FirstStart (m_ : gMine) (list : List gPermit) (x_ : gPermit) : Con Try.prog 8 [.st [.int .i64 m_.Junctions, .sl 7 (m_.Airways.map gAirway.v)], .sl 5 (list.map gPermit.v), .st [.str x_.Id, .int .i64 x_.Kind, .int .i64 x_.Airway, .int .i64 x_.From, .int .i64 x_.Until]] [] (.tup [.int .i64 (m_impl_FirstStart m_ list x_).1, .int .i64 (m_impl_FirstStart m_ list x_).2]) ([]) := by
  refine con_intro (out := fun r : Int × Int => ((.tup [.int .i64 r.1, .int .i64 r.2] : V), ([] : List (Nat × Option O)))) (r := (m_impl_FirstStart m_ list x_)) Try.func8 rfl Try.ntmps8 rfl ?_
  refine run_factS (t := 0) 1 rfl rfl fun hl => ?_
  have l1 := hl; clear hl; simp only [List.length_map] at l1
  refine run_fact (t := 1) rfl fun hl => ?_
  have l2 := hl; clear hl; simp only [List.length_map] at l2
  refine run_seq ?_
  refine run_region (q_box (l := 200) .n rfl (.t rfl) rfl rfl rfl rfl <|
      q_box (l := 201) .n rfl (.t rfl) rfl rfl rfl rfl <|
      q_assign .n (.c rfl) rfl <|
      q_assign .n (.c rfl) rfl <|
      Lex.nil) ?_
  refine run_seq ?_
  refine run_block ?_
  refine run_seq ?_
  refine run_region (q_ldN_ow .n (.t rfl) rfl (.inr rfl) ag_26 (fun _ => rfl) rfl rfl <|
      q_move .n (.t rfl) rfl <|
      q_call0 (full := false) .n .f en_31 (.cons (.t rfl) (.cons (.t rfl) .nil)) (.cons (.sts rfl) (.cons (.b (.a (.same rfl))) .nil)) (fun hg => c_impl_ValidPermits m_ list) rfl (fun h => Bool.noConfusion h) rfl <|
      q_not .n (.t rfl) rfl <|
      q_assign .n (.t rfl) rfl <|
      Lex.nil) ?_
  refine run_cond (.t rfl) rfl (fun h3 => ?_) (fun h3 => ?_)
  · try simp only [Bool.and_eq_true, Bool.or_eq_true, Bool.not_eq_true', Bool.and_eq_false_iff, Bool.or_eq_false_iff, Bool.not_eq_false', decide_eq_true_eq, decide_eq_false_iff_not, beq_iff_eq, bne_iff_ne, beq_eq_false_iff_ne, bne_eq_false_iff_eq, Bool.true_and, ne_eq, Decidable.not_not, Int.not_lt, Int.not_le, Nat.not_lt, Nat.not_le, strB_nil, strB_nil', strB_nnil, strB_nnil'] at h3
    try have hf0h3 := ValidPermits_imp h3
    try have hf1h3 := ValidPermits_imp h3.1
    try have hf2h3 := ValidPermits_imp h3.2
    try have hf3h3 := ValidPermits_imp h3.1.1
    try have hf4h3 := ValidPermits_imp h3.1.2
    try have hf5h3 := ValidPermits_imp h3.2.1
    try have hf6h3 := ValidPermits_imp h3.2.2
    try have hf7h3 := ValidPermits_len h3
    try have hf8h3 := ValidPermits_len h3.1
    try have hf9h3 := ValidPermits_len h3.2
    try have hf10h3 := ValidPermits_len h3.1.1
    try have hf11h3 := ValidPermits_len h3.1.2
    try have hf12h3 := ValidPermits_len h3.2.1
    try have hf13h3 := ValidPermits_len h3.2.2
    refine run_seq ?_
    refine run_region (q_assign .n (.c rfl) rfl <|
        q_assign .n (.c rfl) rfl <|
        Lex.nil) ?_
    exact run_ret [] (.cons (.t rfl rfl) (.cons (.t rfl rfl) .nil)) rfl trivial rfl
  · try simp only [Bool.and_eq_true, Bool.or_eq_true, Bool.not_eq_true', Bool.and_eq_false_iff, Bool.or_eq_false_iff, Bool.not_eq_false', decide_eq_true_eq, decide_eq_false_iff_not, beq_iff_eq, bne_iff_ne, beq_eq_false_iff_ne, bne_eq_false_iff_eq, Bool.true_and, ne_eq, Decidable.not_not, Int.not_lt, Int.not_le, Nat.not_lt, Nat.not_le, strB_nil, strB_nil', strB_nnil, strB_nnil'] at h3
    try have hf0h3 := ValidPermits_imp h3
    try have hf1h3 := ValidPermits_imp h3.1
    try have hf2h3 := ValidPermits_imp h3.2
    try have hf3h3 := ValidPermits_imp h3.1.1
    try have hf4h3 := ValidPermits_imp h3.1.2
    try have hf5h3 := ValidPermits_imp h3.2.1
    try have hf6h3 := ValidPermits_imp h3.2.2
    try have hf7h3 := ValidPermits_len h3
    try have hf8h3 := ValidPermits_len h3.1
    try have hf9h3 := ValidPermits_len h3.2
    try have hf10h3 := ValidPermits_len h3.1.1
    try have hf11h3 := ValidPermits_len h3.1.2
    try have hf12h3 := ValidPermits_len h3.2.1
    try have hf13h3 := ValidPermits_len h3.2.2
    refine run_seq ?_
    refine run_region (q_ldN_ow .n (.t rfl) rfl (.inr rfl) ag_29 (fun _ => rfl) rfl rfl <|
        q_call0 (full := false) .n .f en_32 (.cons (.t rfl) .nil) (.cons (.sts rfl) .nil) (fun hg => c_impl_Permit_valid x_) rfl (fun h => Bool.noConfusion h) rfl <|
        q_not .n (.t rfl) rfl <|
        q_move .n (.t rfl) rfl <|
        q_fld_ow (.f rfl rfl) (.t rfl) fo_26_1 rfl <|
        q_ld1_ow (.f rfl rfl) (.u rfl id) rfl (.inr rfl) (fun _ => rfl) rfl ic_24 rfl <|
        q_fld_ow (.f rfl rfl) (.t rfl) fo_29_2 rfl <|
        q_ld1_ow (.f rfl rfl) (.u rfl id) rfl (.inr rfl) (fun _ => rfl) rfl ic_2 rfl <|
        q_call0 (full := false) (.f rfl rfl) .f en_33 (.cons (.u rfl id) (.cons (.u rfl id) .nil)) (.cons (.b (.a (.same rfl))) (.cons (.b (.a (.same rfl))) .nil)) (fun hg => c_impl_indexValid_impl_Airway m_.Airways x_.Airway) rfl (fun h => Bool.noConfusion h) rfl <|
        q_not (.f rfl rfl) (.u rfl id) rfl <|
        q_or .n (.t rfl) (.u rfl id) rfl <|
        q_assign .n (.t rfl) rfl <|
        Lex.nil) ?_
    refine run_cond (.t rfl) rfl (fun h4 => ?_) (fun h4 => ?_)
    · try simp only [Bool.and_eq_true, Bool.or_eq_true, Bool.not_eq_true', Bool.and_eq_false_iff, Bool.or_eq_false_iff, Bool.not_eq_false', decide_eq_true_eq, decide_eq_false_iff_not, beq_iff_eq, bne_iff_ne, beq_eq_false_iff_ne, bne_eq_false_iff_eq, Bool.true_and, ne_eq, Decidable.not_not, Int.not_lt, Int.not_le, Nat.not_lt, Nat.not_le, strB_nil, strB_nil', strB_nnil, strB_nnil'] at h4
      try have hf0h4 := permit_imp h4
      try have hf1h4 := permit_imp h4.1
      try have hf2h4 := permit_imp h4.2
      try have hf3h4 := permit_imp h4.1.1
      try have hf4h4 := permit_imp h4.1.2
      try have hf5h4 := permit_imp h4.2.1
      try have hf6h4 := permit_imp h4.2.2
      try have hf7h4 := indexValid_imp h4
      try have hf8h4 := indexValid_imp h4.1
      try have hf9h4 := indexValid_imp h4.2
      try have hf10h4 := indexValid_imp h4.1.1
      try have hf11h4 := indexValid_imp h4.1.2
      try have hf12h4 := indexValid_imp h4.2.1
      try have hf13h4 := indexValid_imp h4.2.2
      refine run_seq ?_
      refine run_region (q_assign .n (.c rfl) rfl <|
          q_assign .n (.c rfl) rfl <|
          Lex.nil) ?_
      exact run_ret [] (.cons (.t rfl rfl) (.cons (.t rfl rfl) .nil)) rfl trivial rfl
    · try simp only [Bool.and_eq_true, Bool.or_eq_true, Bool.not_eq_true', Bool.and_eq_false_iff, Bool.or_eq_false_iff, Bool.not_eq_false', decide_eq_true_eq, decide_eq_false_iff_not, beq_iff_eq, bne_iff_ne, beq_eq_false_iff_ne, bne_eq_false_iff_eq, Bool.true_and, ne_eq, Decidable.not_not, Int.not_lt, Int.not_le, Nat.not_lt, Nat.not_le, strB_nil, strB_nil', strB_nnil, strB_nnil'] at h4
      try have hf0h4 := permit_imp h4
      try have hf1h4 := permit_imp h4.1
      try have hf2h4 := permit_imp h4.2
      try have hf3h4 := permit_imp h4.1.1
      try have hf4h4 := permit_imp h4.1.2
      try have hf5h4 := permit_imp h4.2.1
      try have hf6h4 := permit_imp h4.2.2
      try have hf7h4 := indexValid_imp h4
      try have hf8h4 := indexValid_imp h4.1
      try have hf9h4 := indexValid_imp h4.2
      try have hf10h4 := indexValid_imp h4.1.1
      try have hf11h4 := indexValid_imp h4.1.2
      try have hf12h4 := indexValid_imp h4.2.1
      try have hf13h4 := indexValid_imp h4.2.2
      refine run_skip ?_
      refine run_endB ?_
      refine run_seq ?_
      refine run_block ?_
      refine run_LOOP (m_impl_FirstStart_b1 m_ list x_) _ _ _ rfl (fun (x1 : Int × Int) => 0 ≤ x1.1 ∧ x1.1 ≤ 100000 ∧ x1.2 - x1.1 = x_.Until - x_.From) (fun x1 => 0 ≤ x1.1 ∧ x1.1 ≤ 100000 ∧ x1.2 - x1.1 = x_.Until - x_.From) (fun x1 => (100000 - x1.1 : Int).toNat) (fun x1 => ⟨[(1, some (true, .sl 5 (list.map gPermit.v))), (3, some (true, .op 200 0 0 0)), (5, some (true, .op 201 0 0 0))], [(200, some (.box 26 [.int .i64 m_.Junctions, .sl 7 (m_.Airways.map gAirway.v)])), (201, some (.box 29 [.str x_.Id, .int .i64 x_.Kind, .int .i64 x_.Airway, .int .i64 x1.1, .int .i64 x1.2]))]⟩) (fun x1 => ⟨[(5, some (true, .op 201 0 0 0))], [(201, some (.box 29 [.str x_.Id, .int .i64 x_.Kind, .int .i64 x_.Airway, .int .i64 x1.1, .int .i64 x1.2]))]⟩) ⟨by first | omega | assumption | (simp only [List.length_append, List.length_cons, List.length_nil, List.length_replicate, put_len] at * <;> omega) | (have hq := PmIn.at (list := list) (i := x1) (by assumption) (by omega); omega) | (have hq := PmIn.at (list := list) (i := x2.2) (by assumption) (by omega); omega) | (have hq := PmIn.at (list := list) (i := x2.2) (by assumption) (by omega); dsimp only at *; omega) | (exact PmIn.air (by assumption)) | (dsimp only; omega), by first | omega | assumption | (simp only [List.length_append, List.length_cons, List.length_nil, List.length_replicate, put_len] at * <;> omega) | (have hq := PmIn.at (list := list) (i := x1) (by assumption) (by omega); omega) | (have hq := PmIn.at (list := list) (i := x2.2) (by assumption) (by omega); omega) | (have hq := PmIn.at (list := list) (i := x2.2) (by assumption) (by omega); dsimp only at *; omega) | (exact PmIn.air (by assumption)) | (dsimp only; omega)⟩ (by first | omega | assumption | (simp only [List.length_append, List.length_cons, List.length_nil, List.length_replicate, put_len] at * <;> omega) | (have hq := PmIn.at (list := list) (i := x1) (by assumption) (by omega); omega) | (have hq := PmIn.at (list := list) (i := x2.2) (by assumption) (by omega); omega) | (have hq := PmIn.at (list := list) (i := x2.2) (by assumption) (by omega); dsimp only at *; omega) | (exact PmIn.air (by assumption)) | (dsimp only; omega)) (sub_of [] ⟨rfl, rfl, rfl, trivial⟩ ⟨rfl, rfl, trivial⟩ rfl) ?_ ?_
      · intro x1 i8
        obtain ⟨e9, e10⟩ := i8
        try dsimp only at *
        refine run_seq ?_
        refine run_region (q_fld_ow .n (.t rfl) fo_29_3 rfl <|
            q_ld1_ow .n (.t rfl) rfl (.inr rfl) (fun _ => rfl) rfl ic_2 rfl <|
            q_fld_ow .n (.t rfl) fo_29_4 rfl <|
            q_ld1_ow .n (.t rfl) rfl (.inr rfl) (fun _ => rfl) rfl ic_2 rfl <|
            q_int .n (.t rfl) (.c rfl) rfl rfl <|
            q_call0 (full := false) .n .f en_35 (.cons (.t rfl) (.cons (.t rfl) .nil)) (.cons (.b (.a (.same rfl))) (.cons (.b (.a (.same rfl))) .nil)) (fun hg => c_impl_orNotFound x1.1 (decide (x1.2 ≤ 100000))) rfl (fun h => Bool.noConfusion h) rfl <|
            q_ext .n (.t rfl) rfl rfl rfl <|
            q_ext .n (.t rfl) rfl rfl rfl <|
            q_assign .n (.t rfl) rfl <|
            q_assign .n (.t rfl) rfl <|
            Lex.nil) ?_
        exact run_ret [] (.cons (.t rfl rfl) (.cons (.t rfl rfl) .nil)) rfl trivial rfl
      · intro rec1 k1 hk5 x1 i6
        obtain ⟨e11, e12⟩ := i6
        try dsimp only at *
        refine run_seq ?_
        refine run_seq ?_
        refine run_region (q_ldN_ow .n (.t rfl) rfl (.inr rfl) ag_26 (fun _ => rfl) rfl rfl <|
            q_ldN_ow .n (.t rfl) rfl (.inr rfl) ag_29 (fun _ => rfl) rfl rfl <|
            q_move .n (.t rfl) rfl <|
            q_call0 (full := false) .n .f en_34 (.cons (.t rfl) (.cons (.t rfl) (.cons (.t rfl) .nil))) (.cons (.sts rfl) (.cons (.sts rfl) (.cons (.b (.a (.same rfl))) .nil))) (fun hg => c_impl_Mine_clashesWith m_ (gPermit.mk x_.Id x_.Kind x_.Airway x1.1 x1.2) list (by first | omega | assumption | (simp only [List.length_append, List.length_cons, List.length_nil, List.length_replicate, put_len] at * <;> omega) | (have hq := PmIn.at (list := list) (i := x1) (by assumption) (by omega); omega) | (have hq := PmIn.at (list := list) (i := x2.2) (by assumption) (by omega); omega) | (have hq := PmIn.at (list := list) (i := x2.2) (by assumption) (by omega); dsimp only at *; omega) | (exact PmIn.air (by assumption)) | (dsimp only; omega)) (by first | omega | assumption | (simp only [List.length_append, List.length_cons, List.length_nil, List.length_replicate, put_len] at * <;> omega) | (have hq := PmIn.at (list := list) (i := x1) (by assumption) (by omega); omega) | (have hq := PmIn.at (list := list) (i := x2.2) (by assumption) (by omega); omega) | (have hq := PmIn.at (list := list) (i := x2.2) (by assumption) (by omega); dsimp only at *; omega) | (exact PmIn.air (by assumption)) | (dsimp only; omega))) rfl (fun h => Bool.noConfusion h) rfl <|
            Lex.nil) ?_
        refine run_cond (.t rfl) rfl (fun h7 => ?_) (fun h7 => ?_)
        · try simp only [Bool.and_eq_true, Bool.or_eq_true, Bool.not_eq_true', Bool.and_eq_false_iff, Bool.or_eq_false_iff, Bool.not_eq_false', decide_eq_true_eq, decide_eq_false_iff_not, beq_iff_eq, bne_iff_ne, beq_eq_false_iff_ne, bne_eq_false_iff_eq, Bool.true_and, ne_eq, Decidable.not_not, Int.not_lt, Int.not_le, Nat.not_lt, Nat.not_le, strB_nil, strB_nil', strB_nnil, strB_nnil'] at h7
          try have hf0h7 := clashesWith_lt (by assumption) h7
          try have hf1h7 := clashesWith_lt (by assumption) h7.1
          try have hf2h7 := clashesWith_lt (by assumption) h7.2
          try have hf3h7 := clashesWith_lt (by assumption) h7.1.1
          try have hf4h7 := clashesWith_lt (by assumption) h7.1.2
          try have hf5h7 := clashesWith_lt (by assumption) h7.2.1
          try have hf6h7 := clashesWith_lt (by assumption) h7.2.2
          refine run_skip ?_
          refine run_block ?_
          refine run_seq ?_
          refine run_region (q_fld_ow .n (.t rfl) fo_29_3 rfl <|
              q_ld1_ow .n (.t rfl) rfl (.inr rfl) (fun _ => rfl) rfl ic_2 rfl <|
              q_add .n (.t rfl) (.c rfl) (fun _ => by first | omega | assumption | (simp only [List.length_append, List.length_cons, List.length_nil, List.length_replicate, put_len] at * <;> omega) | (have hq := PmIn.at (list := list) (i := x1) (by assumption) (by omega); omega) | (have hq := PmIn.at (list := list) (i := x2.2) (by assumption) (by omega); omega) | (have hq := PmIn.at (list := list) (i := x2.2) (by assumption) (by omega); dsimp only at *; omega) | (exact PmIn.air (by assumption)) | (dsimp only; omega)) rfl <|
              q_fld_ow .n (.t rfl) fo_29_3 rfl <|
              q_st_boxm [.str x_.Id, .int .i64 x_.Kind, .int .i64 x_.Airway, .int .i64 (x1.1 + 1), .int .i64 x1.2] .n rfl (.t rfl) (.t rfl) rfl ts_2 rfl rfl <|
              Lex.nil) ?_
          refine run_region (q_fld_ow .n (.t rfl) fo_29_4 rfl <|
              q_ld1_ow .n (.t rfl) rfl (.inr rfl) (fun _ => rfl) rfl ic_2 rfl <|
              q_add .n (.t rfl) (.c rfl) (fun _ => by first | omega | assumption | (simp only [List.length_append, List.length_cons, List.length_nil, List.length_replicate, put_len] at * <;> omega) | (have hq := PmIn.at (list := list) (i := x1) (by assumption) (by omega); omega) | (have hq := PmIn.at (list := list) (i := x2.2) (by assumption) (by omega); omega) | (have hq := PmIn.at (list := list) (i := x2.2) (by assumption) (by omega); dsimp only at *; omega) | (exact PmIn.air (by assumption)) | (dsimp only; omega)) rfl <|
              q_fld_ow .n (.t rfl) fo_29_4 rfl <|
              q_st_boxm [.str x_.Id, .int .i64 x_.Kind, .int .i64 x_.Airway, .int .i64 (x1.1 + 1), .int .i64 (x1.2 + 1)] .n rfl (.t rfl) (.t rfl) rfl ts_2 rfl rfl <|
              Lex.nil) ?_
          refine run_endB ?_
          exact run_again (x1.1 + 1, x1.2 + 1) ⟨by first | omega | assumption | (simp only [List.length_append, List.length_cons, List.length_nil, List.length_replicate, put_len] at * <;> omega) | (have hq := PmIn.at (list := list) (i := x1) (by assumption) (by omega); omega) | (have hq := PmIn.at (list := list) (i := x2.2) (by assumption) (by omega); omega) | (have hq := PmIn.at (list := list) (i := x2.2) (by assumption) (by omega); dsimp only at *; omega) | (exact PmIn.air (by assumption)) | (dsimp only; omega), by first | omega | assumption | (simp only [List.length_append, List.length_cons, List.length_nil, List.length_replicate, put_len] at * <;> omega) | (have hq := PmIn.at (list := list) (i := x1) (by assumption) (by omega); omega) | (have hq := PmIn.at (list := list) (i := x2.2) (by assumption) (by omega); omega) | (have hq := PmIn.at (list := list) (i := x2.2) (by assumption) (by omega); dsimp only at *; omega) | (exact PmIn.air (by assumption)) | (dsimp only; omega)⟩ (by first | omega | assumption | (simp only [List.length_append, List.length_cons, List.length_nil, List.length_replicate, put_len] at * <;> omega) | (have hq := PmIn.at (list := list) (i := x1) (by assumption) (by omega); omega) | (have hq := PmIn.at (list := list) (i := x2.2) (by assumption) (by omega); omega) | (have hq := PmIn.at (list := list) (i := x2.2) (by assumption) (by omega); dsimp only at *; omega) | (exact PmIn.air (by assumption)) | (dsimp only; omega)) (sub_of [] ⟨rfl, rfl, rfl, trivial⟩ ⟨rfl, rfl, trivial⟩ rfl)
        · try simp only [Bool.and_eq_true, Bool.or_eq_true, Bool.not_eq_true', Bool.and_eq_false_iff, Bool.or_eq_false_iff, Bool.not_eq_false', decide_eq_true_eq, decide_eq_false_iff_not, beq_iff_eq, bne_iff_ne, beq_eq_false_iff_ne, bne_eq_false_iff_eq, Bool.true_and, ne_eq, Decidable.not_not, Int.not_lt, Int.not_le, Nat.not_lt, Nat.not_le, strB_nil, strB_nil', strB_nnil, strB_nnil'] at h7
          try have hf0h7 := clashesWith_lt (by assumption) h7
          try have hf1h7 := clashesWith_lt (by assumption) h7.1
          try have hf2h7 := clashesWith_lt (by assumption) h7.2
          try have hf3h7 := clashesWith_lt (by assumption) h7.1.1
          try have hf4h7 := clashesWith_lt (by assumption) h7.1.2
          try have hf5h7 := clashesWith_lt (by assumption) h7.2.1
          try have hf6h7 := clashesWith_lt (by assumption) h7.2.2
          refine run_exit rfl ?_
          exact run_cont hk5 (x1.1, x1.2) ⟨by first | omega | assumption | (simp only [List.length_append, List.length_cons, List.length_nil, List.length_replicate, put_len] at * <;> omega) | (have hq := PmIn.at (list := list) (i := x1) (by assumption) (by omega); omega) | (have hq := PmIn.at (list := list) (i := x2.2) (by assumption) (by omega); omega) | (have hq := PmIn.at (list := list) (i := x2.2) (by assumption) (by omega); dsimp only at *; omega) | (exact PmIn.air (by assumption)) | (dsimp only; omega), by first | omega | assumption | (simp only [List.length_append, List.length_cons, List.length_nil, List.length_replicate, put_len] at * <;> omega) | (have hq := PmIn.at (list := list) (i := x1) (by assumption) (by omega); omega) | (have hq := PmIn.at (list := list) (i := x2.2) (by assumption) (by omega); omega) | (have hq := PmIn.at (list := list) (i := x2.2) (by assumption) (by omega); dsimp only at *; omega) | (exact PmIn.air (by assumption)) | (dsimp only; omega)⟩ (sub_of [] ⟨rfl, trivial⟩ ⟨rfl, trivial⟩ rfl)

/-! ### spec_l01Small -/
theorem c_spec_l01Small (c_ : Int) : Con Try.prog 95 [.int .u8 c_] [] (.bool (m_spec_l01Small c_)) ([]) := by
  refine con_intro (out := fun r : Bool => ((.bool r : V), ([] : List (Nat × Option O)))) (r := (m_spec_l01Small c_)) Try.func95 rfl Try.ntmps95 rfl ?_
  refine run_seq ?_
  refine run_region (q_assign .n (.c rfl) rfl <|
      Lex.nil) ?_
  refine run_seq ?_
  refine run_region (q_move .n (.t rfl) rfl <|
      q_int .n (.t rfl) (.c rfl) rfl rfl <|
      q_move .n (.t rfl) rfl <|
      q_move (.t rfl rfl) (.t rfl) rfl <|
      q_int (.t rfl rfl) (.u rfl id) (.c rfl) rfl rfl <|
      q_and .n (.t rfl) (.u rfl id) rfl <|
      q_assign .n (.t rfl) rfl <|
      Lex.nil) ?_
  exact run_ret [] (.cons (.t rfl rfl) .nil) rfl trivial rfl

/-! ### spec_l01Digit -/
theorem c_spec_l01Digit (c_ : Int) : Con Try.prog 96 [.int .u8 c_] [] (.bool (m_spec_l01Digit c_)) ([]) := by
  refine con_intro (out := fun r : Bool => ((.bool r : V), ([] : List (Nat × Option O)))) (r := (m_spec_l01Digit c_)) Try.func96 rfl Try.ntmps96 rfl ?_
  refine run_seq ?_
  refine run_region (q_assign .n (.c rfl) rfl <|
      Lex.nil) ?_
  refine run_seq ?_
  refine run_region (q_move .n (.t rfl) rfl <|
      q_int .n (.t rfl) (.c rfl) rfl rfl <|
      q_move .n (.t rfl) rfl <|
      q_move (.t rfl rfl) (.t rfl) rfl <|
      q_int (.t rfl rfl) (.u rfl id) (.c rfl) rfl rfl <|
      q_and .n (.t rfl) (.u rfl id) rfl <|
      q_assign .n (.t rfl) rfl <|
      Lex.nil) ?_
  exact run_ret [] (.cons (.t rfl rfl) .nil) rfl trivial rfl

/-! ### spec_l01Name -/
theorem c_spec_l01Name (s_ : List UInt8) : Con Try.prog 67 [.str s_] [] (.bool (m_spec_l01Name s_)) ([]) := by
  refine con_intro (out := fun r : Bool => ((.bool r : V), ([] : List (Nat × Option O)))) (r := (m_spec_l01Name s_)) Try.func67 rfl Try.ntmps67 rfl ?_
  refine run_seq ?_
  refine run_region (q_assign .n (.c rfl) rfl <|
      Lex.nil) ?_
  refine run_seq ?_
  refine run_seq ?_
  refine run_region (q_move .n (.t rfl) rfl <|
      q_strcmp .n (.t rfl) (.c rfl) rfl rfl <|
      q_move .n (.t rfl) rfl <|
      q_move (.f rfl rfl) (.t rfl) rfl <|
      q_len (.f rfl rfl) (.u rfl id) rfl rfl st_9 rfl <|
      q_int (.f rfl rfl) (.u rfl id) (.c rfl) rfl rfl <|
      q_or .n (.t rfl) (.u rfl id) rfl <|
      q_move .n (.t rfl) rfl <|
      q_move (.f rfl rfl) (.t rfl) rfl <|
      q_strat (.f rfl rfl) (.u rfl id) (.c rfl) st_9 (fun hg => by simp only [Bool.and_eq_true, Bool.or_eq_true, Bool.not_eq_true', Bool.and_eq_false_iff, Bool.or_eq_false_iff, Bool.not_eq_false', decide_eq_true_eq, decide_eq_false_iff_not, beq_iff_eq, bne_iff_ne, beq_eq_false_iff_ne, bne_eq_false_iff_eq, Bool.true_and, ne_eq, Decidable.not_not, Int.not_lt, Int.not_le, Nat.not_lt, Nat.not_le, strB_nil, strB_nil', strB_nnil, strB_nnil'] at hg; first | omega | assumption | (simp only [List.length_append, List.length_cons, List.length_nil, List.length_replicate, put_len] at * <;> omega)) rfl <|
      q_call0 (full := false) (.f rfl rfl) .f en_95 (.cons (.u rfl id) .nil) (.cons (.b (.a (.same rfl))) .nil) (fun hg => c_spec_l01Small (((s_.getD (0 : Int).toNat 0).toNat : Nat) : Int)) rfl (fun h => Bool.noConfusion h) rfl <|
      q_not (.f rfl rfl) (.u rfl id) rfl <|
      q_or .n (.t rfl) (.u rfl id) rfl <|
      Lex.nil) ?_
  refine run_cond (.t rfl) rfl (fun h1 => ?_) (fun h1 => ?_)
  · try simp only [Bool.and_eq_true, Bool.or_eq_true, Bool.not_eq_true', Bool.and_eq_false_iff, Bool.or_eq_false_iff, Bool.not_eq_false', decide_eq_true_eq, decide_eq_false_iff_not, beq_iff_eq, bne_iff_ne, beq_eq_false_iff_ne, bne_eq_false_iff_eq, Bool.true_and, ne_eq, Decidable.not_not, Int.not_lt, Int.not_le, Nat.not_lt, Nat.not_le, strB_nil, strB_nil', strB_nnil, strB_nnil'] at h1
    refine run_seq ?_
    refine run_region (q_assign .n (.c rfl) rfl <|
        Lex.nil) ?_
    exact run_ret [] (.cons (.t rfl rfl) .nil) rfl trivial rfl
  · try simp only [Bool.and_eq_true, Bool.or_eq_true, Bool.not_eq_true', Bool.and_eq_false_iff, Bool.or_eq_false_iff, Bool.not_eq_false', decide_eq_true_eq, decide_eq_false_iff_not, beq_iff_eq, bne_iff_ne, beq_eq_false_iff_ne, bne_eq_false_iff_eq, Bool.true_and, ne_eq, Decidable.not_not, Int.not_lt, Int.not_le, Nat.not_lt, Nat.not_le, strB_nil, strB_nil', strB_nnil, strB_nnil'] at h1
    refine run_skip ?_
    refine run_seq ?_
    refine run_seq ?_
    refine run_region (q_assign .n (.c rfl) rfl <|
        Lex.nil) ?_
    refine run_block ?_
    refine run_LOOP (m_spec_l01Name_b1 s_) _ _ _ rfl (fun (x1 : Int) => 0 ≤ x1 ∧ x1 ≤ (s_.length : Int)) (fun x1 => 0 ≤ x1 ∧ x1 ≤ (s_.length : Int) ∧ (s_.length : Int) ≤ x1) (fun x1 => ((s_.length : Int) - x1 : Int).toNat) (fun x1 => ⟨[(0, some (true, .str s_)), (3, some (true, .int .i64 x1))], []⟩) (fun x1 => ⟨[], []⟩) ⟨by first | omega | assumption | (simp only [List.length_append, List.length_cons, List.length_nil, List.length_replicate, put_len] at * <;> omega), by first | omega | assumption | (simp only [List.length_append, List.length_cons, List.length_nil, List.length_replicate, put_len] at * <;> omega)⟩ (by first | omega | assumption | (simp only [List.length_append, List.length_cons, List.length_nil, List.length_replicate, put_len] at * <;> omega)) (sub_of [] ⟨rfl, rfl, trivial⟩ trivial rfl) ?_ ?_
    · intro x1 i6
      obtain ⟨e7, e8, e9⟩ := i6
      try dsimp only at *
      refine run_seq ?_
      refine run_region (q_assign .n (.c rfl) rfl <|
          Lex.nil) ?_
      exact run_ret [] (.cons (.t rfl rfl) .nil) rfl trivial rfl
    · intro rec1 k1 hk2 x1 i3
      obtain ⟨e10, e11⟩ := i3
      try dsimp only at *
      refine run_seq ?_
      refine run_seq ?_
      refine run_region (q_move .n (.t rfl) rfl <|
          q_move .n (.t rfl) rfl <|
          q_len .n (.t rfl) rfl rfl st_9 rfl <|
          q_int .n (.t rfl) (.t rfl) rfl rfl <|
          Lex.nil) ?_
      refine run_cond (.t rfl) rfl (fun h4 => ?_) (fun h4 => ?_)
      · try simp only [Bool.and_eq_true, Bool.or_eq_true, Bool.not_eq_true', Bool.and_eq_false_iff, Bool.or_eq_false_iff, Bool.not_eq_false', decide_eq_true_eq, decide_eq_false_iff_not, beq_iff_eq, bne_iff_ne, beq_eq_false_iff_ne, bne_eq_false_iff_eq, Bool.true_and, ne_eq, Decidable.not_not, Int.not_lt, Int.not_le, Nat.not_lt, Nat.not_le, strB_nil, strB_nil', strB_nnil, strB_nnil'] at h4
        refine run_skip ?_
        refine run_seq ?_
        refine run_block ?_
        refine run_seq ?_
        refine run_region (q_move .n (.t rfl) rfl <|
            q_move .n (.t rfl) rfl <|
            q_strat .n (.t rfl) (.t rfl) st_9 (fun _ => by first | omega | assumption | (simp only [List.length_append, List.length_cons, List.length_nil, List.length_replicate, put_len] at * <;> omega)) rfl <|
            q_call0 (full := false) .n .f en_95 (.cons (.t rfl) .nil) (.cons (.b (.a (.same rfl))) .nil) (fun hg => c_spec_l01Small (((s_.getD x1.toNat 0).toNat : Nat) : Int)) rfl (fun h => Bool.noConfusion h) rfl <|
            q_not .n (.t rfl) rfl <|
            q_move .n (.t rfl) rfl <|
            q_move (.t rfl rfl) (.t rfl) rfl <|
            q_move (.t rfl rfl) (.t rfl) rfl <|
            q_strat (.t rfl rfl) (.u rfl id) (.u rfl id) st_9 (fun hg => by simp only [Bool.and_eq_true, Bool.or_eq_true, Bool.not_eq_true', Bool.and_eq_false_iff, Bool.or_eq_false_iff, Bool.not_eq_false', decide_eq_true_eq, decide_eq_false_iff_not, beq_iff_eq, bne_iff_ne, beq_eq_false_iff_ne, bne_eq_false_iff_eq, Bool.true_and, ne_eq, Decidable.not_not, Int.not_lt, Int.not_le, Nat.not_lt, Nat.not_le, strB_nil, strB_nil', strB_nnil, strB_nnil'] at hg; first | omega | assumption | (simp only [List.length_append, List.length_cons, List.length_nil, List.length_replicate, put_len] at * <;> omega)) rfl <|
            q_call0 (full := false) (.t rfl rfl) .f en_96 (.cons (.u rfl id) .nil) (.cons (.b (.a (.same rfl))) .nil) (fun hg => c_spec_l01Digit (((s_.getD x1.toNat 0).toNat : Nat) : Int)) rfl (fun h => Bool.noConfusion h) rfl <|
            q_not (.t rfl rfl) (.u rfl id) rfl <|
            q_and .n (.t rfl) (.u rfl id) rfl <|
            Lex.nil) ?_
        refine run_cond (.t rfl) rfl (fun h5 => ?_) (fun h5 => ?_)
        · try simp only [Bool.and_eq_true, Bool.or_eq_true, Bool.not_eq_true', Bool.and_eq_false_iff, Bool.or_eq_false_iff, Bool.not_eq_false', decide_eq_true_eq, decide_eq_false_iff_not, beq_iff_eq, bne_iff_ne, beq_eq_false_iff_ne, bne_eq_false_iff_eq, Bool.true_and, ne_eq, Decidable.not_not, Int.not_lt, Int.not_le, Nat.not_lt, Nat.not_le, strB_nil, strB_nil', strB_nnil, strB_nnil'] at h5
          refine run_seq ?_
          refine run_region (q_assign .n (.c rfl) rfl <|
              Lex.nil) ?_
          exact run_ret [] (.cons (.t rfl rfl) .nil) rfl trivial rfl
        · try simp only [Bool.and_eq_true, Bool.or_eq_true, Bool.not_eq_true', Bool.and_eq_false_iff, Bool.or_eq_false_iff, Bool.not_eq_false', decide_eq_true_eq, decide_eq_false_iff_not, beq_iff_eq, bne_iff_ne, beq_eq_false_iff_ne, bne_eq_false_iff_eq, Bool.true_and, ne_eq, Decidable.not_not, Int.not_lt, Int.not_le, Nat.not_lt, Nat.not_le, strB_nil, strB_nil', strB_nnil, strB_nnil'] at h5
          refine run_skip ?_
          refine run_endB ?_
          refine run_region (q_move .n (.t rfl) rfl <|
              q_add .n (.t rfl) (.c rfl) (fun _ => by first | omega | assumption | (simp only [List.length_append, List.length_cons, List.length_nil, List.length_replicate, put_len] at * <;> omega)) rfl <|
              q_assign .n (.t rfl) rfl <|
              Lex.nil) ?_
          exact run_again (x1 + 1) ⟨by first | omega | assumption | (simp only [List.length_append, List.length_cons, List.length_nil, List.length_replicate, put_len] at * <;> omega), by first | omega | assumption | (simp only [List.length_append, List.length_cons, List.length_nil, List.length_replicate, put_len] at * <;> omega)⟩ (by first | omega | assumption | (simp only [List.length_append, List.length_cons, List.length_nil, List.length_replicate, put_len] at * <;> omega)) (sub_of [] ⟨rfl, rfl, trivial⟩ trivial rfl)
      · try simp only [Bool.and_eq_true, Bool.or_eq_true, Bool.not_eq_true', Bool.and_eq_false_iff, Bool.or_eq_false_iff, Bool.not_eq_false', decide_eq_true_eq, decide_eq_false_iff_not, beq_iff_eq, bne_iff_ne, beq_eq_false_iff_ne, bne_eq_false_iff_eq, Bool.true_and, ne_eq, Decidable.not_not, Int.not_lt, Int.not_le, Nat.not_lt, Nat.not_le, strB_nil, strB_nil', strB_nnil, strB_nnil'] at h4
        refine run_exit rfl ?_
        exact run_cont hk2 x1 ⟨by first | omega | assumption | (simp only [List.length_append, List.length_cons, List.length_nil, List.length_replicate, put_len] at * <;> omega), by first | omega | assumption | (simp only [List.length_append, List.length_cons, List.length_nil, List.length_replicate, put_len] at * <;> omega), by first | omega | assumption | (simp only [List.length_append, List.length_cons, List.length_nil, List.length_replicate, put_len] at * <;> omega)⟩ (sub_of [] trivial trivial rfl)

/-! ### spec_l00In -/
theorem c_spec_l00In (n_ : Int) (low : Int) (high : Int) : Con Try.prog 70 [.int .i64 n_, .int .i64 low, .int .i64 high] [] (.bool (m_spec_l00In n_ low high)) ([]) := by
  refine con_intro (out := fun r : Bool => ((.bool r : V), ([] : List (Nat × Option O)))) (r := (m_spec_l00In n_ low high)) Try.func70 rfl Try.ntmps70 rfl ?_
  refine run_seq ?_
  refine run_region (q_assign .n (.c rfl) rfl <|
      Lex.nil) ?_
  refine run_seq ?_
  refine run_region (q_move .n (.t rfl) rfl <|
      q_move .n (.t rfl) rfl <|
      q_int .n (.t rfl) (.t rfl) rfl rfl <|
      q_move .n (.t rfl) rfl <|
      q_move (.t rfl rfl) (.t rfl) rfl <|
      q_move (.t rfl rfl) (.t rfl) rfl <|
      q_int (.t rfl rfl) (.u rfl id) (.u rfl id) rfl rfl <|
      q_and .n (.t rfl) (.u rfl id) rfl <|
      q_assign .n (.t rfl) rfl <|
      Lex.nil) ?_
  exact run_ret [] (.cons (.t rfl rfl) .nil) rfl trivial rfl

/-! ### spec_l26Kind -/
theorem c_spec_l26Kind (kind : Int) : Con Try.prog 68 [.int .i64 kind] [] (.bool (m_spec_l26Kind kind)) ([]) := by
  refine con_intro (out := fun r : Bool => ((.bool r : V), ([] : List (Nat × Option O)))) (r := (m_spec_l26Kind kind)) Try.func68 rfl Try.ntmps68 rfl ?_
  refine run_seq ?_
  refine run_region (q_assign .n (.c rfl) rfl <|
      Lex.nil) ?_
  refine run_seq ?_
  refine run_region (q_move .n (.t rfl) rfl <|
      q_call0 (full := false) .n .f en_70 (.cons (.t rfl) (.cons (.c rfl) (.cons (.c rfl) .nil))) (.cons (.b (.a (.same rfl))) (.cons (.b (.a (.same rfl))) (.cons (.b (.a (.same rfl))) .nil))) (fun hg => c_spec_l00In kind 1 4) rfl (fun h => Bool.noConfusion h) rfl <|
      q_assign .n (.t rfl) rfl <|
      Lex.nil) ?_
  exact run_ret [] (.cons (.t rfl rfl) .nil) rfl trivial rfl


end Go.Proofs.Ytfiedbefaoeoaaa
