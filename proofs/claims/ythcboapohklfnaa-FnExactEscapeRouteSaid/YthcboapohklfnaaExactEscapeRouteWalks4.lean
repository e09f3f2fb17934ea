/-
  THE WALKS: each Go function computes its model. Conditions: as each theorem states them (hp1, hp2 ..).
-/
import Derived.Test.YthcboapohklfnaaExactEscapeRouteWalks3
set_option linter.unusedVariables false
set_option linter.unusedSimpArgs false
set_option linter.unusedSectionVars false
set_option linter.unnecessarySimpa false
namespace Go.Proofs.Ythcboapohklfnaa
open Go Go.RowKit Go.Proofs Go.Proofs.Ythcboapohklfnaa.E
/-! ### impl_EscapeRoute -/
set_option maxRecDepth 100000 in
set_option maxHeartbeats 4000000 in
theorem c_impl_EscapeRoute (m_ : gMine) (arrivals : List Int) (blocked : Int) (c_ : gCrew) (start : Int) (exits : List Int) : Con Try.prog 38 [.st [.int .i64 m_.Junctions, .sl 7 (m_.Airways.map gAirway.v)], .sl 1 (arrivals.map (V.int .i64)), .int .i64 blocked, .st [.str c_.Id, .int .i64 c_.Junction, .int .i64 c_.Speed], .int .i64 start, .sl 1 (exits.map (V.int .i64))] [] (.tup [.os 100 (m_impl_EscapeRoute m_ arrivals blocked c_ start exits).1.length, .int .i64 (m_impl_EscapeRoute m_ arrivals blocked c_ start exits).2.1, .int .i64 (m_impl_EscapeRoute m_ arrivals blocked c_ start exits).2.2]) ([(100, some (.row 2 1 ((m_impl_EscapeRoute m_ arrivals blocked c_ start exits).1.map (V.int .i64))))]) := by
  refine con_intro (out := fun r : (List Int) × Int × Int => ((.tup [.os 100 r.1.length, .int .i64 r.2.1, .int .i64 r.2.2] : V), ([(100, some (.row 2 1 (r.1.map (V.int .i64))))] : List (Nat × Option O)))) (r := (m_impl_EscapeRoute m_ arrivals blocked c_ start exits)) Try.func38 rfl Try.ntmps38 rfl ?_
  refine run_factS (t := 0) 1 rfl rfl fun hl => ?_
  have l1 := hl; clear hl; simp only [List.length_map] at l1
  refine run_fact (t := 1) rfl fun hl => ?_
  have l2 := hl; clear hl; simp only [List.length_map] at l2
  refine run_fact (t := 5) rfl fun hl => ?_
  have l3 := hl; clear hl; simp only [List.length_map] at l3
  refine run_seq ?_
  refine run_region (q_box (l := 200) .n rfl (.t rfl) rfl rfl rfl rfl <|
      q_box (l := 201) .n rfl (.t rfl) rfl rfl rfl rfl <|
      q_assign .n (.c rfl) rfl <|
      q_assign .n (.c rfl) rfl <|
      q_assign .n (.c rfl) rfl <|
      Lex.nil) ?_
  refine run_seq ?_
  refine run_region (q_ldN_ow .n (.t rfl) rfl (.inr rfl) ag_34 (fun _ => rfl) rfl rfl <|
      q_move .n (.t rfl) rfl <|
      q_move .n (.t rfl) rfl <|
      q_ldN_ow .n (.t rfl) rfl (.inr rfl) ag_37 (fun _ => rfl) rfl rfl <|
      q_bslicem ([c_] : List gCrew) (f := gCrew.v) (l := 202) .n rfl rfl (.cons (.t rfl) .nil) rfl si_47 zv_37 rfl rfl rfl <|
      q_move .n (.t rfl) rfl <|
      q_move .n (.t rfl) rfl <|
      q_callM (full := false) [(3, 202)] [] .n rfl .f en_43 (.cons (.t rfl) (.cons (.t rfl) (.cons (.t rfl) (.cons (.t rfl) (.cons (.t rfl) (.cons (.t rfl) .nil)))))) (.cons (.sts rfl) (.cons (.b (.a (.same rfl))) (.cons (.b (.a (.same rfl))) (.cons (.b (.muts rfl)) (.cons (.b (.a (.same rfl))) (.cons (.b (.a (.same rfl))) .nil)))))) (c_impl_escapeOf m_ arrivals blocked ([c_] : List gCrew) start exits) ⟨rfl, trivial⟩ rfl rfl (fun h => Bool.noConfusion h) (fun h => Bool.noConfusion h) rfl <|
      q_move .n (.t rfl) rfl <|
      q_ext .n (.t rfl) rfl rfl rfl <|
      q_ext .n (.t rfl) rfl rfl rfl <|
      q_alloc (l := 203) .n rfl zv_78 rfl rfl <|
      q_st_boxm [.int .i64 (m_impl_escapeOf m_ arrivals blocked ([c_] : List gCrew) start exits).1.mine.Junctions, .sl 7 ((m_impl_escapeOf m_ arrivals blocked ([c_] : List gCrew) start exits).1.mine.Airways.map gAirway.v), .sl 1 ((m_impl_escapeOf m_ arrivals blocked ([c_] : List gCrew) start exits).1.arrivals.map (V.int .i64)), .int .i64 (m_impl_escapeOf m_ arrivals blocked ([c_] : List gCrew) start exits).1.blocked] .n rfl (.t rfl) (.t rfl) rfl ts_78 rfl rfl <|
      q_assign .n (.t rfl) rfl <|
      Lex.nil) ?_
  refine run_seq ?_
  refine run_seq ?_
  refine run_region (q_move .n (.t rfl) rfl <|
      q_int .n (.t rfl) (.c rfl) rfl rfl <|
      Lex.nil) ?_
  refine run_cond (.t rfl) rfl (fun h4 => ?_) (fun h4 => ?_)
  · try simp only [Bool.and_eq_true, Bool.or_eq_true, Bool.not_eq_true', Bool.and_eq_false_iff, Bool.or_eq_false_iff, Bool.not_eq_false', decide_eq_true_eq, decide_eq_false_iff_not, beq_iff_eq, bne_iff_ne, beq_eq_false_iff_ne, bne_eq_false_iff_eq, Bool.true_and, ne_eq, Decidable.not_not, Int.not_lt, Int.not_le, Nat.not_lt, Nat.not_le, strB_nil, strB_nil', strB_nnil, strB_nnil'] at h4
    try have hf0h4 := escapeOf_impS h4
    try have hf1h4 := escapeOf_impS h4.1
    try have hf2h4 := escapeOf_impS h4.2
    try have hf3h4 := escapeOf_impS h4.1.1
    try have hf4h4 := escapeOf_impS h4.1.2
    try have hf5h4 := escapeOf_impS h4.2.1
    try have hf6h4 := escapeOf_impS h4.2.2
    refine run_seq ?_
    refine run_region (q_move .n (.t rfl) rfl <|
        q_assign .n (.c rfl) rfl <|
        q_assign .n (.c rfl) rfl <|
        q_assign .n (.t rfl) rfl <|
        Lex.nil) ?_
    refine run_sub (sub_adopt (t := 12) (l := 204) (el := 2) (sz := 1) rfl rfl) ?_
    exact run_ret [(100, 204)] (.cons (.t rfl rfl) (.cons (.t rfl rfl) (.cons (.t rfl rfl) .nil))) (by first | rfl | (simp only [put_len, rev_len]; rfl)) ⟨rfl, trivial⟩ rfl
  · try simp only [Bool.and_eq_true, Bool.or_eq_true, Bool.not_eq_true', Bool.and_eq_false_iff, Bool.or_eq_false_iff, Bool.not_eq_false', decide_eq_true_eq, decide_eq_false_iff_not, beq_iff_eq, bne_iff_ne, beq_eq_false_iff_ne, bne_eq_false_iff_eq, Bool.true_and, ne_eq, Decidable.not_not, Int.not_lt, Int.not_le, Nat.not_lt, Nat.not_le, strB_nil, strB_nil', strB_nnil, strB_nnil'] at h4
    try have hf0h4 := escapeOf_impS h4
    try have hf1h4 := escapeOf_impS h4.1
    try have hf2h4 := escapeOf_impS h4.2
    try have hf3h4 := escapeOf_impS h4.1.1
    try have hf4h4 := escapeOf_impS h4.1.2
    try have hf5h4 := escapeOf_impS h4.2.1
    try have hf6h4 := escapeOf_impS h4.2.2
    refine run_skip ?_
    refine run_seq ?_
    refine run_region (q_ldN_ow .n (.t rfl) rfl (.inr rfl) ag_78 (fun _ => rfl) rfl rfl <|
        q_ldN_ow .n (.t rfl) rfl (.inr rfl) ag_37 (fun _ => rfl) rfl rfl <|
        q_move .n (.t rfl) rfl <|
        q_callM (full := false) [] [(100, 205)] .n rfl .f en_44 (.cons (.t rfl) (.cons (.t rfl) (.cons (.t rfl) .nil))) (.cons (.sts rfl) (.cons (.sts rfl) (.cons (.b (.a (.same rfl))) .nil))) (c_impl_escape_times (m_impl_escapeOf m_ arrivals blocked ([c_] : List gCrew) start exits).1 c_ start (by first | omega | assumption | (simp only [List.length_append, List.length_cons, List.length_nil, List.length_replicate, put_len] at * <;> omega) | (exact escapeOf_impM (by assumption)) | (exact escapeOf_impL (by assumption)) | (exact escapeOf_impC (by assumption)) | (exact escapeOf_impS (by assumption)) | (exact escR_E (by assumption)) | ((have hx := escR (m := m_) (arr := arrivals) (blocked := blocked) (c := c_) (start := start) (exits := exits) (by assumption); have hxJ := hx.1.1.1; have hxC := hx.1.2.1.2; have hxT := escR_T (m := m_) (arr := arrivals) (blocked := blocked) (c := c_) (start := start) (exits := exits) (by assumption); first | omega | (have hw := wr64 (n := m_.Junctions - 1) (by omega); omega) | (have hw := wr64 (n := m_.Junctions - 1) (by omega); intro y hy1 hy2; exact ⟨hy1, by omega⟩) | (have hy := escR_S (m := m_) (arr := arrivals) (blocked := blocked) (c := c_) (start := start) (exits := exits) (by assumption) (by assumption); have hz := hy.1.1; first | omega | exact hy | exact Nat.lt_succ_of_le (rank_le _ _ _)) | (have hI : RtI (m_impl_escape_times (m_impl_escapeOf m_ arrivals blocked ([c_] : List gCrew) start exits).1 c_ start) m_.Junctions x1.1.length x1.2 := (by assumption); have hI1 := hI.1.1; have hI2 := hI.2; first | omega | (simp only [List.length_append, List.length_cons, List.length_nil] at *; omega) | (have hq := escR_N (m := m_) (arr := arrivals) (blocked := blocked) (c := c_) (start := start) (exits := exits) (by assumption) (by assumption) hI; first | exact hq.2 | (have hq1 := hq.1; simp only [List.length_append, List.length_cons, List.length_nil]; exact hq1)))))) (by first | omega | assumption | (simp only [List.length_append, List.length_cons, List.length_nil, List.length_replicate, put_len] at * <;> omega) | (exact escapeOf_impM (by assumption)) | (exact escapeOf_impL (by assumption)) | (exact escapeOf_impC (by assumption)) | (exact escapeOf_impS (by assumption)) | (exact escR_E (by assumption)) | ((have hx := escR (m := m_) (arr := arrivals) (blocked := blocked) (c := c_) (start := start) (exits := exits) (by assumption); have hxJ := hx.1.1.1; have hxC := hx.1.2.1.2; have hxT := escR_T (m := m_) (arr := arrivals) (blocked := blocked) (c := c_) (start := start) (exits := exits) (by assumption); first | omega | (have hw := wr64 (n := m_.Junctions - 1) (by omega); omega) | (have hw := wr64 (n := m_.Junctions - 1) (by omega); intro y hy1 hy2; exact ⟨hy1, by omega⟩) | (have hy := escR_S (m := m_) (arr := arrivals) (blocked := blocked) (c := c_) (start := start) (exits := exits) (by assumption) (by assumption); have hz := hy.1.1; first | omega | exact hy | exact Nat.lt_succ_of_le (rank_le _ _ _)) | (have hI : RtI (m_impl_escape_times (m_impl_escapeOf m_ arrivals blocked ([c_] : List gCrew) start exits).1 c_ start) m_.Junctions x1.1.length x1.2 := (by assumption); have hI1 := hI.1.1; have hI2 := hI.2; first | omega | (simp only [List.length_append, List.length_cons, List.length_nil] at *; omega) | (have hq := escR_N (m := m_) (arr := arrivals) (blocked := blocked) (c := c_) (start := start) (exits := exits) (by assumption) (by assumption) hI; first | exact hq.2 | (have hq1 := hq.1; simp only [List.length_append, List.length_cons, List.length_nil]; exact hq1)))))) (by first | omega | assumption | (simp only [List.length_append, List.length_cons, List.length_nil, List.length_replicate, put_len] at * <;> omega) | (exact escapeOf_impM (by assumption)) | (exact escapeOf_impL (by assumption)) | (exact escapeOf_impC (by assumption)) | (exact escapeOf_impS (by assumption)) | (exact escR_E (by assumption)) | ((have hx := escR (m := m_) (arr := arrivals) (blocked := blocked) (c := c_) (start := start) (exits := exits) (by assumption); have hxJ := hx.1.1.1; have hxC := hx.1.2.1.2; have hxT := escR_T (m := m_) (arr := arrivals) (blocked := blocked) (c := c_) (start := start) (exits := exits) (by assumption); first | omega | (have hw := wr64 (n := m_.Junctions - 1) (by omega); omega) | (have hw := wr64 (n := m_.Junctions - 1) (by omega); intro y hy1 hy2; exact ⟨hy1, by omega⟩) | (have hy := escR_S (m := m_) (arr := arrivals) (blocked := blocked) (c := c_) (start := start) (exits := exits) (by assumption) (by assumption); have hz := hy.1.1; first | omega | exact hy | exact Nat.lt_succ_of_le (rank_le _ _ _)) | (have hI : RtI (m_impl_escape_times (m_impl_escapeOf m_ arrivals blocked ([c_] : List gCrew) start exits).1 c_ start) m_.Junctions x1.1.length x1.2 := (by assumption); have hI1 := hI.1.1; have hI2 := hI.2; first | omega | (simp only [List.length_append, List.length_cons, List.length_nil] at *; omega) | (have hq := escR_N (m := m_) (arr := arrivals) (blocked := blocked) (c := c_) (start := start) (exits := exits) (by assumption) (by assumption) hI; first | exact hq.2 | (have hq1 := hq.1; simp only [List.length_append, List.length_cons, List.length_nil]; exact hq1)))))) (by first | omega | assumption | (simp only [List.length_append, List.length_cons, List.length_nil, List.length_replicate, put_len] at * <;> omega) | (exact escapeOf_impM (by assumption)) | (exact escapeOf_impL (by assumption)) | (exact escapeOf_impC (by assumption)) | (exact escapeOf_impS (by assumption)) | (exact escR_E (by assumption)) | ((have hx := escR (m := m_) (arr := arrivals) (blocked := blocked) (c := c_) (start := start) (exits := exits) (by assumption); have hxJ := hx.1.1.1; have hxC := hx.1.2.1.2; have hxT := escR_T (m := m_) (arr := arrivals) (blocked := blocked) (c := c_) (start := start) (exits := exits) (by assumption); first | omega | (have hw := wr64 (n := m_.Junctions - 1) (by omega); omega) | (have hw := wr64 (n := m_.Junctions - 1) (by omega); intro y hy1 hy2; exact ⟨hy1, by omega⟩) | (have hy := escR_S (m := m_) (arr := arrivals) (blocked := blocked) (c := c_) (start := start) (exits := exits) (by assumption) (by assumption); have hz := hy.1.1; first | omega | exact hy | exact Nat.lt_succ_of_le (rank_le _ _ _)) | (have hI : RtI (m_impl_escape_times (m_impl_escapeOf m_ arrivals blocked ([c_] : List gCrew) start exits).1 c_ start) m_.Junctions x1.1.length x1.2 := (by assumption); have hI1 := hI.1.1; have hI2 := hI.2; first | omega | (simp only [List.length_append, List.length_cons, List.length_nil] at *; omega) | (have hq := escR_N (m := m_) (arr := arrivals) (blocked := blocked) (c := c_) (start := start) (exits := exits) (by assumption) (by assumption) hI; first | exact hq.2 | (have hq1 := hq.1; simp only [List.length_append, List.length_cons, List.length_nil]; exact hq1))))))) trivial rfl rfl (fun h => Bool.noConfusion h) (fun h => Bool.noConfusion h) rfl <|
        q_alloc (l := 206) .n rfl zv_25 rfl rfl <|
        q_st_boxm [.os 205 (m_impl_escape_times (m_impl_escapeOf m_ arrivals blocked ([c_] : List gCrew) start exits).1 c_ start).length] .n rfl (.t rfl) (.t rfl) rfl ts_25 rfl rfl <|
        Lex.nil) ?_
    refine run_seq ?_
    refine run_region (q_ld1_ow .n (.t rfl) rfl (.inr rfl) (fun _ => rfl) rfl ic_25 rfl <|
        q_move .n (.t rfl) rfl <|
        q_call0 (full := true) .n .f en_54 (.cons (.t rfl) (.cons (.t rfl) .nil)) (.cons (.b (.a (.own rfl rfl rfl (take_all (by simp only [len_map, put_len])) (by simp only [len_map, put_len])))) (.cons (.b (.a (.same rfl))) .nil)) (fun hg => c_impl_firstReached (m_impl_escape_times (m_impl_escapeOf m_ arrivals blocked ([c_] : List gCrew) start exits).1 c_ start) exits (by first | omega | assumption | (simp only [List.length_append, List.length_cons, List.length_nil, List.length_replicate, put_len] at * <;> omega) | (exact escapeOf_impM (by assumption)) | (exact escapeOf_impL (by assumption)) | (exact escapeOf_impC (by assumption)) | (exact escapeOf_impS (by assumption)) | (exact escR_E (by assumption)) | ((have hx := escR (m := m_) (arr := arrivals) (blocked := blocked) (c := c_) (start := start) (exits := exits) (by assumption); have hxJ := hx.1.1.1; have hxC := hx.1.2.1.2; have hxT := escR_T (m := m_) (arr := arrivals) (blocked := blocked) (c := c_) (start := start) (exits := exits) (by assumption); first | omega | (have hw := wr64 (n := m_.Junctions - 1) (by omega); omega) | (have hw := wr64 (n := m_.Junctions - 1) (by omega); intro y hy1 hy2; exact ⟨hy1, by omega⟩) | (have hy := escR_S (m := m_) (arr := arrivals) (blocked := blocked) (c := c_) (start := start) (exits := exits) (by assumption) (by assumption); have hz := hy.1.1; first | omega | exact hy | exact Nat.lt_succ_of_le (rank_le _ _ _)) | (have hI : RtI (m_impl_escape_times (m_impl_escapeOf m_ arrivals blocked ([c_] : List gCrew) start exits).1 c_ start) m_.Junctions x1.1.length x1.2 := (by assumption); have hI1 := hI.1.1; have hI2 := hI.2; first | omega | (simp only [List.length_append, List.length_cons, List.length_nil] at *; omega) | (have hq := escR_N (m := m_) (arr := arrivals) (blocked := blocked) (c := c_) (start := start) (exits := exits) (by assumption) (by assumption) hI; first | exact hq.2 | (have hq1 := hq.1; simp only [List.length_append, List.length_cons, List.length_nil]; exact hq1))))))) rfl (fun _ => rfl) rfl <|
        q_assign .n (.t rfl) rfl <|
        Lex.nil) ?_
    refine run_seq ?_
    refine run_seq ?_
    refine run_region (q_move .n (.t rfl) rfl <|
        q_int .n (.t rfl) (.c rfl) rfl rfl <|
        Lex.nil) ?_
    refine run_cond (.t rfl) rfl (fun h5 => ?_) (fun h5 => ?_)
    · try simp only [Bool.and_eq_true, Bool.or_eq_true, Bool.not_eq_true', Bool.and_eq_false_iff, Bool.or_eq_false_iff, Bool.not_eq_false', decide_eq_true_eq, decide_eq_false_iff_not, beq_iff_eq, bne_iff_ne, beq_eq_false_iff_ne, bne_eq_false_iff_eq, Bool.true_and, ne_eq, Decidable.not_not, Int.not_lt, Int.not_le, Nat.not_lt, Nat.not_le, strB_nil, strB_nil', strB_nnil, strB_nnil'] at h5
      refine run_seq ?_
      refine run_region (q_assign .n (.c rfl) rfl <|
          q_assign .n (.c rfl) rfl <|
          q_assign .n (.c rfl) rfl <|
          Lex.nil) ?_
      refine run_sub (sub_adopt (t := 12) (l := 207) (el := 2) (sz := 1) rfl rfl) ?_
      exact run_ret [(100, 207)] (.cons (.t rfl rfl) (.cons (.t rfl rfl) (.cons (.t rfl rfl) .nil))) (by first | rfl | (simp only [put_len, rev_len]; rfl)) ⟨rfl, trivial⟩ rfl
    · try simp only [Bool.and_eq_true, Bool.or_eq_true, Bool.not_eq_true', Bool.and_eq_false_iff, Bool.or_eq_false_iff, Bool.not_eq_false', decide_eq_true_eq, decide_eq_false_iff_not, beq_iff_eq, bne_iff_ne, beq_eq_false_iff_ne, bne_eq_false_iff_eq, Bool.true_and, ne_eq, Decidable.not_not, Int.not_lt, Int.not_le, Nat.not_lt, Nat.not_le, strB_nil, strB_nil', strB_nnil, strB_nnil'] at h5
      refine run_skip ?_
      refine run_seq ?_
      refine run_region (q_move .n (.t rfl) rfl <|
          q_bslicem ([m_impl_firstReached (m_impl_escape_times (m_impl_escapeOf m_ arrivals blocked ([c_] : List gCrew) start exits).1 c_ start) exits] : List Int) (f := V.int .i64) (l := 208) .n rfl rfl (.cons (.t rfl) .nil) rfl si_25 zv_2 rfl rfl rfl <|
          q_assign .n (.t rfl) rfl <|
          Lex.nil) ?_
      refine run_seq ?_
      refine run_seq ?_
      refine run_region (q_move .n (.t rfl) rfl <|
          q_alloc (l := 209) .n rfl zv_2 rfl rfl <|
          q_st_boxm [.int .i64 (m_impl_firstReached (m_impl_escape_times (m_impl_escapeOf m_ arrivals blocked ([c_] : List gCrew) start exits).1 c_ start) exits)] .n rfl (.t rfl) (.t rfl) rfl ts_2 rfl rfl <|
          Lex.nil) ?_
      refine run_block ?_
      refine run_LOOP (m_impl_EscapeRoute_b1 m_ arrivals blocked c_ start exits) _ _ _ rfl (fun (x1 : (List Int) × Int) => RtI (m_impl_escape_times (m_impl_escapeOf m_ arrivals blocked ([c_] : List gCrew) start exits).1 c_ start) m_.Junctions x1.1.length x1.2) (fun x1 => RtI (m_impl_escape_times (m_impl_escapeOf m_ arrivals blocked ([c_] : List gCrew) start exits).1 c_ start) m_.Junctions x1.1.length x1.2) (fun x1 => rank (m_impl_escape_times (m_impl_escapeOf m_ arrivals blocked ([c_] : List gCrew) start exits).1 c_ start) m_.Junctions x1.2) (fun x1 => ⟨[(6, some (true, .op 200 0 0 0)), (9, some (true, .op 201 0 0 0)), (15, some (true, .op 203 0 0 0)), (17, some (true, .op 206 0 0 0)), (18, some (true, .int .i64 (m_impl_firstReached (m_impl_escape_times (m_impl_escapeOf m_ arrivals blocked ([c_] : List gCrew) start exits).1 c_ start) exits))), (19, some (true, .os 208 x1.1.length)), (20, some (true, .op 209 0 0 0))], [(200, some (.box 34 [.int .i64 m_.Junctions, .sl 7 (m_.Airways.map gAirway.v)])), (201, some (.box 37 [.str c_.Id, .int .i64 c_.Junction, .int .i64 c_.Speed])), (203, some (.box 78 [.int .i64 (m_impl_escapeOf m_ arrivals blocked ([c_] : List gCrew) start exits).1.mine.Junctions, .sl 7 ((m_impl_escapeOf m_ arrivals blocked ([c_] : List gCrew) start exits).1.mine.Airways.map gAirway.v), .sl 1 ((m_impl_escapeOf m_ arrivals blocked ([c_] : List gCrew) start exits).1.arrivals.map (V.int .i64)), .int .i64 (m_impl_escapeOf m_ arrivals blocked ([c_] : List gCrew) start exits).1.blocked])), (205, some (.row 2 1 ((m_impl_escape_times (m_impl_escapeOf m_ arrivals blocked ([c_] : List gCrew) start exits).1 c_ start).map (V.int .i64)))), (206, some (.box 25 [.os 205 (m_impl_escape_times (m_impl_escapeOf m_ arrivals blocked ([c_] : List gCrew) start exits).1 c_ start).length])), (208, some (.row 2 1 (x1.1.map (V.int .i64)))), (209, some (.box 2 [.int .i64 x1.2]))]⟩) (fun x1 => ⟨[(17, some (true, .op 206 0 0 0)), (18, some (true, .int .i64 (m_impl_firstReached (m_impl_escape_times (m_impl_escapeOf m_ arrivals blocked ([c_] : List gCrew) start exits).1 c_ start) exits))), (19, some (true, .os 208 x1.1.length))], [(205, some (.row 2 1 ((m_impl_escape_times (m_impl_escapeOf m_ arrivals blocked ([c_] : List gCrew) start exits).1 c_ start).map (V.int .i64)))), (206, some (.box 25 [.os 205 (m_impl_escape_times (m_impl_escapeOf m_ arrivals blocked ([c_] : List gCrew) start exits).1 c_ start).length])), (208, some (.row 2 1 (x1.1.map (V.int .i64))))]⟩) (by first | omega | assumption | (simp only [List.length_append, List.length_cons, List.length_nil, List.length_replicate, put_len] at * <;> omega) | (exact escapeOf_impM (by assumption)) | (exact escapeOf_impL (by assumption)) | (exact escapeOf_impC (by assumption)) | (exact escapeOf_impS (by assumption)) | (exact escR_E (by assumption)) | ((have hx := escR (m := m_) (arr := arrivals) (blocked := blocked) (c := c_) (start := start) (exits := exits) (by assumption); have hxJ := hx.1.1.1; have hxC := hx.1.2.1.2; have hxT := escR_T (m := m_) (arr := arrivals) (blocked := blocked) (c := c_) (start := start) (exits := exits) (by assumption); first | omega | (have hw := wr64 (n := m_.Junctions - 1) (by omega); omega) | (have hw := wr64 (n := m_.Junctions - 1) (by omega); intro y hy1 hy2; exact ⟨hy1, by omega⟩) | (have hy := escR_S (m := m_) (arr := arrivals) (blocked := blocked) (c := c_) (start := start) (exits := exits) (by assumption) (by assumption); have hz := hy.1.1; first | omega | exact hy | exact Nat.lt_succ_of_le (rank_le _ _ _)) | (have hI : RtI (m_impl_escape_times (m_impl_escapeOf m_ arrivals blocked ([c_] : List gCrew) start exits).1 c_ start) m_.Junctions x1.1.length x1.2 := (by assumption); have hI1 := hI.1.1; have hI2 := hI.2; first | omega | (simp only [List.length_append, List.length_cons, List.length_nil] at *; omega) | (have hq := escR_N (m := m_) (arr := arrivals) (blocked := blocked) (c := c_) (start := start) (exits := exits) (by assumption) (by assumption) hI; first | exact hq.2 | (have hq1 := hq.1; simp only [List.length_append, List.length_cons, List.length_nil]; exact hq1)))))) (by first | omega | assumption | (simp only [List.length_append, List.length_cons, List.length_nil, List.length_replicate, put_len] at * <;> omega) | (exact escapeOf_impM (by assumption)) | (exact escapeOf_impL (by assumption)) | (exact escapeOf_impC (by assumption)) | (exact escapeOf_impS (by assumption)) | (exact escR_E (by assumption)) | ((have hx := escR (m := m_) (arr := arrivals) (blocked := blocked) (c := c_) (start := start) (exits := exits) (by assumption); have hxJ := hx.1.1.1; have hxC := hx.1.2.1.2; have hxT := escR_T (m := m_) (arr := arrivals) (blocked := blocked) (c := c_) (start := start) (exits := exits) (by assumption); first | omega | (have hw := wr64 (n := m_.Junctions - 1) (by omega); omega) | (have hw := wr64 (n := m_.Junctions - 1) (by omega); intro y hy1 hy2; exact ⟨hy1, by omega⟩) | (have hy := escR_S (m := m_) (arr := arrivals) (blocked := blocked) (c := c_) (start := start) (exits := exits) (by assumption) (by assumption); have hz := hy.1.1; first | omega | exact hy | exact Nat.lt_succ_of_le (rank_le _ _ _)) | (have hI : RtI (m_impl_escape_times (m_impl_escapeOf m_ arrivals blocked ([c_] : List gCrew) start exits).1 c_ start) m_.Junctions x1.1.length x1.2 := (by assumption); have hI1 := hI.1.1; have hI2 := hI.2; first | omega | (simp only [List.length_append, List.length_cons, List.length_nil] at *; omega) | (have hq := escR_N (m := m_) (arr := arrivals) (blocked := blocked) (c := c_) (start := start) (exits := exits) (by assumption) (by assumption) hI; first | exact hq.2 | (have hq1 := hq.1; simp only [List.length_append, List.length_cons, List.length_nil]; exact hq1)))))) (sub_of [] ⟨rfl, rfl, rfl, rfl, rfl, rfl, rfl, trivial⟩ ⟨rfl, rfl, rfl, rfl, rfl, rfl, rfl, trivial⟩ rfl) ?_ ?_
      · intro x1 i9
        have e10 := i9
        try dsimp only at *
        refine run_seq ?_
        refine run_region (q_move .n (.t rfl) rfl <|
            q_callM (full := false) [(0, 208)] [] .n rfl .f en_72 (.cons (.t rfl) .nil) (.cons (.b (.muts rfl)) .nil) (c_slices_Reverse_int64 x1.1) ⟨rfl, trivial⟩ rfl rfl (fun h => Bool.noConfusion h) (fun h => Bool.noConfusion h) rfl <|
            Lex.nil) ?_
        refine run_seq ?_
        refine run_draw fmo (q_move .n (.t rfl) rfl <|
            q_ld1_ow .n (.t rfl) rfl (.inr rfl) (fun _ => rfl) rfl ic_25 rfl <|
            q_move .n (.t rfl) rfl <|
            q_idx_ow .n (.t rfl) (.t rfl) sl_25 (fun _ => by first | omega | assumption | (simp only [List.length_append, List.length_cons, List.length_nil, List.length_replicate, put_len] at * <;> omega) | (exact escapeOf_impM (by assumption)) | (exact escapeOf_impL (by assumption)) | (exact escapeOf_impC (by assumption)) | (exact escapeOf_impS (by assumption)) | (exact escR_E (by assumption)) | ((have hx := escR (m := m_) (arr := arrivals) (blocked := blocked) (c := c_) (start := start) (exits := exits) (by assumption); have hxJ := hx.1.1.1; have hxC := hx.1.2.1.2; have hxT := escR_T (m := m_) (arr := arrivals) (blocked := blocked) (c := c_) (start := start) (exits := exits) (by assumption); first | omega | (have hw := wr64 (n := m_.Junctions - 1) (by omega); omega) | (have hw := wr64 (n := m_.Junctions - 1) (by omega); intro y hy1 hy2; exact ⟨hy1, by omega⟩) | (have hy := escR_S (m := m_) (arr := arrivals) (blocked := blocked) (c := c_) (start := start) (exits := exits) (by assumption) (by assumption); have hz := hy.1.1; first | omega | exact hy | exact Nat.lt_succ_of_le (rank_le _ _ _)) | (have hI : RtI (m_impl_escape_times (m_impl_escapeOf m_ arrivals blocked ([c_] : List gCrew) start exits).1 c_ start) m_.Junctions x1.1.length x1.2 := (by assumption); have hI1 := hI.1.1; have hI2 := hI.2; first | omega | (simp only [List.length_append, List.length_cons, List.length_nil] at *; omega) | (have hq := escR_N (m := m_) (arr := arrivals) (blocked := blocked) (c := c_) (start := start) (exits := exits) (by assumption) (by assumption) hI; first | exact hq.2 | (have hq1 := hq.1; simp only [List.length_append, List.length_cons, List.length_nil]; exact hq1)))))) rfl <|
            q_ld1_row .n (.t rfl) rfl (fun _ => by first | omega | assumption | (simp only [List.length_append, List.length_cons, List.length_nil, List.length_replicate, put_len] at * <;> omega) | (exact escapeOf_impM (by assumption)) | (exact escapeOf_impL (by assumption)) | (exact escapeOf_impC (by assumption)) | (exact escapeOf_impS (by assumption)) | (exact escR_E (by assumption)) | ((have hx := escR (m := m_) (arr := arrivals) (blocked := blocked) (c := c_) (start := start) (exits := exits) (by assumption); have hxJ := hx.1.1.1; have hxC := hx.1.2.1.2; have hxT := escR_T (m := m_) (arr := arrivals) (blocked := blocked) (c := c_) (start := start) (exits := exits) (by assumption); first | omega | (have hw := wr64 (n := m_.Junctions - 1) (by omega); omega) | (have hw := wr64 (n := m_.Junctions - 1) (by omega); intro y hy1 hy2; exact ⟨hy1, by omega⟩) | (have hy := escR_S (m := m_) (arr := arrivals) (blocked := blocked) (c := c_) (start := start) (exits := exits) (by assumption) (by assumption); have hz := hy.1.1; first | omega | exact hy | exact Nat.lt_succ_of_le (rank_le _ _ _)) | (have hI : RtI (m_impl_escape_times (m_impl_escapeOf m_ arrivals blocked ([c_] : List gCrew) start exits).1 c_ start) m_.Junctions x1.1.length x1.2 := (by assumption); have hI1 := hI.1.1; have hI2 := hI.2; first | omega | (simp only [List.length_append, List.length_cons, List.length_nil] at *; omega) | (have hq := escR_N (m := m_) (arr := arrivals) (blocked := blocked) (c := c_) (start := start) (exits := exits) (by assumption) (by assumption) hI; first | exact hq.2 | (have hq1 := hq.1; simp only [List.length_append, List.length_cons, List.length_nil]; exact hq1)))))) rfl rfl rfl ic_2 rfl <|
            q_assign .n (.t rfl) rfl <|
            q_assign .n (.t rfl) rfl <|
            q_assign .n (.c rfl) rfl <|
            Lex.nil) (by kernel_rfl) ?_
        exact run_ret [(100, 208)] (.cons (.t rfl rfl) (.cons (.t rfl rfl) (.cons (.t rfl rfl) .nil))) (by first | rfl | (simp only [put_len, rev_len]; rfl)) ⟨rfl, trivial⟩ rfl
      · intro rec1 k1 hk6 x1 i7
        have e11 := i7
        try dsimp only at *
        refine run_seq ?_
        refine run_seq ?_
        refine run_region (q_ld1_ow .n (.t rfl) rfl (.inr rfl) (fun _ => rfl) rfl ic_2 rfl <|
            q_fld_ow .n (.t rfl) fo_37_1 rfl <|
            q_ld1_ow .n (.t rfl) rfl (.inr rfl) (fun _ => rfl) rfl ic_2 rfl <|
            q_int .n (.t rfl) (.t rfl) rfl rfl <|
            Lex.nil) ?_
        refine run_cond (.t rfl) rfl (fun h8 => ?_) (fun h8 => ?_)
        · try simp only [Bool.and_eq_true, Bool.or_eq_true, Bool.not_eq_true', Bool.and_eq_false_iff, Bool.or_eq_false_iff, Bool.not_eq_false', decide_eq_true_eq, decide_eq_false_iff_not, beq_iff_eq, bne_iff_ne, beq_eq_false_iff_ne, bne_eq_false_iff_eq, Bool.true_and, ne_eq, Decidable.not_not, Int.not_lt, Int.not_le, Nat.not_lt, Nat.not_le, strB_nil, strB_nil', strB_nnil, strB_nnil'] at h8
          refine run_skip ?_
          refine run_seq ?_
          refine run_block ?_
          refine run_seq ?_
          refine run_region (q_fld_ow .n (.t rfl) fo_34_0 rfl <|
              q_ld1_ow .n (.t rfl) rfl (.inr rfl) (fun _ => rfl) rfl ic_2 rfl <|
              q_int .n (.t rfl) (.c rfl) rfl rfl <|
              q_clo .n (.cons (.t rfl) (.cons (.t rfl) (.cons (.t rfl) (.cons (.t rfl) .nil)))) rfl rfl <|
              q_call0 (full := true) .n .f en_69 (.cons (.c rfl) (.cons (.t rfl) (.cons (.t rfl) .nil))) (.cons (.b (.a (.same rfl))) (.cons (.b (.a (.same rfl))) (.cons (.clo (.cons (.ptr rfl rfl (.inr rfl) rfl rfl (.cons (.same rfl) (.cons (.same rfl) (.cons (.same rfl) (.cons (.same rfl) .nil))))) (.cons (.ptr rfl rfl (.inr rfl) rfl rfl (.cons (.same rfl) .nil)) (.cons (.ptr rfl rfl (.inr rfl) rfl rfl (.cons (.same rfl) (.cons (.same rfl) (.cons (.same rfl) .nil)))) (.cons (.ptr rfl rfl (.inr rfl) rfl rfl (.cons (.own rfl rfl rfl (take_all (by simp only [len_map, put_len])) (by simp only [len_map, put_len])) .nil)) .nil))))) .nil))) (fun hg => c_impl_least 0 (IntKind.wrap .i64 (m_.Junctions - 1)) (fun (a0 : Int) => m_impl_EscapeRoute_1 a0 (m_impl_escapeOf m_ arrivals blocked ([c_] : List gCrew) start exits).1 x1.2 c_ (m_impl_escape_times (m_impl_escapeOf m_ arrivals blocked ([c_] : List gCrew) start exits).1 c_ start)) 70 [.rp [.int .i64 (m_impl_escapeOf m_ arrivals blocked ([c_] : List gCrew) start exits).1.mine.Junctions, .sl 7 ((m_impl_escapeOf m_ arrivals blocked ([c_] : List gCrew) start exits).1.mine.Airways.map gAirway.v), .sl 1 ((m_impl_escapeOf m_ arrivals blocked ([c_] : List gCrew) start exits).1.arrivals.map (V.int .i64)), .int .i64 (m_impl_escapeOf m_ arrivals blocked ([c_] : List gCrew) start exits).1.blocked], .rp [.int .i64 x1.2], .rp [.str c_.Id, .int .i64 c_.Junction, .int .i64 c_.Speed], .rp [.sl 1 ((m_impl_escape_times (m_impl_escapeOf m_ arrivals blocked ([c_] : List gCrew) start exits).1 c_ start).map (V.int .i64))]] en_70 rfl (fun y => 0 ≤ y ∧ y < m_.Junctions) (fun a0 hq0 => c_impl_EscapeRoute_1 a0 (m_impl_escapeOf m_ arrivals blocked ([c_] : List gCrew) start exits).1 x1.2 c_ (m_impl_escape_times (m_impl_escapeOf m_ arrivals blocked ([c_] : List gCrew) start exits).1 c_ start) (by (try dsimp only at *); first | omega | assumption | (simp only [List.length_append, List.length_cons, List.length_nil, List.length_replicate, put_len] at * <;> omega) | (exact escapeOf_impM (by assumption)) | (exact escapeOf_impL (by assumption)) | (exact escapeOf_impC (by assumption)) | (exact escapeOf_impS (by assumption)) | (exact escR_E (by assumption)) | ((have hx := escR (m := m_) (arr := arrivals) (blocked := blocked) (c := c_) (start := start) (exits := exits) (by assumption); have hxJ := hx.1.1.1; have hxC := hx.1.2.1.2; have hxT := escR_T (m := m_) (arr := arrivals) (blocked := blocked) (c := c_) (start := start) (exits := exits) (by assumption); first | omega | (have hw := wr64 (n := m_.Junctions - 1) (by omega); omega) | (have hw := wr64 (n := m_.Junctions - 1) (by omega); intro y hy1 hy2; exact ⟨hy1, by omega⟩) | (have hy := escR_S (m := m_) (arr := arrivals) (blocked := blocked) (c := c_) (start := start) (exits := exits) (by assumption) (by assumption); have hz := hy.1.1; first | omega | exact hy | exact Nat.lt_succ_of_le (rank_le _ _ _)) | (have hI : RtI (m_impl_escape_times (m_impl_escapeOf m_ arrivals blocked ([c_] : List gCrew) start exits).1 c_ start) m_.Junctions x1.1.length x1.2 := (by assumption); have hI1 := hI.1.1; have hI2 := hI.2; first | omega | (simp only [List.length_append, List.length_cons, List.length_nil] at *; omega) | (have hq := escR_N (m := m_) (arr := arrivals) (blocked := blocked) (c := c_) (start := start) (exits := exits) (by assumption) (by assumption) hI; first | exact hq.2 | (have hq1 := hq.1; simp only [List.length_append, List.length_cons, List.length_nil]; exact hq1)))))) (by (try dsimp only at *); first | omega | assumption | (simp only [List.length_append, List.length_cons, List.length_nil, List.length_replicate, put_len] at * <;> omega) | (exact escapeOf_impM (by assumption)) | (exact escapeOf_impL (by assumption)) | (exact escapeOf_impC (by assumption)) | (exact escapeOf_impS (by assumption)) | (exact escR_E (by assumption)) | ((have hx := escR (m := m_) (arr := arrivals) (blocked := blocked) (c := c_) (start := start) (exits := exits) (by assumption); have hxJ := hx.1.1.1; have hxC := hx.1.2.1.2; have hxT := escR_T (m := m_) (arr := arrivals) (blocked := blocked) (c := c_) (start := start) (exits := exits) (by assumption); first | omega | (have hw := wr64 (n := m_.Junctions - 1) (by omega); omega) | (have hw := wr64 (n := m_.Junctions - 1) (by omega); intro y hy1 hy2; exact ⟨hy1, by omega⟩) | (have hy := escR_S (m := m_) (arr := arrivals) (blocked := blocked) (c := c_) (start := start) (exits := exits) (by assumption) (by assumption); have hz := hy.1.1; first | omega | exact hy | exact Nat.lt_succ_of_le (rank_le _ _ _)) | (have hI : RtI (m_impl_escape_times (m_impl_escapeOf m_ arrivals blocked ([c_] : List gCrew) start exits).1 c_ start) m_.Junctions x1.1.length x1.2 := (by assumption); have hI1 := hI.1.1; have hI2 := hI.2; first | omega | (simp only [List.length_append, List.length_cons, List.length_nil] at *; omega) | (have hq := escR_N (m := m_) (arr := arrivals) (blocked := blocked) (c := c_) (start := start) (exits := exits) (by assumption) (by assumption) hI; first | exact hq.2 | (have hq1 := hq.1; simp only [List.length_append, List.length_cons, List.length_nil]; exact hq1)))))) (by (try dsimp only at *); first | omega | assumption | (simp only [List.length_append, List.length_cons, List.length_nil, List.length_replicate, put_len] at * <;> omega) | (exact escapeOf_impM (by assumption)) | (exact escapeOf_impL (by assumption)) | (exact escapeOf_impC (by assumption)) | (exact escapeOf_impS (by assumption)) | (exact escR_E (by assumption)) | ((have hx := escR (m := m_) (arr := arrivals) (blocked := blocked) (c := c_) (start := start) (exits := exits) (by assumption); have hxJ := hx.1.1.1; have hxC := hx.1.2.1.2; have hxT := escR_T (m := m_) (arr := arrivals) (blocked := blocked) (c := c_) (start := start) (exits := exits) (by assumption); first | omega | (have hw := wr64 (n := m_.Junctions - 1) (by omega); omega) | (have hw := wr64 (n := m_.Junctions - 1) (by omega); intro y hy1 hy2; exact ⟨hy1, by omega⟩) | (have hy := escR_S (m := m_) (arr := arrivals) (blocked := blocked) (c := c_) (start := start) (exits := exits) (by assumption) (by assumption); have hz := hy.1.1; first | omega | exact hy | exact Nat.lt_succ_of_le (rank_le _ _ _)) | (have hI : RtI (m_impl_escape_times (m_impl_escapeOf m_ arrivals blocked ([c_] : List gCrew) start exits).1 c_ start) m_.Junctions x1.1.length x1.2 := (by assumption); have hI1 := hI.1.1; have hI2 := hI.2; first | omega | (simp only [List.length_append, List.length_cons, List.length_nil] at *; omega) | (have hq := escR_N (m := m_) (arr := arrivals) (blocked := blocked) (c := c_) (start := start) (exits := exits) (by assumption) (by assumption) hI; first | exact hq.2 | (have hq1 := hq.1; simp only [List.length_append, List.length_cons, List.length_nil]; exact hq1))))))) (by first | omega | assumption | (simp only [List.length_append, List.length_cons, List.length_nil, List.length_replicate, put_len] at * <;> omega) | (exact escapeOf_impM (by assumption)) | (exact escapeOf_impL (by assumption)) | (exact escapeOf_impC (by assumption)) | (exact escapeOf_impS (by assumption)) | (exact escR_E (by assumption)) | ((have hx := escR (m := m_) (arr := arrivals) (blocked := blocked) (c := c_) (start := start) (exits := exits) (by assumption); have hxJ := hx.1.1.1; have hxC := hx.1.2.1.2; have hxT := escR_T (m := m_) (arr := arrivals) (blocked := blocked) (c := c_) (start := start) (exits := exits) (by assumption); first | omega | (have hw := wr64 (n := m_.Junctions - 1) (by omega); omega) | (have hw := wr64 (n := m_.Junctions - 1) (by omega); intro y hy1 hy2; exact ⟨hy1, by omega⟩) | (have hy := escR_S (m := m_) (arr := arrivals) (blocked := blocked) (c := c_) (start := start) (exits := exits) (by assumption) (by assumption); have hz := hy.1.1; first | omega | exact hy | exact Nat.lt_succ_of_le (rank_le _ _ _)) | (have hI : RtI (m_impl_escape_times (m_impl_escapeOf m_ arrivals blocked ([c_] : List gCrew) start exits).1 c_ start) m_.Junctions x1.1.length x1.2 := (by assumption); have hI1 := hI.1.1; have hI2 := hI.2; first | omega | (simp only [List.length_append, List.length_cons, List.length_nil] at *; omega) | (have hq := escR_N (m := m_) (arr := arrivals) (blocked := blocked) (c := c_) (start := start) (exits := exits) (by assumption) (by assumption) hI; first | exact hq.2 | (have hq1 := hq.1; simp only [List.length_append, List.length_cons, List.length_nil]; exact hq1)))))) (by first | omega | assumption | (simp only [List.length_append, List.length_cons, List.length_nil, List.length_replicate, put_len] at * <;> omega) | (exact escapeOf_impM (by assumption)) | (exact escapeOf_impL (by assumption)) | (exact escapeOf_impC (by assumption)) | (exact escapeOf_impS (by assumption)) | (exact escR_E (by assumption)) | ((have hx := escR (m := m_) (arr := arrivals) (blocked := blocked) (c := c_) (start := start) (exits := exits) (by assumption); have hxJ := hx.1.1.1; have hxC := hx.1.2.1.2; have hxT := escR_T (m := m_) (arr := arrivals) (blocked := blocked) (c := c_) (start := start) (exits := exits) (by assumption); first | omega | (have hw := wr64 (n := m_.Junctions - 1) (by omega); omega) | (have hw := wr64 (n := m_.Junctions - 1) (by omega); intro y hy1 hy2; exact ⟨hy1, by omega⟩) | (have hy := escR_S (m := m_) (arr := arrivals) (blocked := blocked) (c := c_) (start := start) (exits := exits) (by assumption) (by assumption); have hz := hy.1.1; first | omega | exact hy | exact Nat.lt_succ_of_le (rank_le _ _ _)) | (have hI : RtI (m_impl_escape_times (m_impl_escapeOf m_ arrivals blocked ([c_] : List gCrew) start exits).1 c_ start) m_.Junctions x1.1.length x1.2 := (by assumption); have hI1 := hI.1.1; have hI2 := hI.2; first | omega | (simp only [List.length_append, List.length_cons, List.length_nil] at *; omega) | (have hq := escR_N (m := m_) (arr := arrivals) (blocked := blocked) (c := c_) (start := start) (exits := exits) (by assumption) (by assumption) hI; first | exact hq.2 | (have hq1 := hq.1; simp only [List.length_append, List.length_cons, List.length_nil]; exact hq1))))))) rfl (fun _ => rfl) rfl <|
              q_move .n (.t rfl) rfl <|
              q_ext .n (.t rfl) rfl rfl rfl <|
              q_ext .n (.t rfl) rfl rfl rfl <|
              q_st_boxm [.int .i64 (m_impl_least 0 (IntKind.wrap .i64 (m_.Junctions - 1)) (fun (a0 : Int) => m_impl_EscapeRoute_1 a0 (m_impl_escapeOf m_ arrivals blocked ([c_] : List gCrew) start exits).1 x1.2 c_ (m_impl_escape_times (m_impl_escapeOf m_ arrivals blocked ([c_] : List gCrew) start exits).1 c_ start))).1] .n rfl (.t rfl) (.t rfl) rfl ts_2 rfl rfl <|
              Lex.nil) ?_
          refine run_region (q_move .n (.t rfl) rfl <|
              q_ld1_ow .n (.t rfl) rfl (.inr rfl) (fun _ => rfl) rfl ic_2 rfl <|
              q_bslicem ([(m_impl_least 0 (IntKind.wrap .i64 (m_.Junctions - 1)) (fun (a0 : Int) => m_impl_EscapeRoute_1 a0 (m_impl_escapeOf m_ arrivals blocked ([c_] : List gCrew) start exits).1 x1.2 c_ (m_impl_escape_times (m_impl_escapeOf m_ arrivals blocked ([c_] : List gCrew) start exits).1 c_ start))).1] : List Int) (f := V.int .i64) (l := 210) .n rfl rfl (.cons (.t rfl) .nil) rfl si_25 zv_2 rfl rfl rfl <|
              q_appm (xs := x1.1) (ys := ([(m_impl_least 0 (IntKind.wrap .i64 (m_.Junctions - 1)) (fun (a0 : Int) => m_impl_EscapeRoute_1 a0 (m_impl_escapeOf m_ arrivals blocked ([c_] : List gCrew) start exits).1 x1.2 c_ (m_impl_escape_times (m_impl_escapeOf m_ arrivals blocked ([c_] : List gCrew) start exits).1 c_ start))).1] : List Int)) (f := V.int .i64) (l := 211) .n rfl (.ow (.t rfl) rfl (take_all (by simp only [len_map, put_len])) (by simp only [len_map, put_len])) (.ow (.t rfl) rfl (take_all (by simp only [len_map, put_len])) (by simp only [len_map, put_len])) si_25 zv_2 rfl (by first | omega | assumption | (simp only [List.length_append, List.length_cons, List.length_nil, List.length_replicate, put_len] at * <;> omega) | (exact escapeOf_impM (by assumption)) | (exact escapeOf_impL (by assumption)) | (exact escapeOf_impC (by assumption)) | (exact escapeOf_impS (by assumption)) | (exact escR_E (by assumption)) | ((have hx := escR (m := m_) (arr := arrivals) (blocked := blocked) (c := c_) (start := start) (exits := exits) (by assumption); have hxJ := hx.1.1.1; have hxC := hx.1.2.1.2; have hxT := escR_T (m := m_) (arr := arrivals) (blocked := blocked) (c := c_) (start := start) (exits := exits) (by assumption); first | omega | (have hw := wr64 (n := m_.Junctions - 1) (by omega); omega) | (have hw := wr64 (n := m_.Junctions - 1) (by omega); intro y hy1 hy2; exact ⟨hy1, by omega⟩) | (have hy := escR_S (m := m_) (arr := arrivals) (blocked := blocked) (c := c_) (start := start) (exits := exits) (by assumption) (by assumption); have hz := hy.1.1; first | omega | exact hy | exact Nat.lt_succ_of_le (rank_le _ _ _)) | (have hI : RtI (m_impl_escape_times (m_impl_escapeOf m_ arrivals blocked ([c_] : List gCrew) start exits).1 c_ start) m_.Junctions x1.1.length x1.2 := (by assumption); have hI1 := hI.1.1; have hI2 := hI.2; first | omega | (simp only [List.length_append, List.length_cons, List.length_nil] at *; omega) | (have hq := escR_N (m := m_) (arr := arrivals) (blocked := blocked) (c := c_) (start := start) (exits := exits) (by assumption) (by assumption) hI; first | exact hq.2 | (have hq1 := hq.1; simp only [List.length_append, List.length_cons, List.length_nil]; exact hq1)))))) rfl rfl <|
              q_assign .n (.t rfl) rfl <|
              Lex.nil) ?_
          refine run_endB ?_
          refine run_seq ?_
          refine run_region (q_ld1_ow .n (.t rfl) rfl (.inr rfl) (fun _ => rfl) rfl ic_2 rfl <|
              Lex.nil) ?_
          refine run_region (q_alloc (l := 212) .n rfl zv_2 rfl rfl <|
              q_st_boxm [.int .i64 (m_impl_least 0 (IntKind.wrap .i64 (m_.Junctions - 1)) (fun (a0 : Int) => m_impl_EscapeRoute_1 a0 (m_impl_escapeOf m_ arrivals blocked ([c_] : List gCrew) start exits).1 x1.2 c_ (m_impl_escape_times (m_impl_escapeOf m_ arrivals blocked ([c_] : List gCrew) start exits).1 c_ start))).1] .n rfl (.t rfl) (.t rfl) rfl ts_2 rfl rfl <|
              Lex.nil) ?_
          exact run_again (x1.1 ++ ([(m_impl_least 0 (IntKind.wrap .i64 (m_.Junctions - 1)) (fun (a0 : Int) => m_impl_EscapeRoute_1 a0 (m_impl_escapeOf m_ arrivals blocked ([c_] : List gCrew) start exits).1 x1.2 c_ (m_impl_escape_times (m_impl_escapeOf m_ arrivals blocked ([c_] : List gCrew) start exits).1 c_ start))).1] : List Int), (m_impl_least 0 (IntKind.wrap .i64 (m_.Junctions - 1)) (fun (a0 : Int) => m_impl_EscapeRoute_1 a0 (m_impl_escapeOf m_ arrivals blocked ([c_] : List gCrew) start exits).1 x1.2 c_ (m_impl_escape_times (m_impl_escapeOf m_ arrivals blocked ([c_] : List gCrew) start exits).1 c_ start))).1) (by first | omega | assumption | (simp only [List.length_append, List.length_cons, List.length_nil, List.length_replicate, put_len] at * <;> omega) | (exact escapeOf_impM (by assumption)) | (exact escapeOf_impL (by assumption)) | (exact escapeOf_impC (by assumption)) | (exact escapeOf_impS (by assumption)) | (exact escR_E (by assumption)) | ((have hx := escR (m := m_) (arr := arrivals) (blocked := blocked) (c := c_) (start := start) (exits := exits) (by assumption); have hxJ := hx.1.1.1; have hxC := hx.1.2.1.2; have hxT := escR_T (m := m_) (arr := arrivals) (blocked := blocked) (c := c_) (start := start) (exits := exits) (by assumption); first | omega | (have hw := wr64 (n := m_.Junctions - 1) (by omega); omega) | (have hw := wr64 (n := m_.Junctions - 1) (by omega); intro y hy1 hy2; exact ⟨hy1, by omega⟩) | (have hy := escR_S (m := m_) (arr := arrivals) (blocked := blocked) (c := c_) (start := start) (exits := exits) (by assumption) (by assumption); have hz := hy.1.1; first | omega | exact hy | exact Nat.lt_succ_of_le (rank_le _ _ _)) | (have hI : RtI (m_impl_escape_times (m_impl_escapeOf m_ arrivals blocked ([c_] : List gCrew) start exits).1 c_ start) m_.Junctions x1.1.length x1.2 := (by assumption); have hI1 := hI.1.1; have hI2 := hI.2; first | omega | (simp only [List.length_append, List.length_cons, List.length_nil] at *; omega) | (have hq := escR_N (m := m_) (arr := arrivals) (blocked := blocked) (c := c_) (start := start) (exits := exits) (by assumption) (by assumption) hI; first | exact hq.2 | (have hq1 := hq.1; simp only [List.length_append, List.length_cons, List.length_nil]; exact hq1)))))) (by first | omega | assumption | (simp only [List.length_append, List.length_cons, List.length_nil, List.length_replicate, put_len] at * <;> omega) | (exact escapeOf_impM (by assumption)) | (exact escapeOf_impL (by assumption)) | (exact escapeOf_impC (by assumption)) | (exact escapeOf_impS (by assumption)) | (exact escR_E (by assumption)) | ((have hx := escR (m := m_) (arr := arrivals) (blocked := blocked) (c := c_) (start := start) (exits := exits) (by assumption); have hxJ := hx.1.1.1; have hxC := hx.1.2.1.2; have hxT := escR_T (m := m_) (arr := arrivals) (blocked := blocked) (c := c_) (start := start) (exits := exits) (by assumption); first | omega | (have hw := wr64 (n := m_.Junctions - 1) (by omega); omega) | (have hw := wr64 (n := m_.Junctions - 1) (by omega); intro y hy1 hy2; exact ⟨hy1, by omega⟩) | (have hy := escR_S (m := m_) (arr := arrivals) (blocked := blocked) (c := c_) (start := start) (exits := exits) (by assumption) (by assumption); have hz := hy.1.1; first | omega | exact hy | exact Nat.lt_succ_of_le (rank_le _ _ _)) | (have hI : RtI (m_impl_escape_times (m_impl_escapeOf m_ arrivals blocked ([c_] : List gCrew) start exits).1 c_ start) m_.Junctions x1.1.length x1.2 := (by assumption); have hI1 := hI.1.1; have hI2 := hI.2; first | omega | (simp only [List.length_append, List.length_cons, List.length_nil] at *; omega) | (have hq := escR_N (m := m_) (arr := arrivals) (blocked := blocked) (c := c_) (start := start) (exits := exits) (by assumption) (by assumption) hI; first | exact hq.2 | (have hq1 := hq.1; simp only [List.length_append, List.length_cons, List.length_nil]; exact hq1)))))) (sub_of [(208, 211), (209, 212)] ⟨rfl, rfl, rfl, rfl, rfl, rfl, rfl, trivial⟩ ⟨rfl, rfl, rfl, rfl, rfl, rfl, rfl, trivial⟩ rfl)
        · try simp only [Bool.and_eq_true, Bool.or_eq_true, Bool.not_eq_true', Bool.and_eq_false_iff, Bool.or_eq_false_iff, Bool.not_eq_false', decide_eq_true_eq, decide_eq_false_iff_not, beq_iff_eq, bne_iff_ne, beq_eq_false_iff_ne, bne_eq_false_iff_eq, Bool.true_and, ne_eq, Decidable.not_not, Int.not_lt, Int.not_le, Nat.not_lt, Nat.not_le, strB_nil, strB_nil', strB_nnil, strB_nnil'] at h8
          refine run_exit rfl ?_
          exact run_cont hk6 (x1.1, x1.2) (by first | omega | assumption | (simp only [List.length_append, List.length_cons, List.length_nil, List.length_replicate, put_len] at * <;> omega) | (exact escapeOf_impM (by assumption)) | (exact escapeOf_impL (by assumption)) | (exact escapeOf_impC (by assumption)) | (exact escapeOf_impS (by assumption)) | (exact escR_E (by assumption)) | ((have hx := escR (m := m_) (arr := arrivals) (blocked := blocked) (c := c_) (start := start) (exits := exits) (by assumption); have hxJ := hx.1.1.1; have hxC := hx.1.2.1.2; have hxT := escR_T (m := m_) (arr := arrivals) (blocked := blocked) (c := c_) (start := start) (exits := exits) (by assumption); first | omega | (have hw := wr64 (n := m_.Junctions - 1) (by omega); omega) | (have hw := wr64 (n := m_.Junctions - 1) (by omega); intro y hy1 hy2; exact ⟨hy1, by omega⟩) | (have hy := escR_S (m := m_) (arr := arrivals) (blocked := blocked) (c := c_) (start := start) (exits := exits) (by assumption) (by assumption); have hz := hy.1.1; first | omega | exact hy | exact Nat.lt_succ_of_le (rank_le _ _ _)) | (have hI : RtI (m_impl_escape_times (m_impl_escapeOf m_ arrivals blocked ([c_] : List gCrew) start exits).1 c_ start) m_.Junctions x1.1.length x1.2 := (by assumption); have hI1 := hI.1.1; have hI2 := hI.2; first | omega | (simp only [List.length_append, List.length_cons, List.length_nil] at *; omega) | (have hq := escR_N (m := m_) (arr := arrivals) (blocked := blocked) (c := c_) (start := start) (exits := exits) (by assumption) (by assumption) hI; first | exact hq.2 | (have hq1 := hq.1; simp only [List.length_append, List.length_cons, List.length_nil]; exact hq1)))))) (sub_of [] ⟨rfl, rfl, rfl, trivial⟩ ⟨rfl, rfl, rfl, trivial⟩ rfl)

/-! ### laws_FnExactEscapeRoute -/
set_option maxRecDepth 100000 in
set_option maxHeartbeats 4000000 in
theorem c_laws_FnExactEscapeRoute (aM : gMine) (aArrivals : List Int) (aBlocked : Int) (aC : gCrew) (aStart : Int) (aExits : List Int) (hp1 : gMine.ok aM) (hp2 : aArrivals.length ≤ 9223372036854775807 ∧ ∀ y ∈ aArrivals, -9223372036854775808 ≤ y ∧ y ≤ 9223372036854775807) (hp3 : -9223372036854775808 ≤ aBlocked ∧ aBlocked ≤ 9223372036854775807) (hp4 : gCrew.ok aC) (hp5 : -9223372036854775808 ≤ aStart ∧ aStart ≤ 9223372036854775807) (hp6 : aExits.length ≤ 9223372036854775807 ∧ ∀ y ∈ aExits, -9223372036854775808 ≤ y ∧ y ≤ 9223372036854775807) : Con Try.prog 7 [.st [.int .i64 aM.Junctions, .sl 7 (aM.Airways.map gAirway.v)], .sl 1 (aArrivals.map (V.int .i64)), .int .i64 aBlocked, .st [.str aC.Id, .int .i64 aC.Junction, .int .i64 aC.Speed], .int .i64 aStart, .sl 1 (aExits.map (V.int .i64))] [] (.bool (m_laws_FnExactEscapeRoute aM aArrivals aBlocked aC aStart aExits)) ([]) := by
  refine con_intro (out := fun r : Bool => ((.bool r : V), ([] : List (Nat × Option O)))) (r := (m_laws_FnExactEscapeRoute aM aArrivals aBlocked aC aStart aExits)) Try.func7 rfl Try.ntmps7 rfl ?_
  refine run_factS (t := 0) 1 rfl rfl fun hl => ?_
  have l1 := hl; clear hl; simp only [List.length_map] at l1
  refine run_fact (t := 1) rfl fun hl => ?_
  have l2 := hl; clear hl; simp only [List.length_map] at l2
  refine run_fact (t := 5) rfl fun hl => ?_
  have l3 := hl; clear hl; simp only [List.length_map] at l3
  refine run_seq ?_
  refine run_region (q_box (l := 200) .n rfl (.t rfl) rfl rfl rfl rfl <|
      q_box (l := 201) .n rfl (.t rfl) rfl rfl rfl rfl <|
      q_assign .n (.c rfl) rfl <|
      Lex.nil) ?_
  refine run_seq ?_
  refine run_seq ?_
  refine run_region (q_move .n (.t rfl) rfl <|
      q_len .n (.t rfl) rfl len_map ss_25 rfl <|
      q_int .n (.t rfl) (.c rfl) rfl rfl <|
      Lex.nil) ?_
  refine run_cond (.t rfl) rfl (fun h4 => ?_) (fun h4 => ?_)
  · try simp only [Bool.and_eq_true, Bool.or_eq_true, Bool.not_eq_true', Bool.and_eq_false_iff, Bool.or_eq_false_iff, Bool.not_eq_false', decide_eq_true_eq, decide_eq_false_iff_not, beq_iff_eq, bne_iff_ne, beq_eq_false_iff_ne, bne_eq_false_iff_eq, Bool.true_and, ne_eq, Decidable.not_not, Int.not_lt, Int.not_le, Nat.not_lt, Nat.not_le, strB_nil, strB_nil', strB_nnil, strB_nnil'] at h4
    refine run_seq ?_
    refine run_region (q_assign .n (.c rfl) rfl <|
        Lex.nil) ?_
    exact run_ret [] (.cons (.t rfl rfl) .nil) rfl trivial rfl
  · try simp only [Bool.and_eq_true, Bool.or_eq_true, Bool.not_eq_true', Bool.and_eq_false_iff, Bool.or_eq_false_iff, Bool.not_eq_false', decide_eq_true_eq, decide_eq_false_iff_not, beq_iff_eq, bne_iff_ne, beq_eq_false_iff_ne, bne_eq_false_iff_eq, Bool.true_and, ne_eq, Decidable.not_not, Int.not_lt, Int.not_le, Nat.not_lt, Nat.not_le, strB_nil, strB_nil', strB_nnil, strB_nnil'] at h4
    refine run_skip ?_
    refine run_seq ?_
    refine run_seq ?_
    refine run_region (q_move .n (.t rfl) rfl <|
        q_len .n (.t rfl) rfl len_map ss_25 rfl <|
        q_int .n (.t rfl) (.c rfl) rfl rfl <|
        Lex.nil) ?_
    refine run_cond (.t rfl) rfl (fun h5 => ?_) (fun h5 => ?_)
    · try simp only [Bool.and_eq_true, Bool.or_eq_true, Bool.not_eq_true', Bool.and_eq_false_iff, Bool.or_eq_false_iff, Bool.not_eq_false', decide_eq_true_eq, decide_eq_false_iff_not, beq_iff_eq, bne_iff_ne, beq_eq_false_iff_ne, bne_eq_false_iff_eq, Bool.true_and, ne_eq, Decidable.not_not, Int.not_lt, Int.not_le, Nat.not_lt, Nat.not_le, strB_nil, strB_nil', strB_nnil, strB_nnil'] at h5
      refine run_seq ?_
      refine run_region (q_assign .n (.c rfl) rfl <|
          Lex.nil) ?_
      exact run_ret [] (.cons (.t rfl rfl) .nil) rfl trivial rfl
    · try simp only [Bool.and_eq_true, Bool.or_eq_true, Bool.not_eq_true', Bool.and_eq_false_iff, Bool.or_eq_false_iff, Bool.not_eq_false', decide_eq_true_eq, decide_eq_false_iff_not, beq_iff_eq, bne_iff_ne, beq_eq_false_iff_ne, bne_eq_false_iff_eq, Bool.true_and, ne_eq, Decidable.not_not, Int.not_lt, Int.not_le, Nat.not_lt, Nat.not_le, strB_nil, strB_nil', strB_nnil, strB_nnil'] at h5
      refine run_skip ?_
      refine run_seq ?_
      refine run_region (q_assign .n (.c rfl) rfl <|
          Lex.nil) ?_
      refine run_seq ?_
      refine run_region (q_ldN_ow .n (.t rfl) rfl (.inr rfl) ag_24 (fun _ => rfl) rfl rfl <|
          q_move .n (.t rfl) rfl <|
          q_call0 (full := false) .n .f en_8 (.cons (.t rfl) (.cons (.t rfl) .nil)) (.cons (.sts rfl) (.cons (.b (.a (.same rfl))) .nil)) (fun hg => c_laws_szMine aM 1048576) rfl (fun h => Bool.noConfusion h) rfl <|
          q_assign .n (.t rfl) rfl <|
          Lex.nil) ?_
      refine run_seq ?_
      refine run_seq ?_
      refine run_region (q_move .n (.t rfl) rfl <|
          q_int .n (.t rfl) (.c rfl) rfl rfl <|
          Lex.nil) ?_
      refine run_cond (.t rfl) rfl (fun h6 => ?_) (fun h6 => ?_)
      · try simp only [Bool.and_eq_true, Bool.or_eq_true, Bool.not_eq_true', Bool.and_eq_false_iff, Bool.or_eq_false_iff, Bool.not_eq_false', decide_eq_true_eq, decide_eq_false_iff_not, beq_iff_eq, bne_iff_ne, beq_eq_false_iff_ne, bne_eq_false_iff_eq, Bool.true_and, ne_eq, Decidable.not_not, Int.not_lt, Int.not_le, Nat.not_lt, Nat.not_le, strB_nil, strB_nil', strB_nnil, strB_nnil'] at h6
        try have hf0h6 := szMine_impA (by assumption) (by omega) (by omega) h6
        try have hf1h6 := szMine_impA (by assumption) (by omega) (by omega) h6.1
        try have hf2h6 := szMine_impA (by assumption) (by omega) (by omega) h6.2
        try have hf3h6 := szMine_impA (by assumption) (by omega) (by omega) h6.1.1
        try have hf4h6 := szMine_impA (by assumption) (by omega) (by omega) h6.1.2
        try have hf5h6 := szMine_impA (by assumption) (by omega) (by omega) h6.2.1
        try have hf6h6 := szMine_impA (by assumption) (by omega) (by omega) h6.2.2
        try have hf7h6 := szMine_impB (by assumption) (by omega) (by omega) h6
        try have hf8h6 := szMine_impB (by assumption) (by omega) (by omega) h6.1
        try have hf9h6 := szMine_impB (by assumption) (by omega) (by omega) h6.2
        try have hf10h6 := szMine_impB (by assumption) (by omega) (by omega) h6.1.1
        try have hf11h6 := szMine_impB (by assumption) (by omega) (by omega) h6.1.2
        try have hf12h6 := szMine_impB (by assumption) (by omega) (by omega) h6.2.1
        try have hf13h6 := szMine_impB (by assumption) (by omega) (by omega) h6.2.2
        refine run_seq ?_
        refine run_region (q_assign .n (.c rfl) rfl <|
            Lex.nil) ?_
        exact run_ret [] (.cons (.t rfl rfl) .nil) rfl trivial rfl
      · try simp only [Bool.and_eq_true, Bool.or_eq_true, Bool.not_eq_true', Bool.and_eq_false_iff, Bool.or_eq_false_iff, Bool.not_eq_false', decide_eq_true_eq, decide_eq_false_iff_not, beq_iff_eq, bne_iff_ne, beq_eq_false_iff_ne, bne_eq_false_iff_eq, Bool.true_and, ne_eq, Decidable.not_not, Int.not_lt, Int.not_le, Nat.not_lt, Nat.not_le, strB_nil, strB_nil', strB_nnil, strB_nnil'] at h6
        try have hf0h6 := szMine_impA (by assumption) (by omega) (by omega) h6
        try have hf1h6 := szMine_impA (by assumption) (by omega) (by omega) h6.1
        try have hf2h6 := szMine_impA (by assumption) (by omega) (by omega) h6.2
        try have hf3h6 := szMine_impA (by assumption) (by omega) (by omega) h6.1.1
        try have hf4h6 := szMine_impA (by assumption) (by omega) (by omega) h6.1.2
        try have hf5h6 := szMine_impA (by assumption) (by omega) (by omega) h6.2.1
        try have hf6h6 := szMine_impA (by assumption) (by omega) (by omega) h6.2.2
        try have hf7h6 := szMine_impB (by assumption) (by omega) (by omega) h6
        try have hf8h6 := szMine_impB (by assumption) (by omega) (by omega) h6.1
        try have hf9h6 := szMine_impB (by assumption) (by omega) (by omega) h6.2
        try have hf10h6 := szMine_impB (by assumption) (by omega) (by omega) h6.1.1
        try have hf11h6 := szMine_impB (by assumption) (by omega) (by omega) h6.1.2
        try have hf12h6 := szMine_impB (by assumption) (by omega) (by omega) h6.2.1
        try have hf13h6 := szMine_impB (by assumption) (by omega) (by omega) h6.2.2
        refine run_skip ?_
        refine run_seq ?_
        refine run_region (q_ldN_ow .n (.t rfl) rfl (.inr rfl) ag_27 (fun _ => rfl) rfl rfl <|
            q_move .n (.t rfl) rfl <|
            q_call0 (full := false) .n .f en_9 (.cons (.t rfl) (.cons (.t rfl) .nil)) (.cons (.sts rfl) (.cons (.b (.a (.same rfl))) .nil)) (fun hg => c_laws_szCrew aC (m_laws_szMine aM 1048576)) rfl (fun h => Bool.noConfusion h) rfl <|
            q_assign .n (.t rfl) rfl <|
            Lex.nil) ?_
        refine run_seq ?_
        refine run_seq ?_
        refine run_region (q_move .n (.t rfl) rfl <|
            q_int .n (.t rfl) (.c rfl) rfl rfl <|
            Lex.nil) ?_
        refine run_cond (.t rfl) rfl (fun h7 => ?_) (fun h7 => ?_)
        · try simp only [Bool.and_eq_true, Bool.or_eq_true, Bool.not_eq_true', Bool.and_eq_false_iff, Bool.or_eq_false_iff, Bool.not_eq_false', decide_eq_true_eq, decide_eq_false_iff_not, beq_iff_eq, bne_iff_ne, beq_eq_false_iff_ne, bne_eq_false_iff_eq, Bool.true_and, ne_eq, Decidable.not_not, Int.not_lt, Int.not_le, Nat.not_lt, Nat.not_le, strB_nil, strB_nil', strB_nnil, strB_nnil'] at h7
          try have hf0h7 := szCrew_impA (by assumption) (by omega) (by omega) h7
          try have hf1h7 := szCrew_impA (by assumption) (by omega) (by omega) h7.1
          try have hf2h7 := szCrew_impA (by assumption) (by omega) (by omega) h7.2
          try have hf3h7 := szCrew_impA (by assumption) (by omega) (by omega) h7.1.1
          try have hf4h7 := szCrew_impA (by assumption) (by omega) (by omega) h7.1.2
          try have hf5h7 := szCrew_impA (by assumption) (by omega) (by omega) h7.2.1
          try have hf6h7 := szCrew_impA (by assumption) (by omega) (by omega) h7.2.2
          try have hf7h7 := szCrew_impB (by assumption) (by omega) (by omega) h7
          try have hf8h7 := szCrew_impB (by assumption) (by omega) (by omega) h7.1
          try have hf9h7 := szCrew_impB (by assumption) (by omega) (by omega) h7.2
          try have hf10h7 := szCrew_impB (by assumption) (by omega) (by omega) h7.1.1
          try have hf11h7 := szCrew_impB (by assumption) (by omega) (by omega) h7.1.2
          try have hf12h7 := szCrew_impB (by assumption) (by omega) (by omega) h7.2.1
          try have hf13h7 := szCrew_impB (by assumption) (by omega) (by omega) h7.2.2
          refine run_seq ?_
          refine run_region (q_assign .n (.c rfl) rfl <|
              Lex.nil) ?_
          exact run_ret [] (.cons (.t rfl rfl) .nil) rfl trivial rfl
        · try simp only [Bool.and_eq_true, Bool.or_eq_true, Bool.not_eq_true', Bool.and_eq_false_iff, Bool.or_eq_false_iff, Bool.not_eq_false', decide_eq_true_eq, decide_eq_false_iff_not, beq_iff_eq, bne_iff_ne, beq_eq_false_iff_ne, bne_eq_false_iff_eq, Bool.true_and, ne_eq, Decidable.not_not, Int.not_lt, Int.not_le, Nat.not_lt, Nat.not_le, strB_nil, strB_nil', strB_nnil, strB_nnil'] at h7
          try have hf0h7 := szCrew_impA (by assumption) (by omega) (by omega) h7
          try have hf1h7 := szCrew_impA (by assumption) (by omega) (by omega) h7.1
          try have hf2h7 := szCrew_impA (by assumption) (by omega) (by omega) h7.2
          try have hf3h7 := szCrew_impA (by assumption) (by omega) (by omega) h7.1.1
          try have hf4h7 := szCrew_impA (by assumption) (by omega) (by omega) h7.1.2
          try have hf5h7 := szCrew_impA (by assumption) (by omega) (by omega) h7.2.1
          try have hf6h7 := szCrew_impA (by assumption) (by omega) (by omega) h7.2.2
          try have hf7h7 := szCrew_impB (by assumption) (by omega) (by omega) h7
          try have hf8h7 := szCrew_impB (by assumption) (by omega) (by omega) h7.1
          try have hf9h7 := szCrew_impB (by assumption) (by omega) (by omega) h7.2
          try have hf10h7 := szCrew_impB (by assumption) (by omega) (by omega) h7.1.1
          try have hf11h7 := szCrew_impB (by assumption) (by omega) (by omega) h7.1.2
          try have hf12h7 := szCrew_impB (by assumption) (by omega) (by omega) h7.2.1
          try have hf13h7 := szCrew_impB (by assumption) (by omega) (by omega) h7.2.2
          refine run_skip ?_
          refine run_seq ?_
          refine run_draw fmo (q_ldN_ow .n (.t rfl) rfl (.inr rfl) ag_24 (fun _ => rfl) rfl rfl <|
              q_callM (full := false) [] [(100, 202)] .n rfl .f en_11 (.cons (.t rfl) .nil) (.cons (.sts rfl) .nil) (c_laws_toMine aM (by first | omega | assumption | (simp only [List.length_append, List.length_cons, List.length_nil, List.length_replicate, put_len] at * <;> omega) | (exact wr64_le) | ((simp only [toAirway_eq, toAirwayS_eq, toMine_eq, toInt64S_eq, toCrew_eq] at *; omega)) | ((repeat (first | omega | refine markAirwayS_le ?_ | refine markMine_le ?_ | refine markInt64S_le ?_))))) trivial rfl rfl (fun h => Bool.noConfusion h) (fun h => Bool.noConfusion h) rfl <|
              q_move .n (.t rfl) rfl <|
              q_callM (full := false) [] [(100, 203)] .n rfl .f en_12 (.cons (.t rfl) .nil) (.cons (.b (.a (.same rfl))) .nil) (c_laws_toInt64S aArrivals (by first | omega | assumption | (simp only [List.length_append, List.length_cons, List.length_nil, List.length_replicate, put_len] at * <;> omega) | (exact wr64_le) | ((simp only [toAirway_eq, toAirwayS_eq, toMine_eq, toInt64S_eq, toCrew_eq] at *; omega)) | ((repeat (first | omega | refine markAirwayS_le ?_ | refine markMine_le ?_ | refine markInt64S_le ?_))))) trivial rfl rfl (fun h => Bool.noConfusion h) (fun h => Bool.noConfusion h) rfl <|
              q_move .n (.t rfl) rfl <|
              q_ldN_ow .n (.t rfl) rfl (.inr rfl) ag_27 (fun _ => rfl) rfl rfl <|
              q_call0 (full := false) .n .f en_13 (.cons (.t rfl) .nil) (.cons (.sts rfl) .nil) (fun hg => c_laws_toCrew aC) rfl (fun h => Bool.noConfusion h) rfl <|
              q_move .n (.t rfl) rfl <|
              q_move .n (.t rfl) rfl <|
              q_callM (full := false) [] [(100, 204)] .n rfl .f en_12 (.cons (.t rfl) .nil) (.cons (.b (.a (.same rfl))) .nil) (c_laws_toInt64S aExits (by first | omega | assumption | (simp only [List.length_append, List.length_cons, List.length_nil, List.length_replicate, put_len] at * <;> omega) | (exact wr64_le) | ((simp only [toAirway_eq, toAirwayS_eq, toMine_eq, toInt64S_eq, toCrew_eq] at *; omega)) | ((repeat (first | omega | refine markAirwayS_le ?_ | refine markMine_le ?_ | refine markInt64S_le ?_))))) trivial rfl rfl (fun h => Bool.noConfusion h) (fun h => Bool.noConfusion h) rfl <|
              q_callM (full := true) [] [(100, 205)] .n rfl .f en_37 (.cons (.t rfl) (.cons (.t rfl) (.cons (.t rfl) (.cons (.t rfl) (.cons (.t rfl) (.cons (.t rfl) .nil)))))) (.cons (.st (.cons (.a (.same rfl)) (.cons (.a (.own rfl rfl rfl (take_all (by simp only [len_map, put_len, markAirwayS_len, markMine_len, markInt64S_len])) (by simp only [len_map, put_len, markAirwayS_len, markMine_len, markInt64S_len]))) .nil))) (.cons (.b (.a (.own rfl rfl rfl (take_all (by simp only [len_map, put_len, markAirwayS_len, markMine_len, markInt64S_len])) (by simp only [len_map, put_len, markAirwayS_len, markMine_len, markInt64S_len])))) (.cons (.b (.a (.same rfl))) (.cons (.sts rfl) (.cons (.b (.a (.same rfl))) (.cons (.b (.a (.own rfl rfl rfl (take_all (by simp only [len_map, put_len, markAirwayS_len, markMine_len, markInt64S_len])) (by simp only [len_map, put_len, markAirwayS_len, markMine_len, markInt64S_len])))) .nil)))))) (c_spec_EscapeRoute (m_laws_toMine aM) (m_laws_toInt64S aArrivals) aBlocked (m_laws_toCrew aC) aStart (m_laws_toInt64S aExits)) trivial rfl rfl (fun _ => rfl) (fun _ => (hr_row (fun _ => rfl) hr_nil)) rfl <|
              q_move .n (.t rfl) rfl <|
              q_ext .n (.t rfl) rfl rfl rfl <|
              q_ext .n (.t rfl) rfl rfl rfl <|
              q_ext .n (.t rfl) rfl rfl rfl <|
              q_assign .n (.t rfl) rfl <|
              q_assign .n (.t rfl) rfl <|
              q_assign .n (.t rfl) rfl <|
              Lex.nil) (by kernel_rfl) ?_
          refine run_seq ?_
          refine run_region (q_ldN_ow .n (.t rfl) rfl (.inr rfl) ag_24 (fun _ => rfl) rfl rfl <|
              q_callM (full := false) [] [(100, 206)] .n rfl .f en_11 (.cons (.t rfl) .nil) (.cons (.sts rfl) .nil) (c_laws_toMine aM (by first | omega | assumption | (simp only [List.length_append, List.length_cons, List.length_nil, List.length_replicate, put_len] at * <;> omega) | (exact wr64_le) | ((simp only [toAirway_eq, toAirwayS_eq, toMine_eq, toInt64S_eq, toCrew_eq] at *; omega)) | ((repeat (first | omega | refine markAirwayS_le ?_ | refine markMine_le ?_ | refine markInt64S_le ?_))))) trivial rfl rfl (fun h => Bool.noConfusion h) (fun h => Bool.noConfusion h) rfl <|
              q_alloc (l := 207) .n rfl zv_34 rfl rfl <|
              q_st_boxm [.int .i64 (m_laws_toMine aM).Junctions, .os 206 (m_laws_toMine aM).Airways.length] .n rfl (.t rfl) (.t rfl) rfl ts_34 rfl rfl <|
              Lex.nil) ?_
          refine run_seq ?_
          refine run_region (q_move .n (.t rfl) rfl <|
              q_callM (full := false) [] [(100, 208)] .n rfl .f en_12 (.cons (.t rfl) .nil) (.cons (.b (.a (.same rfl))) .nil) (c_laws_toInt64S aArrivals (by first | omega | assumption | (simp only [List.length_append, List.length_cons, List.length_nil, List.length_replicate, put_len] at * <;> omega) | (exact wr64_le) | ((simp only [toAirway_eq, toAirwayS_eq, toMine_eq, toInt64S_eq, toCrew_eq] at *; omega)) | ((repeat (first | omega | refine markAirwayS_le ?_ | refine markMine_le ?_ | refine markInt64S_le ?_))))) trivial rfl rfl (fun h => Bool.noConfusion h) (fun h => Bool.noConfusion h) rfl <|
              q_assign .n (.t rfl) rfl <|
              Lex.nil) ?_
          refine run_seq ?_
          refine run_region (q_move .n (.t rfl) rfl <|
              q_callM (full := false) [] [(100, 209)] .n rfl .f en_12 (.cons (.t rfl) .nil) (.cons (.b (.a (.same rfl))) .nil) (c_laws_toInt64S aExits (by first | omega | assumption | (simp only [List.length_append, List.length_cons, List.length_nil, List.length_replicate, put_len] at * <;> omega) | (exact wr64_le) | ((simp only [toAirway_eq, toAirwayS_eq, toMine_eq, toInt64S_eq, toCrew_eq] at *; omega)) | ((repeat (first | omega | refine markAirwayS_le ?_ | refine markMine_le ?_ | refine markInt64S_le ?_))))) trivial rfl rfl (fun h => Bool.noConfusion h) (fun h => Bool.noConfusion h) rfl <|
              q_assign .n (.t rfl) rfl <|
              Lex.nil) ?_
          refine run_seq ?_
          refine run_draw fmo (q_ldN_ow .n (.t rfl) rfl (.inr rfl) ag_34 (fun _ => rfl) rfl rfl <|
              q_move .n (.t rfl) rfl <|
              q_move .n (.t rfl) rfl <|
              q_ldN_ow .n (.t rfl) rfl (.inr rfl) ag_27 (fun _ => rfl) rfl rfl <|
              q_call0 (full := false) .n .f en_13 (.cons (.t rfl) .nil) (.cons (.sts rfl) .nil) (fun hg => c_laws_toCrew aC) rfl (fun h => Bool.noConfusion h) rfl <|
              q_move .n (.t rfl) rfl <|
              q_move .n (.t rfl) rfl <|
              q_callM (full := true) [] [(100, 210)] .n rfl .f en_38 (.cons (.t rfl) (.cons (.t rfl) (.cons (.t rfl) (.cons (.t rfl) (.cons (.t rfl) (.cons (.t rfl) .nil)))))) (.cons (.st (.cons (.a (.same rfl)) (.cons (.a (.own rfl rfl rfl (take_all (by simp only [len_map, put_len, markAirwayS_len, markMine_len, markInt64S_len])) (by simp only [len_map, put_len, markAirwayS_len, markMine_len, markInt64S_len]))) .nil))) (.cons (.b (.a (.own rfl rfl rfl (take_all (by simp only [len_map, put_len, markAirwayS_len, markMine_len, markInt64S_len])) (by simp only [len_map, put_len, markAirwayS_len, markMine_len, markInt64S_len])))) (.cons (.b (.a (.same rfl))) (.cons (.sts rfl) (.cons (.b (.a (.same rfl))) (.cons (.b (.a (.own rfl rfl rfl (take_all (by simp only [len_map, put_len, markAirwayS_len, markMine_len, markInt64S_len])) (by simp only [len_map, put_len, markAirwayS_len, markMine_len, markInt64S_len])))) .nil)))))) (c_impl_EscapeRoute (m_laws_toMine aM) (m_laws_toInt64S aArrivals) aBlocked (m_laws_toCrew aC) aStart (m_laws_toInt64S aExits)) trivial rfl rfl (fun _ => rfl) (fun _ => (hr_row (fun _ => rfl) hr_nil)) rfl <|
              q_move .n (.t rfl) rfl <|
              q_ext .n (.t rfl) rfl rfl rfl <|
              q_ext .n (.t rfl) rfl rfl rfl <|
              q_ext .n (.t rfl) rfl rfl rfl <|
              q_assign .n (.t rfl) rfl <|
              q_assign .n (.t rfl) rfl <|
              q_assign .n (.t rfl) rfl <|
              Lex.nil) (by kernel_rfl) ?_
          refine run_seq ?_
          refine run_seq ?_
          refine run_region (q_move .n (.t rfl) rfl <|
              q_move .n (.t rfl) rfl <|
              q_call0 (full := true) .n .f en_15 (.cons (.t rfl) (.cons (.t rfl) .nil)) (.cons (.b (.a (.own rfl rfl rfl (take_all (by simp only [len_map, put_len, markAirwayS_len, markMine_len, markInt64S_len])) (by simp only [len_map, put_len, markAirwayS_len, markMine_len, markInt64S_len])))) (.cons (.b (.a (.own rfl rfl rfl (take_all (by simp only [len_map, put_len, markAirwayS_len, markMine_len, markInt64S_len])) (by simp only [len_map, put_len, markAirwayS_len, markMine_len, markInt64S_len])))) .nil)) (fun hg => c_laws_eqInt64S (m_impl_EscapeRoute (m_laws_toMine aM) (m_laws_toInt64S aArrivals) aBlocked (m_laws_toCrew aC) aStart (m_laws_toInt64S aExits)).1 (m_spec_EscapeRoute (m_laws_toMine aM) (m_laws_toInt64S aArrivals) aBlocked (m_laws_toCrew aC) aStart (m_laws_toInt64S aExits)).1) rfl (fun _ => rfl) rfl <|
              q_not .n (.t rfl) rfl <|
              q_move .n (.t rfl) rfl <|
              q_move (.f rfl rfl) (.t rfl) rfl <|
              q_move (.f rfl rfl) (.t rfl) rfl <|
              q_int (.f rfl rfl) (.u rfl id) (.u rfl id) rfl rfl <|
              q_or .n (.t rfl) (.u rfl id) rfl <|
              q_move .n (.t rfl) rfl <|
              q_move (.f rfl rfl) (.t rfl) rfl <|
              q_move (.f rfl rfl) (.t rfl) rfl <|
              q_int (.f rfl rfl) (.u rfl id) (.u rfl id) rfl rfl <|
              q_or .n (.t rfl) (.u rfl id) rfl <|
              Lex.nil) ?_
          refine run_cond (.t rfl) rfl (fun h8 => ?_) (fun h8 => ?_)
          · try simp only [Bool.and_eq_true, Bool.or_eq_true, Bool.not_eq_true', Bool.and_eq_false_iff, Bool.or_eq_false_iff, Bool.not_eq_false', decide_eq_true_eq, decide_eq_false_iff_not, beq_iff_eq, bne_iff_ne, beq_eq_false_iff_ne, bne_eq_false_iff_eq, Bool.true_and, ne_eq, Decidable.not_not, Int.not_lt, Int.not_le, Nat.not_lt, Nat.not_le, strB_nil, strB_nil', strB_nnil, strB_nnil'] at h8
            refine run_seq ?_
            refine run_region (q_assign .n (.c rfl) rfl <|
                Lex.nil) ?_
            exact run_ret [] (.cons (.t rfl rfl) .nil) rfl trivial rfl
          · try simp only [Bool.and_eq_true, Bool.or_eq_true, Bool.not_eq_true', Bool.and_eq_false_iff, Bool.or_eq_false_iff, Bool.not_eq_false', decide_eq_true_eq, decide_eq_false_iff_not, beq_iff_eq, bne_iff_ne, beq_eq_false_iff_ne, bne_eq_false_iff_eq, Bool.true_and, ne_eq, Decidable.not_not, Int.not_lt, Int.not_le, Nat.not_lt, Nat.not_le, strB_nil, strB_nil', strB_nnil, strB_nnil'] at h8
            refine run_skip ?_
            refine run_seq ?_
            refine run_seq ?_
            refine run_draw fmo (q_ldN_ow .n (.t rfl) rfl (.inr rfl) ag_34 (fun _ => rfl) rfl rfl <|
                q_ldN_ow .n (.t rfl) rfl (.inr rfl) ag_24 (fun _ => rfl) rfl rfl <|
                q_callM (full := false) [] [(100, 211)] .n rfl .f en_11 (.cons (.t rfl) .nil) (.cons (.sts rfl) .nil) (c_laws_toMine aM (by first | omega | assumption | (simp only [List.length_append, List.length_cons, List.length_nil, List.length_replicate, put_len] at * <;> omega) | (exact wr64_le) | ((simp only [toAirway_eq, toAirwayS_eq, toMine_eq, toInt64S_eq, toCrew_eq] at *; omega)) | ((repeat (first | omega | refine markAirwayS_le ?_ | refine markMine_le ?_ | refine markInt64S_le ?_))))) trivial rfl rfl (fun h => Bool.noConfusion h) (fun h => Bool.noConfusion h) rfl <|
                q_call0 (full := true) .n .f en_16 (.cons (.t rfl) (.cons (.t rfl) .nil)) (.cons (.st (.cons (.a (.same rfl)) (.cons (.a (.own rfl rfl rfl (take_all (by simp only [len_map, put_len, markAirwayS_len, markMine_len, markInt64S_len])) (by simp only [len_map, put_len, markAirwayS_len, markMine_len, markInt64S_len]))) .nil))) (.cons (.st (.cons (.a (.same rfl)) (.cons (.a (.own rfl rfl rfl (take_all (by simp only [len_map, put_len, markAirwayS_len, markMine_len, markInt64S_len])) (by simp only [len_map, put_len, markAirwayS_len, markMine_len, markInt64S_len]))) .nil))) .nil)) (fun hg => c_laws_eqMine (m_laws_toMine aM) (m_laws_toMine aM)) rfl (fun _ => rfl) rfl <|
                q_not .n (.t rfl) rfl <|
                Lex.nil) (by kernel_rfl) ?_
            refine run_cond (.t rfl) rfl (fun h9 => ?_) (fun h9 => ?_)
            · try simp only [Bool.and_eq_true, Bool.or_eq_true, Bool.not_eq_true', Bool.and_eq_false_iff, Bool.or_eq_false_iff, Bool.not_eq_false', decide_eq_true_eq, decide_eq_false_iff_not, beq_iff_eq, bne_iff_ne, beq_eq_false_iff_ne, bne_eq_false_iff_eq, Bool.true_and, ne_eq, Decidable.not_not, Int.not_lt, Int.not_le, Nat.not_lt, Nat.not_le, strB_nil, strB_nil', strB_nnil, strB_nnil'] at h9
              refine run_seq ?_
              refine run_region (q_assign .n (.c rfl) rfl <|
                  Lex.nil) ?_
              exact run_ret [] (.cons (.t rfl rfl) .nil) rfl trivial rfl
            · try simp only [Bool.and_eq_true, Bool.or_eq_true, Bool.not_eq_true', Bool.and_eq_false_iff, Bool.or_eq_false_iff, Bool.not_eq_false', decide_eq_true_eq, decide_eq_false_iff_not, beq_iff_eq, bne_iff_ne, beq_eq_false_iff_ne, bne_eq_false_iff_eq, Bool.true_and, ne_eq, Decidable.not_not, Int.not_lt, Int.not_le, Nat.not_lt, Nat.not_le, strB_nil, strB_nil', strB_nnil, strB_nnil'] at h9
              refine run_skip ?_
              refine run_seq ?_
              refine run_seq ?_
              refine run_region (q_move .n (.t rfl) rfl <|
                  q_move .n (.t rfl) rfl <|
                  q_callM (full := false) [] [(100, 212)] .n rfl .f en_12 (.cons (.t rfl) .nil) (.cons (.b (.a (.same rfl))) .nil) (c_laws_toInt64S aArrivals (by first | omega | assumption | (simp only [List.length_append, List.length_cons, List.length_nil, List.length_replicate, put_len] at * <;> omega) | (exact wr64_le) | ((simp only [toAirway_eq, toAirwayS_eq, toMine_eq, toInt64S_eq, toCrew_eq] at *; omega)) | ((repeat (first | omega | refine markAirwayS_le ?_ | refine markMine_le ?_ | refine markInt64S_le ?_))))) trivial rfl rfl (fun h => Bool.noConfusion h) (fun h => Bool.noConfusion h) rfl <|
                  q_call0 (full := true) .n .f en_15 (.cons (.t rfl) (.cons (.t rfl) .nil)) (.cons (.b (.a (.own rfl rfl rfl (take_all (by simp only [len_map, put_len, markAirwayS_len, markMine_len, markInt64S_len])) (by simp only [len_map, put_len, markAirwayS_len, markMine_len, markInt64S_len])))) (.cons (.b (.a (.own rfl rfl rfl (take_all (by simp only [len_map, put_len, markAirwayS_len, markMine_len, markInt64S_len])) (by simp only [len_map, put_len, markAirwayS_len, markMine_len, markInt64S_len])))) .nil)) (fun hg => c_laws_eqInt64S (m_laws_toInt64S aArrivals) (m_laws_toInt64S aArrivals)) rfl (fun _ => rfl) rfl <|
                  q_not .n (.t rfl) rfl <|
                  Lex.nil) ?_
              refine run_cond (.t rfl) rfl (fun h10 => ?_) (fun h10 => ?_)
              · try simp only [Bool.and_eq_true, Bool.or_eq_true, Bool.not_eq_true', Bool.and_eq_false_iff, Bool.or_eq_false_iff, Bool.not_eq_false', decide_eq_true_eq, decide_eq_false_iff_not, beq_iff_eq, bne_iff_ne, beq_eq_false_iff_ne, bne_eq_false_iff_eq, Bool.true_and, ne_eq, Decidable.not_not, Int.not_lt, Int.not_le, Nat.not_lt, Nat.not_le, strB_nil, strB_nil', strB_nnil, strB_nnil'] at h10
                refine run_seq ?_
                refine run_region (q_assign .n (.c rfl) rfl <|
                    Lex.nil) ?_
                exact run_ret [] (.cons (.t rfl rfl) .nil) rfl trivial rfl
              · try simp only [Bool.and_eq_true, Bool.or_eq_true, Bool.not_eq_true', Bool.and_eq_false_iff, Bool.or_eq_false_iff, Bool.not_eq_false', decide_eq_true_eq, decide_eq_false_iff_not, beq_iff_eq, bne_iff_ne, beq_eq_false_iff_ne, bne_eq_false_iff_eq, Bool.true_and, ne_eq, Decidable.not_not, Int.not_lt, Int.not_le, Nat.not_lt, Nat.not_le, strB_nil, strB_nil', strB_nnil, strB_nnil'] at h10
                refine run_skip ?_
                refine run_seq ?_
                refine run_seq ?_
                refine run_region (q_move .n (.t rfl) rfl <|
                    q_move .n (.t rfl) rfl <|
                    q_callM (full := false) [] [(100, 213)] .n rfl .f en_12 (.cons (.t rfl) .nil) (.cons (.b (.a (.same rfl))) .nil) (c_laws_toInt64S aExits (by first | omega | assumption | (simp only [List.length_append, List.length_cons, List.length_nil, List.length_replicate, put_len] at * <;> omega) | (exact wr64_le) | ((simp only [toAirway_eq, toAirwayS_eq, toMine_eq, toInt64S_eq, toCrew_eq] at *; omega)) | ((repeat (first | omega | refine markAirwayS_le ?_ | refine markMine_le ?_ | refine markInt64S_le ?_))))) trivial rfl rfl (fun h => Bool.noConfusion h) (fun h => Bool.noConfusion h) rfl <|
                    q_call0 (full := true) .n .f en_15 (.cons (.t rfl) (.cons (.t rfl) .nil)) (.cons (.b (.a (.own rfl rfl rfl (take_all (by simp only [len_map, put_len, markAirwayS_len, markMine_len, markInt64S_len])) (by simp only [len_map, put_len, markAirwayS_len, markMine_len, markInt64S_len])))) (.cons (.b (.a (.own rfl rfl rfl (take_all (by simp only [len_map, put_len, markAirwayS_len, markMine_len, markInt64S_len])) (by simp only [len_map, put_len, markAirwayS_len, markMine_len, markInt64S_len])))) .nil)) (fun hg => c_laws_eqInt64S (m_laws_toInt64S aExits) (m_laws_toInt64S aExits)) rfl (fun _ => rfl) rfl <|
                    q_not .n (.t rfl) rfl <|
                    Lex.nil) ?_
                refine run_cond (.t rfl) rfl (fun h11 => ?_) (fun h11 => ?_)
                · try simp only [Bool.and_eq_true, Bool.or_eq_true, Bool.not_eq_true', Bool.and_eq_false_iff, Bool.or_eq_false_iff, Bool.not_eq_false', decide_eq_true_eq, decide_eq_false_iff_not, beq_iff_eq, bne_iff_ne, beq_eq_false_iff_ne, bne_eq_false_iff_eq, Bool.true_and, ne_eq, Decidable.not_not, Int.not_lt, Int.not_le, Nat.not_lt, Nat.not_le, strB_nil, strB_nil', strB_nnil, strB_nnil'] at h11
                  refine run_seq ?_
                  refine run_region (q_assign .n (.c rfl) rfl <|
                      Lex.nil) ?_
                  exact run_ret [] (.cons (.t rfl rfl) .nil) rfl trivial rfl
                · try simp only [Bool.and_eq_true, Bool.or_eq_true, Bool.not_eq_true', Bool.and_eq_false_iff, Bool.or_eq_false_iff, Bool.not_eq_false', decide_eq_true_eq, decide_eq_false_iff_not, beq_iff_eq, bne_iff_ne, beq_eq_false_iff_ne, bne_eq_false_iff_eq, Bool.true_and, ne_eq, Decidable.not_not, Int.not_lt, Int.not_le, Nat.not_lt, Nat.not_le, strB_nil, strB_nil', strB_nnil, strB_nnil'] at h11
                  refine run_skip ?_
                  refine run_seq ?_
                  refine run_region (q_assign .n (.c rfl) rfl <|
                      Lex.nil) ?_
                  refine run_seq ?_
                  refine run_region (q_ldN_ow .n (.t rfl) rfl (.inr rfl) ag_34 (fun _ => rfl) rfl rfl <|
                      q_move .n (.t rfl) rfl <|
                      q_callM (full := false) [(11, 206)] [] .n rfl .f en_17 (.cons (.t rfl) (.cons (.t rfl) .nil)) (.cons (.st (.cons (.a (.same rfl)) (.cons (.muts rfl) .nil))) (.cons (.b (.a (.same rfl))) .nil)) (c_laws_markMine (m_laws_toMine aM) 1 (by first | omega | assumption | (simp only [List.length_append, List.length_cons, List.length_nil, List.length_replicate, put_len] at * <;> omega) | (exact wr64_le) | ((simp only [toAirway_eq, toAirwayS_eq, toMine_eq, toInt64S_eq, toCrew_eq] at *; omega)) | ((repeat (first | omega | refine markAirwayS_le ?_ | refine markMine_le ?_ | refine markInt64S_le ?_))))) ⟨rfl, trivial⟩ rfl rfl (fun h => Bool.noConfusion h) (fun h => Bool.noConfusion h) rfl <|
                      q_assign .n (.t rfl) rfl <|
                      Lex.nil) ?_
                  refine run_seq ?_
                  refine run_region (q_move .n (.t rfl) rfl <|
                      q_move .n (.t rfl) rfl <|
                      q_callM (full := false) [(0, 208)] [] .n rfl .f en_18 (.cons (.t rfl) (.cons (.t rfl) .nil)) (.cons (.b (.muts rfl)) (.cons (.b (.a (.same rfl))) .nil)) (c_laws_markInt64S (m_laws_toInt64S aArrivals) (m_laws_markMine (m_laws_toMine aM) 1).1) ⟨rfl, trivial⟩ rfl rfl (fun h => Bool.noConfusion h) (fun h => Bool.noConfusion h) rfl <|
                      q_assign .n (.t rfl) rfl <|
                      Lex.nil) ?_
                  refine run_seq ?_
                  refine run_region (q_move .n (.t rfl) rfl <|
                      q_move .n (.t rfl) rfl <|
                      q_callM (full := false) [(0, 209)] [] .n rfl .f en_18 (.cons (.t rfl) (.cons (.t rfl) .nil)) (.cons (.b (.muts rfl)) (.cons (.b (.a (.same rfl))) .nil)) (c_laws_markInt64S (m_laws_toInt64S aExits) (m_laws_markInt64S (m_laws_toInt64S aArrivals) (m_laws_markMine (m_laws_toMine aM) 1).1).1) ⟨rfl, trivial⟩ rfl rfl (fun h => Bool.noConfusion h) (fun h => Bool.noConfusion h) rfl <|
                      q_assign .n (.t rfl) rfl <|
                      Lex.nil) ?_
                  refine run_seq ?_
                  refine run_seq ?_
                  refine run_region (q_move .n (.t rfl) rfl <|
                      q_int .n (.t rfl) (.c rfl) rfl rfl <|
                      q_move .n (.t rfl) rfl <|
                      q_move (.f rfl rfl) (.t rfl) rfl <|
                      q_move (.f rfl rfl) (.t rfl) rfl <|
                      q_call0 (full := true) (.f rfl rfl) .f en_15 (.cons (.u rfl id) (.cons (.u rfl id) .nil)) (.cons (.b (.a (.own rfl rfl rfl (take_all (by simp only [len_map, put_len, markAirwayS_len, markMine_len, markInt64S_len])) (by simp only [len_map, put_len, markAirwayS_len, markMine_len, markInt64S_len])))) (.cons (.b (.a (.own rfl rfl rfl (take_all (by simp only [len_map, put_len, markAirwayS_len, markMine_len, markInt64S_len])) (by simp only [len_map, put_len, markAirwayS_len, markMine_len, markInt64S_len])))) .nil)) (fun hg => c_laws_eqInt64S (m_impl_EscapeRoute (m_laws_toMine aM) (m_laws_toInt64S aArrivals) aBlocked (m_laws_toCrew aC) aStart (m_laws_toInt64S aExits)).1 (m_spec_EscapeRoute (m_laws_toMine aM) (m_laws_toInt64S aArrivals) aBlocked (m_laws_toCrew aC) aStart (m_laws_toInt64S aExits)).1) rfl (fun _ => rfl) rfl <|
                      q_not (.f rfl rfl) (.u rfl id) rfl <|
                      q_or .n (.t rfl) (.u rfl id) rfl <|
                      q_move .n (.t rfl) rfl <|
                      q_move (.f rfl rfl) (.t rfl) rfl <|
                      q_move (.f rfl rfl) (.t rfl) rfl <|
                      q_int (.f rfl rfl) (.u rfl id) (.u rfl id) rfl rfl <|
                      q_or .n (.t rfl) (.u rfl id) rfl <|
                      q_move .n (.t rfl) rfl <|
                      q_move (.f rfl rfl) (.t rfl) rfl <|
                      q_move (.f rfl rfl) (.t rfl) rfl <|
                      q_int (.f rfl rfl) (.u rfl id) (.u rfl id) rfl rfl <|
                      q_or .n (.t rfl) (.u rfl id) rfl <|
                      Lex.nil) ?_
                  refine run_cond (.t rfl) rfl (fun h12 => ?_) (fun h12 => ?_)
                  · try simp only [Bool.and_eq_true, Bool.or_eq_true, Bool.not_eq_true', Bool.and_eq_false_iff, Bool.or_eq_false_iff, Bool.not_eq_false', decide_eq_true_eq, decide_eq_false_iff_not, beq_iff_eq, bne_iff_ne, beq_eq_false_iff_ne, bne_eq_false_iff_eq, Bool.true_and, ne_eq, Decidable.not_not, Int.not_lt, Int.not_le, Nat.not_lt, Nat.not_le, strB_nil, strB_nil', strB_nnil, strB_nnil'] at h12
                    refine run_seq ?_
                    refine run_region (q_assign .n (.c rfl) rfl <|
                        Lex.nil) ?_
                    exact run_ret [] (.cons (.t rfl rfl) .nil) rfl trivial rfl
                  · try simp only [Bool.and_eq_true, Bool.or_eq_true, Bool.not_eq_true', Bool.and_eq_false_iff, Bool.or_eq_false_iff, Bool.not_eq_false', decide_eq_true_eq, decide_eq_false_iff_not, beq_iff_eq, bne_iff_ne, beq_eq_false_iff_ne, bne_eq_false_iff_eq, Bool.true_and, ne_eq, Decidable.not_not, Int.not_lt, Int.not_le, Nat.not_lt, Nat.not_le, strB_nil, strB_nil', strB_nnil, strB_nnil'] at h12
                    refine run_skip ?_
                    refine run_seq ?_
                    refine run_region (q_assign .n (.c rfl) rfl <|
                        Lex.nil) ?_
                    refine run_seq ?_
                    refine run_region (q_move .n (.t rfl) rfl <|
                        q_move .n (.t rfl) rfl <|
                        q_callM (full := false) [(0, 210)] [] .n rfl .f en_18 (.cons (.t rfl) (.cons (.t rfl) .nil)) (.cons (.b (.muts rfl)) (.cons (.b (.a (.same rfl))) .nil)) (c_laws_markInt64S (m_impl_EscapeRoute (m_laws_toMine aM) (m_laws_toInt64S aArrivals) aBlocked (m_laws_toCrew aC) aStart (m_laws_toInt64S aExits)).1 1) ⟨rfl, trivial⟩ rfl rfl (fun h => Bool.noConfusion h) (fun h => Bool.noConfusion h) rfl <|
                        q_assign .n (.t rfl) rfl <|
                        Lex.nil) ?_
                    refine run_seq ?_
                    refine run_region (q_assign .n (.c rfl) rfl <|
                        Lex.nil) ?_
                    refine run_seq ?_
                    refine run_region (q_move .n (.t rfl) rfl <|
                        q_move .n (.t rfl) rfl <|
                        q_call0 (full := true) .n .f en_19 (.cons (.t rfl) (.cons (.t rfl) .nil)) (.cons (.b (.a (.own rfl rfl rfl (take_all (by simp only [len_map, put_len, markAirwayS_len, markMine_len, markInt64S_len])) (by simp only [len_map, put_len, markAirwayS_len, markMine_len, markInt64S_len])))) (.cons (.b (.a (.same rfl))) .nil)) (fun hg => c_laws_heldInt64S (m_laws_markInt64S (m_impl_EscapeRoute (m_laws_toMine aM) (m_laws_toInt64S aArrivals) aBlocked (m_laws_toCrew aC) aStart (m_laws_toInt64S aExits)).1 1).2 1) rfl (fun _ => rfl) rfl <|
                        q_assign .n (.t rfl) rfl <|
                        Lex.nil) ?_
                    refine run_seq ?_
                    refine run_seq ?_
                    refine run_region (q_move .n (.t rfl) rfl <|
                        q_int .n (.t rfl) (.c rfl) rfl rfl <|
                        Lex.nil) ?_
                    refine run_cond (.t rfl) rfl (fun h13 => ?_) (fun h13 => ?_)
                    · try simp only [Bool.and_eq_true, Bool.or_eq_true, Bool.not_eq_true', Bool.and_eq_false_iff, Bool.or_eq_false_iff, Bool.not_eq_false', decide_eq_true_eq, decide_eq_false_iff_not, beq_iff_eq, bne_iff_ne, beq_eq_false_iff_ne, bne_eq_false_iff_eq, Bool.true_and, ne_eq, Decidable.not_not, Int.not_lt, Int.not_le, Nat.not_lt, Nat.not_le, strB_nil, strB_nil', strB_nnil, strB_nnil'] at h13
                      refine run_seq ?_
                      refine run_region (q_assign .n (.c rfl) rfl <|
                          Lex.nil) ?_
                      exact run_ret [] (.cons (.t rfl rfl) .nil) rfl trivial rfl
                    · try simp only [Bool.and_eq_true, Bool.or_eq_true, Bool.not_eq_true', Bool.and_eq_false_iff, Bool.or_eq_false_iff, Bool.not_eq_false', decide_eq_true_eq, decide_eq_false_iff_not, beq_iff_eq, bne_iff_ne, beq_eq_false_iff_ne, bne_eq_false_iff_eq, Bool.true_and, ne_eq, Decidable.not_not, Int.not_lt, Int.not_le, Nat.not_lt, Nat.not_le, strB_nil, strB_nil', strB_nnil, strB_nnil'] at h13
                      refine run_skip ?_
                      refine run_seq ?_
                      refine run_seq ?_
                      refine run_region (q_move .n (.t rfl) rfl <|
                          q_move .n (.t rfl) rfl <|
                          q_int .n (.t rfl) (.t rfl) rfl rfl <|
                          Lex.nil) ?_
                      refine run_cond (.t rfl) rfl (fun h14 => ?_) (fun h14 => ?_)
                      · try simp only [Bool.and_eq_true, Bool.or_eq_true, Bool.not_eq_true', Bool.and_eq_false_iff, Bool.or_eq_false_iff, Bool.not_eq_false', decide_eq_true_eq, decide_eq_false_iff_not, beq_iff_eq, bne_iff_ne, beq_eq_false_iff_ne, bne_eq_false_iff_eq, Bool.true_and, ne_eq, Decidable.not_not, Int.not_lt, Int.not_le, Nat.not_lt, Nat.not_le, strB_nil, strB_nil', strB_nnil, strB_nnil'] at h14
                        refine run_seq ?_
                        refine run_region (q_assign .n (.c rfl) rfl <|
                            Lex.nil) ?_
                        exact run_ret [] (.cons (.t rfl rfl) .nil) rfl trivial rfl
                      · try simp only [Bool.and_eq_true, Bool.or_eq_true, Bool.not_eq_true', Bool.and_eq_false_iff, Bool.or_eq_false_iff, Bool.not_eq_false', decide_eq_true_eq, decide_eq_false_iff_not, beq_iff_eq, bne_iff_ne, beq_eq_false_iff_ne, bne_eq_false_iff_eq, Bool.true_and, ne_eq, Decidable.not_not, Int.not_lt, Int.not_le, Nat.not_lt, Nat.not_le, strB_nil, strB_nil', strB_nnil, strB_nnil'] at h14
                        refine run_skip ?_
                        refine run_seq ?_
                        refine run_draw fmo (q_ldN_ow .n (.t rfl) rfl (.inr rfl) ag_24 (fun _ => rfl) rfl rfl <|
                            q_callM (full := false) [] [(100, 214)] .n rfl .f en_11 (.cons (.t rfl) .nil) (.cons (.sts rfl) .nil) (c_laws_toMine aM (by first | omega | assumption | (simp only [List.length_append, List.length_cons, List.length_nil, List.length_replicate, put_len] at * <;> omega) | (exact wr64_le) | ((simp only [toAirway_eq, toAirwayS_eq, toMine_eq, toInt64S_eq, toCrew_eq] at *; omega)) | ((repeat (first | omega | refine markAirwayS_le ?_ | refine markMine_le ?_ | refine markInt64S_le ?_))))) trivial rfl rfl (fun h => Bool.noConfusion h) (fun h => Bool.noConfusion h) rfl <|
                            q_move .n (.t rfl) rfl <|
                            q_callM (full := false) [] [(100, 215)] .n rfl .f en_12 (.cons (.t rfl) .nil) (.cons (.b (.a (.same rfl))) .nil) (c_laws_toInt64S aArrivals (by first | omega | assumption | (simp only [List.length_append, List.length_cons, List.length_nil, List.length_replicate, put_len] at * <;> omega) | (exact wr64_le) | ((simp only [toAirway_eq, toAirwayS_eq, toMine_eq, toInt64S_eq, toCrew_eq] at *; omega)) | ((repeat (first | omega | refine markAirwayS_le ?_ | refine markMine_le ?_ | refine markInt64S_le ?_))))) trivial rfl rfl (fun h => Bool.noConfusion h) (fun h => Bool.noConfusion h) rfl <|
                            q_move .n (.t rfl) rfl <|
                            q_ldN_ow .n (.t rfl) rfl (.inr rfl) ag_27 (fun _ => rfl) rfl rfl <|
                            q_call0 (full := false) .n .f en_13 (.cons (.t rfl) .nil) (.cons (.sts rfl) .nil) (fun hg => c_laws_toCrew aC) rfl (fun h => Bool.noConfusion h) rfl <|
                            q_move .n (.t rfl) rfl <|
                            q_move .n (.t rfl) rfl <|
                            q_callM (full := false) [] [(100, 216)] .n rfl .f en_12 (.cons (.t rfl) .nil) (.cons (.b (.a (.same rfl))) .nil) (c_laws_toInt64S aExits (by first | omega | assumption | (simp only [List.length_append, List.length_cons, List.length_nil, List.length_replicate, put_len] at * <;> omega) | (exact wr64_le) | ((simp only [toAirway_eq, toAirwayS_eq, toMine_eq, toInt64S_eq, toCrew_eq] at *; omega)) | ((repeat (first | omega | refine markAirwayS_le ?_ | refine markMine_le ?_ | refine markInt64S_le ?_))))) trivial rfl rfl (fun h => Bool.noConfusion h) (fun h => Bool.noConfusion h) rfl <|
                            q_callM (full := true) [] [(100, 217)] .n rfl .f en_38 (.cons (.t rfl) (.cons (.t rfl) (.cons (.t rfl) (.cons (.t rfl) (.cons (.t rfl) (.cons (.t rfl) .nil)))))) (.cons (.st (.cons (.a (.same rfl)) (.cons (.a (.own rfl rfl rfl (take_all (by simp only [len_map, put_len, markAirwayS_len, markMine_len, markInt64S_len])) (by simp only [len_map, put_len, markAirwayS_len, markMine_len, markInt64S_len]))) .nil))) (.cons (.b (.a (.own rfl rfl rfl (take_all (by simp only [len_map, put_len, markAirwayS_len, markMine_len, markInt64S_len])) (by simp only [len_map, put_len, markAirwayS_len, markMine_len, markInt64S_len])))) (.cons (.b (.a (.same rfl))) (.cons (.sts rfl) (.cons (.b (.a (.same rfl))) (.cons (.b (.a (.own rfl rfl rfl (take_all (by simp only [len_map, put_len, markAirwayS_len, markMine_len, markInt64S_len])) (by simp only [len_map, put_len, markAirwayS_len, markMine_len, markInt64S_len])))) .nil)))))) (c_impl_EscapeRoute (m_laws_toMine aM) (m_laws_toInt64S aArrivals) aBlocked (m_laws_toCrew aC) aStart (m_laws_toInt64S aExits)) trivial rfl rfl (fun _ => rfl) (fun _ => (hr_row (fun _ => rfl) hr_nil)) rfl <|
                            q_move .n (.t rfl) rfl <|
                            q_ext .n (.t rfl) rfl rfl rfl <|
                            q_ext .n (.t rfl) rfl rfl rfl <|
                            q_ext .n (.t rfl) rfl rfl rfl <|
                            q_assign .n (.t rfl) rfl <|
                            q_assign .n (.t rfl) rfl <|
                            q_assign .n (.t rfl) rfl <|
                            Lex.nil) (by kernel_rfl) ?_
                        refine run_seq ?_
                        refine run_seq ?_
                        refine run_region (q_move .n (.t rfl) rfl <|
                            q_move .n (.t rfl) rfl <|
                            q_call0 (full := true) .n .f en_15 (.cons (.t rfl) (.cons (.t rfl) .nil)) (.cons (.b (.a (.own rfl rfl rfl (take_all (by simp only [len_map, put_len, markAirwayS_len, markMine_len, markInt64S_len])) (by simp only [len_map, put_len, markAirwayS_len, markMine_len, markInt64S_len])))) (.cons (.b (.a (.own rfl rfl rfl (take_all (by simp only [len_map, put_len, markAirwayS_len, markMine_len, markInt64S_len])) (by simp only [len_map, put_len, markAirwayS_len, markMine_len, markInt64S_len])))) .nil)) (fun hg => c_laws_eqInt64S (m_impl_EscapeRoute (m_laws_toMine aM) (m_laws_toInt64S aArrivals) aBlocked (m_laws_toCrew aC) aStart (m_laws_toInt64S aExits)).1 (m_spec_EscapeRoute (m_laws_toMine aM) (m_laws_toInt64S aArrivals) aBlocked (m_laws_toCrew aC) aStart (m_laws_toInt64S aExits)).1) rfl (fun _ => rfl) rfl <|
                            q_not .n (.t rfl) rfl <|
                            q_move .n (.t rfl) rfl <|
                            q_move (.f rfl rfl) (.t rfl) rfl <|
                            q_move (.f rfl rfl) (.t rfl) rfl <|
                            q_int (.f rfl rfl) (.u rfl id) (.u rfl id) rfl rfl <|
                            q_or .n (.t rfl) (.u rfl id) rfl <|
                            q_move .n (.t rfl) rfl <|
                            q_move (.f rfl rfl) (.t rfl) rfl <|
                            q_move (.f rfl rfl) (.t rfl) rfl <|
                            q_int (.f rfl rfl) (.u rfl id) (.u rfl id) rfl rfl <|
                            q_or .n (.t rfl) (.u rfl id) rfl <|
                            Lex.nil) ?_
                        refine run_cond (.t rfl) rfl (fun h15 => ?_) (fun h15 => ?_)
                        · try simp only [Bool.and_eq_true, Bool.or_eq_true, Bool.not_eq_true', Bool.and_eq_false_iff, Bool.or_eq_false_iff, Bool.not_eq_false', decide_eq_true_eq, decide_eq_false_iff_not, beq_iff_eq, bne_iff_ne, beq_eq_false_iff_ne, bne_eq_false_iff_eq, Bool.true_and, ne_eq, Decidable.not_not, Int.not_lt, Int.not_le, Nat.not_lt, Nat.not_le, strB_nil, strB_nil', strB_nnil, strB_nnil'] at h15
                          refine run_seq ?_
                          refine run_region (q_assign .n (.c rfl) rfl <|
                              Lex.nil) ?_
                          exact run_ret [] (.cons (.t rfl rfl) .nil) rfl trivial rfl
                        · try simp only [Bool.and_eq_true, Bool.or_eq_true, Bool.not_eq_true', Bool.and_eq_false_iff, Bool.or_eq_false_iff, Bool.not_eq_false', decide_eq_true_eq, decide_eq_false_iff_not, beq_iff_eq, bne_iff_ne, beq_eq_false_iff_ne, bne_eq_false_iff_eq, Bool.true_and, ne_eq, Decidable.not_not, Int.not_lt, Int.not_le, Nat.not_lt, Nat.not_le, strB_nil, strB_nil', strB_nnil, strB_nnil'] at h15
                          refine run_skip ?_
                          refine run_seq ?_
                          refine run_region (q_assign .n (.c rfl) rfl <|
                              Lex.nil) ?_
                          refine run_seq ?_
                          refine run_region (q_move .n (.t rfl) rfl <|
                              q_move .n (.t rfl) rfl <|
                              q_call0 (full := true) .n .f en_19 (.cons (.t rfl) (.cons (.t rfl) .nil)) (.cons (.b (.a (.own rfl rfl rfl (take_all (by simp only [len_map, put_len, markAirwayS_len, markMine_len, markInt64S_len])) (by simp only [len_map, put_len, markAirwayS_len, markMine_len, markInt64S_len])))) (.cons (.b (.a (.same rfl))) .nil)) (fun hg => c_laws_heldInt64S (m_laws_markInt64S (m_impl_EscapeRoute (m_laws_toMine aM) (m_laws_toInt64S aArrivals) aBlocked (m_laws_toCrew aC) aStart (m_laws_toInt64S aExits)).1 1).2 1) rfl (fun _ => rfl) rfl <|
                              q_assign .n (.t rfl) rfl <|
                              Lex.nil) ?_
                          refine run_seq ?_
                          refine run_seq ?_
                          refine run_region (q_move .n (.t rfl) rfl <|
                              q_int .n (.t rfl) (.c rfl) rfl rfl <|
                              Lex.nil) ?_
                          refine run_cond (.t rfl) rfl (fun h16 => ?_) (fun h16 => ?_)
                          · try simp only [Bool.and_eq_true, Bool.or_eq_true, Bool.not_eq_true', Bool.and_eq_false_iff, Bool.or_eq_false_iff, Bool.not_eq_false', decide_eq_true_eq, decide_eq_false_iff_not, beq_iff_eq, bne_iff_ne, beq_eq_false_iff_ne, bne_eq_false_iff_eq, Bool.true_and, ne_eq, Decidable.not_not, Int.not_lt, Int.not_le, Nat.not_lt, Nat.not_le, strB_nil, strB_nil', strB_nnil, strB_nnil'] at h16
                            refine run_seq ?_
                            refine run_region (q_assign .n (.c rfl) rfl <|
                                Lex.nil) ?_
                            exact run_ret [] (.cons (.t rfl rfl) .nil) rfl trivial rfl
                          · try simp only [Bool.and_eq_true, Bool.or_eq_true, Bool.not_eq_true', Bool.and_eq_false_iff, Bool.or_eq_false_iff, Bool.not_eq_false', decide_eq_true_eq, decide_eq_false_iff_not, beq_iff_eq, bne_iff_ne, beq_eq_false_iff_ne, bne_eq_false_iff_eq, Bool.true_and, ne_eq, Decidable.not_not, Int.not_lt, Int.not_le, Nat.not_lt, Nat.not_le, strB_nil, strB_nil', strB_nnil, strB_nnil'] at h16
                            refine run_skip ?_
                            refine run_seq ?_
                            refine run_seq ?_
                            refine run_region (q_move .n (.t rfl) rfl <|
                                q_move .n (.t rfl) rfl <|
                                q_int .n (.t rfl) (.t rfl) rfl rfl <|
                                Lex.nil) ?_
                            refine run_cond (.t rfl) rfl (fun h17 => ?_) (fun h17 => ?_)
                            · try simp only [Bool.and_eq_true, Bool.or_eq_true, Bool.not_eq_true', Bool.and_eq_false_iff, Bool.or_eq_false_iff, Bool.not_eq_false', decide_eq_true_eq, decide_eq_false_iff_not, beq_iff_eq, bne_iff_ne, beq_eq_false_iff_ne, bne_eq_false_iff_eq, Bool.true_and, ne_eq, Decidable.not_not, Int.not_lt, Int.not_le, Nat.not_lt, Nat.not_le, strB_nil, strB_nil', strB_nnil, strB_nnil'] at h17
                              refine run_seq ?_
                              refine run_region (q_assign .n (.c rfl) rfl <|
                                  Lex.nil) ?_
                              exact run_ret [] (.cons (.t rfl rfl) .nil) rfl trivial rfl
                            · try simp only [Bool.and_eq_true, Bool.or_eq_true, Bool.not_eq_true', Bool.and_eq_false_iff, Bool.or_eq_false_iff, Bool.not_eq_false', decide_eq_true_eq, decide_eq_false_iff_not, beq_iff_eq, bne_iff_ne, beq_eq_false_iff_ne, bne_eq_false_iff_eq, Bool.true_and, ne_eq, Decidable.not_not, Int.not_lt, Int.not_le, Nat.not_lt, Nat.not_le, strB_nil, strB_nil', strB_nnil, strB_nnil'] at h17
                              refine run_skip ?_
                              refine run_seq ?_
                              refine run_region (q_assign .n (.c rfl) rfl <|
                                  Lex.nil) ?_
                              exact run_ret [] (.cons (.t rfl rfl) .nil) rfl trivial rfl

end Go.Proofs.Ythcboapohklfnaa
