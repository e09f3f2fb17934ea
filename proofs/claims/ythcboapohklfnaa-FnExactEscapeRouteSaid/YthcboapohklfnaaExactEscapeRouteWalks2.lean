/-
  THE WALKS: each Go function computes its model. Conditions: as each theorem states them (hp1, hp2 ..).
-/
import Derived.Test.YthcboapohklfnaaExactEscapeRouteWalks1
set_option linter.unusedVariables false
set_option linter.unusedSimpArgs false
set_option linter.unusedSectionVars false
set_option linter.unnecessarySimpa false
namespace Go.Proofs.Ythcboapohklfnaa
open Go Go.RowKit Go.Proofs Go.Proofs.Ythcboapohklfnaa.E
/-! ### spec_l19Times -/
set_option maxHeartbeats 4000000 in
theorem c_spec_l19Times (m_ : gMine) (arrivals : List Int) (blocked : Int) (c_ : gCrew) (start : Int) (hp1 : MineIn m_) (hp2 : (arrivals.length : Int) = m_.Junctions) (hp3 : CrewIn m_ c_) (hp4 : 0 ≤ start ∧ start ≤ 36000) : Con Try.prog 41 [.rp [.int .i64 m_.Junctions, .sl 7 (m_.Airways.map gAirway.v)], .sl 1 (arrivals.map (V.int .i64)), .int .i64 blocked, .rp [.str c_.Id, .int .i64 c_.Junction, .int .i64 c_.Speed], .int .i64 start] [] (.os 100 (m_spec_l19Times m_ arrivals blocked c_ start).length) ([(100, some (.row 2 1 ((m_spec_l19Times m_ arrivals blocked c_ start).map (V.int .i64))))]) := by
  refine con_intro (out := fun r : (List Int) => ((.os 100 r.length : V), ([(100, some (.row 2 1 (r.map (V.int .i64))))] : List (Nat × Option O)))) (r := (m_spec_l19Times m_ arrivals blocked c_ start)) Try.func41 rfl Try.ntmps41 rfl ?_
  have hC1 := hp3.1
  have hC2 := hp3.2
  have hJ1 := hp1.1
  have hA1 := hp1.2.1
  refine run_factP (t := 0) 1 rfl rfl fun hl => ?_
  have l1 := hl; clear hl; simp only [List.length_map] at l1
  refine run_fact (t := 1) rfl fun hl => ?_
  have l2 := hl; clear hl; simp only [List.length_map] at l2
  refine run_seq ?_
  refine run_region (q_assign .n (.c rfl) rfl <|
      Lex.nil) ?_
  refine run_seq ?_
  refine run_region (q_bslicem ([] : List Int) (f := V.int .i64) (l := 200) .n rfl rfl .nil rfl si_25 zv_2 rfl rfl rfl <|
      q_assign .n (.t rfl) rfl <|
      Lex.nil) ?_
  refine run_seq ?_
  refine run_seq ?_
  refine run_region (q_assign .n (.c rfl) rfl <|
      Lex.nil) ?_
  refine run_block ?_
  refine run_LOOP (m_spec_l19Times_b1 m_ arrivals blocked c_ start) _ _ _ rfl (fun (x1 : (List Int) × Int) => 0 ≤ x1.2 ∧ x1.2 ≤ m_.Junctions ∧ (x1.1.length : Int) + 0 ≤ x1.2 + (([] : List Int).length : Int) ∧ (x1.1.length : Int) = x1.2) (fun x1 => 0 ≤ x1.2 ∧ x1.2 ≤ m_.Junctions ∧ (x1.1.length : Int) + 0 ≤ x1.2 + (([] : List Int).length : Int) ∧ (x1.1.length : Int) = x1.2 ∧ m_.Junctions ≤ x1.2) (fun x1 => (m_.Junctions - x1.2 : Int).toNat) (fun x1 => ⟨[(0, some (true, .rp [.int .i64 m_.Junctions, .sl 7 (m_.Airways.map gAirway.v)])), (1, some (true, .sl 1 (arrivals.map (V.int .i64)))), (2, some (true, .int .i64 blocked)), (3, some (true, .rp [.str c_.Id, .int .i64 c_.Junction, .int .i64 c_.Speed])), (4, some (true, .int .i64 start)), (11, some (true, .os 200 x1.1.length)), (12, some (true, .int .i64 x1.2))], [(200, some (.row 2 1 (x1.1.map (V.int .i64))))]⟩) (fun x1 => ⟨[(0, some (true, .rp [.int .i64 m_.Junctions, .sl 7 (m_.Airways.map gAirway.v)])), (1, some (true, .sl 1 (arrivals.map (V.int .i64)))), (2, some (true, .int .i64 blocked)), (3, some (true, .rp [.str c_.Id, .int .i64 c_.Junction, .int .i64 c_.Speed])), (4, some (true, .int .i64 start)), (11, some (true, .os 200 x1.1.length))], [(200, some (.row 2 1 (x1.1.map (V.int .i64))))]⟩) ⟨by first | omega | assumption | (simp only [List.length_append, List.length_cons, List.length_nil, List.length_replicate, put_len] at * <;> omega) | ((simp only [go_len, put_len] at * <;> omega)) | ((have hw0 := hp1.at (i := x3.1) (by omega); unfold AirIn at hw0; (try simp only [go_len] at *); omega)), by first | omega | assumption | (simp only [List.length_append, List.length_cons, List.length_nil, List.length_replicate, put_len] at * <;> omega) | ((simp only [go_len, put_len] at * <;> omega)) | ((have hw0 := hp1.at (i := x3.1) (by omega); unfold AirIn at hw0; (try simp only [go_len] at *); omega)), by first | omega | assumption | (simp only [List.length_append, List.length_cons, List.length_nil, List.length_replicate, put_len] at * <;> omega) | ((simp only [go_len, put_len] at * <;> omega)) | ((have hw0 := hp1.at (i := x3.1) (by omega); unfold AirIn at hw0; (try simp only [go_len] at *); omega)), by first | omega | assumption | (simp only [List.length_append, List.length_cons, List.length_nil, List.length_replicate, put_len] at * <;> omega) | ((simp only [go_len, put_len] at * <;> omega)) | ((have hw0 := hp1.at (i := x3.1) (by omega); unfold AirIn at hw0; (try simp only [go_len] at *); omega))⟩ (by first | omega | assumption | (simp only [List.length_append, List.length_cons, List.length_nil, List.length_replicate, put_len] at * <;> omega) | ((simp only [go_len, put_len] at * <;> omega)) | ((have hw0 := hp1.at (i := x3.1) (by omega); unfold AirIn at hw0; (try simp only [go_len] at *); omega))) (sub_of [] ⟨rfl, rfl, rfl, rfl, rfl, rfl, rfl, trivial⟩ ⟨rfl, trivial⟩ rfl) ?_ ?_
  · intro x1 i6
    obtain ⟨e31, e32, e33, e34, e35⟩ := i6
    try dsimp only at *
    refine run_seq ?_
    refine run_seq ?_
    refine run_region (q_move .n (.t rfl) rfl <|
        q_move .n (.t rfl) rfl <|
        q_nilc_ro .n (.t rfl) rfl <|
        q_fld_ro .n (.t rfl) fo_37_1 rfl <|
        q_ld1_ro .n (.t rfl) rfl ic_2 rfl <|
        q_move .n (.t rfl) rfl <|
        q_call0 (full := false) .n .f en_75 (.cons (.t rfl) (.cons (.t rfl) (.cons (.t rfl) .nil))) (.cons (.b (.a (.same rfl))) (.cons (.b (.a (.same rfl))) (.cons (.b (.a (.same rfl))) .nil))) (fun hg => c_spec_l19Safe arrivals c_.Junction start (by first | omega | assumption | (simp only [List.length_append, List.length_cons, List.length_nil, List.length_replicate, put_len] at * <;> omega) | ((simp only [go_len, put_len] at * <;> omega)) | ((have hw0 := hp1.at (i := x3.1) (by omega); unfold AirIn at hw0; (try simp only [go_len] at *); omega)))) rfl (fun h => Bool.noConfusion h) rfl <|
        q_not .n (.t rfl) rfl <|
        Lex.nil) ?_
    refine run_cond (.t rfl) rfl (fun h7 => ?_) (fun h7 => ?_)
    · try simp only [Bool.and_eq_true, Bool.or_eq_true, Bool.not_eq_true', Bool.and_eq_false_iff, Bool.or_eq_false_iff, Bool.not_eq_false', decide_eq_true_eq, decide_eq_false_iff_not, beq_iff_eq, bne_iff_ne, beq_eq_false_iff_ne, bne_eq_false_iff_eq, Bool.true_and, ne_eq, Decidable.not_not, Int.not_lt, Int.not_le, Nat.not_lt, Nat.not_le, strB_nil, strB_nil', strB_nnil, strB_nnil'] at h7
      refine run_seq ?_
      refine run_region (q_move .n (.t rfl) rfl <|
          q_assign .n (.t rfl) rfl <|
          Lex.nil) ?_
      exact run_ret [(100, 200)] (.cons (.t rfl rfl) .nil) (by first | rfl | (simp only [put_len]; rfl)) ⟨rfl, trivial⟩ rfl
    · try simp only [Bool.and_eq_true, Bool.or_eq_true, Bool.not_eq_true', Bool.and_eq_false_iff, Bool.or_eq_false_iff, Bool.not_eq_false', decide_eq_true_eq, decide_eq_false_iff_not, beq_iff_eq, bne_iff_ne, beq_eq_false_iff_ne, bne_eq_false_iff_eq, Bool.true_and, ne_eq, Decidable.not_not, Int.not_lt, Int.not_le, Nat.not_lt, Nat.not_le, strB_nil, strB_nil', strB_nnil, strB_nnil'] at h7
      refine run_skip ?_
      refine run_seq ?_
      refine run_region (q_move .n (.t rfl) rfl <|
          q_move .n (.t rfl) rfl <|
          q_nilc_ro .n (.t rfl) rfl <|
          q_fld_ro .n (.t rfl) fo_37_1 rfl <|
          q_ld1_ro .n (.t rfl) rfl ic_2 rfl <|
          q_move .n (.t rfl) rfl <|
          q_idx_ow .n (.t rfl) (.t rfl) sl_25 (fun _ => by first | omega | assumption | (simp only [List.length_append, List.length_cons, List.length_nil, List.length_replicate, put_len] at * <;> omega) | ((simp only [go_len, put_len] at * <;> omega)) | ((have hw0 := hp1.at (i := x3.1) (by omega); unfold AirIn at hw0; (try simp only [go_len] at *); omega))) rfl <|
          q_st_rowm start .n rfl (.t rfl) (.t rfl) rfl ts_2 (by first | omega | assumption | (simp only [List.length_append, List.length_cons, List.length_nil, List.length_replicate, put_len] at * <;> omega) | ((simp only [go_len, put_len] at * <;> omega)) | ((have hw0 := hp1.at (i := x3.1) (by omega); unfold AirIn at hw0; (try simp only [go_len] at *); omega))) rfl rfl <|
          Lex.nil) ?_
      refine run_seq ?_
      refine run_seq ?_
      refine run_region (q_assign .n (.c rfl) rfl <|
          Lex.nil) ?_
      refine run_block ?_
      refine run_LOOP (m_spec_l19Times_b2 m_ arrivals blocked c_ start x1) _ _ _ rfl (fun (x2 : (List Int) × Int) => 0 ≤ x2.2 ∧ x2.2 ≤ m_.Junctions ∧ (x2.1.length : Int) = m_.Junctions) (fun x2 => 0 ≤ x2.2 ∧ x2.2 ≤ m_.Junctions ∧ (x2.1.length : Int) = m_.Junctions ∧ m_.Junctions ≤ x2.2) (fun x2 => (m_.Junctions - x2.2 : Int).toNat) (fun x2 => ⟨[(0, some (true, .rp [.int .i64 m_.Junctions, .sl 7 (m_.Airways.map gAirway.v)])), (1, some (true, .sl 1 (arrivals.map (V.int .i64)))), (2, some (true, .int .i64 blocked)), (3, some (true, .rp [.str c_.Id, .int .i64 c_.Junction, .int .i64 c_.Speed])), (11, some (true, .os 200 x2.1.length)), (13, some (true, .int .i64 x2.2))], [(200, some (.row 2 1 (x2.1.map (V.int .i64))))]⟩) (fun x2 => ⟨[(11, some (true, .os 200 x2.1.length))], [(200, some (.row 2 1 (x2.1.map (V.int .i64))))]⟩) ⟨by first | omega | assumption | (simp only [List.length_append, List.length_cons, List.length_nil, List.length_replicate, put_len] at * <;> omega) | ((simp only [go_len, put_len] at * <;> omega)) | ((have hw0 := hp1.at (i := x3.1) (by omega); unfold AirIn at hw0; (try simp only [go_len] at *); omega)), by first | omega | assumption | (simp only [List.length_append, List.length_cons, List.length_nil, List.length_replicate, put_len] at * <;> omega) | ((simp only [go_len, put_len] at * <;> omega)) | ((have hw0 := hp1.at (i := x3.1) (by omega); unfold AirIn at hw0; (try simp only [go_len] at *); omega)), by first | omega | assumption | (simp only [List.length_append, List.length_cons, List.length_nil, List.length_replicate, put_len] at * <;> omega) | ((simp only [go_len, put_len] at * <;> omega)) | ((have hw0 := hp1.at (i := x3.1) (by omega); unfold AirIn at hw0; (try simp only [go_len] at *); omega))⟩ (by first | omega | assumption | (simp only [List.length_append, List.length_cons, List.length_nil, List.length_replicate, put_len] at * <;> omega) | ((simp only [go_len, put_len] at * <;> omega)) | ((have hw0 := hp1.at (i := x3.1) (by omega); unfold AirIn at hw0; (try simp only [go_len] at *); omega))) (sub_of [] ⟨rfl, rfl, rfl, rfl, os_len rfl (by first | (simp only [put_len]; done) | (first | omega | assumption | (simp only [List.length_append, List.length_cons, List.length_nil, List.length_replicate, put_len] at * <;> omega) | ((simp only [go_len, put_len] at * <;> omega)) | ((have hw0 := hp1.at (i := x3.1) (by omega); unfold AirIn at hw0; (try simp only [go_len] at *); omega)))), rfl, trivial⟩ ⟨rfl, trivial⟩ rfl) ?_ ?_
      · intro x2 i23
        obtain ⟨e24, e25, e26, e27⟩ := i23
        try dsimp only at *
        refine run_seq ?_
        refine run_region (q_move .n (.t rfl) rfl <|
            q_assign .n (.t rfl) rfl <|
            Lex.nil) ?_
        exact run_ret [(100, 200)] (.cons (.t rfl rfl) .nil) (by first | rfl | (simp only [put_len]; rfl)) ⟨rfl, trivial⟩ rfl
      · intro rec2 k2 hk8 x2 i9
        obtain ⟨e28, e29, e30⟩ := i9
        try dsimp only at *
        refine run_seq ?_
        refine run_seq ?_
        refine run_region (q_move .n (.t rfl) rfl <|
            q_move .n (.t rfl) rfl <|
            q_nilc_ro .n (.t rfl) rfl <|
            q_fld_ro .n (.t rfl) fo_34_0 rfl <|
            q_ld1_ro .n (.t rfl) rfl ic_2 rfl <|
            q_int .n (.t rfl) (.t rfl) rfl rfl <|
            Lex.nil) ?_
        refine run_cond (.t rfl) rfl (fun h10 => ?_) (fun h10 => ?_)
        · try simp only [Bool.and_eq_true, Bool.or_eq_true, Bool.not_eq_true', Bool.and_eq_false_iff, Bool.or_eq_false_iff, Bool.not_eq_false', decide_eq_true_eq, decide_eq_false_iff_not, beq_iff_eq, bne_iff_ne, beq_eq_false_iff_ne, bne_eq_false_iff_eq, Bool.true_and, ne_eq, Decidable.not_not, Int.not_lt, Int.not_le, Nat.not_lt, Nat.not_le, strB_nil, strB_nil', strB_nnil, strB_nnil'] at h10
          refine run_skip ?_
          refine run_seq ?_
          refine run_block ?_
          refine run_seq ?_
          refine run_region (q_assign .n (.c rfl) rfl <|
              Lex.nil) ?_
          refine run_block ?_
          refine run_LOOP (m_spec_l19Times_b3 m_ arrivals blocked c_ start x1 rec2 k2 x2) _ _ _ rfl (fun (x3 : Int × (List Int)) => 0 ≤ x3.1 ∧ x3.1 ≤ (m_.Airways.length : Int) ∧ (x3.2.length : Int) = m_.Junctions) (fun x3 => 0 ≤ x3.1 ∧ x3.1 ≤ (m_.Airways.length : Int) ∧ (x3.2.length : Int) = m_.Junctions ∧ (m_.Airways.length : Int) ≤ x3.1) (fun x3 => ((m_.Airways.length : Int) - x3.1 : Int).toNat) (fun x3 => ⟨[(0, some (true, .rp [.int .i64 m_.Junctions, .sl 7 (m_.Airways.map gAirway.v)])), (1, some (true, .sl 1 (arrivals.map (V.int .i64)))), (2, some (true, .int .i64 blocked)), (3, some (true, .rp [.str c_.Id, .int .i64 c_.Junction, .int .i64 c_.Speed])), (11, some (true, .os 200 x3.2.length)), (13, some (true, .int .i64 x2.2)), (14, some (true, .int .i64 x3.1))], [(200, some (.row 2 1 (x3.2.map (V.int .i64))))]⟩) (fun x3 => ⟨[(0, some (true, .rp [.int .i64 m_.Junctions, .sl 7 (m_.Airways.map gAirway.v)])), (1, some (true, .sl 1 (arrivals.map (V.int .i64)))), (2, some (true, .int .i64 blocked)), (3, some (true, .rp [.str c_.Id, .int .i64 c_.Junction, .int .i64 c_.Speed])), (11, some (true, .os 200 x3.2.length)), (13, some (true, .int .i64 x2.2))], [(200, some (.row 2 1 (x3.2.map (V.int .i64))))]⟩) ⟨by first | omega | assumption | (simp only [List.length_append, List.length_cons, List.length_nil, List.length_replicate, put_len] at * <;> omega) | ((simp only [go_len, put_len] at * <;> omega)) | ((have hw0 := hp1.at (i := x3.1) (by omega); unfold AirIn at hw0; (try simp only [go_len] at *); omega)), by first | omega | assumption | (simp only [List.length_append, List.length_cons, List.length_nil, List.length_replicate, put_len] at * <;> omega) | ((simp only [go_len, put_len] at * <;> omega)) | ((have hw0 := hp1.at (i := x3.1) (by omega); unfold AirIn at hw0; (try simp only [go_len] at *); omega)), by first | omega | assumption | (simp only [List.length_append, List.length_cons, List.length_nil, List.length_replicate, put_len] at * <;> omega) | ((simp only [go_len, put_len] at * <;> omega)) | ((have hw0 := hp1.at (i := x3.1) (by omega); unfold AirIn at hw0; (try simp only [go_len] at *); omega))⟩ (by first | omega | assumption | (simp only [List.length_append, List.length_cons, List.length_nil, List.length_replicate, put_len] at * <;> omega) | ((simp only [go_len, put_len] at * <;> omega)) | ((have hw0 := hp1.at (i := x3.1) (by omega); unfold AirIn at hw0; (try simp only [go_len] at *); omega))) (sub_of [] ⟨rfl, rfl, rfl, rfl, rfl, rfl, rfl, trivial⟩ ⟨rfl, trivial⟩ rfl) ?_ ?_
          · intro x3 i15
            obtain ⟨e16, e17, e18, e19⟩ := i15
            try dsimp only at *
            refine run_endB ?_
            refine run_region (q_move .n (.t rfl) rfl <|
                q_add .n (.t rfl) (.c rfl) (fun _ => by first | omega | assumption | (simp only [List.length_append, List.length_cons, List.length_nil, List.length_replicate, put_len] at * <;> omega) | ((simp only [go_len, put_len] at * <;> omega)) | ((have hw0 := hp1.at (i := x3.1) (by omega); unfold AirIn at hw0; (try simp only [go_len] at *); omega))) rfl <|
                q_assign .n (.t rfl) rfl <|
                Lex.nil) ?_
            exact run_again (x3.2, x2.2 + 1) ⟨by first | omega | assumption | (simp only [List.length_append, List.length_cons, List.length_nil, List.length_replicate, put_len] at * <;> omega) | ((simp only [go_len, put_len] at * <;> omega)) | ((have hw0 := hp1.at (i := x3.1) (by omega); unfold AirIn at hw0; (try simp only [go_len] at *); omega)), by first | omega | assumption | (simp only [List.length_append, List.length_cons, List.length_nil, List.length_replicate, put_len] at * <;> omega) | ((simp only [go_len, put_len] at * <;> omega)) | ((have hw0 := hp1.at (i := x3.1) (by omega); unfold AirIn at hw0; (try simp only [go_len] at *); omega)), by first | omega | assumption | (simp only [List.length_append, List.length_cons, List.length_nil, List.length_replicate, put_len] at * <;> omega) | ((simp only [go_len, put_len] at * <;> omega)) | ((have hw0 := hp1.at (i := x3.1) (by omega); unfold AirIn at hw0; (try simp only [go_len] at *); omega))⟩ (by first | omega | assumption | (simp only [List.length_append, List.length_cons, List.length_nil, List.length_replicate, put_len] at * <;> omega) | ((simp only [go_len, put_len] at * <;> omega)) | ((have hw0 := hp1.at (i := x3.1) (by omega); unfold AirIn at hw0; (try simp only [go_len] at *); omega))) (sub_of [] ⟨rfl, rfl, rfl, rfl, rfl, rfl, trivial⟩ ⟨rfl, trivial⟩ rfl)
          · intro rec3 k3 hk11 x3 i12
            obtain ⟨e20, e21, e22⟩ := i12
            try dsimp only at *
            refine run_seq ?_
            refine run_seq ?_
            refine run_region (q_move .n (.t rfl) rfl <|
                q_move .n (.t rfl) rfl <|
                q_nilc_ro .n (.t rfl) rfl <|
                q_fld_ro .n (.t rfl) fo_34_1 rfl <|
                q_ld1_ro .n (.t rfl) rfl ic_32 rfl <|
                q_len .n (.t rfl) rfl len_map ss_32 rfl <|
                q_int .n (.t rfl) (.t rfl) rfl rfl <|
                Lex.nil) ?_
            refine run_cond (.t rfl) rfl (fun h13 => ?_) (fun h13 => ?_)
            · try simp only [Bool.and_eq_true, Bool.or_eq_true, Bool.not_eq_true', Bool.and_eq_false_iff, Bool.or_eq_false_iff, Bool.not_eq_false', decide_eq_true_eq, decide_eq_false_iff_not, beq_iff_eq, bne_iff_ne, beq_eq_false_iff_ne, bne_eq_false_iff_eq, Bool.true_and, ne_eq, Decidable.not_not, Int.not_lt, Int.not_le, Nat.not_lt, Nat.not_le, strB_nil, strB_nil', strB_nnil, strB_nnil'] at h13
              refine run_skip ?_
              refine run_seq ?_
              refine run_block ?_
              refine run_seq ?_
              refine run_seq ?_
              refine run_region (q_move .n (.t rfl) rfl <|
                  q_move .n (.t rfl) rfl <|
                  q_int .n (.t rfl) (.t rfl) rfl rfl <|
                  Lex.nil) ?_
              refine run_cond (.t rfl) rfl (fun h14 => ?_) (fun h14 => ?_)
              · try simp only [Bool.and_eq_true, Bool.or_eq_true, Bool.not_eq_true', Bool.and_eq_false_iff, Bool.or_eq_false_iff, Bool.not_eq_false', decide_eq_true_eq, decide_eq_false_iff_not, beq_iff_eq, bne_iff_ne, beq_eq_false_iff_ne, bne_eq_false_iff_eq, Bool.true_and, ne_eq, Decidable.not_not, Int.not_lt, Int.not_le, Nat.not_lt, Nat.not_le, strB_nil, strB_nil', strB_nnil, strB_nnil'] at h14
                refine run_exit rfl ?_
                refine run_region (q_move .n (.t rfl) rfl <|
                    q_add .n (.t rfl) (.c rfl) (fun _ => by first | omega | assumption | (simp only [List.length_append, List.length_cons, List.length_nil, List.length_replicate, put_len] at * <;> omega) | ((simp only [go_len, put_len] at * <;> omega)) | ((have hw0 := hp1.at (i := x3.1) (by omega); unfold AirIn at hw0; (try simp only [go_len] at *); omega))) rfl <|
                    q_assign .n (.t rfl) rfl <|
                    Lex.nil) ?_
                exact run_again (x3.1 + 1, x3.2) ⟨by first | omega | assumption | (simp only [List.length_append, List.length_cons, List.length_nil, List.length_replicate, put_len] at * <;> omega) | ((simp only [go_len, put_len] at * <;> omega)) | ((have hw0 := hp1.at (i := x3.1) (by omega); unfold AirIn at hw0; (try simp only [go_len] at *); omega)), by first | omega | assumption | (simp only [List.length_append, List.length_cons, List.length_nil, List.length_replicate, put_len] at * <;> omega) | ((simp only [go_len, put_len] at * <;> omega)) | ((have hw0 := hp1.at (i := x3.1) (by omega); unfold AirIn at hw0; (try simp only [go_len] at *); omega)), by first | omega | assumption | (simp only [List.length_append, List.length_cons, List.length_nil, List.length_replicate, put_len] at * <;> omega) | ((simp only [go_len, put_len] at * <;> omega)) | ((have hw0 := hp1.at (i := x3.1) (by omega); unfold AirIn at hw0; (try simp only [go_len] at *); omega))⟩ (by first | omega | assumption | (simp only [List.length_append, List.length_cons, List.length_nil, List.length_replicate, put_len] at * <;> omega) | ((simp only [go_len, put_len] at * <;> omega)) | ((have hw0 := hp1.at (i := x3.1) (by omega); unfold AirIn at hw0; (try simp only [go_len] at *); omega))) (sub_of [] ⟨rfl, rfl, rfl, rfl, rfl, rfl, rfl, trivial⟩ ⟨rfl, trivial⟩ rfl)
              · try simp only [Bool.and_eq_true, Bool.or_eq_true, Bool.not_eq_true', Bool.and_eq_false_iff, Bool.or_eq_false_iff, Bool.not_eq_false', decide_eq_true_eq, decide_eq_false_iff_not, beq_iff_eq, bne_iff_ne, beq_eq_false_iff_ne, bne_eq_false_iff_eq, Bool.true_and, ne_eq, Decidable.not_not, Int.not_lt, Int.not_le, Nat.not_lt, Nat.not_le, strB_nil, strB_nil', strB_nnil, strB_nnil'] at h14
                refine run_skip ?_
                refine run_seq ?_
                refine run_region (q_move .n (.t rfl) rfl <|
                    q_nilc_ro .n (.t rfl) rfl <|
                    q_fld_ro .n (.t rfl) fo_34_1 rfl <|
                    q_ld1_ro .n (.t rfl) rfl ic_32 rfl <|
                    q_move .n (.t rfl) rfl <|
                    q_idx_rm .n (.t rfl) (.t rfl) sl_32 (fun _ => by first | omega | assumption | (simp only [List.length_append, List.length_cons, List.length_nil, List.length_replicate, put_len] at * <;> omega) | ((simp only [go_len, put_len] at * <;> omega)) | ((have hw0 := hp1.at (i := x3.1) (by omega); unfold AirIn at hw0; (try simp only [go_len] at *); omega))) rfl <|
                    q_assign .n (.t rfl) rfl <|
                    Lex.nil) ?_
                refine run_seq ?_
                refine run_region (q_move .n (.t rfl) rfl <|
                    q_move .n (.t rfl) rfl <|
                    q_nilc_ro .n (.t rfl) rfl <|
                    q_fld_ro .n (.t rfl) fo_37_2 rfl <|
                    q_ld1_ro .n (.t rfl) rfl ic_2 rfl <|
                    q_call0 (full := false) .n .f en_76 (.cons (.t rfl) (.cons (.t rfl) .nil)) (.cons (.b (.a (.same rfl))) (.cons (.b (.a (.same rfl))) .nil)) (fun hg => c_spec_l19Walk (at' m_.Airways x3.1) c_.Speed (by first | omega | assumption | (simp only [List.length_append, List.length_cons, List.length_nil, List.length_replicate, put_len] at * <;> omega) | ((simp only [go_len, put_len] at * <;> omega)) | ((have hw0 := hp1.at (i := x3.1) (by omega); unfold AirIn at hw0; (try simp only [go_len] at *); omega)))) rfl (fun h => Bool.noConfusion h) rfl <|
                    q_assign .n (.t rfl) rfl <|
                    Lex.nil) ?_
                refine run_seq ?_
                refine run_draw fmo (q_move .n (.t rfl) rfl <|
                    q_move .n (.t rfl) rfl <|
                    q_move .n (.t rfl) rfl <|
                    q_nilc_ro .n (.t rfl) rfl <|
                    q_fld_ro .n (.t rfl) fo_120_1 rfl <|
                    q_ld1_ro .n (.t rfl) rfl ic_2 rfl <|
                    q_move .n (.t rfl) rfl <|
                    q_nilc_ro .n (.t rfl) rfl <|
                    q_fld_ro .n (.t rfl) fo_120_2 rfl <|
                    q_ld1_ro .n (.t rfl) rfl ic_2 rfl <|
                    q_move .n (.t rfl) rfl <|
                    q_callM (full := false) [(1, 200)] [] .n rfl .f en_77 (.cons (.t rfl) (.cons (.t rfl) (.cons (.t rfl) (.cons (.t rfl) (.cons (.t rfl) .nil))))) (.cons (.b (.a (.same rfl))) (.cons (.b (muts_len rfl (by first | rfl | exact go_len _ _ _ _ _))) (.cons (.b (.a (.same rfl))) (.cons (.b (.a (.same rfl))) (.cons (.b (.a (.same rfl))) .nil))))) (c_spec_l19Go arrivals x3.2 (at' m_.Airways x3.1).From (at' m_.Airways x3.1).To (m_spec_l19Walk (at' m_.Airways x3.1) c_.Speed) (by first | omega | assumption | (simp only [List.length_append, List.length_cons, List.length_nil, List.length_replicate, put_len] at * <;> omega) | ((simp only [go_len, put_len] at * <;> omega)) | ((have hw0 := hp1.at (i := x3.1) (by omega); unfold AirIn at hw0; (try simp only [go_len] at *); omega))) (by first | omega | assumption | (simp only [List.length_append, List.length_cons, List.length_nil, List.length_replicate, put_len] at * <;> omega) | ((simp only [go_len, put_len] at * <;> omega)) | ((have hw0 := hp1.at (i := x3.1) (by omega); unfold AirIn at hw0; (try simp only [go_len] at *); omega))) (by first | omega | assumption | (simp only [List.length_append, List.length_cons, List.length_nil, List.length_replicate, put_len] at * <;> omega) | ((simp only [go_len, put_len] at * <;> omega)) | ((have hw0 := hp1.at (i := x3.1) (by omega); unfold AirIn at hw0; (try simp only [go_len] at *); omega)))) ⟨rfl, trivial⟩ rfl rfl (fun h => Bool.noConfusion h) (fun h => Bool.noConfusion h) rfl <|
                    Lex.nil) (by kernel_rfl) ?_
                refine run_draw fmo (q_move .n (.t rfl) rfl <|
                    q_move .n (.t rfl) rfl <|
                    q_move .n (.t rfl) rfl <|
                    q_nilc_ro .n (.t rfl) rfl <|
                    q_fld_ro .n (.t rfl) fo_120_2 rfl <|
                    q_ld1_ro .n (.t rfl) rfl ic_2 rfl <|
                    q_move .n (.t rfl) rfl <|
                    q_nilc_ro .n (.t rfl) rfl <|
                    q_fld_ro .n (.t rfl) fo_120_1 rfl <|
                    q_ld1_ro .n (.t rfl) rfl ic_2 rfl <|
                    q_move .n (.t rfl) rfl <|
                    q_callM (full := false) [(1, 200)] [] .n rfl .f en_77 (.cons (.t rfl) (.cons (.t rfl) (.cons (.t rfl) (.cons (.t rfl) (.cons (.t rfl) .nil))))) (.cons (.b (.a (.same rfl))) (.cons (.b (muts_len rfl (by first | rfl | exact go_len _ _ _ _ _))) (.cons (.b (.a (.same rfl))) (.cons (.b (.a (.same rfl))) (.cons (.b (.a (.same rfl))) .nil))))) (c_spec_l19Go arrivals (m_spec_l19Go arrivals x3.2 (at' m_.Airways x3.1).From (at' m_.Airways x3.1).To (m_spec_l19Walk (at' m_.Airways x3.1) c_.Speed)) (at' m_.Airways x3.1).To (at' m_.Airways x3.1).From (m_spec_l19Walk (at' m_.Airways x3.1) c_.Speed) (by first | omega | assumption | (simp only [List.length_append, List.length_cons, List.length_nil, List.length_replicate, put_len] at * <;> omega) | ((simp only [go_len, put_len] at * <;> omega)) | ((have hw0 := hp1.at (i := x3.1) (by omega); unfold AirIn at hw0; (try simp only [go_len] at *); omega))) (by first | omega | assumption | (simp only [List.length_append, List.length_cons, List.length_nil, List.length_replicate, put_len] at * <;> omega) | ((simp only [go_len, put_len] at * <;> omega)) | ((have hw0 := hp1.at (i := x3.1) (by omega); unfold AirIn at hw0; (try simp only [go_len] at *); omega))) (by first | omega | assumption | (simp only [List.length_append, List.length_cons, List.length_nil, List.length_replicate, put_len] at * <;> omega) | ((simp only [go_len, put_len] at * <;> omega)) | ((have hw0 := hp1.at (i := x3.1) (by omega); unfold AirIn at hw0; (try simp only [go_len] at *); omega)))) ⟨rfl, trivial⟩ rfl rfl (fun h => Bool.noConfusion h) (fun h => Bool.noConfusion h) rfl <|
                    Lex.nil) (by kernel_rfl) ?_
                refine run_endB ?_
                refine run_region (q_move .n (.t rfl) rfl <|
                    q_add .n (.t rfl) (.c rfl) (fun _ => by first | omega | assumption | (simp only [List.length_append, List.length_cons, List.length_nil, List.length_replicate, put_len] at * <;> omega) | ((simp only [go_len, put_len] at * <;> omega)) | ((have hw0 := hp1.at (i := x3.1) (by omega); unfold AirIn at hw0; (try simp only [go_len] at *); omega))) rfl <|
                    q_assign .n (.t rfl) rfl <|
                    Lex.nil) ?_
                exact run_again (x3.1 + 1, m_spec_l19Go arrivals (m_spec_l19Go arrivals x3.2 (at' m_.Airways x3.1).From (at' m_.Airways x3.1).To (m_spec_l19Walk (at' m_.Airways x3.1) c_.Speed)) (at' m_.Airways x3.1).To (at' m_.Airways x3.1).From (m_spec_l19Walk (at' m_.Airways x3.1) c_.Speed)) ⟨by first | omega | assumption | (simp only [List.length_append, List.length_cons, List.length_nil, List.length_replicate, put_len] at * <;> omega) | ((simp only [go_len, put_len] at * <;> omega)) | ((have hw0 := hp1.at (i := x3.1) (by omega); unfold AirIn at hw0; (try simp only [go_len] at *); omega)), by first | omega | assumption | (simp only [List.length_append, List.length_cons, List.length_nil, List.length_replicate, put_len] at * <;> omega) | ((simp only [go_len, put_len] at * <;> omega)) | ((have hw0 := hp1.at (i := x3.1) (by omega); unfold AirIn at hw0; (try simp only [go_len] at *); omega)), by first | omega | assumption | (simp only [List.length_append, List.length_cons, List.length_nil, List.length_replicate, put_len] at * <;> omega) | ((simp only [go_len, put_len] at * <;> omega)) | ((have hw0 := hp1.at (i := x3.1) (by omega); unfold AirIn at hw0; (try simp only [go_len] at *); omega))⟩ (by first | omega | assumption | (simp only [List.length_append, List.length_cons, List.length_nil, List.length_replicate, put_len] at * <;> omega) | ((simp only [go_len, put_len] at * <;> omega)) | ((have hw0 := hp1.at (i := x3.1) (by omega); unfold AirIn at hw0; (try simp only [go_len] at *); omega))) (sub_of [] ⟨rfl, rfl, rfl, rfl, os_len rfl (by first | (simp only [put_len]; done) | (first | omega | assumption | (simp only [List.length_append, List.length_cons, List.length_nil, List.length_replicate, put_len] at * <;> omega) | ((simp only [go_len, put_len] at * <;> omega)) | ((have hw0 := hp1.at (i := x3.1) (by omega); unfold AirIn at hw0; (try simp only [go_len] at *); omega)))), rfl, rfl, trivial⟩ ⟨rfl, trivial⟩ rfl)
            · try simp only [Bool.and_eq_true, Bool.or_eq_true, Bool.not_eq_true', Bool.and_eq_false_iff, Bool.or_eq_false_iff, Bool.not_eq_false', decide_eq_true_eq, decide_eq_false_iff_not, beq_iff_eq, bne_iff_ne, beq_eq_false_iff_ne, bne_eq_false_iff_eq, Bool.true_and, ne_eq, Decidable.not_not, Int.not_lt, Int.not_le, Nat.not_lt, Nat.not_le, strB_nil, strB_nil', strB_nnil, strB_nnil'] at h13
              refine run_exit rfl ?_
              exact run_cont hk11 (x3.1, x3.2) ⟨by first | omega | assumption | (simp only [List.length_append, List.length_cons, List.length_nil, List.length_replicate, put_len] at * <;> omega) | ((simp only [go_len, put_len] at * <;> omega)) | ((have hw0 := hp1.at (i := x3.1) (by omega); unfold AirIn at hw0; (try simp only [go_len] at *); omega)), by first | omega | assumption | (simp only [List.length_append, List.length_cons, List.length_nil, List.length_replicate, put_len] at * <;> omega) | ((simp only [go_len, put_len] at * <;> omega)) | ((have hw0 := hp1.at (i := x3.1) (by omega); unfold AirIn at hw0; (try simp only [go_len] at *); omega)), by first | omega | assumption | (simp only [List.length_append, List.length_cons, List.length_nil, List.length_replicate, put_len] at * <;> omega) | ((simp only [go_len, put_len] at * <;> omega)) | ((have hw0 := hp1.at (i := x3.1) (by omega); unfold AirIn at hw0; (try simp only [go_len] at *); omega)), by first | omega | assumption | (simp only [List.length_append, List.length_cons, List.length_nil, List.length_replicate, put_len] at * <;> omega) | ((simp only [go_len, put_len] at * <;> omega)) | ((have hw0 := hp1.at (i := x3.1) (by omega); unfold AirIn at hw0; (try simp only [go_len] at *); omega))⟩ (sub_of [] ⟨rfl, rfl, rfl, rfl, rfl, rfl, trivial⟩ ⟨rfl, trivial⟩ rfl)
        · try simp only [Bool.and_eq_true, Bool.or_eq_true, Bool.not_eq_true', Bool.and_eq_false_iff, Bool.or_eq_false_iff, Bool.not_eq_false', decide_eq_true_eq, decide_eq_false_iff_not, beq_iff_eq, bne_iff_ne, beq_eq_false_iff_ne, bne_eq_false_iff_eq, Bool.true_and, ne_eq, Decidable.not_not, Int.not_lt, Int.not_le, Nat.not_lt, Nat.not_le, strB_nil, strB_nil', strB_nnil, strB_nnil'] at h10
          refine run_exit rfl ?_
          exact run_cont hk8 (x2.1, x2.2) ⟨by first | omega | assumption | (simp only [List.length_append, List.length_cons, List.length_nil, List.length_replicate, put_len] at * <;> omega) | ((simp only [go_len, put_len] at * <;> omega)) | ((have hw0 := hp1.at (i := x3.1) (by omega); unfold AirIn at hw0; (try simp only [go_len] at *); omega)), by first | omega | assumption | (simp only [List.length_append, List.length_cons, List.length_nil, List.length_replicate, put_len] at * <;> omega) | ((simp only [go_len, put_len] at * <;> omega)) | ((have hw0 := hp1.at (i := x3.1) (by omega); unfold AirIn at hw0; (try simp only [go_len] at *); omega)), by first | omega | assumption | (simp only [List.length_append, List.length_cons, List.length_nil, List.length_replicate, put_len] at * <;> omega) | ((simp only [go_len, put_len] at * <;> omega)) | ((have hw0 := hp1.at (i := x3.1) (by omega); unfold AirIn at hw0; (try simp only [go_len] at *); omega)), by first | omega | assumption | (simp only [List.length_append, List.length_cons, List.length_nil, List.length_replicate, put_len] at * <;> omega) | ((simp only [go_len, put_len] at * <;> omega)) | ((have hw0 := hp1.at (i := x3.1) (by omega); unfold AirIn at hw0; (try simp only [go_len] at *); omega))⟩ (sub_of [] ⟨rfl, trivial⟩ ⟨rfl, trivial⟩ rfl)
  · intro rec1 k1 hk3 x1 i4
    obtain ⟨e36, e37, e38, e39⟩ := i4
    try dsimp only at *
    refine run_seq ?_
    refine run_seq ?_
    refine run_region (q_move .n (.t rfl) rfl <|
        q_move .n (.t rfl) rfl <|
        q_nilc_ro .n (.t rfl) rfl <|
        q_fld_ro .n (.t rfl) fo_34_0 rfl <|
        q_ld1_ro .n (.t rfl) rfl ic_2 rfl <|
        q_int .n (.t rfl) (.t rfl) rfl rfl <|
        Lex.nil) ?_
    refine run_cond (.t rfl) rfl (fun h5 => ?_) (fun h5 => ?_)
    · try simp only [Bool.and_eq_true, Bool.or_eq_true, Bool.not_eq_true', Bool.and_eq_false_iff, Bool.or_eq_false_iff, Bool.not_eq_false', decide_eq_true_eq, decide_eq_false_iff_not, beq_iff_eq, bne_iff_ne, beq_eq_false_iff_ne, bne_eq_false_iff_eq, Bool.true_and, ne_eq, Decidable.not_not, Int.not_lt, Int.not_le, Nat.not_lt, Nat.not_le, strB_nil, strB_nil', strB_nnil, strB_nnil'] at h5
      refine run_skip ?_
      refine run_seq ?_
      refine run_block ?_
      refine run_region (q_move .n (.t rfl) rfl <|
          q_bslicem ([(-1)] : List Int) (f := V.int .i64) (l := 201) .n rfl rfl (.cons (.c rfl) .nil) rfl si_25 zv_2 rfl rfl rfl <|
          q_appm (xs := x1.1) (ys := ([(-1)] : List Int)) (f := V.int .i64) (l := 202) .n rfl (.ow (.t rfl) rfl (take_all (by simp only [len_map, put_len])) (by simp only [len_map, put_len])) (.ow (.t rfl) rfl (take_all (by simp only [len_map, put_len])) (by simp only [len_map, put_len])) si_25 zv_2 rfl (by first | omega | assumption | (simp only [List.length_append, List.length_cons, List.length_nil, List.length_replicate, put_len] at * <;> omega) | ((simp only [go_len, put_len] at * <;> omega)) | ((have hw0 := hp1.at (i := x3.1) (by omega); unfold AirIn at hw0; (try simp only [go_len] at *); omega))) rfl rfl <|
          q_assign .n (.t rfl) rfl <|
          Lex.nil) ?_
      refine run_endB ?_
      refine run_region (q_move .n (.t rfl) rfl <|
          q_add .n (.t rfl) (.c rfl) (fun _ => by first | omega | assumption | (simp only [List.length_append, List.length_cons, List.length_nil, List.length_replicate, put_len] at * <;> omega) | ((simp only [go_len, put_len] at * <;> omega)) | ((have hw0 := hp1.at (i := x3.1) (by omega); unfold AirIn at hw0; (try simp only [go_len] at *); omega))) rfl <|
          q_assign .n (.t rfl) rfl <|
          Lex.nil) ?_
      exact run_again (x1.1 ++ ([(-1)] : List Int), x1.2 + 1) ⟨by first | omega | assumption | (simp only [List.length_append, List.length_cons, List.length_nil, List.length_replicate, put_len] at * <;> omega) | ((simp only [go_len, put_len] at * <;> omega)) | ((have hw0 := hp1.at (i := x3.1) (by omega); unfold AirIn at hw0; (try simp only [go_len] at *); omega)), by first | omega | assumption | (simp only [List.length_append, List.length_cons, List.length_nil, List.length_replicate, put_len] at * <;> omega) | ((simp only [go_len, put_len] at * <;> omega)) | ((have hw0 := hp1.at (i := x3.1) (by omega); unfold AirIn at hw0; (try simp only [go_len] at *); omega)), by first | omega | assumption | (simp only [List.length_append, List.length_cons, List.length_nil, List.length_replicate, put_len] at * <;> omega) | ((simp only [go_len, put_len] at * <;> omega)) | ((have hw0 := hp1.at (i := x3.1) (by omega); unfold AirIn at hw0; (try simp only [go_len] at *); omega)), by first | omega | assumption | (simp only [List.length_append, List.length_cons, List.length_nil, List.length_replicate, put_len] at * <;> omega) | ((simp only [go_len, put_len] at * <;> omega)) | ((have hw0 := hp1.at (i := x3.1) (by omega); unfold AirIn at hw0; (try simp only [go_len] at *); omega))⟩ (by first | omega | assumption | (simp only [List.length_append, List.length_cons, List.length_nil, List.length_replicate, put_len] at * <;> omega) | ((simp only [go_len, put_len] at * <;> omega)) | ((have hw0 := hp1.at (i := x3.1) (by omega); unfold AirIn at hw0; (try simp only [go_len] at *); omega))) (sub_of [(200, 202)] ⟨rfl, rfl, rfl, rfl, rfl, rfl, rfl, trivial⟩ ⟨rfl, trivial⟩ rfl)
    · try simp only [Bool.and_eq_true, Bool.or_eq_true, Bool.not_eq_true', Bool.and_eq_false_iff, Bool.or_eq_false_iff, Bool.not_eq_false', decide_eq_true_eq, decide_eq_false_iff_not, beq_iff_eq, bne_iff_ne, beq_eq_false_iff_ne, bne_eq_false_iff_eq, Bool.true_and, ne_eq, Decidable.not_not, Int.not_lt, Int.not_le, Nat.not_lt, Nat.not_le, strB_nil, strB_nil', strB_nnil, strB_nnil'] at h5
      refine run_exit rfl ?_
      exact run_cont hk3 (x1.1, x1.2) ⟨by first | omega | assumption | (simp only [List.length_append, List.length_cons, List.length_nil, List.length_replicate, put_len] at * <;> omega) | ((simp only [go_len, put_len] at * <;> omega)) | ((have hw0 := hp1.at (i := x3.1) (by omega); unfold AirIn at hw0; (try simp only [go_len] at *); omega)), by first | omega | assumption | (simp only [List.length_append, List.length_cons, List.length_nil, List.length_replicate, put_len] at * <;> omega) | ((simp only [go_len, put_len] at * <;> omega)) | ((have hw0 := hp1.at (i := x3.1) (by omega); unfold AirIn at hw0; (try simp only [go_len] at *); omega)), by first | omega | assumption | (simp only [List.length_append, List.length_cons, List.length_nil, List.length_replicate, put_len] at * <;> omega) | ((simp only [go_len, put_len] at * <;> omega)) | ((have hw0 := hp1.at (i := x3.1) (by omega); unfold AirIn at hw0; (try simp only [go_len] at *); omega)), by first | omega | assumption | (simp only [List.length_append, List.length_cons, List.length_nil, List.length_replicate, put_len] at * <;> omega) | ((simp only [go_len, put_len] at * <;> omega)) | ((have hw0 := hp1.at (i := x3.1) (by omega); unfold AirIn at hw0; (try simp only [go_len] at *); omega)), by first | omega | assumption | (simp only [List.length_append, List.length_cons, List.length_nil, List.length_replicate, put_len] at * <;> omega) | ((simp only [go_len, put_len] at * <;> omega)) | ((have hw0 := hp1.at (i := x3.1) (by omega); unfold AirIn at hw0; (try simp only [go_len] at *); omega))⟩ (sub_of [] ⟨rfl, rfl, rfl, rfl, rfl, rfl, trivial⟩ ⟨rfl, trivial⟩ rfl)

/-! ### spec_l00Rises -/
theorem c_spec_l00Rises (list : List Int) (low : Int) (high : Int) : Con Try.prog 52 [.sl 1 (list.map (V.int .i64)), .int .i64 low, .int .i64 high] [] (.bool (m_spec_l00Rises list low high)) ([]) := by
  refine con_intro (out := fun r : Bool => ((.bool r : V), ([] : List (Nat × Option O)))) (r := (m_spec_l00Rises list low high)) Try.func52 rfl Try.ntmps52 rfl ?_
  refine run_fact (t := 0) rfl fun hl => ?_
  have l1 := hl; clear hl; simp only [List.length_map] at l1
  refine run_seq ?_
  refine run_region (q_assign .n (.c rfl) rfl <|
      Lex.nil) ?_
  refine run_seq ?_
  refine run_seq ?_
  refine run_region (q_assign .n (.c rfl) rfl <|
      Lex.nil) ?_
  refine run_block ?_
  refine run_LOOP (m_spec_l00Rises_b1 list low high) _ _ _ rfl (fun (x1 : Int) => 0 ≤ x1 ∧ x1 ≤ (list.length : Int)) (fun x1 => 0 ≤ x1 ∧ x1 ≤ (list.length : Int) ∧ (list.length : Int) ≤ x1) (fun x1 => ((list.length : Int) - x1 : Int).toNat) (fun x1 => ⟨[(0, some (true, .sl 1 (list.map (V.int .i64)))), (1, some (true, .int .i64 low)), (2, some (true, .int .i64 high)), (7, some (true, .int .i64 x1))], []⟩) (fun x1 => ⟨[], []⟩) ⟨by first | omega | assumption | (simp only [List.length_append, List.length_cons, List.length_nil, List.length_replicate, put_len] at * <;> omega), by first | omega | assumption | (simp only [List.length_append, List.length_cons, List.length_nil, List.length_replicate, put_len] at * <;> omega)⟩ (by first | omega | assumption | (simp only [List.length_append, List.length_cons, List.length_nil, List.length_replicate, put_len] at * <;> omega)) (sub_of [] ⟨rfl, rfl, rfl, rfl, trivial⟩ trivial rfl) ?_ ?_
  · intro x1 i6
    obtain ⟨e7, e8, e9⟩ := i6
    try dsimp only at *
    refine run_seq ?_
    refine run_region (q_assign .n (.c rfl) rfl <|
        Lex.nil) ?_
    exact run_ret [] (.cons (.t rfl rfl) .nil) rfl trivial rfl
  · intro rec1 k1 hk2 x1 i3
    obtain ⟨e10, e11⟩ := i3
    try dsimp only at *
    refine run_seq ?_
    refine run_seq ?_
    refine run_region (q_move .n (.t rfl) rfl <|
        q_move .n (.t rfl) rfl <|
        q_len .n (.t rfl) rfl len_map ss_25 rfl <|
        q_int .n (.t rfl) (.t rfl) rfl rfl <|
        Lex.nil) ?_
    refine run_cond (.t rfl) rfl (fun h4 => ?_) (fun h4 => ?_)
    · try simp only [Bool.and_eq_true, Bool.or_eq_true, Bool.not_eq_true', Bool.and_eq_false_iff, Bool.or_eq_false_iff, Bool.not_eq_false', decide_eq_true_eq, decide_eq_false_iff_not, beq_iff_eq, bne_iff_ne, beq_eq_false_iff_ne, bne_eq_false_iff_eq, Bool.true_and, ne_eq, Decidable.not_not, Int.not_lt, Int.not_le, Nat.not_lt, Nat.not_le, strB_nil, strB_nil', strB_nnil, strB_nnil'] at h4
      refine run_skip ?_
      refine run_seq ?_
      refine run_block ?_
      refine run_seq ?_
      refine run_draw fmo (q_move .n (.t rfl) rfl <|
          q_move .n (.t rfl) rfl <|
          q_idx_rm .n (.t rfl) (.t rfl) sl_25 (fun _ => by first | omega | assumption | (simp only [List.length_append, List.length_cons, List.length_nil, List.length_replicate, put_len] at * <;> omega)) rfl <|
          q_ld1_ro .n (.t rfl) rfl ic_2 rfl <|
          q_move .n (.t rfl) rfl <|
          q_move .n (.t rfl) rfl <|
          q_call0 (full := false) .n .f en_49 (.cons (.t rfl) (.cons (.t rfl) (.cons (.t rfl) .nil))) (.cons (.b (.a (.same rfl))) (.cons (.b (.a (.same rfl))) (.cons (.b (.a (.same rfl))) .nil))) (fun hg => c_spec_l00In (at' list x1) low high) rfl (fun h => Bool.noConfusion h) rfl <|
          q_not .n (.t rfl) rfl <|
          q_move .n (.t rfl) rfl <|
          q_move (.f rfl rfl) (.t rfl) rfl <|
          q_int (.f rfl rfl) (.u rfl id) (.c rfl) rfl rfl <|
          q_move (.f rfl rfl) (.u rfl id) rfl <|
          q_move (.t rfl rfl) (.t rfl) rfl <|
          q_move (.t rfl rfl) (.t rfl) rfl <|
          q_sub (.t rfl rfl) (.u rfl id) (.c rfl) (fun hg => by simp only [Bool.and_eq_true, Bool.or_eq_true, Bool.not_eq_true', Bool.and_eq_false_iff, Bool.or_eq_false_iff, Bool.not_eq_false', decide_eq_true_eq, decide_eq_false_iff_not, beq_iff_eq, bne_iff_ne, beq_eq_false_iff_ne, bne_eq_false_iff_eq, Bool.true_and, ne_eq, Decidable.not_not, Int.not_lt, Int.not_le, Nat.not_lt, Nat.not_le, strB_nil, strB_nil', strB_nnil, strB_nnil'] at hg; first | omega | assumption | (simp only [List.length_append, List.length_cons, List.length_nil, List.length_replicate, put_len] at * <;> omega)) rfl <|
          q_idx_rm (.t rfl rfl) (.u rfl id) (.u rfl id) sl_25 (fun hg => by simp only [Bool.and_eq_true, Bool.or_eq_true, Bool.not_eq_true', Bool.and_eq_false_iff, Bool.or_eq_false_iff, Bool.not_eq_false', decide_eq_true_eq, decide_eq_false_iff_not, beq_iff_eq, bne_iff_ne, beq_eq_false_iff_ne, bne_eq_false_iff_eq, Bool.true_and, ne_eq, Decidable.not_not, Int.not_lt, Int.not_le, Nat.not_lt, Nat.not_le, strB_nil, strB_nil', strB_nnil, strB_nnil'] at hg; first | omega | assumption | (simp only [List.length_append, List.length_cons, List.length_nil, List.length_replicate, put_len] at * <;> omega)) rfl <|
          q_ld1_ro (.t rfl rfl) (.u rfl id) rfl ic_2 rfl <|
          q_move (.t rfl rfl) (.t rfl) rfl <|
          q_move (.t rfl rfl) (.t rfl) rfl <|
          q_idx_rm (.t rfl rfl) (.u rfl id) (.u rfl id) sl_25 (fun hg => by simp only [Bool.and_eq_true, Bool.or_eq_true, Bool.not_eq_true', Bool.and_eq_false_iff, Bool.or_eq_false_iff, Bool.not_eq_false', decide_eq_true_eq, decide_eq_false_iff_not, beq_iff_eq, bne_iff_ne, beq_eq_false_iff_ne, bne_eq_false_iff_eq, Bool.true_and, ne_eq, Decidable.not_not, Int.not_lt, Int.not_le, Nat.not_lt, Nat.not_le, strB_nil, strB_nil', strB_nnil, strB_nnil'] at hg; first | omega | assumption | (simp only [List.length_append, List.length_cons, List.length_nil, List.length_replicate, put_len] at * <;> omega)) rfl <|
          q_ld1_ro (.t rfl rfl) (.u rfl id) rfl ic_2 rfl <|
          q_int (.t rfl rfl) (.u rfl id) (.u rfl id) rfl rfl <|
          q_and (.f rfl rfl) (.u rfl id) (.u rfl id) rfl <|
          q_or .n (.t rfl) (.u rfl id) rfl <|
          Lex.nil) (by kernel_rfl) ?_
      refine run_cond (.t rfl) rfl (fun h5 => ?_) (fun h5 => ?_)
      · try simp only [Bool.and_eq_true, Bool.or_eq_true, Bool.not_eq_true', Bool.and_eq_false_iff, Bool.or_eq_false_iff, Bool.not_eq_false', decide_eq_true_eq, decide_eq_false_iff_not, beq_iff_eq, bne_iff_ne, beq_eq_false_iff_ne, bne_eq_false_iff_eq, Bool.true_and, ne_eq, Decidable.not_not, Int.not_lt, Int.not_le, Nat.not_lt, Nat.not_le, strB_nil, strB_nil', strB_nnil, strB_nnil'] at h5
        try have hf0h5 := l00In_imp h5
        try have hf1h5 := l00In_imp h5.1
        try have hf2h5 := l00In_imp h5.2
        try have hf3h5 := l00In_imp h5.1.1
        try have hf4h5 := l00In_imp h5.1.2
        try have hf5h5 := l00In_imp h5.2.1
        try have hf6h5 := l00In_imp h5.2.2
        refine run_seq ?_
        refine run_region (q_assign .n (.c rfl) rfl <|
            Lex.nil) ?_
        exact run_ret [] (.cons (.t rfl rfl) .nil) rfl trivial rfl
      · try simp only [Bool.and_eq_true, Bool.or_eq_true, Bool.not_eq_true', Bool.and_eq_false_iff, Bool.or_eq_false_iff, Bool.not_eq_false', decide_eq_true_eq, decide_eq_false_iff_not, beq_iff_eq, bne_iff_ne, beq_eq_false_iff_ne, bne_eq_false_iff_eq, Bool.true_and, ne_eq, Decidable.not_not, Int.not_lt, Int.not_le, Nat.not_lt, Nat.not_le, strB_nil, strB_nil', strB_nnil, strB_nnil'] at h5
        try have hf0h5 := l00In_imp h5
        try have hf1h5 := l00In_imp h5.1
        try have hf2h5 := l00In_imp h5.2
        try have hf3h5 := l00In_imp h5.1.1
        try have hf4h5 := l00In_imp h5.1.2
        try have hf5h5 := l00In_imp h5.2.1
        try have hf6h5 := l00In_imp h5.2.2
        refine run_skip ?_
        refine run_endB ?_
        refine run_region (q_move .n (.t rfl) rfl <|
            q_add .n (.t rfl) (.c rfl) (fun _ => by first | omega | assumption | (simp only [List.length_append, List.length_cons, List.length_nil, List.length_replicate, put_len] at * <;> omega)) rfl <|
            q_assign .n (.t rfl) rfl <|
            Lex.nil) ?_
        exact run_again (x1 + 1) ⟨by first | omega | assumption | (simp only [List.length_append, List.length_cons, List.length_nil, List.length_replicate, put_len] at * <;> omega), by first | omega | assumption | (simp only [List.length_append, List.length_cons, List.length_nil, List.length_replicate, put_len] at * <;> omega)⟩ (by first | omega | assumption | (simp only [List.length_append, List.length_cons, List.length_nil, List.length_replicate, put_len] at * <;> omega)) (sub_of [] ⟨rfl, rfl, rfl, rfl, trivial⟩ trivial rfl)
    · try simp only [Bool.and_eq_true, Bool.or_eq_true, Bool.not_eq_true', Bool.and_eq_false_iff, Bool.or_eq_false_iff, Bool.not_eq_false', decide_eq_true_eq, decide_eq_false_iff_not, beq_iff_eq, bne_iff_ne, beq_eq_false_iff_ne, bne_eq_false_iff_eq, Bool.true_and, ne_eq, Decidable.not_not, Int.not_lt, Int.not_le, Nat.not_lt, Nat.not_le, strB_nil, strB_nil', strB_nnil, strB_nnil'] at h4
      refine run_exit rfl ?_
      exact run_cont hk2 x1 ⟨by first | omega | assumption | (simp only [List.length_append, List.length_cons, List.length_nil, List.length_replicate, put_len] at * <;> omega), by first | omega | assumption | (simp only [List.length_append, List.length_cons, List.length_nil, List.length_replicate, put_len] at * <;> omega), by first | omega | assumption | (simp only [List.length_append, List.length_cons, List.length_nil, List.length_replicate, put_len] at * <;> omega)⟩ (sub_of [] trivial trivial rfl)

/-! ### spec_l19Exit -/
theorem c_spec_l19Exit (times : List Int) (exits : List Int) (hp1 : ∀ y ∈ exits, 0 ≤ y ∧ y < times.length) : Con Try.prog 53 [.sl 1 (times.map (V.int .i64)), .sl 1 (exits.map (V.int .i64))] [] (.int .i64 (m_spec_l19Exit times exits)) ([]) := by
  refine con_intro (out := fun r : Int => ((.int .i64 r : V), ([] : List (Nat × Option O)))) (r := (m_spec_l19Exit times exits)) Try.func53 rfl Try.ntmps53 rfl ?_
  refine run_fact (t := 0) rfl fun hl => ?_
  have l1 := hl; clear hl; simp only [List.length_map] at l1
  refine run_fact (t := 1) rfl fun hl => ?_
  have l2 := hl; clear hl; simp only [List.length_map] at l2
  refine run_seq ?_
  refine run_region (q_assign .n (.c rfl) rfl <|
      Lex.nil) ?_
  refine run_seq ?_
  refine run_region (q_assign .n (.c rfl) rfl <|
      Lex.nil) ?_
  refine run_seq ?_
  refine run_seq ?_
  refine run_region (q_assign .n (.c rfl) rfl <|
      Lex.nil) ?_
  refine run_block ?_
  refine run_LOOP (m_spec_l19Exit_b1 times exits) _ _ _ rfl (fun (x1 : Int × Int) => 0 ≤ x1.2 ∧ x1.2 ≤ (exits.length : Int) ∧ (x1.1 = -1 ∨ (0 ≤ x1.1 ∧ x1.1 < times.length))) (fun x1 => 0 ≤ x1.2 ∧ x1.2 ≤ (exits.length : Int) ∧ (x1.1 = -1 ∨ (0 ≤ x1.1 ∧ x1.1 < times.length)) ∧ (exits.length : Int) ≤ x1.2) (fun x1 => ((exits.length : Int) - x1.2 : Int).toNat) (fun x1 => ⟨[(0, some (true, .sl 1 (times.map (V.int .i64)))), (1, some (true, .sl 1 (exits.map (V.int .i64)))), (5, some (true, .int .i64 x1.1)), (6, some (true, .int .i64 x1.2))], []⟩) (fun x1 => ⟨[(5, some (true, .int .i64 x1.1))], []⟩) ⟨by first | omega | assumption | (simp only [List.length_append, List.length_cons, List.length_nil, List.length_replicate, put_len] at * <;> omega) | ((have hb := at_all (i := x1.2) hp1 (by omega); omega)), by first | omega | assumption | (simp only [List.length_append, List.length_cons, List.length_nil, List.length_replicate, put_len] at * <;> omega) | ((have hb := at_all (i := x1.2) hp1 (by omega); omega)), by first | omega | assumption | (simp only [List.length_append, List.length_cons, List.length_nil, List.length_replicate, put_len] at * <;> omega) | ((have hb := at_all (i := x1.2) hp1 (by omega); omega))⟩ (by first | omega | assumption | (simp only [List.length_append, List.length_cons, List.length_nil, List.length_replicate, put_len] at * <;> omega) | ((have hb := at_all (i := x1.2) hp1 (by omega); omega))) (sub_of [] ⟨rfl, rfl, rfl, rfl, trivial⟩ trivial rfl) ?_ ?_
  · intro x1 i7
    obtain ⟨e8, e9, e10, e11⟩ := i7
    try dsimp only at *
    refine run_seq ?_
    refine run_region (q_move .n (.t rfl) rfl <|
        q_assign .n (.t rfl) rfl <|
        Lex.nil) ?_
    exact run_ret [] (.cons (.t rfl rfl) .nil) rfl trivial rfl
  · intro rec1 k1 hk3 x1 i4
    obtain ⟨e12, e13, e14⟩ := i4
    try dsimp only at *
    refine run_seq ?_
    refine run_seq ?_
    refine run_region (q_move .n (.t rfl) rfl <|
        q_move .n (.t rfl) rfl <|
        q_len .n (.t rfl) rfl len_map ss_25 rfl <|
        q_int .n (.t rfl) (.t rfl) rfl rfl <|
        Lex.nil) ?_
    refine run_cond (.t rfl) rfl (fun h5 => ?_) (fun h5 => ?_)
    · try simp only [Bool.and_eq_true, Bool.or_eq_true, Bool.not_eq_true', Bool.and_eq_false_iff, Bool.or_eq_false_iff, Bool.not_eq_false', decide_eq_true_eq, decide_eq_false_iff_not, beq_iff_eq, bne_iff_ne, beq_eq_false_iff_ne, bne_eq_false_iff_eq, Bool.true_and, ne_eq, Decidable.not_not, Int.not_lt, Int.not_le, Nat.not_lt, Nat.not_le, strB_nil, strB_nil', strB_nnil, strB_nnil'] at h5
      refine run_skip ?_
      refine run_seq ?_
      refine run_block ?_
      refine run_seq ?_
      refine run_region (q_move .n (.t rfl) rfl <|
          q_move .n (.t rfl) rfl <|
          q_move .n (.t rfl) rfl <|
          q_idx_rm .n (.t rfl) (.t rfl) sl_25 (fun _ => by first | omega | assumption | (simp only [List.length_append, List.length_cons, List.length_nil, List.length_replicate, put_len] at * <;> omega) | ((have hb := at_all (i := x1.2) hp1 (by omega); omega))) rfl <|
          q_ld1_ro .n (.t rfl) rfl ic_2 rfl <|
          q_idx_rm .n (.t rfl) (.t rfl) sl_25 (fun _ => by first | omega | assumption | (simp only [List.length_append, List.length_cons, List.length_nil, List.length_replicate, put_len] at * <;> omega) | ((have hb := at_all (i := x1.2) hp1 (by omega); omega))) rfl <|
          q_ld1_ro .n (.t rfl) rfl ic_2 rfl <|
          q_assign .n (.t rfl) rfl <|
          Lex.nil) ?_
      refine run_seq ?_
      refine run_region (q_move .n (.t rfl) rfl <|
          q_int .n (.t rfl) (.c rfl) rfl rfl <|
          q_move .n (.t rfl) rfl <|
          q_move (.t rfl rfl) (.t rfl) rfl <|
          q_int (.t rfl rfl) (.u rfl id) (.c rfl) rfl rfl <|
          q_move (.t rfl rfl) (.u rfl id) rfl <|
          q_move (.f rfl rfl) (.t rfl) rfl <|
          q_move (.f rfl rfl) (.t rfl) rfl <|
          q_move (.f rfl rfl) (.t rfl) rfl <|
          q_idx_rm (.f rfl rfl) (.u rfl id) (.u rfl id) sl_25 (fun hg => by simp only [Bool.and_eq_true, Bool.or_eq_true, Bool.not_eq_true', Bool.and_eq_false_iff, Bool.or_eq_false_iff, Bool.not_eq_false', decide_eq_true_eq, decide_eq_false_iff_not, beq_iff_eq, bne_iff_ne, beq_eq_false_iff_ne, bne_eq_false_iff_eq, Bool.true_and, ne_eq, Decidable.not_not, Int.not_lt, Int.not_le, Nat.not_lt, Nat.not_le, strB_nil, strB_nil', strB_nnil, strB_nnil'] at hg; first | omega | assumption | (simp only [List.length_append, List.length_cons, List.length_nil, List.length_replicate, put_len] at * <;> omega) | ((have hb := at_all (i := x1.2) hp1 (by omega); omega))) rfl <|
          q_ld1_ro (.f rfl rfl) (.u rfl id) rfl ic_2 rfl <|
          q_int (.f rfl rfl) (.u rfl id) (.u rfl id) rfl rfl <|
          q_or (.t rfl rfl) (.u rfl id) (.u rfl id) rfl <|
          q_and .n (.t rfl) (.u rfl id) rfl <|
          Lex.nil) ?_
      refine run_cond (.t rfl) rfl (fun h6 => ?_) (fun h6 => ?_)
      · try simp only [Bool.and_eq_true, Bool.or_eq_true, Bool.not_eq_true', Bool.and_eq_false_iff, Bool.or_eq_false_iff, Bool.not_eq_false', decide_eq_true_eq, decide_eq_false_iff_not, beq_iff_eq, bne_iff_ne, beq_eq_false_iff_ne, bne_eq_false_iff_eq, Bool.true_and, ne_eq, Decidable.not_not, Int.not_lt, Int.not_le, Nat.not_lt, Nat.not_le, strB_nil, strB_nil', strB_nnil, strB_nnil'] at h6
        refine run_region (q_move .n (.t rfl) rfl <|
            q_move .n (.t rfl) rfl <|
            q_idx_rm .n (.t rfl) (.t rfl) sl_25 (fun _ => by first | omega | assumption | (simp only [List.length_append, List.length_cons, List.length_nil, List.length_replicate, put_len] at * <;> omega) | ((have hb := at_all (i := x1.2) hp1 (by omega); omega))) rfl <|
            q_ld1_ro .n (.t rfl) rfl ic_2 rfl <|
            q_assign .n (.t rfl) rfl <|
            Lex.nil) ?_
        refine run_endB ?_
        refine run_region (q_move .n (.t rfl) rfl <|
            q_add .n (.t rfl) (.c rfl) (fun _ => by first | omega | assumption | (simp only [List.length_append, List.length_cons, List.length_nil, List.length_replicate, put_len] at * <;> omega) | ((have hb := at_all (i := x1.2) hp1 (by omega); omega))) rfl <|
            q_assign .n (.t rfl) rfl <|
            Lex.nil) ?_
        exact run_again (at' exits x1.2, x1.2 + 1) ⟨by first | omega | assumption | (simp only [List.length_append, List.length_cons, List.length_nil, List.length_replicate, put_len] at * <;> omega) | ((have hb := at_all (i := x1.2) hp1 (by omega); omega)), by first | omega | assumption | (simp only [List.length_append, List.length_cons, List.length_nil, List.length_replicate, put_len] at * <;> omega) | ((have hb := at_all (i := x1.2) hp1 (by omega); omega)), by first | omega | assumption | (simp only [List.length_append, List.length_cons, List.length_nil, List.length_replicate, put_len] at * <;> omega) | ((have hb := at_all (i := x1.2) hp1 (by omega); omega))⟩ (by first | omega | assumption | (simp only [List.length_append, List.length_cons, List.length_nil, List.length_replicate, put_len] at * <;> omega) | ((have hb := at_all (i := x1.2) hp1 (by omega); omega))) (sub_of [] ⟨rfl, rfl, rfl, rfl, trivial⟩ trivial rfl)
      · try simp only [Bool.and_eq_true, Bool.or_eq_true, Bool.not_eq_true', Bool.and_eq_false_iff, Bool.or_eq_false_iff, Bool.not_eq_false', decide_eq_true_eq, decide_eq_false_iff_not, beq_iff_eq, bne_iff_ne, beq_eq_false_iff_ne, bne_eq_false_iff_eq, Bool.true_and, ne_eq, Decidable.not_not, Int.not_lt, Int.not_le, Nat.not_lt, Nat.not_le, strB_nil, strB_nil', strB_nnil, strB_nnil'] at h6
        refine run_skip ?_
        refine run_endB ?_
        refine run_region (q_move .n (.t rfl) rfl <|
            q_add .n (.t rfl) (.c rfl) (fun _ => by first | omega | assumption | (simp only [List.length_append, List.length_cons, List.length_nil, List.length_replicate, put_len] at * <;> omega) | ((have hb := at_all (i := x1.2) hp1 (by omega); omega))) rfl <|
            q_assign .n (.t rfl) rfl <|
            Lex.nil) ?_
        exact run_again (x1.1, x1.2 + 1) ⟨by first | omega | assumption | (simp only [List.length_append, List.length_cons, List.length_nil, List.length_replicate, put_len] at * <;> omega) | ((have hb := at_all (i := x1.2) hp1 (by omega); omega)), by first | omega | assumption | (simp only [List.length_append, List.length_cons, List.length_nil, List.length_replicate, put_len] at * <;> omega) | ((have hb := at_all (i := x1.2) hp1 (by omega); omega)), by first | omega | assumption | (simp only [List.length_append, List.length_cons, List.length_nil, List.length_replicate, put_len] at * <;> omega) | ((have hb := at_all (i := x1.2) hp1 (by omega); omega))⟩ (by first | omega | assumption | (simp only [List.length_append, List.length_cons, List.length_nil, List.length_replicate, put_len] at * <;> omega) | ((have hb := at_all (i := x1.2) hp1 (by omega); omega))) (sub_of [] ⟨rfl, rfl, rfl, rfl, trivial⟩ trivial rfl)
    · try simp only [Bool.and_eq_true, Bool.or_eq_true, Bool.not_eq_true', Bool.and_eq_false_iff, Bool.or_eq_false_iff, Bool.not_eq_false', decide_eq_true_eq, decide_eq_false_iff_not, beq_iff_eq, bne_iff_ne, beq_eq_false_iff_ne, bne_eq_false_iff_eq, Bool.true_and, ne_eq, Decidable.not_not, Int.not_lt, Int.not_le, Nat.not_lt, Nat.not_le, strB_nil, strB_nil', strB_nnil, strB_nnil'] at h5
      refine run_exit rfl ?_
      exact run_cont hk3 (x1.1, x1.2) ⟨by first | omega | assumption | (simp only [List.length_append, List.length_cons, List.length_nil, List.length_replicate, put_len] at * <;> omega) | ((have hb := at_all (i := x1.2) hp1 (by omega); omega)), by first | omega | assumption | (simp only [List.length_append, List.length_cons, List.length_nil, List.length_replicate, put_len] at * <;> omega) | ((have hb := at_all (i := x1.2) hp1 (by omega); omega)), by first | omega | assumption | (simp only [List.length_append, List.length_cons, List.length_nil, List.length_replicate, put_len] at * <;> omega) | ((have hb := at_all (i := x1.2) hp1 (by omega); omega)), by first | omega | assumption | (simp only [List.length_append, List.length_cons, List.length_nil, List.length_replicate, put_len] at * <;> omega) | ((have hb := at_all (i := x1.2) hp1 (by omega); omega))⟩ (sub_of [] ⟨rfl, trivial⟩ trivial rfl)

/-! ### spec_l19Step -/
theorem c_spec_l19Step (m_ : gMine) (blocked : Int) (speed : Int) (from_ : Int) (to : Int) (hp1 : 10 ≤ speed ∧ speed ≤ 300) : Con Try.prog 68 [.rp [.int .i64 m_.Junctions, .sl 7 (m_.Airways.map gAirway.v)], .int .i64 blocked, .int .i64 speed, .int .i64 from_, .int .i64 to] [] (.int .i64 (m_spec_l19Step m_ blocked speed from_ to)) ([]) := by
  refine con_intro (out := fun r : Int => ((.int .i64 r : V), ([] : List (Nat × Option O)))) (r := (m_spec_l19Step m_ blocked speed from_ to)) Try.func68 rfl Try.ntmps68 rfl ?_
  refine run_factP (t := 0) 1 rfl rfl fun hl => ?_
  have l1 := hl; clear hl; simp only [List.length_map] at l1
  refine run_seq ?_
  refine run_region (q_assign .n (.c rfl) rfl <|
      Lex.nil) ?_
  refine run_seq ?_
  refine run_region (q_assign .n (.c rfl) rfl <|
      Lex.nil) ?_
  refine run_seq ?_
  refine run_seq ?_
  refine run_region (q_assign .n (.c rfl) rfl <|
      Lex.nil) ?_
  refine run_block ?_
  refine run_LOOP (m_spec_l19Step_b1 m_ blocked speed from_ to) _ _ _ rfl (fun (x1 : Int × Int) => 0 ≤ x1.1 ∧ x1.1 ≤ (m_.Airways.length : Int)) (fun x1 => 0 ≤ x1.1 ∧ x1.1 ≤ (m_.Airways.length : Int) ∧ (m_.Airways.length : Int) ≤ x1.1) (fun x1 => ((m_.Airways.length : Int) - x1.1 : Int).toNat) (fun x1 => ⟨[(0, some (true, .rp [.int .i64 m_.Junctions, .sl 7 (m_.Airways.map gAirway.v)])), (1, some (true, .int .i64 blocked)), (2, some (true, .int .i64 speed)), (3, some (true, .int .i64 from_)), (4, some (true, .int .i64 to)), (11, some (true, .int .i64 x1.2)), (12, some (true, .int .i64 x1.1))], []⟩) (fun x1 => ⟨[(11, some (true, .int .i64 x1.2))], []⟩) ⟨by first | omega | assumption | (simp only [List.length_append, List.length_cons, List.length_nil, List.length_replicate, put_len] at * <;> omega), by first | omega | assumption | (simp only [List.length_append, List.length_cons, List.length_nil, List.length_replicate, put_len] at * <;> omega)⟩ (by first | omega | assumption | (simp only [List.length_append, List.length_cons, List.length_nil, List.length_replicate, put_len] at * <;> omega)) (sub_of [] ⟨rfl, rfl, rfl, rfl, rfl, rfl, rfl, trivial⟩ trivial rfl) ?_ ?_
  · intro x1 i7
    obtain ⟨e8, e9, e10⟩ := i7
    try dsimp only at *
    refine run_seq ?_
    refine run_region (q_move .n (.t rfl) rfl <|
        q_assign .n (.t rfl) rfl <|
        Lex.nil) ?_
    exact run_ret [] (.cons (.t rfl rfl) .nil) rfl trivial rfl
  · intro rec1 k1 hk2 x1 i3
    obtain ⟨e11, e12⟩ := i3
    try dsimp only at *
    refine run_seq ?_
    refine run_seq ?_
    refine run_region (q_move .n (.t rfl) rfl <|
        q_move .n (.t rfl) rfl <|
        q_nilc_ro .n (.t rfl) rfl <|
        q_fld_ro .n (.t rfl) fo_34_1 rfl <|
        q_ld1_ro .n (.t rfl) rfl ic_32 rfl <|
        q_len .n (.t rfl) rfl len_map ss_32 rfl <|
        q_int .n (.t rfl) (.t rfl) rfl rfl <|
        Lex.nil) ?_
    refine run_cond (.t rfl) rfl (fun h4 => ?_) (fun h4 => ?_)
    · try simp only [Bool.and_eq_true, Bool.or_eq_true, Bool.not_eq_true', Bool.and_eq_false_iff, Bool.or_eq_false_iff, Bool.not_eq_false', decide_eq_true_eq, decide_eq_false_iff_not, beq_iff_eq, bne_iff_ne, beq_eq_false_iff_ne, bne_eq_false_iff_eq, Bool.true_and, ne_eq, Decidable.not_not, Int.not_lt, Int.not_le, Nat.not_lt, Nat.not_le, strB_nil, strB_nil', strB_nnil, strB_nnil'] at h4
      refine run_skip ?_
      refine run_seq ?_
      refine run_block ?_
      refine run_seq ?_
      refine run_region (q_move .n (.t rfl) rfl <|
          q_nilc_ro .n (.t rfl) rfl <|
          q_fld_ro .n (.t rfl) fo_34_1 rfl <|
          q_ld1_ro .n (.t rfl) rfl ic_32 rfl <|
          q_move .n (.t rfl) rfl <|
          q_idx_rm .n (.t rfl) (.t rfl) sl_32 (fun _ => by first | omega | assumption | (simp only [List.length_append, List.length_cons, List.length_nil, List.length_replicate, put_len] at * <;> omega)) rfl <|
          q_assign .n (.t rfl) rfl <|
          Lex.nil) ?_
      refine run_seq ?_
      refine run_seq ?_
      refine run_region (q_move .n (.t rfl) rfl <|
          q_move .n (.t rfl) rfl <|
          q_int .n (.t rfl) (.t rfl) rfl rfl <|
          q_move .n (.t rfl) rfl <|
          q_move (.f rfl rfl) (.t rfl) rfl <|
          q_nilc_ro (.f rfl rfl) (.u rfl id) rfl <|
          q_fld_ro (.f rfl rfl) (.u rfl id) fo_120_1 rfl <|
          q_ld1_ro (.f rfl rfl) (.u rfl id) rfl ic_2 rfl <|
          q_move (.f rfl rfl) (.t rfl) rfl <|
          q_int (.f rfl rfl) (.u rfl id) (.u rfl id) rfl rfl <|
          q_move (.f rfl rfl) (.u rfl id) rfl <|
          q_move (.f rfl rfl) (.t rfl) rfl <|
          q_nilc_ro (.f rfl rfl) (.u rfl id) rfl <|
          q_fld_ro (.f rfl rfl) (.u rfl id) fo_120_2 rfl <|
          q_ld1_ro (.f rfl rfl) (.u rfl id) rfl ic_2 rfl <|
          q_move (.f rfl rfl) (.t rfl) rfl <|
          q_int (.f rfl rfl) (.u rfl id) (.u rfl id) rfl rfl <|
          q_or (.f rfl rfl) (.u rfl id) (.u rfl id) rfl <|
          q_move (.f rfl rfl) (.u rfl id) rfl <|
          q_move (.t rfl rfl) (.t rfl) rfl <|
          q_nilc_ro (.t rfl rfl) (.u rfl id) rfl <|
          q_fld_ro (.t rfl rfl) (.u rfl id) fo_120_1 rfl <|
          q_ld1_ro (.t rfl rfl) (.u rfl id) rfl ic_2 rfl <|
          q_move (.t rfl rfl) (.t rfl) rfl <|
          q_int (.t rfl rfl) (.u rfl id) (.u rfl id) rfl rfl <|
          q_move (.t rfl rfl) (.u rfl id) rfl <|
          q_move (.f rfl rfl) (.t rfl) rfl <|
          q_nilc_ro (.f rfl rfl) (.u rfl id) rfl <|
          q_fld_ro (.f rfl rfl) (.u rfl id) fo_120_2 rfl <|
          q_ld1_ro (.f rfl rfl) (.u rfl id) rfl ic_2 rfl <|
          q_move (.f rfl rfl) (.t rfl) rfl <|
          q_int (.f rfl rfl) (.u rfl id) (.u rfl id) rfl rfl <|
          q_or (.t rfl rfl) (.u rfl id) (.u rfl id) rfl <|
          q_and (.f rfl rfl) (.u rfl id) (.u rfl id) rfl <|
          q_or .n (.t rfl) (.u rfl id) rfl <|
          Lex.nil) ?_
      refine run_cond (.t rfl) rfl (fun h5 => ?_) (fun h5 => ?_)
      · try simp only [Bool.and_eq_true, Bool.or_eq_true, Bool.not_eq_true', Bool.and_eq_false_iff, Bool.or_eq_false_iff, Bool.not_eq_false', decide_eq_true_eq, decide_eq_false_iff_not, beq_iff_eq, bne_iff_ne, beq_eq_false_iff_ne, bne_eq_false_iff_eq, Bool.true_and, ne_eq, Decidable.not_not, Int.not_lt, Int.not_le, Nat.not_lt, Nat.not_le, strB_nil, strB_nil', strB_nnil, strB_nnil'] at h5
        refine run_exit rfl ?_
        refine run_region (q_move .n (.t rfl) rfl <|
            q_add .n (.t rfl) (.c rfl) (fun _ => by first | omega | assumption | (simp only [List.length_append, List.length_cons, List.length_nil, List.length_replicate, put_len] at * <;> omega)) rfl <|
            q_assign .n (.t rfl) rfl <|
            Lex.nil) ?_
        exact run_again (x1.1 + 1, x1.2) ⟨by first | omega | assumption | (simp only [List.length_append, List.length_cons, List.length_nil, List.length_replicate, put_len] at * <;> omega), by first | omega | assumption | (simp only [List.length_append, List.length_cons, List.length_nil, List.length_replicate, put_len] at * <;> omega)⟩ (by first | omega | assumption | (simp only [List.length_append, List.length_cons, List.length_nil, List.length_replicate, put_len] at * <;> omega)) (sub_of [] ⟨rfl, rfl, rfl, rfl, rfl, rfl, rfl, trivial⟩ trivial rfl)
      · try simp only [Bool.and_eq_true, Bool.or_eq_true, Bool.not_eq_true', Bool.and_eq_false_iff, Bool.or_eq_false_iff, Bool.not_eq_false', decide_eq_true_eq, decide_eq_false_iff_not, beq_iff_eq, bne_iff_ne, beq_eq_false_iff_ne, bne_eq_false_iff_eq, Bool.true_and, ne_eq, Decidable.not_not, Int.not_lt, Int.not_le, Nat.not_lt, Nat.not_le, strB_nil, strB_nil', strB_nnil, strB_nnil'] at h5
        refine run_skip ?_
        refine run_seq ?_
        refine run_region (q_move .n (.t rfl) rfl <|
            q_move .n (.t rfl) rfl <|
            q_call0 (full := false) .n .f en_76 (.cons (.t rfl) (.cons (.t rfl) .nil)) (.cons (.b (.a (.same rfl))) (.cons (.b (.a (.same rfl))) .nil)) (fun hg => c_spec_l19Walk (at' m_.Airways x1.1) speed (by first | omega | assumption | (simp only [List.length_append, List.length_cons, List.length_nil, List.length_replicate, put_len] at * <;> omega))) rfl (fun h => Bool.noConfusion h) rfl <|
            q_assign .n (.t rfl) rfl <|
            Lex.nil) ?_
        refine run_seq ?_
        refine run_region (q_move .n (.t rfl) rfl <|
            q_int .n (.t rfl) (.c rfl) rfl rfl <|
            q_move .n (.t rfl) rfl <|
            q_move (.f rfl rfl) (.t rfl) rfl <|
            q_move (.f rfl rfl) (.t rfl) rfl <|
            q_int (.f rfl rfl) (.u rfl id) (.u rfl id) rfl rfl <|
            q_or .n (.t rfl) (.u rfl id) rfl <|
            Lex.nil) ?_
        refine run_cond (.t rfl) rfl (fun h6 => ?_) (fun h6 => ?_)
        · try simp only [Bool.and_eq_true, Bool.or_eq_true, Bool.not_eq_true', Bool.and_eq_false_iff, Bool.or_eq_false_iff, Bool.not_eq_false', decide_eq_true_eq, decide_eq_false_iff_not, beq_iff_eq, bne_iff_ne, beq_eq_false_iff_ne, bne_eq_false_iff_eq, Bool.true_and, ne_eq, Decidable.not_not, Int.not_lt, Int.not_le, Nat.not_lt, Nat.not_le, strB_nil, strB_nil', strB_nnil, strB_nnil'] at h6
          refine run_region (q_move .n (.t rfl) rfl <|
              q_assign .n (.t rfl) rfl <|
              Lex.nil) ?_
          refine run_endB ?_
          refine run_region (q_move .n (.t rfl) rfl <|
              q_add .n (.t rfl) (.c rfl) (fun _ => by first | omega | assumption | (simp only [List.length_append, List.length_cons, List.length_nil, List.length_replicate, put_len] at * <;> omega)) rfl <|
              q_assign .n (.t rfl) rfl <|
              Lex.nil) ?_
          exact run_again (x1.1 + 1, m_spec_l19Walk (at' m_.Airways x1.1) speed) ⟨by first | omega | assumption | (simp only [List.length_append, List.length_cons, List.length_nil, List.length_replicate, put_len] at * <;> omega), by first | omega | assumption | (simp only [List.length_append, List.length_cons, List.length_nil, List.length_replicate, put_len] at * <;> omega)⟩ (by first | omega | assumption | (simp only [List.length_append, List.length_cons, List.length_nil, List.length_replicate, put_len] at * <;> omega)) (sub_of [] ⟨rfl, rfl, rfl, rfl, rfl, rfl, rfl, trivial⟩ trivial rfl)
        · try simp only [Bool.and_eq_true, Bool.or_eq_true, Bool.not_eq_true', Bool.and_eq_false_iff, Bool.or_eq_false_iff, Bool.not_eq_false', decide_eq_true_eq, decide_eq_false_iff_not, beq_iff_eq, bne_iff_ne, beq_eq_false_iff_ne, bne_eq_false_iff_eq, Bool.true_and, ne_eq, Decidable.not_not, Int.not_lt, Int.not_le, Nat.not_lt, Nat.not_le, strB_nil, strB_nil', strB_nnil, strB_nnil'] at h6
          refine run_skip ?_
          refine run_endB ?_
          refine run_region (q_move .n (.t rfl) rfl <|
              q_add .n (.t rfl) (.c rfl) (fun _ => by first | omega | assumption | (simp only [List.length_append, List.length_cons, List.length_nil, List.length_replicate, put_len] at * <;> omega)) rfl <|
              q_assign .n (.t rfl) rfl <|
              Lex.nil) ?_
          exact run_again (x1.1 + 1, x1.2) ⟨by first | omega | assumption | (simp only [List.length_append, List.length_cons, List.length_nil, List.length_replicate, put_len] at * <;> omega), by first | omega | assumption | (simp only [List.length_append, List.length_cons, List.length_nil, List.length_replicate, put_len] at * <;> omega)⟩ (by first | omega | assumption | (simp only [List.length_append, List.length_cons, List.length_nil, List.length_replicate, put_len] at * <;> omega)) (sub_of [] ⟨rfl, rfl, rfl, rfl, rfl, rfl, rfl, trivial⟩ trivial rfl)
    · try simp only [Bool.and_eq_true, Bool.or_eq_true, Bool.not_eq_true', Bool.and_eq_false_iff, Bool.or_eq_false_iff, Bool.not_eq_false', decide_eq_true_eq, decide_eq_false_iff_not, beq_iff_eq, bne_iff_ne, beq_eq_false_iff_ne, bne_eq_false_iff_eq, Bool.true_and, ne_eq, Decidable.not_not, Int.not_lt, Int.not_le, Nat.not_lt, Nat.not_le, strB_nil, strB_nil', strB_nnil, strB_nnil'] at h4
      refine run_exit rfl ?_
      exact run_cont hk2 (x1.1, x1.2) ⟨by first | omega | assumption | (simp only [List.length_append, List.length_cons, List.length_nil, List.length_replicate, put_len] at * <;> omega), by first | omega | assumption | (simp only [List.length_append, List.length_cons, List.length_nil, List.length_replicate, put_len] at * <;> omega), by first | omega | assumption | (simp only [List.length_append, List.length_cons, List.length_nil, List.length_replicate, put_len] at * <;> omega)⟩ (sub_of [] ⟨rfl, trivial⟩ trivial rfl)

/-! ### spec_EscapeRoute -/
set_option maxRecDepth 100000 in
set_option maxHeartbeats 4000000 in
theorem c_spec_EscapeRoute (m_ : gMine) (arrivals : List Int) (blocked : Int) (c_ : gCrew) (start : Int) (exits : List Int) : Con Try.prog 37 [.st [.int .i64 m_.Junctions, .sl 7 (m_.Airways.map gAirway.v)], .sl 1 (arrivals.map (V.int .i64)), .int .i64 blocked, .st [.str c_.Id, .int .i64 c_.Junction, .int .i64 c_.Speed], .int .i64 start, .sl 1 (exits.map (V.int .i64))] [] (.tup [.os 100 (m_spec_EscapeRoute m_ arrivals blocked c_ start exits).1.length, .int .i64 (m_spec_EscapeRoute m_ arrivals blocked c_ start exits).2.1, .int .i64 (m_spec_EscapeRoute m_ arrivals blocked c_ start exits).2.2]) ([(100, some (.row 2 1 ((m_spec_EscapeRoute m_ arrivals blocked c_ start exits).1.map (V.int .i64))))]) := by
  refine con_intro (out := fun r : (List Int) × Int × Int => ((.tup [.os 100 r.1.length, .int .i64 r.2.1, .int .i64 r.2.2] : V), ([(100, some (.row 2 1 (r.1.map (V.int .i64))))] : List (Nat × Option O)))) (r := (m_spec_EscapeRoute m_ arrivals blocked c_ start exits)) Try.func37 rfl Try.ntmps37 rfl ?_
  refine run_factS (t := 0) 1 rfl rfl fun hl => ?_
  have l1 := hl; clear hl; simp only [List.length_map] at l1
  refine run_fact (t := 1) rfl fun hl => ?_
  have l2 := hl; clear hl; simp only [List.length_map] at l2
  refine run_fact (t := 5) rfl fun hl => ?_
  have l3 := hl; clear hl; simp only [List.length_map] at l3
  refine run_seq ?_
  refine run_region (q_box (l := 200) .n rfl (.t rfl) rfl rfl rfl rfl <|
      q_box (l := 201) .n rfl (.t rfl) rfl rfl rfl rfl <|
      q_assign .n (.c rfl) rfl <|
      q_assign .n (.c rfl) rfl <|
      q_assign .n (.c rfl) rfl <|
      Lex.nil) ?_
  refine run_seq ?_
  refine run_region (q_move .n (.t rfl) rfl <|
      q_move .n (.t rfl) rfl <|
      q_move .n (.t rfl) rfl <|
      q_call0 (full := true) .n .f en_40 (.cons (.t rfl) (.cons (.t rfl) (.cons (.t rfl) (.cons (.t rfl) (.cons (.t rfl) .nil))))) (.cons (.b (.ptr rfl rfl (.inr rfl) rfl rfl (.cons (.same rfl) (.cons (.same rfl) .nil)))) (.cons (.b (.a (.same rfl))) (.cons (.b (.a (.same rfl))) (.cons (.b (.ptr rfl rfl (.inr rfl) rfl rfl (.cons (.same rfl) (.cons (.same rfl) (.cons (.same rfl) .nil))))) (.cons (.b (.a (.same rfl))) .nil))))) (fun hg => c_spec_l19Ask m_ arrivals blocked c_ start) rfl (fun _ => rfl) rfl <|
      q_assign .n (.t rfl) rfl <|
      Lex.nil) ?_
  refine run_seq ?_
  refine run_seq ?_
  refine run_region (q_move .n (.t rfl) rfl <|
      q_int .n (.t rfl) (.c rfl) rfl rfl <|
      Lex.nil) ?_
  refine run_cond (.t rfl) rfl (fun h4 => ?_) (fun h4 => ?_)
  · try simp only [Bool.and_eq_true, Bool.or_eq_true, Bool.not_eq_true', Bool.and_eq_false_iff, Bool.or_eq_false_iff, Bool.not_eq_false', decide_eq_true_eq, decide_eq_false_iff_not, beq_iff_eq, bne_iff_ne, beq_eq_false_iff_ne, bne_eq_false_iff_eq, Bool.true_and, ne_eq, Decidable.not_not, Int.not_lt, Int.not_le, Nat.not_lt, Nat.not_le, strB_nil, strB_nil', strB_nnil, strB_nnil'] at h4
    try have hf0h4 := l19Ask_impM h4
    try have hf1h4 := l19Ask_impM h4.1
    try have hf2h4 := l19Ask_impM h4.2
    try have hf3h4 := l19Ask_impM h4.1.1
    try have hf4h4 := l19Ask_impM h4.1.2
    try have hf5h4 := l19Ask_impM h4.2.1
    try have hf6h4 := l19Ask_impM h4.2.2
    try have hf7h4 := l19Ask_impC h4
    try have hf8h4 := l19Ask_impC h4.1
    try have hf9h4 := l19Ask_impC h4.2
    try have hf10h4 := l19Ask_impC h4.1.1
    try have hf11h4 := l19Ask_impC h4.1.2
    try have hf12h4 := l19Ask_impC h4.2.1
    try have hf13h4 := l19Ask_impC h4.2.2
    try have hf14h4 := l19Ask_impS h4
    try have hf15h4 := l19Ask_impS h4.1
    try have hf16h4 := l19Ask_impS h4.2
    try have hf17h4 := l19Ask_impS h4.1.1
    try have hf18h4 := l19Ask_impS h4.1.2
    try have hf19h4 := l19Ask_impS h4.2.1
    try have hf20h4 := l19Ask_impS h4.2.2
    try have hf21h4 := l19Ask_impL h4
    try have hf22h4 := l19Ask_impL h4.1
    try have hf23h4 := l19Ask_impL h4.2
    try have hf24h4 := l19Ask_impL h4.1.1
    try have hf25h4 := l19Ask_impL h4.1.2
    try have hf26h4 := l19Ask_impL h4.2.1
    try have hf27h4 := l19Ask_impL h4.2.2
    refine run_seq ?_
    refine run_region (q_move .n (.t rfl) rfl <|
        q_assign .n (.c rfl) rfl <|
        q_assign .n (.c rfl) rfl <|
        q_assign .n (.t rfl) rfl <|
        Lex.nil) ?_
    refine run_sub (sub_adopt (t := 12) (l := 202) (el := 2) (sz := 1) rfl rfl) ?_
    exact run_ret [(100, 202)] (.cons (.t rfl rfl) (.cons (.t rfl rfl) (.cons (.t rfl rfl) .nil))) (by first | rfl | (simp only [put_len]; rfl)) ⟨rfl, trivial⟩ rfl
  · try simp only [Bool.and_eq_true, Bool.or_eq_true, Bool.not_eq_true', Bool.and_eq_false_iff, Bool.or_eq_false_iff, Bool.not_eq_false', decide_eq_true_eq, decide_eq_false_iff_not, beq_iff_eq, bne_iff_ne, beq_eq_false_iff_ne, bne_eq_false_iff_eq, Bool.true_and, ne_eq, Decidable.not_not, Int.not_lt, Int.not_le, Nat.not_lt, Nat.not_le, strB_nil, strB_nil', strB_nnil, strB_nnil'] at h4
    try have hf0h4 := l19Ask_impM h4
    try have hf1h4 := l19Ask_impM h4.1
    try have hf2h4 := l19Ask_impM h4.2
    try have hf3h4 := l19Ask_impM h4.1.1
    try have hf4h4 := l19Ask_impM h4.1.2
    try have hf5h4 := l19Ask_impM h4.2.1
    try have hf6h4 := l19Ask_impM h4.2.2
    try have hf7h4 := l19Ask_impC h4
    try have hf8h4 := l19Ask_impC h4.1
    try have hf9h4 := l19Ask_impC h4.2
    try have hf10h4 := l19Ask_impC h4.1.1
    try have hf11h4 := l19Ask_impC h4.1.2
    try have hf12h4 := l19Ask_impC h4.2.1
    try have hf13h4 := l19Ask_impC h4.2.2
    try have hf14h4 := l19Ask_impS h4
    try have hf15h4 := l19Ask_impS h4.1
    try have hf16h4 := l19Ask_impS h4.2
    try have hf17h4 := l19Ask_impS h4.1.1
    try have hf18h4 := l19Ask_impS h4.1.2
    try have hf19h4 := l19Ask_impS h4.2.1
    try have hf20h4 := l19Ask_impS h4.2.2
    try have hf21h4 := l19Ask_impL h4
    try have hf22h4 := l19Ask_impL h4.1
    try have hf23h4 := l19Ask_impL h4.2
    try have hf24h4 := l19Ask_impL h4.1.1
    try have hf25h4 := l19Ask_impL h4.1.2
    try have hf26h4 := l19Ask_impL h4.2.1
    try have hf27h4 := l19Ask_impL h4.2.2
    refine run_skip ?_
    refine run_seq ?_
    refine run_seq ?_
    refine run_region (q_move .n (.t rfl) rfl <|
        q_fld_ow .n (.t rfl) fo_34_0 rfl <|
        q_ld1_ow .n (.t rfl) rfl (.inr rfl) (fun _ => rfl) rfl ic_2 rfl <|
        q_int .n (.t rfl) (.c rfl) rfl rfl <|
        q_call0 (full := false) .n .f en_52 (.cons (.t rfl) (.cons (.c rfl) (.cons (.t rfl) .nil))) (.cons (.b (.a (.same rfl))) (.cons (.b (.a (.same rfl))) (.cons (.b (.a (.same rfl))) .nil))) (fun hg => c_spec_l00Rises exits 0 (IntKind.wrap .i64 (m_.Junctions - 1))) rfl (fun h => Bool.noConfusion h) rfl <|
        q_not .n (.t rfl) rfl <|
        Lex.nil) ?_
    refine run_cond (.t rfl) rfl (fun h5 => ?_) (fun h5 => ?_)
    · try simp only [Bool.and_eq_true, Bool.or_eq_true, Bool.not_eq_true', Bool.and_eq_false_iff, Bool.or_eq_false_iff, Bool.not_eq_false', decide_eq_true_eq, decide_eq_false_iff_not, beq_iff_eq, bne_iff_ne, beq_eq_false_iff_ne, bne_eq_false_iff_eq, Bool.true_and, ne_eq, Decidable.not_not, Int.not_lt, Int.not_le, Nat.not_lt, Nat.not_le, strB_nil, strB_nil', strB_nnil, strB_nnil'] at h5
      refine run_seq ?_
      refine run_region (q_assign .n (.c rfl) rfl <|
          q_assign .n (.c rfl) rfl <|
          q_assign .n (.c rfl) rfl <|
          Lex.nil) ?_
      refine run_sub (sub_adopt (t := 12) (l := 203) (el := 2) (sz := 1) rfl rfl) ?_
      exact run_ret [(100, 203)] (.cons (.t rfl rfl) (.cons (.t rfl rfl) (.cons (.t rfl rfl) .nil))) (by first | rfl | (simp only [put_len]; rfl)) ⟨rfl, trivial⟩ rfl
    · try simp only [Bool.and_eq_true, Bool.or_eq_true, Bool.not_eq_true', Bool.and_eq_false_iff, Bool.or_eq_false_iff, Bool.not_eq_false', decide_eq_true_eq, decide_eq_false_iff_not, beq_iff_eq, bne_iff_ne, beq_eq_false_iff_ne, bne_eq_false_iff_eq, Bool.true_and, ne_eq, Decidable.not_not, Int.not_lt, Int.not_le, Nat.not_lt, Nat.not_le, strB_nil, strB_nil', strB_nnil, strB_nnil'] at h5
      refine run_skip ?_
      refine run_seq ?_
      refine run_region (q_move .n (.t rfl) rfl <|
          q_move .n (.t rfl) rfl <|
          q_move .n (.t rfl) rfl <|
          q_callM (full := true) [] [(100, 204)] .n rfl .f en_41 (.cons (.t rfl) (.cons (.t rfl) (.cons (.t rfl) (.cons (.t rfl) (.cons (.t rfl) .nil))))) (.cons (.b (.ptr rfl rfl (.inr rfl) rfl rfl (.cons (.same rfl) (.cons (.same rfl) .nil)))) (.cons (.b (.a (.same rfl))) (.cons (.b (.a (.same rfl))) (.cons (.b (.ptr rfl rfl (.inr rfl) rfl rfl (.cons (.same rfl) (.cons (.same rfl) (.cons (.same rfl) .nil))))) (.cons (.b (.a (.same rfl))) .nil))))) (c_spec_l19Times m_ arrivals blocked c_ start (by first | omega | assumption | (simp only [List.length_append, List.length_cons, List.length_nil, List.length_replicate, put_len] at * <;> omega) | (exact l19Ask_impM (by assumption)) | (exact l19Ask_impC (by assumption)) | (exact l19Ask_impS (by assumption)) | (exact l19Ask_impL (by assumption)) | ((have hx1 := l19Ask_impM (m := m_) (arr := arrivals) (blocked := blocked) (c := c_) (start := start) (by assumption); have hx2 := l19Ask_impC (m := m_) (arr := arrivals) (blocked := blocked) (c := c_) (start := start) (by assumption); have hx3 := l19Ask_impS (m := m_) (arr := arrivals) (blocked := blocked) (c := c_) (start := start) (by assumption); have hxJ := hx1.1; have hxC := hx2.2; have hxT := rtL (arr := arrivals) (blocked := blocked) hx1 hx2 hx3; first | exact rtE hx1 hx2 hx3 (by assumption) | (have hy := rtS hx1 hx2 hx3 (by assumption) (by assumption); have hz := hy.1.1; first | omega | exact hy | exact Nat.lt_succ_of_le (rank_le _ _ _)) | exact way_start hx1 hx2 hx3 (by assumption) (by assumption) | exact way_next (by assumption) (by assumption) | (have hw : WayOn m_ arrivals blocked c_ start x1.1 x2 := (by assumption); have hv := hw.1; have hI : RtI (m_spec_l19Times m_ arrivals blocked c_ start) m_.Junctions x1.2.length x1.1 := (by assumption); have hI1 := hI.1.1; have hI2 := hI.2; first | omega | (simp only [List.length_append, List.length_cons, List.length_nil] at *; omega) | (have hq := way_end hx1 hx2 hx3 hI hv (by assumption); first | exact hq.2 | (have hq1 := hq.1; simp only [List.length_append, List.length_cons, List.length_nil]; rw [Nat.add_comm]; exact hq1))) | (have hI : RtI (m_spec_l19Times m_ arrivals blocked c_ start) m_.Junctions x1.2.length x1.1 := (by assumption); have hI1 := hI.1.1; have hI2 := hI.2; first | omega | (simp only [List.length_append, List.length_cons, List.length_nil] at *; omega) | (have hq := way_end (arr := arrivals) (blocked := blocked) (x := x2) hx1 hx2 hx3 hI (by omega) (by assumption); first | exact hq.2 | (have hq1 := hq.1; simp only [List.length_append, List.length_cons, List.length_nil]; rw [Nat.add_comm]; exact hq1)))))) (by first | omega | assumption | (simp only [List.length_append, List.length_cons, List.length_nil, List.length_replicate, put_len] at * <;> omega) | (exact l19Ask_impM (by assumption)) | (exact l19Ask_impC (by assumption)) | (exact l19Ask_impS (by assumption)) | (exact l19Ask_impL (by assumption)) | ((have hx1 := l19Ask_impM (m := m_) (arr := arrivals) (blocked := blocked) (c := c_) (start := start) (by assumption); have hx2 := l19Ask_impC (m := m_) (arr := arrivals) (blocked := blocked) (c := c_) (start := start) (by assumption); have hx3 := l19Ask_impS (m := m_) (arr := arrivals) (blocked := blocked) (c := c_) (start := start) (by assumption); have hxJ := hx1.1; have hxC := hx2.2; have hxT := rtL (arr := arrivals) (blocked := blocked) hx1 hx2 hx3; first | exact rtE hx1 hx2 hx3 (by assumption) | (have hy := rtS hx1 hx2 hx3 (by assumption) (by assumption); have hz := hy.1.1; first | omega | exact hy | exact Nat.lt_succ_of_le (rank_le _ _ _)) | exact way_start hx1 hx2 hx3 (by assumption) (by assumption) | exact way_next (by assumption) (by assumption) | (have hw : WayOn m_ arrivals blocked c_ start x1.1 x2 := (by assumption); have hv := hw.1; have hI : RtI (m_spec_l19Times m_ arrivals blocked c_ start) m_.Junctions x1.2.length x1.1 := (by assumption); have hI1 := hI.1.1; have hI2 := hI.2; first | omega | (simp only [List.length_append, List.length_cons, List.length_nil] at *; omega) | (have hq := way_end hx1 hx2 hx3 hI hv (by assumption); first | exact hq.2 | (have hq1 := hq.1; simp only [List.length_append, List.length_cons, List.length_nil]; rw [Nat.add_comm]; exact hq1))) | (have hI : RtI (m_spec_l19Times m_ arrivals blocked c_ start) m_.Junctions x1.2.length x1.1 := (by assumption); have hI1 := hI.1.1; have hI2 := hI.2; first | omega | (simp only [List.length_append, List.length_cons, List.length_nil] at *; omega) | (have hq := way_end (arr := arrivals) (blocked := blocked) (x := x2) hx1 hx2 hx3 hI (by omega) (by assumption); first | exact hq.2 | (have hq1 := hq.1; simp only [List.length_append, List.length_cons, List.length_nil]; rw [Nat.add_comm]; exact hq1)))))) (by first | omega | assumption | (simp only [List.length_append, List.length_cons, List.length_nil, List.length_replicate, put_len] at * <;> omega) | (exact l19Ask_impM (by assumption)) | (exact l19Ask_impC (by assumption)) | (exact l19Ask_impS (by assumption)) | (exact l19Ask_impL (by assumption)) | ((have hx1 := l19Ask_impM (m := m_) (arr := arrivals) (blocked := blocked) (c := c_) (start := start) (by assumption); have hx2 := l19Ask_impC (m := m_) (arr := arrivals) (blocked := blocked) (c := c_) (start := start) (by assumption); have hx3 := l19Ask_impS (m := m_) (arr := arrivals) (blocked := blocked) (c := c_) (start := start) (by assumption); have hxJ := hx1.1; have hxC := hx2.2; have hxT := rtL (arr := arrivals) (blocked := blocked) hx1 hx2 hx3; first | exact rtE hx1 hx2 hx3 (by assumption) | (have hy := rtS hx1 hx2 hx3 (by assumption) (by assumption); have hz := hy.1.1; first | omega | exact hy | exact Nat.lt_succ_of_le (rank_le _ _ _)) | exact way_start hx1 hx2 hx3 (by assumption) (by assumption) | exact way_next (by assumption) (by assumption) | (have hw : WayOn m_ arrivals blocked c_ start x1.1 x2 := (by assumption); have hv := hw.1; have hI : RtI (m_spec_l19Times m_ arrivals blocked c_ start) m_.Junctions x1.2.length x1.1 := (by assumption); have hI1 := hI.1.1; have hI2 := hI.2; first | omega | (simp only [List.length_append, List.length_cons, List.length_nil] at *; omega) | (have hq := way_end hx1 hx2 hx3 hI hv (by assumption); first | exact hq.2 | (have hq1 := hq.1; simp only [List.length_append, List.length_cons, List.length_nil]; rw [Nat.add_comm]; exact hq1))) | (have hI : RtI (m_spec_l19Times m_ arrivals blocked c_ start) m_.Junctions x1.2.length x1.1 := (by assumption); have hI1 := hI.1.1; have hI2 := hI.2; first | omega | (simp only [List.length_append, List.length_cons, List.length_nil] at *; omega) | (have hq := way_end (arr := arrivals) (blocked := blocked) (x := x2) hx1 hx2 hx3 hI (by omega) (by assumption); first | exact hq.2 | (have hq1 := hq.1; simp only [List.length_append, List.length_cons, List.length_nil]; rw [Nat.add_comm]; exact hq1)))))) (by first | omega | assumption | (simp only [List.length_append, List.length_cons, List.length_nil, List.length_replicate, put_len] at * <;> omega) | (exact l19Ask_impM (by assumption)) | (exact l19Ask_impC (by assumption)) | (exact l19Ask_impS (by assumption)) | (exact l19Ask_impL (by assumption)) | ((have hx1 := l19Ask_impM (m := m_) (arr := arrivals) (blocked := blocked) (c := c_) (start := start) (by assumption); have hx2 := l19Ask_impC (m := m_) (arr := arrivals) (blocked := blocked) (c := c_) (start := start) (by assumption); have hx3 := l19Ask_impS (m := m_) (arr := arrivals) (blocked := blocked) (c := c_) (start := start) (by assumption); have hxJ := hx1.1; have hxC := hx2.2; have hxT := rtL (arr := arrivals) (blocked := blocked) hx1 hx2 hx3; first | exact rtE hx1 hx2 hx3 (by assumption) | (have hy := rtS hx1 hx2 hx3 (by assumption) (by assumption); have hz := hy.1.1; first | omega | exact hy | exact Nat.lt_succ_of_le (rank_le _ _ _)) | exact way_start hx1 hx2 hx3 (by assumption) (by assumption) | exact way_next (by assumption) (by assumption) | (have hw : WayOn m_ arrivals blocked c_ start x1.1 x2 := (by assumption); have hv := hw.1; have hI : RtI (m_spec_l19Times m_ arrivals blocked c_ start) m_.Junctions x1.2.length x1.1 := (by assumption); have hI1 := hI.1.1; have hI2 := hI.2; first | omega | (simp only [List.length_append, List.length_cons, List.length_nil] at *; omega) | (have hq := way_end hx1 hx2 hx3 hI hv (by assumption); first | exact hq.2 | (have hq1 := hq.1; simp only [List.length_append, List.length_cons, List.length_nil]; rw [Nat.add_comm]; exact hq1))) | (have hI : RtI (m_spec_l19Times m_ arrivals blocked c_ start) m_.Junctions x1.2.length x1.1 := (by assumption); have hI1 := hI.1.1; have hI2 := hI.2; first | omega | (simp only [List.length_append, List.length_cons, List.length_nil] at *; omega) | (have hq := way_end (arr := arrivals) (blocked := blocked) (x := x2) hx1 hx2 hx3 hI (by omega) (by assumption); first | exact hq.2 | (have hq1 := hq.1; simp only [List.length_append, List.length_cons, List.length_nil]; rw [Nat.add_comm]; exact hq1))))))) trivial rfl rfl (fun _ => rfl) (fun _ => (hr_row (fun _ => rfl) hr_nil)) rfl <|
          q_assign .n (.t rfl) rfl <|
          Lex.nil) ?_
      refine run_seq ?_
      refine run_region (q_move .n (.t rfl) rfl <|
          q_move .n (.t rfl) rfl <|
          q_call0 (full := true) .n .f en_53 (.cons (.t rfl) (.cons (.t rfl) .nil)) (.cons (.b (.a (.own rfl rfl rfl (take_all (by simp only [len_map, put_len])) (by simp only [len_map, put_len])))) (.cons (.b (.a (.same rfl))) .nil)) (fun hg => c_spec_l19Exit (m_spec_l19Times m_ arrivals blocked c_ start) exits (by first | omega | assumption | (simp only [List.length_append, List.length_cons, List.length_nil, List.length_replicate, put_len] at * <;> omega) | (exact l19Ask_impM (by assumption)) | (exact l19Ask_impC (by assumption)) | (exact l19Ask_impS (by assumption)) | (exact l19Ask_impL (by assumption)) | ((have hx1 := l19Ask_impM (m := m_) (arr := arrivals) (blocked := blocked) (c := c_) (start := start) (by assumption); have hx2 := l19Ask_impC (m := m_) (arr := arrivals) (blocked := blocked) (c := c_) (start := start) (by assumption); have hx3 := l19Ask_impS (m := m_) (arr := arrivals) (blocked := blocked) (c := c_) (start := start) (by assumption); have hxJ := hx1.1; have hxC := hx2.2; have hxT := rtL (arr := arrivals) (blocked := blocked) hx1 hx2 hx3; first | exact rtE hx1 hx2 hx3 (by assumption) | (have hy := rtS hx1 hx2 hx3 (by assumption) (by assumption); have hz := hy.1.1; first | omega | exact hy | exact Nat.lt_succ_of_le (rank_le _ _ _)) | exact way_start hx1 hx2 hx3 (by assumption) (by assumption) | exact way_next (by assumption) (by assumption) | (have hw : WayOn m_ arrivals blocked c_ start x1.1 x2 := (by assumption); have hv := hw.1; have hI : RtI (m_spec_l19Times m_ arrivals blocked c_ start) m_.Junctions x1.2.length x1.1 := (by assumption); have hI1 := hI.1.1; have hI2 := hI.2; first | omega | (simp only [List.length_append, List.length_cons, List.length_nil] at *; omega) | (have hq := way_end hx1 hx2 hx3 hI hv (by assumption); first | exact hq.2 | (have hq1 := hq.1; simp only [List.length_append, List.length_cons, List.length_nil]; rw [Nat.add_comm]; exact hq1))) | (have hI : RtI (m_spec_l19Times m_ arrivals blocked c_ start) m_.Junctions x1.2.length x1.1 := (by assumption); have hI1 := hI.1.1; have hI2 := hI.2; first | omega | (simp only [List.length_append, List.length_cons, List.length_nil] at *; omega) | (have hq := way_end (arr := arrivals) (blocked := blocked) (x := x2) hx1 hx2 hx3 hI (by omega) (by assumption); first | exact hq.2 | (have hq1 := hq.1; simp only [List.length_append, List.length_cons, List.length_nil]; rw [Nat.add_comm]; exact hq1))))))) rfl (fun _ => rfl) rfl <|
          q_assign .n (.t rfl) rfl <|
          Lex.nil) ?_
      refine run_seq ?_
      refine run_seq ?_
      refine run_region (q_move .n (.t rfl) rfl <|
          q_int .n (.t rfl) (.c rfl) rfl rfl <|
          Lex.nil) ?_
      refine run_cond (.t rfl) rfl (fun h6 => ?_) (fun h6 => ?_)
      · try simp only [Bool.and_eq_true, Bool.or_eq_true, Bool.not_eq_true', Bool.and_eq_false_iff, Bool.or_eq_false_iff, Bool.not_eq_false', decide_eq_true_eq, decide_eq_false_iff_not, beq_iff_eq, bne_iff_ne, beq_eq_false_iff_ne, bne_eq_false_iff_eq, Bool.true_and, ne_eq, Decidable.not_not, Int.not_lt, Int.not_le, Nat.not_lt, Nat.not_le, strB_nil, strB_nil', strB_nnil, strB_nnil'] at h6
        refine run_seq ?_
        refine run_region (q_assign .n (.c rfl) rfl <|
            q_assign .n (.c rfl) rfl <|
            q_assign .n (.c rfl) rfl <|
            Lex.nil) ?_
        refine run_sub (sub_adopt (t := 12) (l := 205) (el := 2) (sz := 1) rfl rfl) ?_
        exact run_ret [(100, 205)] (.cons (.t rfl rfl) (.cons (.t rfl rfl) (.cons (.t rfl rfl) .nil))) (by first | rfl | (simp only [put_len]; rfl)) ⟨rfl, trivial⟩ rfl
      · try simp only [Bool.and_eq_true, Bool.or_eq_true, Bool.not_eq_true', Bool.and_eq_false_iff, Bool.or_eq_false_iff, Bool.not_eq_false', decide_eq_true_eq, decide_eq_false_iff_not, beq_iff_eq, bne_iff_ne, beq_eq_false_iff_ne, bne_eq_false_iff_eq, Bool.true_and, ne_eq, Decidable.not_not, Int.not_lt, Int.not_le, Nat.not_lt, Nat.not_le, strB_nil, strB_nil', strB_nnil, strB_nnil'] at h6
        refine run_skip ?_
        refine run_seq ?_
        refine run_region (q_move .n (.t rfl) rfl <|
            q_move .n (.t rfl) rfl <|
            q_idx_ow .n (.t rfl) (.t rfl) sl_25 (fun _ => by first | omega | assumption | (simp only [List.length_append, List.length_cons, List.length_nil, List.length_replicate, put_len] at * <;> omega) | (exact l19Ask_impM (by assumption)) | (exact l19Ask_impC (by assumption)) | (exact l19Ask_impS (by assumption)) | (exact l19Ask_impL (by assumption)) | ((have hx1 := l19Ask_impM (m := m_) (arr := arrivals) (blocked := blocked) (c := c_) (start := start) (by assumption); have hx2 := l19Ask_impC (m := m_) (arr := arrivals) (blocked := blocked) (c := c_) (start := start) (by assumption); have hx3 := l19Ask_impS (m := m_) (arr := arrivals) (blocked := blocked) (c := c_) (start := start) (by assumption); have hxJ := hx1.1; have hxC := hx2.2; have hxT := rtL (arr := arrivals) (blocked := blocked) hx1 hx2 hx3; first | exact rtE hx1 hx2 hx3 (by assumption) | (have hy := rtS hx1 hx2 hx3 (by assumption) (by assumption); have hz := hy.1.1; first | omega | exact hy | exact Nat.lt_succ_of_le (rank_le _ _ _)) | exact way_start hx1 hx2 hx3 (by assumption) (by assumption) | exact way_next (by assumption) (by assumption) | (have hw : WayOn m_ arrivals blocked c_ start x1.1 x2 := (by assumption); have hv := hw.1; have hI : RtI (m_spec_l19Times m_ arrivals blocked c_ start) m_.Junctions x1.2.length x1.1 := (by assumption); have hI1 := hI.1.1; have hI2 := hI.2; first | omega | (simp only [List.length_append, List.length_cons, List.length_nil] at *; omega) | (have hq := way_end hx1 hx2 hx3 hI hv (by assumption); first | exact hq.2 | (have hq1 := hq.1; simp only [List.length_append, List.length_cons, List.length_nil]; rw [Nat.add_comm]; exact hq1))) | (have hI : RtI (m_spec_l19Times m_ arrivals blocked c_ start) m_.Junctions x1.2.length x1.1 := (by assumption); have hI1 := hI.1.1; have hI2 := hI.2; first | omega | (simp only [List.length_append, List.length_cons, List.length_nil] at *; omega) | (have hq := way_end (arr := arrivals) (blocked := blocked) (x := x2) hx1 hx2 hx3 hI (by omega) (by assumption); first | exact hq.2 | (have hq1 := hq.1; simp only [List.length_append, List.length_cons, List.length_nil]; rw [Nat.add_comm]; exact hq1)))))) rfl <|
            q_ld1_row .n (.t rfl) rfl (fun _ => by first | omega | assumption | (simp only [List.length_append, List.length_cons, List.length_nil, List.length_replicate, put_len] at * <;> omega) | (exact l19Ask_impM (by assumption)) | (exact l19Ask_impC (by assumption)) | (exact l19Ask_impS (by assumption)) | (exact l19Ask_impL (by assumption)) | ((have hx1 := l19Ask_impM (m := m_) (arr := arrivals) (blocked := blocked) (c := c_) (start := start) (by assumption); have hx2 := l19Ask_impC (m := m_) (arr := arrivals) (blocked := blocked) (c := c_) (start := start) (by assumption); have hx3 := l19Ask_impS (m := m_) (arr := arrivals) (blocked := blocked) (c := c_) (start := start) (by assumption); have hxJ := hx1.1; have hxC := hx2.2; have hxT := rtL (arr := arrivals) (blocked := blocked) hx1 hx2 hx3; first | exact rtE hx1 hx2 hx3 (by assumption) | (have hy := rtS hx1 hx2 hx3 (by assumption) (by assumption); have hz := hy.1.1; first | omega | exact hy | exact Nat.lt_succ_of_le (rank_le _ _ _)) | exact way_start hx1 hx2 hx3 (by assumption) (by assumption) | exact way_next (by assumption) (by assumption) | (have hw : WayOn m_ arrivals blocked c_ start x1.1 x2 := (by assumption); have hv := hw.1; have hI : RtI (m_spec_l19Times m_ arrivals blocked c_ start) m_.Junctions x1.2.length x1.1 := (by assumption); have hI1 := hI.1.1; have hI2 := hI.2; first | omega | (simp only [List.length_append, List.length_cons, List.length_nil] at *; omega) | (have hq := way_end hx1 hx2 hx3 hI hv (by assumption); first | exact hq.2 | (have hq1 := hq.1; simp only [List.length_append, List.length_cons, List.length_nil]; rw [Nat.add_comm]; exact hq1))) | (have hI : RtI (m_spec_l19Times m_ arrivals blocked c_ start) m_.Junctions x1.2.length x1.1 := (by assumption); have hI1 := hI.1.1; have hI2 := hI.2; first | omega | (simp only [List.length_append, List.length_cons, List.length_nil] at *; omega) | (have hq := way_end (arr := arrivals) (blocked := blocked) (x := x2) hx1 hx2 hx3 hI (by omega) (by assumption); first | exact hq.2 | (have hq1 := hq.1; simp only [List.length_append, List.length_cons, List.length_nil]; rw [Nat.add_comm]; exact hq1)))))) rfl rfl rfl ic_2 rfl <|
            q_assign .n (.t rfl) rfl <|
            Lex.nil) ?_
        refine run_seq ?_
        refine run_region (q_move .n (.t rfl) rfl <|
            q_bslicem ([m_spec_l19Exit (m_spec_l19Times m_ arrivals blocked c_ start) exits] : List Int) (f := V.int .i64) (l := 206) .n rfl rfl (.cons (.t rfl) .nil) rfl si_25 zv_2 rfl rfl rfl <|
            q_assign .n (.t rfl) rfl <|
            Lex.nil) ?_
        refine run_seq ?_
        refine run_block ?_
        refine run_LOOP (m_spec_EscapeRoute_b1 m_ arrivals blocked c_ start exits) _ _ _ rfl (fun (x1 : Int × (List Int)) => RtI (m_spec_l19Times m_ arrivals blocked c_ start) m_.Junctions x1.2.length x1.1) (fun x1 => RtI (m_spec_l19Times m_ arrivals blocked c_ start) m_.Junctions x1.2.length x1.1) (fun x1 => rank (m_spec_l19Times m_ arrivals blocked c_ start) m_.Junctions x1.1) (fun x1 => ⟨[(2, some (true, .int .i64 blocked)), (6, some (true, .op 200 0 0 0)), (9, some (true, .op 201 0 0 0)), (16, some (true, .os 204 (m_spec_l19Times m_ arrivals blocked c_ start).length)), (17, some (true, .int .i64 x1.1)), (18, some (true, .int .i64 (at' (m_spec_l19Times m_ arrivals blocked c_ start) (m_spec_l19Exit (m_spec_l19Times m_ arrivals blocked c_ start) exits)))), (19, some (true, .os 206 x1.2.length))], [(200, some (.box 34 [.int .i64 m_.Junctions, .sl 7 (m_.Airways.map gAirway.v)])), (201, some (.box 37 [.str c_.Id, .int .i64 c_.Junction, .int .i64 c_.Speed])), (204, some (.row 2 1 ((m_spec_l19Times m_ arrivals blocked c_ start).map (V.int .i64)))), (206, some (.row 2 1 (x1.2.map (V.int .i64))))]⟩) (fun x1 => ⟨[(18, some (true, .int .i64 (at' (m_spec_l19Times m_ arrivals blocked c_ start) (m_spec_l19Exit (m_spec_l19Times m_ arrivals blocked c_ start) exits)))), (19, some (true, .os 206 x1.2.length))], [(206, some (.row 2 1 (x1.2.map (V.int .i64))))]⟩) (by first | omega | assumption | (simp only [List.length_append, List.length_cons, List.length_nil, List.length_replicate, put_len] at * <;> omega) | (exact l19Ask_impM (by assumption)) | (exact l19Ask_impC (by assumption)) | (exact l19Ask_impS (by assumption)) | (exact l19Ask_impL (by assumption)) | ((have hx1 := l19Ask_impM (m := m_) (arr := arrivals) (blocked := blocked) (c := c_) (start := start) (by assumption); have hx2 := l19Ask_impC (m := m_) (arr := arrivals) (blocked := blocked) (c := c_) (start := start) (by assumption); have hx3 := l19Ask_impS (m := m_) (arr := arrivals) (blocked := blocked) (c := c_) (start := start) (by assumption); have hxJ := hx1.1; have hxC := hx2.2; have hxT := rtL (arr := arrivals) (blocked := blocked) hx1 hx2 hx3; first | exact rtE hx1 hx2 hx3 (by assumption) | (have hy := rtS hx1 hx2 hx3 (by assumption) (by assumption); have hz := hy.1.1; first | omega | exact hy | exact Nat.lt_succ_of_le (rank_le _ _ _)) | exact way_start hx1 hx2 hx3 (by assumption) (by assumption) | exact way_next (by assumption) (by assumption) | (have hw : WayOn m_ arrivals blocked c_ start x1.1 x2 := (by assumption); have hv := hw.1; have hI : RtI (m_spec_l19Times m_ arrivals blocked c_ start) m_.Junctions x1.2.length x1.1 := (by assumption); have hI1 := hI.1.1; have hI2 := hI.2; first | omega | (simp only [List.length_append, List.length_cons, List.length_nil] at *; omega) | (have hq := way_end hx1 hx2 hx3 hI hv (by assumption); first | exact hq.2 | (have hq1 := hq.1; simp only [List.length_append, List.length_cons, List.length_nil]; rw [Nat.add_comm]; exact hq1))) | (have hI : RtI (m_spec_l19Times m_ arrivals blocked c_ start) m_.Junctions x1.2.length x1.1 := (by assumption); have hI1 := hI.1.1; have hI2 := hI.2; first | omega | (simp only [List.length_append, List.length_cons, List.length_nil] at *; omega) | (have hq := way_end (arr := arrivals) (blocked := blocked) (x := x2) hx1 hx2 hx3 hI (by omega) (by assumption); first | exact hq.2 | (have hq1 := hq.1; simp only [List.length_append, List.length_cons, List.length_nil]; rw [Nat.add_comm]; exact hq1)))))) (by first | omega | assumption | (simp only [List.length_append, List.length_cons, List.length_nil, List.length_replicate, put_len] at * <;> omega) | (exact l19Ask_impM (by assumption)) | (exact l19Ask_impC (by assumption)) | (exact l19Ask_impS (by assumption)) | (exact l19Ask_impL (by assumption)) | ((have hx1 := l19Ask_impM (m := m_) (arr := arrivals) (blocked := blocked) (c := c_) (start := start) (by assumption); have hx2 := l19Ask_impC (m := m_) (arr := arrivals) (blocked := blocked) (c := c_) (start := start) (by assumption); have hx3 := l19Ask_impS (m := m_) (arr := arrivals) (blocked := blocked) (c := c_) (start := start) (by assumption); have hxJ := hx1.1; have hxC := hx2.2; have hxT := rtL (arr := arrivals) (blocked := blocked) hx1 hx2 hx3; first | exact rtE hx1 hx2 hx3 (by assumption) | (have hy := rtS hx1 hx2 hx3 (by assumption) (by assumption); have hz := hy.1.1; first | omega | exact hy | exact Nat.lt_succ_of_le (rank_le _ _ _)) | exact way_start hx1 hx2 hx3 (by assumption) (by assumption) | exact way_next (by assumption) (by assumption) | (have hw : WayOn m_ arrivals blocked c_ start x1.1 x2 := (by assumption); have hv := hw.1; have hI : RtI (m_spec_l19Times m_ arrivals blocked c_ start) m_.Junctions x1.2.length x1.1 := (by assumption); have hI1 := hI.1.1; have hI2 := hI.2; first | omega | (simp only [List.length_append, List.length_cons, List.length_nil] at *; omega) | (have hq := way_end hx1 hx2 hx3 hI hv (by assumption); first | exact hq.2 | (have hq1 := hq.1; simp only [List.length_append, List.length_cons, List.length_nil]; rw [Nat.add_comm]; exact hq1))) | (have hI : RtI (m_spec_l19Times m_ arrivals blocked c_ start) m_.Junctions x1.2.length x1.1 := (by assumption); have hI1 := hI.1.1; have hI2 := hI.2; first | omega | (simp only [List.length_append, List.length_cons, List.length_nil] at *; omega) | (have hq := way_end (arr := arrivals) (blocked := blocked) (x := x2) hx1 hx2 hx3 hI (by omega) (by assumption); first | exact hq.2 | (have hq1 := hq.1; simp only [List.length_append, List.length_cons, List.length_nil]; rw [Nat.add_comm]; exact hq1)))))) (sub_of [] ⟨rfl, rfl, rfl, rfl, rfl, rfl, rfl, trivial⟩ ⟨rfl, rfl, rfl, rfl, trivial⟩ rfl) ?_ ?_
        · intro x1 i18
          have e19 := i18
          try dsimp only at *
          refine run_seq ?_
          refine run_region (q_move .n (.t rfl) rfl <|
              q_move .n (.t rfl) rfl <|
              q_assign .n (.t rfl) rfl <|
              q_assign .n (.t rfl) rfl <|
              q_assign .n (.c rfl) rfl <|
              Lex.nil) ?_
          exact run_ret [(100, 206)] (.cons (.t rfl rfl) (.cons (.t rfl rfl) (.cons (.t rfl rfl) .nil))) (by first | rfl | (simp only [put_len]; rfl)) ⟨rfl, trivial⟩ rfl
        · intro rec1 k1 hk7 x1 i8
          have e20 := i8
          try dsimp only at *
          refine run_seq ?_
          refine run_seq ?_
          refine run_region (q_move .n (.t rfl) rfl <|
              q_fld_ow .n (.t rfl) fo_37_1 rfl <|
              q_ld1_ow .n (.t rfl) rfl (.inr rfl) (fun _ => rfl) rfl ic_2 rfl <|
              q_int .n (.t rfl) (.t rfl) rfl rfl <|
              Lex.nil) ?_
          refine run_cond (.t rfl) rfl (fun h9 => ?_) (fun h9 => ?_)
          · try simp only [Bool.and_eq_true, Bool.or_eq_true, Bool.not_eq_true', Bool.and_eq_false_iff, Bool.or_eq_false_iff, Bool.not_eq_false', decide_eq_true_eq, decide_eq_false_iff_not, beq_iff_eq, bne_iff_ne, beq_eq_false_iff_ne, bne_eq_false_iff_eq, Bool.true_and, ne_eq, Decidable.not_not, Int.not_lt, Int.not_le, Nat.not_lt, Nat.not_le, strB_nil, strB_nil', strB_nnil, strB_nnil'] at h9
            refine run_skip ?_
            refine run_block ?_
            refine run_seq ?_
            refine run_region (q_assign .n (.c rfl) rfl <|
                Lex.nil) ?_
            refine run_seq ?_
            refine run_block ?_
            refine run_LOOP (m_spec_EscapeRoute_b2 m_ arrivals blocked c_ start exits rec1 k1 x1) _ _ _ rfl (fun (x2 : Int) => 0 ≤ x2 ∧ WayOn m_ arrivals blocked c_ start x1.1 x2) (fun x2 => (0 ≤ x2 ∧ x2 < m_.Junctions) ∧ ((0 ≤ m_spec_l19Step m_ blocked c_.Speed x2 x1.1 ∧ 0 ≤ at' (m_spec_l19Times m_ arrivals blocked c_ start) x2) ∧ IntKind.wrap .i64 (at' (m_spec_l19Times m_ arrivals blocked c_ start) x2 + m_spec_l19Step m_ blocked c_.Speed x2 x1.1) = at' (m_spec_l19Times m_ arrivals blocked c_ start) x1.1)) (fun x2 => (m_.Junctions - x2 : Int).toNat) (fun x2 => ⟨[(2, some (true, .int .i64 blocked)), (6, some (true, .op 200 0 0 0)), (9, some (true, .op 201 0 0 0)), (16, some (true, .os 204 (m_spec_l19Times m_ arrivals blocked c_ start).length)), (17, some (true, .int .i64 x1.1)), (18, some (true, .int .i64 (at' (m_spec_l19Times m_ arrivals blocked c_ start) (m_spec_l19Exit (m_spec_l19Times m_ arrivals blocked c_ start) exits)))), (19, some (true, .os 206 x1.2.length)), (20, some (true, .int .i64 x2))], [(200, some (.box 34 [.int .i64 m_.Junctions, .sl 7 (m_.Airways.map gAirway.v)])), (201, some (.box 37 [.str c_.Id, .int .i64 c_.Junction, .int .i64 c_.Speed])), (204, some (.row 2 1 ((m_spec_l19Times m_ arrivals blocked c_ start).map (V.int .i64)))), (206, some (.row 2 1 (x1.2.map (V.int .i64))))]⟩) (fun x2 => ⟨[(2, some (true, .int .i64 blocked)), (6, some (true, .op 200 0 0 0)), (9, some (true, .op 201 0 0 0)), (16, some (true, .os 204 (m_spec_l19Times m_ arrivals blocked c_ start).length)), (18, some (true, .int .i64 (at' (m_spec_l19Times m_ arrivals blocked c_ start) (m_spec_l19Exit (m_spec_l19Times m_ arrivals blocked c_ start) exits)))), (19, some (true, .os 206 x1.2.length)), (20, some (true, .int .i64 x2))], [(200, some (.box 34 [.int .i64 m_.Junctions, .sl 7 (m_.Airways.map gAirway.v)])), (201, some (.box 37 [.str c_.Id, .int .i64 c_.Junction, .int .i64 c_.Speed])), (204, some (.row 2 1 ((m_spec_l19Times m_ arrivals blocked c_ start).map (V.int .i64)))), (206, some (.row 2 1 (x1.2.map (V.int .i64))))]⟩) ⟨by first | omega | assumption | (simp only [List.length_append, List.length_cons, List.length_nil, List.length_replicate, put_len] at * <;> omega) | (exact l19Ask_impM (by assumption)) | (exact l19Ask_impC (by assumption)) | (exact l19Ask_impS (by assumption)) | (exact l19Ask_impL (by assumption)) | ((have hx1 := l19Ask_impM (m := m_) (arr := arrivals) (blocked := blocked) (c := c_) (start := start) (by assumption); have hx2 := l19Ask_impC (m := m_) (arr := arrivals) (blocked := blocked) (c := c_) (start := start) (by assumption); have hx3 := l19Ask_impS (m := m_) (arr := arrivals) (blocked := blocked) (c := c_) (start := start) (by assumption); have hxJ := hx1.1; have hxC := hx2.2; have hxT := rtL (arr := arrivals) (blocked := blocked) hx1 hx2 hx3; first | exact rtE hx1 hx2 hx3 (by assumption) | (have hy := rtS hx1 hx2 hx3 (by assumption) (by assumption); have hz := hy.1.1; first | omega | exact hy | exact Nat.lt_succ_of_le (rank_le _ _ _)) | exact way_start hx1 hx2 hx3 (by assumption) (by assumption) | exact way_next (by assumption) (by assumption) | (have hw : WayOn m_ arrivals blocked c_ start x1.1 x2 := (by assumption); have hv := hw.1; have hI : RtI (m_spec_l19Times m_ arrivals blocked c_ start) m_.Junctions x1.2.length x1.1 := (by assumption); have hI1 := hI.1.1; have hI2 := hI.2; first | omega | (simp only [List.length_append, List.length_cons, List.length_nil] at *; omega) | (have hq := way_end hx1 hx2 hx3 hI hv (by assumption); first | exact hq.2 | (have hq1 := hq.1; simp only [List.length_append, List.length_cons, List.length_nil]; rw [Nat.add_comm]; exact hq1))) | (have hI : RtI (m_spec_l19Times m_ arrivals blocked c_ start) m_.Junctions x1.2.length x1.1 := (by assumption); have hI1 := hI.1.1; have hI2 := hI.2; first | omega | (simp only [List.length_append, List.length_cons, List.length_nil] at *; omega) | (have hq := way_end (arr := arrivals) (blocked := blocked) (x := x2) hx1 hx2 hx3 hI (by omega) (by assumption); first | exact hq.2 | (have hq1 := hq.1; simp only [List.length_append, List.length_cons, List.length_nil]; rw [Nat.add_comm]; exact hq1))))), by first | omega | assumption | (simp only [List.length_append, List.length_cons, List.length_nil, List.length_replicate, put_len] at * <;> omega) | (exact l19Ask_impM (by assumption)) | (exact l19Ask_impC (by assumption)) | (exact l19Ask_impS (by assumption)) | (exact l19Ask_impL (by assumption)) | ((have hx1 := l19Ask_impM (m := m_) (arr := arrivals) (blocked := blocked) (c := c_) (start := start) (by assumption); have hx2 := l19Ask_impC (m := m_) (arr := arrivals) (blocked := blocked) (c := c_) (start := start) (by assumption); have hx3 := l19Ask_impS (m := m_) (arr := arrivals) (blocked := blocked) (c := c_) (start := start) (by assumption); have hxJ := hx1.1; have hxC := hx2.2; have hxT := rtL (arr := arrivals) (blocked := blocked) hx1 hx2 hx3; first | exact rtE hx1 hx2 hx3 (by assumption) | (have hy := rtS hx1 hx2 hx3 (by assumption) (by assumption); have hz := hy.1.1; first | omega | exact hy | exact Nat.lt_succ_of_le (rank_le _ _ _)) | exact way_start hx1 hx2 hx3 (by assumption) (by assumption) | exact way_next (by assumption) (by assumption) | (have hw : WayOn m_ arrivals blocked c_ start x1.1 x2 := (by assumption); have hv := hw.1; have hI : RtI (m_spec_l19Times m_ arrivals blocked c_ start) m_.Junctions x1.2.length x1.1 := (by assumption); have hI1 := hI.1.1; have hI2 := hI.2; first | omega | (simp only [List.length_append, List.length_cons, List.length_nil] at *; omega) | (have hq := way_end hx1 hx2 hx3 hI hv (by assumption); first | exact hq.2 | (have hq1 := hq.1; simp only [List.length_append, List.length_cons, List.length_nil]; rw [Nat.add_comm]; exact hq1))) | (have hI : RtI (m_spec_l19Times m_ arrivals blocked c_ start) m_.Junctions x1.2.length x1.1 := (by assumption); have hI1 := hI.1.1; have hI2 := hI.2; first | omega | (simp only [List.length_append, List.length_cons, List.length_nil] at *; omega) | (have hq := way_end (arr := arrivals) (blocked := blocked) (x := x2) hx1 hx2 hx3 hI (by omega) (by assumption); first | exact hq.2 | (have hq1 := hq.1; simp only [List.length_append, List.length_cons, List.length_nil]; rw [Nat.add_comm]; exact hq1)))))⟩ (by first | omega | assumption | (simp only [List.length_append, List.length_cons, List.length_nil, List.length_replicate, put_len] at * <;> omega) | (exact l19Ask_impM (by assumption)) | (exact l19Ask_impC (by assumption)) | (exact l19Ask_impS (by assumption)) | (exact l19Ask_impL (by assumption)) | ((have hx1 := l19Ask_impM (m := m_) (arr := arrivals) (blocked := blocked) (c := c_) (start := start) (by assumption); have hx2 := l19Ask_impC (m := m_) (arr := arrivals) (blocked := blocked) (c := c_) (start := start) (by assumption); have hx3 := l19Ask_impS (m := m_) (arr := arrivals) (blocked := blocked) (c := c_) (start := start) (by assumption); have hxJ := hx1.1; have hxC := hx2.2; have hxT := rtL (arr := arrivals) (blocked := blocked) hx1 hx2 hx3; first | exact rtE hx1 hx2 hx3 (by assumption) | (have hy := rtS hx1 hx2 hx3 (by assumption) (by assumption); have hz := hy.1.1; first | omega | exact hy | exact Nat.lt_succ_of_le (rank_le _ _ _)) | exact way_start hx1 hx2 hx3 (by assumption) (by assumption) | exact way_next (by assumption) (by assumption) | (have hw : WayOn m_ arrivals blocked c_ start x1.1 x2 := (by assumption); have hv := hw.1; have hI : RtI (m_spec_l19Times m_ arrivals blocked c_ start) m_.Junctions x1.2.length x1.1 := (by assumption); have hI1 := hI.1.1; have hI2 := hI.2; first | omega | (simp only [List.length_append, List.length_cons, List.length_nil] at *; omega) | (have hq := way_end hx1 hx2 hx3 hI hv (by assumption); first | exact hq.2 | (have hq1 := hq.1; simp only [List.length_append, List.length_cons, List.length_nil]; rw [Nat.add_comm]; exact hq1))) | (have hI : RtI (m_spec_l19Times m_ arrivals blocked c_ start) m_.Junctions x1.2.length x1.1 := (by assumption); have hI1 := hI.1.1; have hI2 := hI.2; first | omega | (simp only [List.length_append, List.length_cons, List.length_nil] at *; omega) | (have hq := way_end (arr := arrivals) (blocked := blocked) (x := x2) hx1 hx2 hx3 hI (by omega) (by assumption); first | exact hq.2 | (have hq1 := hq.1; simp only [List.length_append, List.length_cons, List.length_nil]; rw [Nat.add_comm]; exact hq1)))))) (sub_of [] ⟨rfl, rfl, rfl, rfl, rfl, rfl, rfl, rfl, trivial⟩ ⟨rfl, rfl, rfl, rfl, trivial⟩ rfl) ?_ ?_
            · intro x2 i13
              obtain ⟨e14, e15⟩ := i13
              try dsimp only at *
              refine run_seq ?_
              refine run_region (q_move .n (.t rfl) rfl <|
                  q_assign .n (.t rfl) rfl <|
                  Lex.nil) ?_
              refine run_region (q_move .n (.t rfl) rfl <|
                  q_bslicem ([x2] : List Int) (f := V.int .i64) (l := 207) .n rfl rfl (.cons (.t rfl) .nil) rfl si_25 zv_2 rfl rfl rfl <|
                  q_move .n (.t rfl) rfl <|
                  q_appm (xs := ([x2] : List Int)) (ys := x1.2) (f := V.int .i64) (l := 208) .n rfl (.ow (.t rfl) rfl (take_all (by simp only [len_map, put_len])) (by simp only [len_map, put_len])) (.ow (.t rfl) rfl (take_all (by simp only [len_map, put_len])) (by simp only [len_map, put_len])) si_25 zv_2 rfl (by first | omega | assumption | (simp only [List.length_append, List.length_cons, List.length_nil, List.length_replicate, put_len] at * <;> omega) | (exact l19Ask_impM (by assumption)) | (exact l19Ask_impC (by assumption)) | (exact l19Ask_impS (by assumption)) | (exact l19Ask_impL (by assumption)) | ((have hx1 := l19Ask_impM (m := m_) (arr := arrivals) (blocked := blocked) (c := c_) (start := start) (by assumption); have hx2 := l19Ask_impC (m := m_) (arr := arrivals) (blocked := blocked) (c := c_) (start := start) (by assumption); have hx3 := l19Ask_impS (m := m_) (arr := arrivals) (blocked := blocked) (c := c_) (start := start) (by assumption); have hxJ := hx1.1; have hxC := hx2.2; have hxT := rtL (arr := arrivals) (blocked := blocked) hx1 hx2 hx3; first | exact rtE hx1 hx2 hx3 (by assumption) | (have hy := rtS hx1 hx2 hx3 (by assumption) (by assumption); have hz := hy.1.1; first | omega | exact hy | exact Nat.lt_succ_of_le (rank_le _ _ _)) | exact way_start hx1 hx2 hx3 (by assumption) (by assumption) | exact way_next (by assumption) (by assumption) | (have hw : WayOn m_ arrivals blocked c_ start x1.1 x2 := (by assumption); have hv := hw.1; have hI : RtI (m_spec_l19Times m_ arrivals blocked c_ start) m_.Junctions x1.2.length x1.1 := (by assumption); have hI1 := hI.1.1; have hI2 := hI.2; first | omega | (simp only [List.length_append, List.length_cons, List.length_nil] at *; omega) | (have hq := way_end hx1 hx2 hx3 hI hv (by assumption); first | exact hq.2 | (have hq1 := hq.1; simp only [List.length_append, List.length_cons, List.length_nil]; rw [Nat.add_comm]; exact hq1))) | (have hI : RtI (m_spec_l19Times m_ arrivals blocked c_ start) m_.Junctions x1.2.length x1.1 := (by assumption); have hI1 := hI.1.1; have hI2 := hI.2; first | omega | (simp only [List.length_append, List.length_cons, List.length_nil] at *; omega) | (have hq := way_end (arr := arrivals) (blocked := blocked) (x := x2) hx1 hx2 hx3 hI (by omega) (by assumption); first | exact hq.2 | (have hq1 := hq.1; simp only [List.length_append, List.length_cons, List.length_nil]; rw [Nat.add_comm]; exact hq1)))))) rfl rfl <|
                  q_assign .n (.t rfl) rfl <|
                  Lex.nil) ?_
              refine run_endB ?_
              exact run_again (x2, ([x2] : List Int) ++ x1.2) (by first | omega | assumption | (simp only [List.length_append, List.length_cons, List.length_nil, List.length_replicate, put_len] at * <;> omega) | (exact l19Ask_impM (by assumption)) | (exact l19Ask_impC (by assumption)) | (exact l19Ask_impS (by assumption)) | (exact l19Ask_impL (by assumption)) | ((have hx1 := l19Ask_impM (m := m_) (arr := arrivals) (blocked := blocked) (c := c_) (start := start) (by assumption); have hx2 := l19Ask_impC (m := m_) (arr := arrivals) (blocked := blocked) (c := c_) (start := start) (by assumption); have hx3 := l19Ask_impS (m := m_) (arr := arrivals) (blocked := blocked) (c := c_) (start := start) (by assumption); have hxJ := hx1.1; have hxC := hx2.2; have hxT := rtL (arr := arrivals) (blocked := blocked) hx1 hx2 hx3; first | exact rtE hx1 hx2 hx3 (by assumption) | (have hy := rtS hx1 hx2 hx3 (by assumption) (by assumption); have hz := hy.1.1; first | omega | exact hy | exact Nat.lt_succ_of_le (rank_le _ _ _)) | exact way_start hx1 hx2 hx3 (by assumption) (by assumption) | exact way_next (by assumption) (by assumption) | (have hw : WayOn m_ arrivals blocked c_ start x1.1 x2 := (by assumption); have hv := hw.1; have hI : RtI (m_spec_l19Times m_ arrivals blocked c_ start) m_.Junctions x1.2.length x1.1 := (by assumption); have hI1 := hI.1.1; have hI2 := hI.2; first | omega | (simp only [List.length_append, List.length_cons, List.length_nil] at *; omega) | (have hq := way_end hx1 hx2 hx3 hI hv (by assumption); first | exact hq.2 | (have hq1 := hq.1; simp only [List.length_append, List.length_cons, List.length_nil]; rw [Nat.add_comm]; exact hq1))) | (have hI : RtI (m_spec_l19Times m_ arrivals blocked c_ start) m_.Junctions x1.2.length x1.1 := (by assumption); have hI1 := hI.1.1; have hI2 := hI.2; first | omega | (simp only [List.length_append, List.length_cons, List.length_nil] at *; omega) | (have hq := way_end (arr := arrivals) (blocked := blocked) (x := x2) hx1 hx2 hx3 hI (by omega) (by assumption); first | exact hq.2 | (have hq1 := hq.1; simp only [List.length_append, List.length_cons, List.length_nil]; rw [Nat.add_comm]; exact hq1)))))) (by first | omega | assumption | (simp only [List.length_append, List.length_cons, List.length_nil, List.length_replicate, put_len] at * <;> omega) | (exact l19Ask_impM (by assumption)) | (exact l19Ask_impC (by assumption)) | (exact l19Ask_impS (by assumption)) | (exact l19Ask_impL (by assumption)) | ((have hx1 := l19Ask_impM (m := m_) (arr := arrivals) (blocked := blocked) (c := c_) (start := start) (by assumption); have hx2 := l19Ask_impC (m := m_) (arr := arrivals) (blocked := blocked) (c := c_) (start := start) (by assumption); have hx3 := l19Ask_impS (m := m_) (arr := arrivals) (blocked := blocked) (c := c_) (start := start) (by assumption); have hxJ := hx1.1; have hxC := hx2.2; have hxT := rtL (arr := arrivals) (blocked := blocked) hx1 hx2 hx3; first | exact rtE hx1 hx2 hx3 (by assumption) | (have hy := rtS hx1 hx2 hx3 (by assumption) (by assumption); have hz := hy.1.1; first | omega | exact hy | exact Nat.lt_succ_of_le (rank_le _ _ _)) | exact way_start hx1 hx2 hx3 (by assumption) (by assumption) | exact way_next (by assumption) (by assumption) | (have hw : WayOn m_ arrivals blocked c_ start x1.1 x2 := (by assumption); have hv := hw.1; have hI : RtI (m_spec_l19Times m_ arrivals blocked c_ start) m_.Junctions x1.2.length x1.1 := (by assumption); have hI1 := hI.1.1; have hI2 := hI.2; first | omega | (simp only [List.length_append, List.length_cons, List.length_nil] at *; omega) | (have hq := way_end hx1 hx2 hx3 hI hv (by assumption); first | exact hq.2 | (have hq1 := hq.1; simp only [List.length_append, List.length_cons, List.length_nil]; rw [Nat.add_comm]; exact hq1))) | (have hI : RtI (m_spec_l19Times m_ arrivals blocked c_ start) m_.Junctions x1.2.length x1.1 := (by assumption); have hI1 := hI.1.1; have hI2 := hI.2; first | omega | (simp only [List.length_append, List.length_cons, List.length_nil] at *; omega) | (have hq := way_end (arr := arrivals) (blocked := blocked) (x := x2) hx1 hx2 hx3 hI (by omega) (by assumption); first | exact hq.2 | (have hq1 := hq.1; simp only [List.length_append, List.length_cons, List.length_nil]; rw [Nat.add_comm]; exact hq1)))))) (sub_of [(206, 208)] ⟨rfl, rfl, rfl, rfl, rfl, rfl, rfl, trivial⟩ ⟨rfl, rfl, rfl, rfl, trivial⟩ rfl)
            · intro rec2 k2 hk10 x2 i11
              obtain ⟨e16, e17⟩ := i11
              try dsimp only at *
              refine run_block ?_
              refine run_seq ?_
              refine run_region (q_move .n (.t rfl) rfl <|
                  q_fld_ow .n (.t rfl) fo_37_2 rfl <|
                  q_ld1_ow .n (.t rfl) rfl (.inr rfl) (fun _ => rfl) rfl ic_2 rfl <|
                  q_move .n (.t rfl) rfl <|
                  q_move .n (.t rfl) rfl <|
                  q_call0 (full := true) .n .f en_68 (.cons (.t rfl) (.cons (.t rfl) (.cons (.t rfl) (.cons (.t rfl) (.cons (.t rfl) .nil))))) (.cons (.b (.ptr rfl rfl (.inr rfl) rfl rfl (.cons (.same rfl) (.cons (.same rfl) .nil)))) (.cons (.b (.a (.same rfl))) (.cons (.b (.a (.same rfl))) (.cons (.b (.a (.same rfl))) (.cons (.b (.a (.same rfl))) .nil))))) (fun hg => c_spec_l19Step m_ blocked c_.Speed x2 x1.1 (by first | omega | assumption | (simp only [List.length_append, List.length_cons, List.length_nil, List.length_replicate, put_len] at * <;> omega) | (exact l19Ask_impM (by assumption)) | (exact l19Ask_impC (by assumption)) | (exact l19Ask_impS (by assumption)) | (exact l19Ask_impL (by assumption)) | ((have hx1 := l19Ask_impM (m := m_) (arr := arrivals) (blocked := blocked) (c := c_) (start := start) (by assumption); have hx2 := l19Ask_impC (m := m_) (arr := arrivals) (blocked := blocked) (c := c_) (start := start) (by assumption); have hx3 := l19Ask_impS (m := m_) (arr := arrivals) (blocked := blocked) (c := c_) (start := start) (by assumption); have hxJ := hx1.1; have hxC := hx2.2; have hxT := rtL (arr := arrivals) (blocked := blocked) hx1 hx2 hx3; first | exact rtE hx1 hx2 hx3 (by assumption) | (have hy := rtS hx1 hx2 hx3 (by assumption) (by assumption); have hz := hy.1.1; first | omega | exact hy | exact Nat.lt_succ_of_le (rank_le _ _ _)) | exact way_start hx1 hx2 hx3 (by assumption) (by assumption) | exact way_next (by assumption) (by assumption) | (have hw : WayOn m_ arrivals blocked c_ start x1.1 x2 := (by assumption); have hv := hw.1; have hI : RtI (m_spec_l19Times m_ arrivals blocked c_ start) m_.Junctions x1.2.length x1.1 := (by assumption); have hI1 := hI.1.1; have hI2 := hI.2; first | omega | (simp only [List.length_append, List.length_cons, List.length_nil] at *; omega) | (have hq := way_end hx1 hx2 hx3 hI hv (by assumption); first | exact hq.2 | (have hq1 := hq.1; simp only [List.length_append, List.length_cons, List.length_nil]; rw [Nat.add_comm]; exact hq1))) | (have hI : RtI (m_spec_l19Times m_ arrivals blocked c_ start) m_.Junctions x1.2.length x1.1 := (by assumption); have hI1 := hI.1.1; have hI2 := hI.2; first | omega | (simp only [List.length_append, List.length_cons, List.length_nil] at *; omega) | (have hq := way_end (arr := arrivals) (blocked := blocked) (x := x2) hx1 hx2 hx3 hI (by omega) (by assumption); first | exact hq.2 | (have hq1 := hq.1; simp only [List.length_append, List.length_cons, List.length_nil]; rw [Nat.add_comm]; exact hq1))))))) rfl (fun _ => rfl) rfl <|
                  q_assign .n (.t rfl) rfl <|
                  Lex.nil) ?_
              refine run_seq ?_
              refine run_seq ?_
              refine run_draw fmo (q_move .n (.t rfl) rfl <|
                  q_int .n (.t rfl) (.c rfl) rfl rfl <|
                  q_move .n (.t rfl) rfl <|
                  q_move (.t rfl rfl) (.t rfl) rfl <|
                  q_move (.t rfl rfl) (.t rfl) rfl <|
                  q_idx_ow (.t rfl rfl) (.u rfl id) (.u rfl id) sl_25 (fun hg => by simp only [Bool.and_eq_true, Bool.or_eq_true, Bool.not_eq_true', Bool.and_eq_false_iff, Bool.or_eq_false_iff, Bool.not_eq_false', decide_eq_true_eq, decide_eq_false_iff_not, beq_iff_eq, bne_iff_ne, beq_eq_false_iff_ne, bne_eq_false_iff_eq, Bool.true_and, ne_eq, Decidable.not_not, Int.not_lt, Int.not_le, Nat.not_lt, Nat.not_le, strB_nil, strB_nil', strB_nnil, strB_nnil'] at hg; first | omega | assumption | (simp only [List.length_append, List.length_cons, List.length_nil, List.length_replicate, put_len] at * <;> omega) | (exact l19Ask_impM (by assumption)) | (exact l19Ask_impC (by assumption)) | (exact l19Ask_impS (by assumption)) | (exact l19Ask_impL (by assumption)) | ((have hx1 := l19Ask_impM (m := m_) (arr := arrivals) (blocked := blocked) (c := c_) (start := start) (by assumption); have hx2 := l19Ask_impC (m := m_) (arr := arrivals) (blocked := blocked) (c := c_) (start := start) (by assumption); have hx3 := l19Ask_impS (m := m_) (arr := arrivals) (blocked := blocked) (c := c_) (start := start) (by assumption); have hxJ := hx1.1; have hxC := hx2.2; have hxT := rtL (arr := arrivals) (blocked := blocked) hx1 hx2 hx3; first | exact rtE hx1 hx2 hx3 (by assumption) | (have hy := rtS hx1 hx2 hx3 (by assumption) (by assumption); have hz := hy.1.1; first | omega | exact hy | exact Nat.lt_succ_of_le (rank_le _ _ _)) | exact way_start hx1 hx2 hx3 (by assumption) (by assumption) | exact way_next (by assumption) (by assumption) | (have hw : WayOn m_ arrivals blocked c_ start x1.1 x2 := (by assumption); have hv := hw.1; have hI : RtI (m_spec_l19Times m_ arrivals blocked c_ start) m_.Junctions x1.2.length x1.1 := (by assumption); have hI1 := hI.1.1; have hI2 := hI.2; first | omega | (simp only [List.length_append, List.length_cons, List.length_nil] at *; omega) | (have hq := way_end hx1 hx2 hx3 hI hv (by assumption); first | exact hq.2 | (have hq1 := hq.1; simp only [List.length_append, List.length_cons, List.length_nil]; rw [Nat.add_comm]; exact hq1))) | (have hI : RtI (m_spec_l19Times m_ arrivals blocked c_ start) m_.Junctions x1.2.length x1.1 := (by assumption); have hI1 := hI.1.1; have hI2 := hI.2; first | omega | (simp only [List.length_append, List.length_cons, List.length_nil] at *; omega) | (have hq := way_end (arr := arrivals) (blocked := blocked) (x := x2) hx1 hx2 hx3 hI (by omega) (by assumption); first | exact hq.2 | (have hq1 := hq.1; simp only [List.length_append, List.length_cons, List.length_nil]; rw [Nat.add_comm]; exact hq1)))))) rfl <|
                  q_ld1_row (.t rfl rfl) (.u rfl id) rfl (fun hg => by simp only [Bool.and_eq_true, Bool.or_eq_true, Bool.not_eq_true', Bool.and_eq_false_iff, Bool.or_eq_false_iff, Bool.not_eq_false', decide_eq_true_eq, decide_eq_false_iff_not, beq_iff_eq, bne_iff_ne, beq_eq_false_iff_ne, bne_eq_false_iff_eq, Bool.true_and, ne_eq, Decidable.not_not, Int.not_lt, Int.not_le, Nat.not_lt, Nat.not_le, strB_nil, strB_nil', strB_nnil, strB_nnil'] at hg; first | omega | assumption | (simp only [List.length_append, List.length_cons, List.length_nil, List.length_replicate, put_len] at * <;> omega) | (exact l19Ask_impM (by assumption)) | (exact l19Ask_impC (by assumption)) | (exact l19Ask_impS (by assumption)) | (exact l19Ask_impL (by assumption)) | ((have hx1 := l19Ask_impM (m := m_) (arr := arrivals) (blocked := blocked) (c := c_) (start := start) (by assumption); have hx2 := l19Ask_impC (m := m_) (arr := arrivals) (blocked := blocked) (c := c_) (start := start) (by assumption); have hx3 := l19Ask_impS (m := m_) (arr := arrivals) (blocked := blocked) (c := c_) (start := start) (by assumption); have hxJ := hx1.1; have hxC := hx2.2; have hxT := rtL (arr := arrivals) (blocked := blocked) hx1 hx2 hx3; first | exact rtE hx1 hx2 hx3 (by assumption) | (have hy := rtS hx1 hx2 hx3 (by assumption) (by assumption); have hz := hy.1.1; first | omega | exact hy | exact Nat.lt_succ_of_le (rank_le _ _ _)) | exact way_start hx1 hx2 hx3 (by assumption) (by assumption) | exact way_next (by assumption) (by assumption) | (have hw : WayOn m_ arrivals blocked c_ start x1.1 x2 := (by assumption); have hv := hw.1; have hI : RtI (m_spec_l19Times m_ arrivals blocked c_ start) m_.Junctions x1.2.length x1.1 := (by assumption); have hI1 := hI.1.1; have hI2 := hI.2; first | omega | (simp only [List.length_append, List.length_cons, List.length_nil] at *; omega) | (have hq := way_end hx1 hx2 hx3 hI hv (by assumption); first | exact hq.2 | (have hq1 := hq.1; simp only [List.length_append, List.length_cons, List.length_nil]; rw [Nat.add_comm]; exact hq1))) | (have hI : RtI (m_spec_l19Times m_ arrivals blocked c_ start) m_.Junctions x1.2.length x1.1 := (by assumption); have hI1 := hI.1.1; have hI2 := hI.2; first | omega | (simp only [List.length_append, List.length_cons, List.length_nil] at *; omega) | (have hq := way_end (arr := arrivals) (blocked := blocked) (x := x2) hx1 hx2 hx3 hI (by omega) (by assumption); first | exact hq.2 | (have hq1 := hq.1; simp only [List.length_append, List.length_cons, List.length_nil]; rw [Nat.add_comm]; exact hq1)))))) rfl rfl rfl ic_2 rfl <|
                  q_int (.t rfl rfl) (.u rfl id) (.c rfl) rfl rfl <|
                  q_and .n (.t rfl) (.u rfl id) rfl <|
                  q_move .n (.t rfl) rfl <|
                  q_move (.t rfl rfl) (.t rfl) rfl <|
                  q_move (.t rfl rfl) (.t rfl) rfl <|
                  q_idx_ow (.t rfl rfl) (.u rfl id) (.u rfl id) sl_25 (fun hg => by simp only [Bool.and_eq_true, Bool.or_eq_true, Bool.not_eq_true', Bool.and_eq_false_iff, Bool.or_eq_false_iff, Bool.not_eq_false', decide_eq_true_eq, decide_eq_false_iff_not, beq_iff_eq, bne_iff_ne, beq_eq_false_iff_ne, bne_eq_false_iff_eq, Bool.true_and, ne_eq, Decidable.not_not, Int.not_lt, Int.not_le, Nat.not_lt, Nat.not_le, strB_nil, strB_nil', strB_nnil, strB_nnil'] at hg; first | omega | assumption | (simp only [List.length_append, List.length_cons, List.length_nil, List.length_replicate, put_len] at * <;> omega) | (exact l19Ask_impM (by assumption)) | (exact l19Ask_impC (by assumption)) | (exact l19Ask_impS (by assumption)) | (exact l19Ask_impL (by assumption)) | ((have hx1 := l19Ask_impM (m := m_) (arr := arrivals) (blocked := blocked) (c := c_) (start := start) (by assumption); have hx2 := l19Ask_impC (m := m_) (arr := arrivals) (blocked := blocked) (c := c_) (start := start) (by assumption); have hx3 := l19Ask_impS (m := m_) (arr := arrivals) (blocked := blocked) (c := c_) (start := start) (by assumption); have hxJ := hx1.1; have hxC := hx2.2; have hxT := rtL (arr := arrivals) (blocked := blocked) hx1 hx2 hx3; first | exact rtE hx1 hx2 hx3 (by assumption) | (have hy := rtS hx1 hx2 hx3 (by assumption) (by assumption); have hz := hy.1.1; first | omega | exact hy | exact Nat.lt_succ_of_le (rank_le _ _ _)) | exact way_start hx1 hx2 hx3 (by assumption) (by assumption) | exact way_next (by assumption) (by assumption) | (have hw : WayOn m_ arrivals blocked c_ start x1.1 x2 := (by assumption); have hv := hw.1; have hI : RtI (m_spec_l19Times m_ arrivals blocked c_ start) m_.Junctions x1.2.length x1.1 := (by assumption); have hI1 := hI.1.1; have hI2 := hI.2; first | omega | (simp only [List.length_append, List.length_cons, List.length_nil] at *; omega) | (have hq := way_end hx1 hx2 hx3 hI hv (by assumption); first | exact hq.2 | (have hq1 := hq.1; simp only [List.length_append, List.length_cons, List.length_nil]; rw [Nat.add_comm]; exact hq1))) | (have hI : RtI (m_spec_l19Times m_ arrivals blocked c_ start) m_.Junctions x1.2.length x1.1 := (by assumption); have hI1 := hI.1.1; have hI2 := hI.2; first | omega | (simp only [List.length_append, List.length_cons, List.length_nil] at *; omega) | (have hq := way_end (arr := arrivals) (blocked := blocked) (x := x2) hx1 hx2 hx3 hI (by omega) (by assumption); first | exact hq.2 | (have hq1 := hq.1; simp only [List.length_append, List.length_cons, List.length_nil]; rw [Nat.add_comm]; exact hq1)))))) rfl <|
                  q_ld1_row (.t rfl rfl) (.u rfl id) rfl (fun hg => by simp only [Bool.and_eq_true, Bool.or_eq_true, Bool.not_eq_true', Bool.and_eq_false_iff, Bool.or_eq_false_iff, Bool.not_eq_false', decide_eq_true_eq, decide_eq_false_iff_not, beq_iff_eq, bne_iff_ne, beq_eq_false_iff_ne, bne_eq_false_iff_eq, Bool.true_and, ne_eq, Decidable.not_not, Int.not_lt, Int.not_le, Nat.not_lt, Nat.not_le, strB_nil, strB_nil', strB_nnil, strB_nnil'] at hg; first | omega | assumption | (simp only [List.length_append, List.length_cons, List.length_nil, List.length_replicate, put_len] at * <;> omega) | (exact l19Ask_impM (by assumption)) | (exact l19Ask_impC (by assumption)) | (exact l19Ask_impS (by assumption)) | (exact l19Ask_impL (by assumption)) | ((have hx1 := l19Ask_impM (m := m_) (arr := arrivals) (blocked := blocked) (c := c_) (start := start) (by assumption); have hx2 := l19Ask_impC (m := m_) (arr := arrivals) (blocked := blocked) (c := c_) (start := start) (by assumption); have hx3 := l19Ask_impS (m := m_) (arr := arrivals) (blocked := blocked) (c := c_) (start := start) (by assumption); have hxJ := hx1.1; have hxC := hx2.2; have hxT := rtL (arr := arrivals) (blocked := blocked) hx1 hx2 hx3; first | exact rtE hx1 hx2 hx3 (by assumption) | (have hy := rtS hx1 hx2 hx3 (by assumption) (by assumption); have hz := hy.1.1; first | omega | exact hy | exact Nat.lt_succ_of_le (rank_le _ _ _)) | exact way_start hx1 hx2 hx3 (by assumption) (by assumption) | exact way_next (by assumption) (by assumption) | (have hw : WayOn m_ arrivals blocked c_ start x1.1 x2 := (by assumption); have hv := hw.1; have hI : RtI (m_spec_l19Times m_ arrivals blocked c_ start) m_.Junctions x1.2.length x1.1 := (by assumption); have hI1 := hI.1.1; have hI2 := hI.2; first | omega | (simp only [List.length_append, List.length_cons, List.length_nil] at *; omega) | (have hq := way_end hx1 hx2 hx3 hI hv (by assumption); first | exact hq.2 | (have hq1 := hq.1; simp only [List.length_append, List.length_cons, List.length_nil]; rw [Nat.add_comm]; exact hq1))) | (have hI : RtI (m_spec_l19Times m_ arrivals blocked c_ start) m_.Junctions x1.2.length x1.1 := (by assumption); have hI1 := hI.1.1; have hI2 := hI.2; first | omega | (simp only [List.length_append, List.length_cons, List.length_nil] at *; omega) | (have hq := way_end (arr := arrivals) (blocked := blocked) (x := x2) hx1 hx2 hx3 hI (by omega) (by assumption); first | exact hq.2 | (have hq1 := hq.1; simp only [List.length_append, List.length_cons, List.length_nil]; rw [Nat.add_comm]; exact hq1)))))) rfl rfl rfl ic_2 rfl <|
                  q_move (.t rfl rfl) (.t rfl) rfl <|
                  q_int (.t rfl rfl) (.u rfl id) (.u rfl id) rfl rfl <|
                  q_move (.t rfl rfl) (.t rfl) rfl <|
                  q_move (.t rfl rfl) (.t rfl) rfl <|
                  q_idx_ow (.t rfl rfl) (.u rfl id) (.u rfl id) sl_25 (fun hg => by simp only [Bool.and_eq_true, Bool.or_eq_true, Bool.not_eq_true', Bool.and_eq_false_iff, Bool.or_eq_false_iff, Bool.not_eq_false', decide_eq_true_eq, decide_eq_false_iff_not, beq_iff_eq, bne_iff_ne, beq_eq_false_iff_ne, bne_eq_false_iff_eq, Bool.true_and, ne_eq, Decidable.not_not, Int.not_lt, Int.not_le, Nat.not_lt, Nat.not_le, strB_nil, strB_nil', strB_nnil, strB_nnil'] at hg; first | omega | assumption | (simp only [List.length_append, List.length_cons, List.length_nil, List.length_replicate, put_len] at * <;> omega) | (exact l19Ask_impM (by assumption)) | (exact l19Ask_impC (by assumption)) | (exact l19Ask_impS (by assumption)) | (exact l19Ask_impL (by assumption)) | ((have hx1 := l19Ask_impM (m := m_) (arr := arrivals) (blocked := blocked) (c := c_) (start := start) (by assumption); have hx2 := l19Ask_impC (m := m_) (arr := arrivals) (blocked := blocked) (c := c_) (start := start) (by assumption); have hx3 := l19Ask_impS (m := m_) (arr := arrivals) (blocked := blocked) (c := c_) (start := start) (by assumption); have hxJ := hx1.1; have hxC := hx2.2; have hxT := rtL (arr := arrivals) (blocked := blocked) hx1 hx2 hx3; first | exact rtE hx1 hx2 hx3 (by assumption) | (have hy := rtS hx1 hx2 hx3 (by assumption) (by assumption); have hz := hy.1.1; first | omega | exact hy | exact Nat.lt_succ_of_le (rank_le _ _ _)) | exact way_start hx1 hx2 hx3 (by assumption) (by assumption) | exact way_next (by assumption) (by assumption) | (have hw : WayOn m_ arrivals blocked c_ start x1.1 x2 := (by assumption); have hv := hw.1; have hI : RtI (m_spec_l19Times m_ arrivals blocked c_ start) m_.Junctions x1.2.length x1.1 := (by assumption); have hI1 := hI.1.1; have hI2 := hI.2; first | omega | (simp only [List.length_append, List.length_cons, List.length_nil] at *; omega) | (have hq := way_end hx1 hx2 hx3 hI hv (by assumption); first | exact hq.2 | (have hq1 := hq.1; simp only [List.length_append, List.length_cons, List.length_nil]; rw [Nat.add_comm]; exact hq1))) | (have hI : RtI (m_spec_l19Times m_ arrivals blocked c_ start) m_.Junctions x1.2.length x1.1 := (by assumption); have hI1 := hI.1.1; have hI2 := hI.2; first | omega | (simp only [List.length_append, List.length_cons, List.length_nil] at *; omega) | (have hq := way_end (arr := arrivals) (blocked := blocked) (x := x2) hx1 hx2 hx3 hI (by omega) (by assumption); first | exact hq.2 | (have hq1 := hq.1; simp only [List.length_append, List.length_cons, List.length_nil]; rw [Nat.add_comm]; exact hq1)))))) rfl <|
                  q_ld1_row (.t rfl rfl) (.u rfl id) rfl (fun hg => by simp only [Bool.and_eq_true, Bool.or_eq_true, Bool.not_eq_true', Bool.and_eq_false_iff, Bool.or_eq_false_iff, Bool.not_eq_false', decide_eq_true_eq, decide_eq_false_iff_not, beq_iff_eq, bne_iff_ne, beq_eq_false_iff_ne, bne_eq_false_iff_eq, Bool.true_and, ne_eq, Decidable.not_not, Int.not_lt, Int.not_le, Nat.not_lt, Nat.not_le, strB_nil, strB_nil', strB_nnil, strB_nnil'] at hg; first | omega | assumption | (simp only [List.length_append, List.length_cons, List.length_nil, List.length_replicate, put_len] at * <;> omega) | (exact l19Ask_impM (by assumption)) | (exact l19Ask_impC (by assumption)) | (exact l19Ask_impS (by assumption)) | (exact l19Ask_impL (by assumption)) | ((have hx1 := l19Ask_impM (m := m_) (arr := arrivals) (blocked := blocked) (c := c_) (start := start) (by assumption); have hx2 := l19Ask_impC (m := m_) (arr := arrivals) (blocked := blocked) (c := c_) (start := start) (by assumption); have hx3 := l19Ask_impS (m := m_) (arr := arrivals) (blocked := blocked) (c := c_) (start := start) (by assumption); have hxJ := hx1.1; have hxC := hx2.2; have hxT := rtL (arr := arrivals) (blocked := blocked) hx1 hx2 hx3; first | exact rtE hx1 hx2 hx3 (by assumption) | (have hy := rtS hx1 hx2 hx3 (by assumption) (by assumption); have hz := hy.1.1; first | omega | exact hy | exact Nat.lt_succ_of_le (rank_le _ _ _)) | exact way_start hx1 hx2 hx3 (by assumption) (by assumption) | exact way_next (by assumption) (by assumption) | (have hw : WayOn m_ arrivals blocked c_ start x1.1 x2 := (by assumption); have hv := hw.1; have hI : RtI (m_spec_l19Times m_ arrivals blocked c_ start) m_.Junctions x1.2.length x1.1 := (by assumption); have hI1 := hI.1.1; have hI2 := hI.2; first | omega | (simp only [List.length_append, List.length_cons, List.length_nil] at *; omega) | (have hq := way_end hx1 hx2 hx3 hI hv (by assumption); first | exact hq.2 | (have hq1 := hq.1; simp only [List.length_append, List.length_cons, List.length_nil]; rw [Nat.add_comm]; exact hq1))) | (have hI : RtI (m_spec_l19Times m_ arrivals blocked c_ start) m_.Junctions x1.2.length x1.1 := (by assumption); have hI1 := hI.1.1; have hI2 := hI.2; first | omega | (simp only [List.length_append, List.length_cons, List.length_nil] at *; omega) | (have hq := way_end (arr := arrivals) (blocked := blocked) (x := x2) hx1 hx2 hx3 hI (by omega) (by assumption); first | exact hq.2 | (have hq1 := hq.1; simp only [List.length_append, List.length_cons, List.length_nil]; rw [Nat.add_comm]; exact hq1)))))) rfl rfl rfl ic_2 rfl <|
                  q_int (.t rfl rfl) (.u rfl id) (.u rfl id) rfl rfl <|
                  q_and .n (.t rfl) (.u rfl id) rfl <|
                  Lex.nil) (by kernel_rfl) ?_
              refine run_cond (.t rfl) rfl (fun h12 => ?_) (fun h12 => ?_)
              · try simp only [Bool.and_eq_true, Bool.or_eq_true, Bool.not_eq_true', Bool.and_eq_false_iff, Bool.or_eq_false_iff, Bool.not_eq_false', decide_eq_true_eq, decide_eq_false_iff_not, beq_iff_eq, bne_iff_ne, beq_eq_false_iff_ne, bne_eq_false_iff_eq, Bool.true_and, ne_eq, Decidable.not_not, Int.not_lt, Int.not_le, Nat.not_lt, Nat.not_le, strB_nil, strB_nil', strB_nnil, strB_nnil'] at h12
                refine run_exit rfl ?_
                exact run_cont hk10 x2 ⟨by first | omega | assumption | (simp only [List.length_append, List.length_cons, List.length_nil, List.length_replicate, put_len] at * <;> omega) | (exact l19Ask_impM (by assumption)) | (exact l19Ask_impC (by assumption)) | (exact l19Ask_impS (by assumption)) | (exact l19Ask_impL (by assumption)) | ((have hx1 := l19Ask_impM (m := m_) (arr := arrivals) (blocked := blocked) (c := c_) (start := start) (by assumption); have hx2 := l19Ask_impC (m := m_) (arr := arrivals) (blocked := blocked) (c := c_) (start := start) (by assumption); have hx3 := l19Ask_impS (m := m_) (arr := arrivals) (blocked := blocked) (c := c_) (start := start) (by assumption); have hxJ := hx1.1; have hxC := hx2.2; have hxT := rtL (arr := arrivals) (blocked := blocked) hx1 hx2 hx3; first | exact rtE hx1 hx2 hx3 (by assumption) | (have hy := rtS hx1 hx2 hx3 (by assumption) (by assumption); have hz := hy.1.1; first | omega | exact hy | exact Nat.lt_succ_of_le (rank_le _ _ _)) | exact way_start hx1 hx2 hx3 (by assumption) (by assumption) | exact way_next (by assumption) (by assumption) | (have hw : WayOn m_ arrivals blocked c_ start x1.1 x2 := (by assumption); have hv := hw.1; have hI : RtI (m_spec_l19Times m_ arrivals blocked c_ start) m_.Junctions x1.2.length x1.1 := (by assumption); have hI1 := hI.1.1; have hI2 := hI.2; first | omega | (simp only [List.length_append, List.length_cons, List.length_nil] at *; omega) | (have hq := way_end hx1 hx2 hx3 hI hv (by assumption); first | exact hq.2 | (have hq1 := hq.1; simp only [List.length_append, List.length_cons, List.length_nil]; rw [Nat.add_comm]; exact hq1))) | (have hI : RtI (m_spec_l19Times m_ arrivals blocked c_ start) m_.Junctions x1.2.length x1.1 := (by assumption); have hI1 := hI.1.1; have hI2 := hI.2; first | omega | (simp only [List.length_append, List.length_cons, List.length_nil] at *; omega) | (have hq := way_end (arr := arrivals) (blocked := blocked) (x := x2) hx1 hx2 hx3 hI (by omega) (by assumption); first | exact hq.2 | (have hq1 := hq.1; simp only [List.length_append, List.length_cons, List.length_nil]; rw [Nat.add_comm]; exact hq1))))), by first | omega | assumption | (simp only [List.length_append, List.length_cons, List.length_nil, List.length_replicate, put_len] at * <;> omega) | (exact l19Ask_impM (by assumption)) | (exact l19Ask_impC (by assumption)) | (exact l19Ask_impS (by assumption)) | (exact l19Ask_impL (by assumption)) | ((have hx1 := l19Ask_impM (m := m_) (arr := arrivals) (blocked := blocked) (c := c_) (start := start) (by assumption); have hx2 := l19Ask_impC (m := m_) (arr := arrivals) (blocked := blocked) (c := c_) (start := start) (by assumption); have hx3 := l19Ask_impS (m := m_) (arr := arrivals) (blocked := blocked) (c := c_) (start := start) (by assumption); have hxJ := hx1.1; have hxC := hx2.2; have hxT := rtL (arr := arrivals) (blocked := blocked) hx1 hx2 hx3; first | exact rtE hx1 hx2 hx3 (by assumption) | (have hy := rtS hx1 hx2 hx3 (by assumption) (by assumption); have hz := hy.1.1; first | omega | exact hy | exact Nat.lt_succ_of_le (rank_le _ _ _)) | exact way_start hx1 hx2 hx3 (by assumption) (by assumption) | exact way_next (by assumption) (by assumption) | (have hw : WayOn m_ arrivals blocked c_ start x1.1 x2 := (by assumption); have hv := hw.1; have hI : RtI (m_spec_l19Times m_ arrivals blocked c_ start) m_.Junctions x1.2.length x1.1 := (by assumption); have hI1 := hI.1.1; have hI2 := hI.2; first | omega | (simp only [List.length_append, List.length_cons, List.length_nil] at *; omega) | (have hq := way_end hx1 hx2 hx3 hI hv (by assumption); first | exact hq.2 | (have hq1 := hq.1; simp only [List.length_append, List.length_cons, List.length_nil]; rw [Nat.add_comm]; exact hq1))) | (have hI : RtI (m_spec_l19Times m_ arrivals blocked c_ start) m_.Junctions x1.2.length x1.1 := (by assumption); have hI1 := hI.1.1; have hI2 := hI.2; first | omega | (simp only [List.length_append, List.length_cons, List.length_nil] at *; omega) | (have hq := way_end (arr := arrivals) (blocked := blocked) (x := x2) hx1 hx2 hx3 hI (by omega) (by assumption); first | exact hq.2 | (have hq1 := hq.1; simp only [List.length_append, List.length_cons, List.length_nil]; rw [Nat.add_comm]; exact hq1)))))⟩ (sub_of [] ⟨rfl, rfl, rfl, rfl, rfl, rfl, rfl, trivial⟩ ⟨rfl, rfl, rfl, rfl, trivial⟩ rfl)
              · try simp only [Bool.and_eq_true, Bool.or_eq_true, Bool.not_eq_true', Bool.and_eq_false_iff, Bool.or_eq_false_iff, Bool.not_eq_false', decide_eq_true_eq, decide_eq_false_iff_not, beq_iff_eq, bne_iff_ne, beq_eq_false_iff_ne, bne_eq_false_iff_eq, Bool.true_and, ne_eq, Decidable.not_not, Int.not_lt, Int.not_le, Nat.not_lt, Nat.not_le, strB_nil, strB_nil', strB_nnil, strB_nnil'] at h12
                refine run_skip ?_
                refine run_region (q_move .n (.t rfl) rfl <|
                    q_add .n (.t rfl) (.c rfl) (fun _ => by first | omega | assumption | (simp only [List.length_append, List.length_cons, List.length_nil, List.length_replicate, put_len] at * <;> omega) | (exact l19Ask_impM (by assumption)) | (exact l19Ask_impC (by assumption)) | (exact l19Ask_impS (by assumption)) | (exact l19Ask_impL (by assumption)) | ((have hx1 := l19Ask_impM (m := m_) (arr := arrivals) (blocked := blocked) (c := c_) (start := start) (by assumption); have hx2 := l19Ask_impC (m := m_) (arr := arrivals) (blocked := blocked) (c := c_) (start := start) (by assumption); have hx3 := l19Ask_impS (m := m_) (arr := arrivals) (blocked := blocked) (c := c_) (start := start) (by assumption); have hxJ := hx1.1; have hxC := hx2.2; have hxT := rtL (arr := arrivals) (blocked := blocked) hx1 hx2 hx3; first | exact rtE hx1 hx2 hx3 (by assumption) | (have hy := rtS hx1 hx2 hx3 (by assumption) (by assumption); have hz := hy.1.1; first | omega | exact hy | exact Nat.lt_succ_of_le (rank_le _ _ _)) | exact way_start hx1 hx2 hx3 (by assumption) (by assumption) | exact way_next (by assumption) (by assumption) | (have hw : WayOn m_ arrivals blocked c_ start x1.1 x2 := (by assumption); have hv := hw.1; have hI : RtI (m_spec_l19Times m_ arrivals blocked c_ start) m_.Junctions x1.2.length x1.1 := (by assumption); have hI1 := hI.1.1; have hI2 := hI.2; first | omega | (simp only [List.length_append, List.length_cons, List.length_nil] at *; omega) | (have hq := way_end hx1 hx2 hx3 hI hv (by assumption); first | exact hq.2 | (have hq1 := hq.1; simp only [List.length_append, List.length_cons, List.length_nil]; rw [Nat.add_comm]; exact hq1))) | (have hI : RtI (m_spec_l19Times m_ arrivals blocked c_ start) m_.Junctions x1.2.length x1.1 := (by assumption); have hI1 := hI.1.1; have hI2 := hI.2; first | omega | (simp only [List.length_append, List.length_cons, List.length_nil] at *; omega) | (have hq := way_end (arr := arrivals) (blocked := blocked) (x := x2) hx1 hx2 hx3 hI (by omega) (by assumption); first | exact hq.2 | (have hq1 := hq.1; simp only [List.length_append, List.length_cons, List.length_nil]; rw [Nat.add_comm]; exact hq1)))))) rfl <|
                    q_assign .n (.t rfl) rfl <|
                    Lex.nil) ?_
                refine run_endB ?_
                exact run_again (x2 + 1) ⟨by first | omega | assumption | (simp only [List.length_append, List.length_cons, List.length_nil, List.length_replicate, put_len] at * <;> omega) | (exact l19Ask_impM (by assumption)) | (exact l19Ask_impC (by assumption)) | (exact l19Ask_impS (by assumption)) | (exact l19Ask_impL (by assumption)) | ((have hx1 := l19Ask_impM (m := m_) (arr := arrivals) (blocked := blocked) (c := c_) (start := start) (by assumption); have hx2 := l19Ask_impC (m := m_) (arr := arrivals) (blocked := blocked) (c := c_) (start := start) (by assumption); have hx3 := l19Ask_impS (m := m_) (arr := arrivals) (blocked := blocked) (c := c_) (start := start) (by assumption); have hxJ := hx1.1; have hxC := hx2.2; have hxT := rtL (arr := arrivals) (blocked := blocked) hx1 hx2 hx3; first | exact rtE hx1 hx2 hx3 (by assumption) | (have hy := rtS hx1 hx2 hx3 (by assumption) (by assumption); have hz := hy.1.1; first | omega | exact hy | exact Nat.lt_succ_of_le (rank_le _ _ _)) | exact way_start hx1 hx2 hx3 (by assumption) (by assumption) | exact way_next (by assumption) (by assumption) | (have hw : WayOn m_ arrivals blocked c_ start x1.1 x2 := (by assumption); have hv := hw.1; have hI : RtI (m_spec_l19Times m_ arrivals blocked c_ start) m_.Junctions x1.2.length x1.1 := (by assumption); have hI1 := hI.1.1; have hI2 := hI.2; first | omega | (simp only [List.length_append, List.length_cons, List.length_nil] at *; omega) | (have hq := way_end hx1 hx2 hx3 hI hv (by assumption); first | exact hq.2 | (have hq1 := hq.1; simp only [List.length_append, List.length_cons, List.length_nil]; rw [Nat.add_comm]; exact hq1))) | (have hI : RtI (m_spec_l19Times m_ arrivals blocked c_ start) m_.Junctions x1.2.length x1.1 := (by assumption); have hI1 := hI.1.1; have hI2 := hI.2; first | omega | (simp only [List.length_append, List.length_cons, List.length_nil] at *; omega) | (have hq := way_end (arr := arrivals) (blocked := blocked) (x := x2) hx1 hx2 hx3 hI (by omega) (by assumption); first | exact hq.2 | (have hq1 := hq.1; simp only [List.length_append, List.length_cons, List.length_nil]; rw [Nat.add_comm]; exact hq1))))), by first | omega | assumption | (simp only [List.length_append, List.length_cons, List.length_nil, List.length_replicate, put_len] at * <;> omega) | (exact l19Ask_impM (by assumption)) | (exact l19Ask_impC (by assumption)) | (exact l19Ask_impS (by assumption)) | (exact l19Ask_impL (by assumption)) | ((have hx1 := l19Ask_impM (m := m_) (arr := arrivals) (blocked := blocked) (c := c_) (start := start) (by assumption); have hx2 := l19Ask_impC (m := m_) (arr := arrivals) (blocked := blocked) (c := c_) (start := start) (by assumption); have hx3 := l19Ask_impS (m := m_) (arr := arrivals) (blocked := blocked) (c := c_) (start := start) (by assumption); have hxJ := hx1.1; have hxC := hx2.2; have hxT := rtL (arr := arrivals) (blocked := blocked) hx1 hx2 hx3; first | exact rtE hx1 hx2 hx3 (by assumption) | (have hy := rtS hx1 hx2 hx3 (by assumption) (by assumption); have hz := hy.1.1; first | omega | exact hy | exact Nat.lt_succ_of_le (rank_le _ _ _)) | exact way_start hx1 hx2 hx3 (by assumption) (by assumption) | exact way_next (by assumption) (by assumption) | (have hw : WayOn m_ arrivals blocked c_ start x1.1 x2 := (by assumption); have hv := hw.1; have hI : RtI (m_spec_l19Times m_ arrivals blocked c_ start) m_.Junctions x1.2.length x1.1 := (by assumption); have hI1 := hI.1.1; have hI2 := hI.2; first | omega | (simp only [List.length_append, List.length_cons, List.length_nil] at *; omega) | (have hq := way_end hx1 hx2 hx3 hI hv (by assumption); first | exact hq.2 | (have hq1 := hq.1; simp only [List.length_append, List.length_cons, List.length_nil]; rw [Nat.add_comm]; exact hq1))) | (have hI : RtI (m_spec_l19Times m_ arrivals blocked c_ start) m_.Junctions x1.2.length x1.1 := (by assumption); have hI1 := hI.1.1; have hI2 := hI.2; first | omega | (simp only [List.length_append, List.length_cons, List.length_nil] at *; omega) | (have hq := way_end (arr := arrivals) (blocked := blocked) (x := x2) hx1 hx2 hx3 hI (by omega) (by assumption); first | exact hq.2 | (have hq1 := hq.1; simp only [List.length_append, List.length_cons, List.length_nil]; rw [Nat.add_comm]; exact hq1)))))⟩ (by first | omega | assumption | (simp only [List.length_append, List.length_cons, List.length_nil, List.length_replicate, put_len] at * <;> omega) | (exact l19Ask_impM (by assumption)) | (exact l19Ask_impC (by assumption)) | (exact l19Ask_impS (by assumption)) | (exact l19Ask_impL (by assumption)) | ((have hx1 := l19Ask_impM (m := m_) (arr := arrivals) (blocked := blocked) (c := c_) (start := start) (by assumption); have hx2 := l19Ask_impC (m := m_) (arr := arrivals) (blocked := blocked) (c := c_) (start := start) (by assumption); have hx3 := l19Ask_impS (m := m_) (arr := arrivals) (blocked := blocked) (c := c_) (start := start) (by assumption); have hxJ := hx1.1; have hxC := hx2.2; have hxT := rtL (arr := arrivals) (blocked := blocked) hx1 hx2 hx3; first | exact rtE hx1 hx2 hx3 (by assumption) | (have hy := rtS hx1 hx2 hx3 (by assumption) (by assumption); have hz := hy.1.1; first | omega | exact hy | exact Nat.lt_succ_of_le (rank_le _ _ _)) | exact way_start hx1 hx2 hx3 (by assumption) (by assumption) | exact way_next (by assumption) (by assumption) | (have hw : WayOn m_ arrivals blocked c_ start x1.1 x2 := (by assumption); have hv := hw.1; have hI : RtI (m_spec_l19Times m_ arrivals blocked c_ start) m_.Junctions x1.2.length x1.1 := (by assumption); have hI1 := hI.1.1; have hI2 := hI.2; first | omega | (simp only [List.length_append, List.length_cons, List.length_nil] at *; omega) | (have hq := way_end hx1 hx2 hx3 hI hv (by assumption); first | exact hq.2 | (have hq1 := hq.1; simp only [List.length_append, List.length_cons, List.length_nil]; rw [Nat.add_comm]; exact hq1))) | (have hI : RtI (m_spec_l19Times m_ arrivals blocked c_ start) m_.Junctions x1.2.length x1.1 := (by assumption); have hI1 := hI.1.1; have hI2 := hI.2; first | omega | (simp only [List.length_append, List.length_cons, List.length_nil] at *; omega) | (have hq := way_end (arr := arrivals) (blocked := blocked) (x := x2) hx1 hx2 hx3 hI (by omega) (by assumption); first | exact hq.2 | (have hq1 := hq.1; simp only [List.length_append, List.length_cons, List.length_nil]; rw [Nat.add_comm]; exact hq1)))))) (sub_of [] ⟨rfl, rfl, rfl, rfl, rfl, rfl, rfl, rfl, trivial⟩ ⟨rfl, rfl, rfl, rfl, trivial⟩ rfl)
          · try simp only [Bool.and_eq_true, Bool.or_eq_true, Bool.not_eq_true', Bool.and_eq_false_iff, Bool.or_eq_false_iff, Bool.not_eq_false', decide_eq_true_eq, decide_eq_false_iff_not, beq_iff_eq, bne_iff_ne, beq_eq_false_iff_ne, bne_eq_false_iff_eq, Bool.true_and, ne_eq, Decidable.not_not, Int.not_lt, Int.not_le, Nat.not_lt, Nat.not_le, strB_nil, strB_nil', strB_nnil, strB_nnil'] at h9
            refine run_exit rfl ?_
            exact run_cont hk7 (x1.1, x1.2) (by first | omega | assumption | (simp only [List.length_append, List.length_cons, List.length_nil, List.length_replicate, put_len] at * <;> omega) | (exact l19Ask_impM (by assumption)) | (exact l19Ask_impC (by assumption)) | (exact l19Ask_impS (by assumption)) | (exact l19Ask_impL (by assumption)) | ((have hx1 := l19Ask_impM (m := m_) (arr := arrivals) (blocked := blocked) (c := c_) (start := start) (by assumption); have hx2 := l19Ask_impC (m := m_) (arr := arrivals) (blocked := blocked) (c := c_) (start := start) (by assumption); have hx3 := l19Ask_impS (m := m_) (arr := arrivals) (blocked := blocked) (c := c_) (start := start) (by assumption); have hxJ := hx1.1; have hxC := hx2.2; have hxT := rtL (arr := arrivals) (blocked := blocked) hx1 hx2 hx3; first | exact rtE hx1 hx2 hx3 (by assumption) | (have hy := rtS hx1 hx2 hx3 (by assumption) (by assumption); have hz := hy.1.1; first | omega | exact hy | exact Nat.lt_succ_of_le (rank_le _ _ _)) | exact way_start hx1 hx2 hx3 (by assumption) (by assumption) | exact way_next (by assumption) (by assumption) | (have hw : WayOn m_ arrivals blocked c_ start x1.1 x2 := (by assumption); have hv := hw.1; have hI : RtI (m_spec_l19Times m_ arrivals blocked c_ start) m_.Junctions x1.2.length x1.1 := (by assumption); have hI1 := hI.1.1; have hI2 := hI.2; first | omega | (simp only [List.length_append, List.length_cons, List.length_nil] at *; omega) | (have hq := way_end hx1 hx2 hx3 hI hv (by assumption); first | exact hq.2 | (have hq1 := hq.1; simp only [List.length_append, List.length_cons, List.length_nil]; rw [Nat.add_comm]; exact hq1))) | (have hI : RtI (m_spec_l19Times m_ arrivals blocked c_ start) m_.Junctions x1.2.length x1.1 := (by assumption); have hI1 := hI.1.1; have hI2 := hI.2; first | omega | (simp only [List.length_append, List.length_cons, List.length_nil] at *; omega) | (have hq := way_end (arr := arrivals) (blocked := blocked) (x := x2) hx1 hx2 hx3 hI (by omega) (by assumption); first | exact hq.2 | (have hq1 := hq.1; simp only [List.length_append, List.length_cons, List.length_nil]; rw [Nat.add_comm]; exact hq1)))))) (sub_of [] ⟨rfl, rfl, trivial⟩ ⟨rfl, trivial⟩ rfl)

/-! ### impl_within -/
theorem c_impl_within (n_ : Int) (low : Int) (high : Int) : Con Try.prog 80 [.int .i64 n_, .int .i64 low, .int .i64 high] [] (.bool (m_impl_within n_ low high)) ([]) := by
  refine con_intro (out := fun r : Bool => ((.bool r : V), ([] : List (Nat × Option O)))) (r := (m_impl_within n_ low high)) Try.func80 rfl Try.ntmps80 rfl ?_
  refine run_seq ?_
  refine run_region (q_assign .n (.c rfl) rfl <|
      Lex.nil) ?_
  refine run_seq ?_
  refine run_region (q_move .n (.t rfl) rfl <|
      q_move .n (.t rfl) rfl <|
      q_int .n (.t rfl) (.t rfl) rfl rfl <|
      q_move .n (.t rfl) rfl <|
      q_move (.t rfl rfl) (.t rfl) rfl <|
      q_move (.t rfl rfl) (.t rfl) rfl <|
      q_int (.t rfl rfl) (.u rfl id) (.u rfl id) rfl rfl <|
      q_and .n (.t rfl) (.u rfl id) rfl <|
      q_assign .n (.t rfl) rfl <|
      Lex.nil) ?_
  exact run_ret [] (.cons (.t rfl rfl) .nil) rfl trivial rfl

/-! ### impl_onlyNameBytes -/
theorem c_impl_onlyNameBytes (s_ : List UInt8) (hp1 : s_.length ≤ 10) : Con Try.prog 123 [.str s_] [] (.bool (m_impl_onlyNameBytes s_)) ([]) := by
  refine con_intro (out := fun r : Bool => ((.bool r : V), ([] : List (Nat × Option O)))) (r := (m_impl_onlyNameBytes s_)) Try.func123 rfl Try.ntmps123 rfl ?_
  refine run_seq ?_
  refine run_region (q_assign .n (.c rfl) rfl <|
      Lex.nil) ?_
  refine run_seq ?_
  refine run_seq ?_
  refine run_region (q_move .n (.t rfl) rfl <|
      q_len .n (.t rfl) rfl rfl st_9 rfl <|
      q_move .n (.c rfl) rfl <|
      Lex.nil) ?_
  refine run_block ?_
  refine run_LOOP (m_impl_onlyNameBytes_b1 s_) _ _ _ rfl (fun (x1 : Int) => 0 ≤ x1 ∧ x1 ≤ (s_.length : Int)) (fun x1 => 0 ≤ x1 ∧ x1 ≤ (s_.length : Int) ∧ (s_.length : Int) ≤ x1) (fun x1 => ((s_.length : Int) - x1 : Int).toNat) (fun x1 => ⟨[(0, some (true, .str s_)), (6, some (true, .int .i64 (s_.length : Int))), (7, some (true, .int .i64 x1))], []⟩) (fun x1 => ⟨[], []⟩) ⟨by first | omega | assumption | (simp only [List.length_append, List.length_cons, List.length_nil, List.length_replicate, put_len] at * <;> omega), by first | omega | assumption | (simp only [List.length_append, List.length_cons, List.length_nil, List.length_replicate, put_len] at * <;> omega)⟩ (by first | omega | assumption | (simp only [List.length_append, List.length_cons, List.length_nil, List.length_replicate, put_len] at * <;> omega)) (sub_of [] ⟨rfl, rfl, rfl, trivial⟩ trivial rfl) ?_ ?_
  · intro x1 i5
    obtain ⟨e6, e7, e8⟩ := i5
    try dsimp only at *
    refine run_seq ?_
    refine run_region (q_assign .n (.c rfl) rfl <|
        Lex.nil) ?_
    exact run_ret [] (.cons (.t rfl rfl) .nil) rfl trivial rfl
  · intro rec1 k1 hk1 x1 i2
    obtain ⟨e9, e10⟩ := i2
    try dsimp only at *
    refine run_seq ?_
    refine run_region (q_int .n (.t rfl) (.t rfl) rfl rfl <|
        Lex.nil) ?_
    refine run_seq ?_
    refine run_cond (.t rfl) rfl (fun h3 => ?_) (fun h3 => ?_)
    · try simp only [Bool.and_eq_true, Bool.or_eq_true, Bool.not_eq_true', Bool.and_eq_false_iff, Bool.or_eq_false_iff, Bool.not_eq_false', decide_eq_true_eq, decide_eq_false_iff_not, beq_iff_eq, bne_iff_ne, beq_eq_false_iff_ne, bne_eq_false_iff_eq, Bool.true_and, ne_eq, Decidable.not_not, Int.not_lt, Int.not_le, Nat.not_lt, Nat.not_le, strB_nil, strB_nil', strB_nnil, strB_nnil'] at h3
      refine run_skip ?_
      refine run_seq ?_
      refine run_block ?_
      refine run_seq ?_
      refine run_region (q_move .n (.t rfl) rfl <|
          q_assign .n (.t rfl) rfl <|
          Lex.nil) ?_
      refine run_seq ?_
      refine run_region (q_move .n (.t rfl) rfl <|
          q_move .n (.t rfl) rfl <|
          q_strat .n (.t rfl) (.t rfl) st_9 (fun _ => by first | omega | assumption | (simp only [List.length_append, List.length_cons, List.length_nil, List.length_replicate, put_len] at * <;> omega)) rfl <|
          q_assign .n (.t rfl) rfl <|
          Lex.nil) ?_
      refine run_seq ?_
      refine run_region (q_move .n (.t rfl) rfl <|
          q_int .n (.t rfl) (.c rfl) rfl rfl <|
          q_move .n (.t rfl) rfl <|
          q_move (.f rfl rfl) (.t rfl) rfl <|
          q_int (.f rfl rfl) (.u rfl id) (.c rfl) rfl rfl <|
          q_or .n (.t rfl) (.u rfl id) rfl <|
          q_move .n (.t rfl) rfl <|
          q_move (.t rfl rfl) (.t rfl) rfl <|
          q_int (.t rfl rfl) (.u rfl id) (.c rfl) rfl rfl <|
          q_move (.t rfl rfl) (.u rfl id) rfl <|
          q_move (.f rfl rfl) (.t rfl) rfl <|
          q_int (.f rfl rfl) (.u rfl id) (.c rfl) rfl rfl <|
          q_or (.t rfl rfl) (.u rfl id) (.u rfl id) rfl <|
          q_and .n (.t rfl) (.u rfl id) rfl <|
          Lex.nil) ?_
      refine run_cond (.t rfl) rfl (fun h4 => ?_) (fun h4 => ?_)
      · try simp only [Bool.and_eq_true, Bool.or_eq_true, Bool.not_eq_true', Bool.and_eq_false_iff, Bool.or_eq_false_iff, Bool.not_eq_false', decide_eq_true_eq, decide_eq_false_iff_not, beq_iff_eq, bne_iff_ne, beq_eq_false_iff_ne, bne_eq_false_iff_eq, Bool.true_and, ne_eq, Decidable.not_not, Int.not_lt, Int.not_le, Nat.not_lt, Nat.not_le, strB_nil, strB_nil', strB_nnil, strB_nnil'] at h4
        refine run_seq ?_
        refine run_region (q_assign .n (.c rfl) rfl <|
            Lex.nil) ?_
        exact run_ret [] (.cons (.t rfl rfl) .nil) rfl trivial rfl
      · try simp only [Bool.and_eq_true, Bool.or_eq_true, Bool.not_eq_true', Bool.and_eq_false_iff, Bool.or_eq_false_iff, Bool.not_eq_false', decide_eq_true_eq, decide_eq_false_iff_not, beq_iff_eq, bne_iff_ne, beq_eq_false_iff_ne, bne_eq_false_iff_eq, Bool.true_and, ne_eq, Decidable.not_not, Int.not_lt, Int.not_le, Nat.not_lt, Nat.not_le, strB_nil, strB_nil', strB_nnil, strB_nnil'] at h4
        refine run_skip ?_
        refine run_endB ?_
        refine run_region (q_add .n (.t rfl) (.c rfl) (fun _ => by first | omega | assumption | (simp only [List.length_append, List.length_cons, List.length_nil, List.length_replicate, put_len] at * <;> omega)) rfl <|
            q_move .n (.t rfl) rfl <|
            Lex.nil) ?_
        exact run_again (x1 + 1) ⟨by first | omega | assumption | (simp only [List.length_append, List.length_cons, List.length_nil, List.length_replicate, put_len] at * <;> omega), by first | omega | assumption | (simp only [List.length_append, List.length_cons, List.length_nil, List.length_replicate, put_len] at * <;> omega)⟩ (by first | omega | assumption | (simp only [List.length_append, List.length_cons, List.length_nil, List.length_replicate, put_len] at * <;> omega)) (sub_of [] ⟨rfl, rfl, rfl, trivial⟩ trivial rfl)
    · try simp only [Bool.and_eq_true, Bool.or_eq_true, Bool.not_eq_true', Bool.and_eq_false_iff, Bool.or_eq_false_iff, Bool.not_eq_false', decide_eq_true_eq, decide_eq_false_iff_not, beq_iff_eq, bne_iff_ne, beq_eq_false_iff_ne, bne_eq_false_iff_eq, Bool.true_and, ne_eq, Decidable.not_not, Int.not_lt, Int.not_le, Nat.not_lt, Nat.not_le, strB_nil, strB_nil', strB_nnil, strB_nnil'] at h3
      refine run_exit rfl ?_
      exact run_cont hk1 x1 ⟨by first | omega | assumption | (simp only [List.length_append, List.length_cons, List.length_nil, List.length_replicate, put_len] at * <;> omega), by first | omega | assumption | (simp only [List.length_append, List.length_cons, List.length_nil, List.length_replicate, put_len] at * <;> omega), by first | omega | assumption | (simp only [List.length_append, List.length_cons, List.length_nil, List.length_replicate, put_len] at * <;> omega)⟩ (sub_of [] trivial trivial rfl)

/-! ### impl_IsName -/
theorem c_impl_IsName (s_ : List UInt8) : Con Try.prog 108 [.str s_] [] (.bool (m_impl_IsName s_)) ([]) := by
  refine con_intro (out := fun r : Bool => ((.bool r : V), ([] : List (Nat × Option O)))) (r := (m_impl_IsName s_)) Try.func108 rfl Try.ntmps108 rfl ?_
  refine run_seq ?_
  refine run_region (q_assign .n (.c rfl) rfl <|
      Lex.nil) ?_
  refine run_seq ?_
  refine run_seq ?_
  refine run_region (q_move .n (.t rfl) rfl <|
      q_len .n (.t rfl) rfl rfl st_9 rfl <|
      q_int .n (.t rfl) (.c rfl) rfl rfl <|
      q_move .n (.t rfl) rfl <|
      q_move (.f rfl rfl) (.t rfl) rfl <|
      q_len (.f rfl rfl) (.u rfl id) rfl rfl st_9 rfl <|
      q_int (.f rfl rfl) (.u rfl id) (.c rfl) rfl rfl <|
      q_or .n (.t rfl) (.u rfl id) rfl <|
      q_move .n (.t rfl) rfl <|
      q_move (.f rfl rfl) (.t rfl) rfl <|
      q_strat (.f rfl rfl) (.u rfl id) (.c rfl) st_9 (fun hg => by simp only [Bool.and_eq_true, Bool.or_eq_true, Bool.not_eq_true', Bool.and_eq_false_iff, Bool.or_eq_false_iff, Bool.not_eq_false', decide_eq_true_eq, decide_eq_false_iff_not, beq_iff_eq, bne_iff_ne, beq_eq_false_iff_ne, bne_eq_false_iff_eq, Bool.true_and, ne_eq, Decidable.not_not, Int.not_lt, Int.not_le, Nat.not_lt, Nat.not_le, strB_nil, strB_nil', strB_nnil, strB_nnil'] at hg; first | omega | assumption | (simp only [List.length_append, List.length_cons, List.length_nil, List.length_replicate, put_len] at * <;> omega)) rfl <|
      q_int (.f rfl rfl) (.u rfl id) (.c rfl) rfl rfl <|
      q_or .n (.t rfl) (.u rfl id) rfl <|
      q_move .n (.t rfl) rfl <|
      q_move (.f rfl rfl) (.t rfl) rfl <|
      q_strat (.f rfl rfl) (.u rfl id) (.c rfl) st_9 (fun hg => by simp only [Bool.and_eq_true, Bool.or_eq_true, Bool.not_eq_true', Bool.and_eq_false_iff, Bool.or_eq_false_iff, Bool.not_eq_false', decide_eq_true_eq, decide_eq_false_iff_not, beq_iff_eq, bne_iff_ne, beq_eq_false_iff_ne, bne_eq_false_iff_eq, Bool.true_and, ne_eq, Decidable.not_not, Int.not_lt, Int.not_le, Nat.not_lt, Nat.not_le, strB_nil, strB_nil', strB_nnil, strB_nnil'] at hg; first | omega | assumption | (simp only [List.length_append, List.length_cons, List.length_nil, List.length_replicate, put_len] at * <;> omega)) rfl <|
      q_int (.f rfl rfl) (.u rfl id) (.c rfl) rfl rfl <|
      q_or .n (.t rfl) (.u rfl id) rfl <|
      Lex.nil) ?_
  refine run_cond (.t rfl) rfl (fun h1 => ?_) (fun h1 => ?_)
  · try simp only [Bool.and_eq_true, Bool.or_eq_true, Bool.not_eq_true', Bool.and_eq_false_iff, Bool.or_eq_false_iff, Bool.not_eq_false', decide_eq_true_eq, decide_eq_false_iff_not, beq_iff_eq, bne_iff_ne, beq_eq_false_iff_ne, bne_eq_false_iff_eq, Bool.true_and, ne_eq, Decidable.not_not, Int.not_lt, Int.not_le, Nat.not_lt, Nat.not_le, strB_nil, strB_nil', strB_nnil, strB_nnil'] at h1
    refine run_seq ?_
    refine run_region (q_assign .n (.c rfl) rfl <|
        Lex.nil) ?_
    exact run_ret [] (.cons (.t rfl rfl) .nil) rfl trivial rfl
  · try simp only [Bool.and_eq_true, Bool.or_eq_true, Bool.not_eq_true', Bool.and_eq_false_iff, Bool.or_eq_false_iff, Bool.not_eq_false', decide_eq_true_eq, decide_eq_false_iff_not, beq_iff_eq, bne_iff_ne, beq_eq_false_iff_ne, bne_eq_false_iff_eq, Bool.true_and, ne_eq, Decidable.not_not, Int.not_lt, Int.not_le, Nat.not_lt, Nat.not_le, strB_nil, strB_nil', strB_nnil, strB_nnil'] at h1
    refine run_skip ?_
    refine run_seq ?_
    refine run_region (q_move .n (.t rfl) rfl <|
        q_call0 (full := false) .n .f en_123 (.cons (.t rfl) .nil) (.cons (.b (.a (.same rfl))) .nil) (fun hg => c_impl_onlyNameBytes s_ (by first | omega | assumption | (simp only [List.length_append, List.length_cons, List.length_nil, List.length_replicate, put_len] at * <;> omega))) rfl (fun h => Bool.noConfusion h) rfl <|
        q_assign .n (.t rfl) rfl <|
        Lex.nil) ?_
    exact run_ret [] (.cons (.t rfl rfl) .nil) rfl trivial rfl

/-! ### impl_junctionOk -/
theorem c_impl_junctionOk (n_ : Int) : Con Try.prog 109 [.int .i64 n_] [] (.bool (m_impl_junctionOk n_)) ([]) := by
  refine con_intro (out := fun r : Bool => ((.bool r : V), ([] : List (Nat × Option O)))) (r := (m_impl_junctionOk n_)) Try.func109 rfl Try.ntmps109 rfl ?_
  refine run_seq ?_
  refine run_region (q_assign .n (.c rfl) rfl <|
      Lex.nil) ?_
  refine run_seq ?_
  refine run_region (q_move .n (.t rfl) rfl <|
      q_call0 (full := false) .n .f en_80 (.cons (.t rfl) (.cons (.c rfl) (.cons (.c rfl) .nil))) (.cons (.b (.a (.same rfl))) (.cons (.b (.a (.same rfl))) (.cons (.b (.a (.same rfl))) .nil))) (fun hg => c_impl_within n_ 0 15) rfl (fun h => Bool.noConfusion h) rfl <|
      q_assign .n (.t rfl) rfl <|
      Lex.nil) ?_
  exact run_ret [] (.cons (.t rfl rfl) .nil) rfl trivial rfl

/-! ### impl_ValidAirway -/
theorem c_impl_ValidAirway (a : gAirway) : Con Try.prog 106 [.st [.str a.Id, .int .i64 a.From, .int .i64 a.To, .int .i64 a.Length, .int .i64 a.Section, .int .i64 a.Friction, .int .i64 a.Shock]] [] (.bool (m_impl_ValidAirway a)) ([]) := by
  refine con_intro (out := fun r : Bool => ((.bool r : V), ([] : List (Nat × Option O)))) (r := (m_impl_ValidAirway a)) Try.func106 rfl Try.ntmps106 rfl ?_
  refine run_seq ?_
  refine run_region (q_box (l := 200) .n rfl (.t rfl) rfl rfl rfl rfl <|
      q_assign .n (.c rfl) rfl <|
      Lex.nil) ?_
  refine run_seq ?_
  refine run_region (q_fld_ow .n (.t rfl) fo_120_0 rfl <|
      q_ld1_ow .n (.t rfl) rfl (.inr rfl) (fun _ => rfl) rfl ic_9 rfl <|
      q_call0 (full := false) .n .f en_108 (.cons (.t rfl) .nil) (.cons (.b (.a (.same rfl))) .nil) (fun hg => c_impl_IsName a.Id) rfl (fun h => Bool.noConfusion h) rfl <|
      q_move .n (.t rfl) rfl <|
      q_fld_ow (.t rfl rfl) (.t rfl) fo_120_1 rfl <|
      q_ld1_ow (.t rfl rfl) (.u rfl id) rfl (.inr rfl) (fun _ => rfl) rfl ic_2 rfl <|
      q_call0 (full := false) (.t rfl rfl) .f en_109 (.cons (.u rfl id) .nil) (.cons (.b (.a (.same rfl))) .nil) (fun hg => c_impl_junctionOk a.From) rfl (fun h => Bool.noConfusion h) rfl <|
      q_and .n (.t rfl) (.u rfl id) rfl <|
      q_move .n (.t rfl) rfl <|
      q_fld_ow (.t rfl rfl) (.t rfl) fo_120_2 rfl <|
      q_ld1_ow (.t rfl rfl) (.u rfl id) rfl (.inr rfl) (fun _ => rfl) rfl ic_2 rfl <|
      q_call0 (full := false) (.t rfl rfl) .f en_109 (.cons (.u rfl id) .nil) (.cons (.b (.a (.same rfl))) .nil) (fun hg => c_impl_junctionOk a.To) rfl (fun h => Bool.noConfusion h) rfl <|
      q_and .n (.t rfl) (.u rfl id) rfl <|
      q_move .n (.t rfl) rfl <|
      q_fld_ow (.t rfl rfl) (.t rfl) fo_120_1 rfl <|
      q_ld1_ow (.t rfl rfl) (.u rfl id) rfl (.inr rfl) (fun _ => rfl) rfl ic_2 rfl <|
      q_fld_ow (.t rfl rfl) (.t rfl) fo_120_2 rfl <|
      q_ld1_ow (.t rfl rfl) (.u rfl id) rfl (.inr rfl) (fun _ => rfl) rfl ic_2 rfl <|
      q_int (.t rfl rfl) (.u rfl id) (.u rfl id) rfl rfl <|
      q_and .n (.t rfl) (.u rfl id) rfl <|
      q_move .n (.t rfl) rfl <|
      q_fld_ow (.t rfl rfl) (.t rfl) fo_120_3 rfl <|
      q_ld1_ow (.t rfl rfl) (.u rfl id) rfl (.inr rfl) (fun _ => rfl) rfl ic_2 rfl <|
      q_call0 (full := false) (.t rfl rfl) .f en_80 (.cons (.u rfl id) (.cons (.c rfl) (.cons (.c rfl) .nil))) (.cons (.b (.a (.same rfl))) (.cons (.b (.a (.same rfl))) (.cons (.b (.a (.same rfl))) .nil))) (fun hg => c_impl_within a.Length 1 10000) rfl (fun h => Bool.noConfusion h) rfl <|
      q_and .n (.t rfl) (.u rfl id) rfl <|
      q_move .n (.t rfl) rfl <|
      q_fld_ow (.t rfl rfl) (.t rfl) fo_120_4 rfl <|
      q_ld1_ow (.t rfl rfl) (.u rfl id) rfl (.inr rfl) (fun _ => rfl) rfl ic_2 rfl <|
      q_call0 (full := false) (.t rfl rfl) .f en_80 (.cons (.u rfl id) (.cons (.c rfl) (.cons (.c rfl) .nil))) (.cons (.b (.a (.same rfl))) (.cons (.b (.a (.same rfl))) (.cons (.b (.a (.same rfl))) .nil))) (fun hg => c_impl_within a.Section 50 5000) rfl (fun h => Bool.noConfusion h) rfl <|
      q_and .n (.t rfl) (.u rfl id) rfl <|
      q_move .n (.t rfl) rfl <|
      q_fld_ow (.t rfl rfl) (.t rfl) fo_120_5 rfl <|
      q_ld1_ow (.t rfl rfl) (.u rfl id) rfl (.inr rfl) (fun _ => rfl) rfl ic_2 rfl <|
      q_call0 (full := false) (.t rfl rfl) .f en_80 (.cons (.u rfl id) (.cons (.c rfl) (.cons (.c rfl) .nil))) (.cons (.b (.a (.same rfl))) (.cons (.b (.a (.same rfl))) (.cons (.b (.a (.same rfl))) .nil))) (fun hg => c_impl_within a.Friction 1 1000) rfl (fun h => Bool.noConfusion h) rfl <|
      q_and .n (.t rfl) (.u rfl id) rfl <|
      q_move .n (.t rfl) rfl <|
      q_fld_ow (.t rfl rfl) (.t rfl) fo_120_6 rfl <|
      q_ld1_ow (.t rfl rfl) (.u rfl id) rfl (.inr rfl) (fun _ => rfl) rfl ic_2 rfl <|
      q_call0 (full := false) (.t rfl rfl) .f en_80 (.cons (.u rfl id) (.cons (.c rfl) (.cons (.c rfl) .nil))) (.cons (.b (.a (.same rfl))) (.cons (.b (.a (.same rfl))) (.cons (.b (.a (.same rfl))) .nil))) (fun hg => c_impl_within a.Shock 0 1000) rfl (fun h => Bool.noConfusion h) rfl <|
      q_and .n (.t rfl) (.u rfl id) rfl <|
      q_assign .n (.t rfl) rfl <|
      Lex.nil) ?_
  exact run_ret [] (.cons (.t rfl rfl) .nil) rfl trivial rfl

/-! ### impl_Mine_hasJunction -/
theorem c_impl_Mine_hasJunction (m_ : gMine) (n_ : Int) : Con Try.prog 92 [.st [.int .i64 m_.Junctions, .sl 7 (m_.Airways.map gAirway.v)], .int .i64 n_] [] (.bool (m_impl_Mine_hasJunction m_ n_)) ([]) := by
  refine con_intro (out := fun r : Bool => ((.bool r : V), ([] : List (Nat × Option O)))) (r := (m_impl_Mine_hasJunction m_ n_)) Try.func92 rfl Try.ntmps92 rfl ?_
  refine run_factS (t := 0) 1 rfl rfl fun hl => ?_
  have l1 := hl; clear hl; simp only [List.length_map] at l1
  refine run_seq ?_
  refine run_region (q_box (l := 200) .n rfl (.t rfl) rfl rfl rfl rfl <|
      q_assign .n (.c rfl) rfl <|
      Lex.nil) ?_
  refine run_seq ?_
  refine run_region (q_move .n (.t rfl) rfl <|
      q_fld_ow .n (.t rfl) fo_34_0 rfl <|
      q_ld1_ow .n (.t rfl) rfl (.inr rfl) (fun _ => rfl) rfl ic_2 rfl <|
      q_int .n (.t rfl) (.c rfl) rfl rfl <|
      q_call0 (full := false) .n .f en_80 (.cons (.t rfl) (.cons (.c rfl) (.cons (.t rfl) .nil))) (.cons (.b (.a (.same rfl))) (.cons (.b (.a (.same rfl))) (.cons (.b (.a (.same rfl))) .nil))) (fun hg => c_impl_within n_ 0 (IntKind.wrap .i64 (m_.Junctions - 1))) rfl (fun h => Bool.noConfusion h) rfl <|
      q_assign .n (.t rfl) rfl <|
      Lex.nil) ?_
  exact run_ret [] (.cons (.t rfl rfl) .nil) rfl trivial rfl

/-! ### impl_Mine_hasEnds -/
theorem c_impl_Mine_hasEnds (m_ : gMine) (a : gAirway) : Con Try.prog 107 [.st [.int .i64 m_.Junctions, .sl 7 (m_.Airways.map gAirway.v)], .st [.str a.Id, .int .i64 a.From, .int .i64 a.To, .int .i64 a.Length, .int .i64 a.Section, .int .i64 a.Friction, .int .i64 a.Shock]] [] (.bool (m_impl_Mine_hasEnds m_ a)) ([]) := by
  refine con_intro (out := fun r : Bool => ((.bool r : V), ([] : List (Nat × Option O)))) (r := (m_impl_Mine_hasEnds m_ a)) Try.func107 rfl Try.ntmps107 rfl ?_
  refine run_factS (t := 0) 1 rfl rfl fun hl => ?_
  have l1 := hl; clear hl; simp only [List.length_map] at l1
  refine run_seq ?_
  refine run_region (q_box (l := 200) .n rfl (.t rfl) rfl rfl rfl rfl <|
      q_box (l := 201) .n rfl (.t rfl) rfl rfl rfl rfl <|
      q_assign .n (.c rfl) rfl <|
      Lex.nil) ?_
  refine run_seq ?_
  refine run_region (q_ldN_ow .n (.t rfl) rfl (.inr rfl) ag_34 (fun _ => rfl) rfl rfl <|
      q_fld_ow .n (.t rfl) fo_120_1 rfl <|
      q_ld1_ow .n (.t rfl) rfl (.inr rfl) (fun _ => rfl) rfl ic_2 rfl <|
      q_call0 (full := false) .n .f en_92 (.cons (.t rfl) (.cons (.t rfl) .nil)) (.cons (.sts rfl) (.cons (.b (.a (.same rfl))) .nil)) (fun hg => c_impl_Mine_hasJunction m_ a.From) rfl (fun h => Bool.noConfusion h) rfl <|
      q_move .n (.t rfl) rfl <|
      q_ldN_ow (.t rfl rfl) (.t rfl) rfl (.inr rfl) ag_34 (fun _ => rfl) rfl rfl <|
      q_fld_ow (.t rfl rfl) (.t rfl) fo_120_2 rfl <|
      q_ld1_ow (.t rfl rfl) (.u rfl id) rfl (.inr rfl) (fun _ => rfl) rfl ic_2 rfl <|
      q_call0 (full := false) (.t rfl rfl) .f en_92 (.cons (.u rfl id) (.cons (.u rfl id) .nil)) (.cons (.sts rfl) (.cons (.b (.a (.same rfl))) .nil)) (fun hg => c_impl_Mine_hasJunction m_ a.To) rfl (fun h => Bool.noConfusion h) rfl <|
      q_and .n (.t rfl) (.u rfl id) rfl <|
      q_assign .n (.t rfl) rfl <|
      Lex.nil) ?_
  exact run_ret [] (.cons (.t rfl rfl) .nil) rfl trivial rfl

/-! ### impl_ValidMine -/
theorem c_impl_ValidMine (m_ : gMine) : Con Try.prog 90 [.st [.int .i64 m_.Junctions, .sl 7 (m_.Airways.map gAirway.v)]] [] (.bool (m_impl_ValidMine m_)) ([]) := by
  refine con_intro (out := fun r : Bool => ((.bool r : V), ([] : List (Nat × Option O)))) (r := (m_impl_ValidMine m_)) Try.func90 rfl Try.ntmps90 rfl ?_
  refine run_factS (t := 0) 1 rfl rfl fun hl => ?_
  have l1 := hl; clear hl; simp only [List.length_map] at l1
  refine run_seq ?_
  refine run_region (q_box (l := 200) .n rfl (.t rfl) rfl rfl rfl rfl <|
      q_assign .n (.c rfl) rfl <|
      Lex.nil) ?_
  refine run_seq ?_
  refine run_seq ?_
  refine run_region (q_fld_ow .n (.t rfl) fo_34_0 rfl <|
      q_ld1_ow .n (.t rfl) rfl (.inr rfl) (fun _ => rfl) rfl ic_2 rfl <|
      q_call0 (full := false) .n .f en_80 (.cons (.t rfl) (.cons (.c rfl) (.cons (.c rfl) .nil))) (.cons (.b (.a (.same rfl))) (.cons (.b (.a (.same rfl))) (.cons (.b (.a (.same rfl))) .nil))) (fun hg => c_impl_within m_.Junctions 1 16) rfl (fun h => Bool.noConfusion h) rfl <|
      q_not .n (.t rfl) rfl <|
      q_move .n (.t rfl) rfl <|
      q_fld_ow (.f rfl rfl) (.t rfl) fo_34_1 rfl <|
      q_ld1_ow (.f rfl rfl) (.u rfl id) rfl (.inr rfl) (fun _ => rfl) rfl ic_32 rfl <|
      q_len (.f rfl rfl) (.u rfl id) rfl len_map ss_32 rfl <|
      q_int (.f rfl rfl) (.u rfl id) (.c rfl) rfl rfl <|
      q_or .n (.t rfl) (.u rfl id) rfl <|
      Lex.nil) ?_
  refine run_cond (.t rfl) rfl (fun h2 => ?_) (fun h2 => ?_)
  · try simp only [Bool.and_eq_true, Bool.or_eq_true, Bool.not_eq_true', Bool.and_eq_false_iff, Bool.or_eq_false_iff, Bool.not_eq_false', decide_eq_true_eq, decide_eq_false_iff_not, beq_iff_eq, bne_iff_ne, beq_eq_false_iff_ne, bne_eq_false_iff_eq, Bool.true_and, ne_eq, Decidable.not_not, Int.not_lt, Int.not_le, Nat.not_lt, Nat.not_le, strB_nil, strB_nil', strB_nnil, strB_nnil'] at h2
    try have hf0h2 := within_imp h2
    try have hf1h2 := within_imp h2.1
    try have hf2h2 := within_imp h2.2
    try have hf3h2 := within_imp h2.1.1
    try have hf4h2 := within_imp h2.1.2
    try have hf5h2 := within_imp h2.2.1
    try have hf6h2 := within_imp h2.2.2
    refine run_seq ?_
    refine run_region (q_assign .n (.c rfl) rfl <|
        Lex.nil) ?_
    exact run_ret [] (.cons (.t rfl rfl) .nil) rfl trivial rfl
  · try simp only [Bool.and_eq_true, Bool.or_eq_true, Bool.not_eq_true', Bool.and_eq_false_iff, Bool.or_eq_false_iff, Bool.not_eq_false', decide_eq_true_eq, decide_eq_false_iff_not, beq_iff_eq, bne_iff_ne, beq_eq_false_iff_ne, bne_eq_false_iff_eq, Bool.true_and, ne_eq, Decidable.not_not, Int.not_lt, Int.not_le, Nat.not_lt, Nat.not_le, strB_nil, strB_nil', strB_nnil, strB_nnil'] at h2
    try have hf0h2 := within_imp h2
    try have hf1h2 := within_imp h2.1
    try have hf2h2 := within_imp h2.2
    try have hf3h2 := within_imp h2.1.1
    try have hf4h2 := within_imp h2.1.2
    try have hf5h2 := within_imp h2.2.1
    try have hf6h2 := within_imp h2.2.2
    refine run_skip ?_
    refine run_seq ?_
    refine run_seq ?_
    refine run_region (q_fld_ow .n (.t rfl) fo_34_1 rfl <|
        q_ld1_ow .n (.t rfl) rfl (.inr rfl) (fun _ => rfl) rfl ic_32 rfl <|
        q_len .n (.t rfl) rfl len_map ss_32 rfl <|
        q_move .n (.c rfl) rfl <|
        Lex.nil) ?_
    refine run_block ?_
    refine run_LOOP (m_impl_ValidMine_b1 m_) _ _ _ rfl (fun (x1 : Int) => 0 ≤ x1 ∧ x1 ≤ (m_.Airways.length : Int)) (fun x1 => 0 ≤ x1 ∧ x1 ≤ (m_.Airways.length : Int) ∧ (m_.Airways.length : Int) ≤ x1) (fun x1 => ((m_.Airways.length : Int) - x1 : Int).toNat) (fun x1 => ⟨[(1, some (true, .op 200 0 0 0)), (16, some (true, .sl 7 (m_.Airways.map gAirway.v))), (17, some (true, .int .i64 (m_.Airways.length : Int))), (18, some (true, .int .i64 x1))], [(200, some (.box 34 [.int .i64 m_.Junctions, .sl 7 (m_.Airways.map gAirway.v)]))]⟩) (fun x1 => ⟨[], []⟩) ⟨by first | omega | assumption | (simp only [List.length_append, List.length_cons, List.length_nil, List.length_replicate, put_len] at * <;> omega), by first | omega | assumption | (simp only [List.length_append, List.length_cons, List.length_nil, List.length_replicate, put_len] at * <;> omega)⟩ (by first | omega | assumption | (simp only [List.length_append, List.length_cons, List.length_nil, List.length_replicate, put_len] at * <;> omega)) (sub_of [] ⟨rfl, rfl, rfl, rfl, trivial⟩ ⟨rfl, trivial⟩ rfl) ?_ ?_
    · intro x1 i7
      obtain ⟨e8, e9, e10⟩ := i7
      try dsimp only at *
      refine run_seq ?_
      refine run_region (q_assign .n (.c rfl) rfl <|
          Lex.nil) ?_
      exact run_ret [] (.cons (.t rfl rfl) .nil) rfl trivial rfl
    · intro rec1 k1 hk3 x1 i4
      obtain ⟨e11, e12⟩ := i4
      try dsimp only at *
      refine run_seq ?_
      refine run_region (q_int .n (.t rfl) (.t rfl) rfl rfl <|
          Lex.nil) ?_
      refine run_seq ?_
      refine run_cond (.t rfl) rfl (fun h5 => ?_) (fun h5 => ?_)
      · try simp only [Bool.and_eq_true, Bool.or_eq_true, Bool.not_eq_true', Bool.and_eq_false_iff, Bool.or_eq_false_iff, Bool.not_eq_false', decide_eq_true_eq, decide_eq_false_iff_not, beq_iff_eq, bne_iff_ne, beq_eq_false_iff_ne, bne_eq_false_iff_eq, Bool.true_and, ne_eq, Decidable.not_not, Int.not_lt, Int.not_le, Nat.not_lt, Nat.not_le, strB_nil, strB_nil', strB_nnil, strB_nnil'] at h5
        refine run_skip ?_
        refine run_seq ?_
        refine run_block ?_
        refine run_seq ?_
        refine run_region (q_move .n (.t rfl) rfl <|
            q_idx_rm .n (.t rfl) (.t rfl) sl_32 (fun _ => by first | omega | assumption | (simp only [List.length_append, List.length_cons, List.length_nil, List.length_replicate, put_len] at * <;> omega)) rfl <|
            q_ldN_ro .n (.t rfl) ag_120 rfl rfl rfl <|
            q_alloc (l := 201) .n rfl zv_120 rfl rfl <|
            q_assign .n (.t rfl) rfl <|
            q_st_boxm [.str (at' m_.Airways x1).Id, .int .i64 (at' m_.Airways x1).From, .int .i64 (at' m_.Airways x1).To, .int .i64 (at' m_.Airways x1).Length, .int .i64 (at' m_.Airways x1).Section, .int .i64 (at' m_.Airways x1).Friction, .int .i64 (at' m_.Airways x1).Shock] .n rfl (.t rfl) (.t rfl) rfl ts_120 rfl rfl <|
            Lex.nil) ?_
        refine run_seq ?_
        refine run_draw fmo (q_ldN_ow .n (.t rfl) rfl (.inr rfl) ag_120 (fun _ => rfl) rfl rfl <|
            q_call0 (full := false) .n .f en_106 (.cons (.t rfl) .nil) (.cons (.sts rfl) .nil) (fun hg => c_impl_ValidAirway (at' m_.Airways x1)) rfl (fun h => Bool.noConfusion h) rfl <|
            q_not .n (.t rfl) rfl <|
            q_move .n (.t rfl) rfl <|
            q_ldN_ow (.f rfl rfl) (.t rfl) rfl (.inr rfl) ag_34 (fun _ => rfl) rfl rfl <|
            q_ldN_ow (.f rfl rfl) (.t rfl) rfl (.inr rfl) ag_120 (fun _ => rfl) rfl rfl <|
            q_call0 (full := false) (.f rfl rfl) .f en_107 (.cons (.u rfl id) (.cons (.u rfl id) .nil)) (.cons (.sts rfl) (.cons (.sts rfl) .nil)) (fun hg => c_impl_Mine_hasEnds m_ (at' m_.Airways x1)) rfl (fun h => Bool.noConfusion h) rfl <|
            q_not (.f rfl rfl) (.u rfl id) rfl <|
            q_or .n (.t rfl) (.u rfl id) rfl <|
            q_move .n (.t rfl) rfl <|
            q_move (.f rfl rfl) (.t rfl) rfl <|
            q_int (.f rfl rfl) (.u rfl id) (.c rfl) rfl rfl <|
            q_move (.f rfl rfl) (.u rfl id) rfl <|
            q_fld_ow (.t rfl rfl) (.t rfl) fo_120_0 rfl <|
            q_ld1_ow (.t rfl rfl) (.u rfl id) rfl (.inr rfl) (fun _ => rfl) rfl ic_9 rfl <|
            q_fld_ow (.t rfl rfl) (.t rfl) fo_34_1 rfl <|
            q_ld1_ow (.t rfl rfl) (.u rfl id) rfl (.inr rfl) (fun _ => rfl) rfl ic_32 rfl <|
            q_move (.t rfl rfl) (.t rfl) rfl <|
            q_sub (.t rfl rfl) (.u rfl id) (.c rfl) (fun hg => by simp only [Bool.and_eq_true, Bool.or_eq_true, Bool.not_eq_true', Bool.and_eq_false_iff, Bool.or_eq_false_iff, Bool.not_eq_false', decide_eq_true_eq, decide_eq_false_iff_not, beq_iff_eq, bne_iff_ne, beq_eq_false_iff_ne, bne_eq_false_iff_eq, Bool.true_and, ne_eq, Decidable.not_not, Int.not_lt, Int.not_le, Nat.not_lt, Nat.not_le, strB_nil, strB_nil', strB_nnil, strB_nnil'] at hg; first | omega | assumption | (simp only [List.length_append, List.length_cons, List.length_nil, List.length_replicate, put_len] at * <;> omega)) rfl <|
            q_idx_rm (.t rfl rfl) (.u rfl id) (.u rfl id) sl_32 (fun hg => by simp only [Bool.and_eq_true, Bool.or_eq_true, Bool.not_eq_true', Bool.and_eq_false_iff, Bool.or_eq_false_iff, Bool.not_eq_false', decide_eq_true_eq, decide_eq_false_iff_not, beq_iff_eq, bne_iff_ne, beq_eq_false_iff_ne, bne_eq_false_iff_eq, Bool.true_and, ne_eq, Decidable.not_not, Int.not_lt, Int.not_le, Nat.not_lt, Nat.not_le, strB_nil, strB_nil', strB_nnil, strB_nnil'] at hg; first | omega | assumption | (simp only [List.length_append, List.length_cons, List.length_nil, List.length_replicate, put_len] at * <;> omega)) rfl <|
            q_fld_ro (.t rfl rfl) (.u rfl id) fo_120_0 rfl <|
            q_ld1_ro (.t rfl rfl) (.u rfl id) rfl ic_9 rfl <|
            q_strcmp (.t rfl rfl) (.u rfl id) (.u rfl id) rfl rfl <|
            q_and (.f rfl rfl) (.u rfl id) (.u rfl id) rfl <|
            q_or .n (.t rfl) (.u rfl id) rfl <|
            Lex.nil) (by kernel_rfl) ?_
        refine run_cond (.t rfl) rfl (fun h6 => ?_) (fun h6 => ?_)
        · try simp only [Bool.and_eq_true, Bool.or_eq_true, Bool.not_eq_true', Bool.and_eq_false_iff, Bool.or_eq_false_iff, Bool.not_eq_false', decide_eq_true_eq, decide_eq_false_iff_not, beq_iff_eq, bne_iff_ne, beq_eq_false_iff_ne, bne_eq_false_iff_eq, Bool.true_and, ne_eq, Decidable.not_not, Int.not_lt, Int.not_le, Nat.not_lt, Nat.not_le, strB_nil, strB_nil', strB_nnil, strB_nnil'] at h6
          refine run_seq ?_
          refine run_region (q_assign .n (.c rfl) rfl <|
              Lex.nil) ?_
          exact run_ret [] (.cons (.t rfl rfl) .nil) rfl trivial rfl
        · try simp only [Bool.and_eq_true, Bool.or_eq_true, Bool.not_eq_true', Bool.and_eq_false_iff, Bool.or_eq_false_iff, Bool.not_eq_false', decide_eq_true_eq, decide_eq_false_iff_not, beq_iff_eq, bne_iff_ne, beq_eq_false_iff_ne, bne_eq_false_iff_eq, Bool.true_and, ne_eq, Decidable.not_not, Int.not_lt, Int.not_le, Nat.not_lt, Nat.not_le, strB_nil, strB_nil', strB_nnil, strB_nnil'] at h6
          refine run_skip ?_
          refine run_endB ?_
          refine run_region (q_add .n (.t rfl) (.c rfl) (fun _ => by first | omega | assumption | (simp only [List.length_append, List.length_cons, List.length_nil, List.length_replicate, put_len] at * <;> omega)) rfl <|
              q_move .n (.t rfl) rfl <|
              Lex.nil) ?_
          exact run_again (x1 + 1) ⟨by first | omega | assumption | (simp only [List.length_append, List.length_cons, List.length_nil, List.length_replicate, put_len] at * <;> omega), by first | omega | assumption | (simp only [List.length_append, List.length_cons, List.length_nil, List.length_replicate, put_len] at * <;> omega)⟩ (by first | omega | assumption | (simp only [List.length_append, List.length_cons, List.length_nil, List.length_replicate, put_len] at * <;> omega)) (sub_of [] ⟨rfl, rfl, rfl, rfl, trivial⟩ ⟨rfl, trivial⟩ rfl)
      · try simp only [Bool.and_eq_true, Bool.or_eq_true, Bool.not_eq_true', Bool.and_eq_false_iff, Bool.or_eq_false_iff, Bool.not_eq_false', decide_eq_true_eq, decide_eq_false_iff_not, beq_iff_eq, bne_iff_ne, beq_eq_false_iff_ne, bne_eq_false_iff_eq, Bool.true_and, ne_eq, Decidable.not_not, Int.not_lt, Int.not_le, Nat.not_lt, Nat.not_le, strB_nil, strB_nil', strB_nnil, strB_nnil'] at h5
        refine run_exit rfl ?_
        exact run_cont hk3 x1 ⟨by first | omega | assumption | (simp only [List.length_append, List.length_cons, List.length_nil, List.length_replicate, put_len] at * <;> omega), by first | omega | assumption | (simp only [List.length_append, List.length_cons, List.length_nil, List.length_replicate, put_len] at * <;> omega), by first | omega | assumption | (simp only [List.length_append, List.length_cons, List.length_nil, List.length_replicate, put_len] at * <;> omega)⟩ (sub_of [] trivial trivial rfl)

/-! ### impl_Crew_valid -/
theorem c_impl_Crew_valid (c_ : gCrew) : Con Try.prog 100 [.st [.str c_.Id, .int .i64 c_.Junction, .int .i64 c_.Speed]] [] (.bool (m_impl_Crew_valid c_)) ([]) := by
  refine con_intro (out := fun r : Bool => ((.bool r : V), ([] : List (Nat × Option O)))) (r := (m_impl_Crew_valid c_)) Try.func100 rfl Try.ntmps100 rfl ?_
  refine run_seq ?_
  refine run_region (q_box (l := 200) .n rfl (.t rfl) rfl rfl rfl rfl <|
      q_assign .n (.c rfl) rfl <|
      Lex.nil) ?_
  refine run_seq ?_
  refine run_region (q_fld_ow .n (.t rfl) fo_37_0 rfl <|
      q_ld1_ow .n (.t rfl) rfl (.inr rfl) (fun _ => rfl) rfl ic_9 rfl <|
      q_call0 (full := false) .n .f en_108 (.cons (.t rfl) .nil) (.cons (.b (.a (.same rfl))) .nil) (fun hg => c_impl_IsName c_.Id) rfl (fun h => Bool.noConfusion h) rfl <|
      q_move .n (.t rfl) rfl <|
      q_fld_ow (.t rfl rfl) (.t rfl) fo_37_1 rfl <|
      q_ld1_ow (.t rfl rfl) (.u rfl id) rfl (.inr rfl) (fun _ => rfl) rfl ic_2 rfl <|
      q_call0 (full := false) (.t rfl rfl) .f en_109 (.cons (.u rfl id) .nil) (.cons (.b (.a (.same rfl))) .nil) (fun hg => c_impl_junctionOk c_.Junction) rfl (fun h => Bool.noConfusion h) rfl <|
      q_and .n (.t rfl) (.u rfl id) rfl <|
      q_move .n (.t rfl) rfl <|
      q_fld_ow (.t rfl rfl) (.t rfl) fo_37_2 rfl <|
      q_ld1_ow (.t rfl rfl) (.u rfl id) rfl (.inr rfl) (fun _ => rfl) rfl ic_2 rfl <|
      q_call0 (full := false) (.t rfl rfl) .f en_80 (.cons (.u rfl id) (.cons (.c rfl) (.cons (.c rfl) .nil))) (.cons (.b (.a (.same rfl))) (.cons (.b (.a (.same rfl))) (.cons (.b (.a (.same rfl))) .nil))) (fun hg => c_impl_within c_.Speed 10 300) rfl (fun h => Bool.noConfusion h) rfl <|
      q_and .n (.t rfl) (.u rfl id) rfl <|
      q_assign .n (.t rfl) rfl <|
      Lex.nil) ?_
  exact run_ret [] (.cons (.t rfl rfl) .nil) rfl trivial rfl


end Go.Proofs.Ythcboapohklfnaa
