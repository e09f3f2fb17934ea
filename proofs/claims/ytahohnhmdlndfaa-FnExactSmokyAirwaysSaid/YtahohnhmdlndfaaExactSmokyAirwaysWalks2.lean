/-
  THE WALKS: each Go function computes its model. Conditions: as each theorem states them (hp1, hp2 ..).
-/
import Derived.Test.YtahohnhmdlndfaaExactSmokyAirwaysWalks1
set_option linter.unusedVariables false
set_option linter.unusedSimpArgs false
set_option linter.unusedSectionVars false
set_option linter.unnecessarySimpa false
namespace Go.Proofs.Ytahohnhmdlndfaa
open Go Go.RowKit Go.Proofs Go.Proofs.Ytahohnhmdlndfaa.E
/-! ### spec_l17Arrival -/
set_option maxHeartbeats 4000000 in
theorem c_spec_l17Arrival (m_ : gMine) (flows : List Int) (f : gFire) (hp1 : MineIn m_) (hp2 : FlowsIn m_ flows) (hp3 : FireIn m_ f) : Con Try.prog 76 [.rp [.int .i64 m_.Junctions, .sl 7 (m_.Airways.map gAirway.v)], .sl 1 (flows.map (V.int .i64)), .rp [.int .i64 f.Airway, .int .i64 f.At, .int .i64 f.Start]] [] (.os 100 (m_spec_l17Arrival m_ flows f).length) ([(100, some (.row 2 1 ((m_spec_l17Arrival m_ flows f).map (V.int .i64))))]) := by
  refine con_intro (out := fun r : (List Int) => ((.os 100 r.length : V), ([(100, some (.row 2 1 (r.map (V.int .i64))))] : List (Nat × Option O)))) (r := (m_spec_l17Arrival m_ flows f)) Try.func76 rfl Try.ntmps76 rfl ?_
  have hFi := hp3.1
  have hJ1 := hp1.1
  have hA1 := hp1.2.1
  have hF2 := hp2.1
  refine run_factP (t := 0) 1 rfl rfl fun hl => ?_
  have l1 := hl; clear hl; simp only [List.length_map] at l1
  refine run_fact (t := 1) rfl fun hl => ?_
  have l2 := hl; clear hl; simp only [List.length_map] at l2
  refine run_seq ?_
  refine run_region (q_assign .n (.c rfl) rfl <|
      Lex.nil) ?_
  refine run_seq ?_
  refine run_region (q_bslicem ([] : List Int) (f := V.int .i64) (l := 200) .n rfl rfl .nil rfl si_25 zv_2 rfl rfl rfl <|
      q_assign .n (.t rfl) rfl <|
      Lex.nil) ?_
  refine run_seq ?_
  refine run_seq ?_
  refine run_region (q_assign .n (.c rfl) rfl <|
      Lex.nil) ?_
  refine run_block ?_
  refine run_LOOP (m_spec_l17Arrival_b1 m_ flows f) _ _ _ rfl (fun (x1 : (List Int) × Int) => 0 ≤ x1.2 ∧ x1.2 ≤ m_.Junctions ∧ (x1.1.length : Int) + 0 ≤ x1.2 + (([] : List Int).length : Int) ∧ (x1.1.length : Int) = x1.2) (fun x1 => 0 ≤ x1.2 ∧ x1.2 ≤ m_.Junctions ∧ (x1.1.length : Int) + 0 ≤ x1.2 + (([] : List Int).length : Int) ∧ (x1.1.length : Int) = x1.2 ∧ m_.Junctions ≤ x1.2) (fun x1 => (m_.Junctions - x1.2 : Int).toNat) (fun x1 => ⟨[(0, some (true, .rp [.int .i64 m_.Junctions, .sl 7 (m_.Airways.map gAirway.v)])), (1, some (true, .sl 1 (flows.map (V.int .i64)))), (2, some (true, .rp [.int .i64 f.Airway, .int .i64 f.At, .int .i64 f.Start])), (7, some (true, .os 200 x1.1.length)), (8, some (true, .int .i64 x1.2))], [(200, some (.row 2 1 (x1.1.map (V.int .i64))))]⟩) (fun x1 => ⟨[(0, some (true, .rp [.int .i64 m_.Junctions, .sl 7 (m_.Airways.map gAirway.v)])), (1, some (true, .sl 1 (flows.map (V.int .i64)))), (2, some (true, .rp [.int .i64 f.Airway, .int .i64 f.At, .int .i64 f.Start])), (7, some (true, .os 200 x1.1.length))], [(200, some (.row 2 1 (x1.1.map (V.int .i64))))]⟩) ⟨by first | omega | assumption | (simp only [List.length_append, List.length_cons, List.length_nil, List.length_replicate, put_len] at * <;> omega) | ((have hw0 := start_in (at' flows f.Airway) (hp1.at (i := f.Airway) (by omega)); first | omega | (simp only [List.length_append, List.length_cons, List.length_nil, List.length_replicate, put_len] at * <;> omega))) | ((have hw0 := start_in (IntKind.wrap .i64 (0 - at' flows f.Airway)) (hp1.at (i := f.Airway) (by omega)); first | omega | (simp only [List.length_append, List.length_cons, List.length_nil, List.length_replicate, put_len] at * <;> omega))) | ((have hw0 := start_in (at' flows x3.1) (hp1.at (i := x3.1) (by omega)); first | omega | (simp only [List.length_append, List.length_cons, List.length_nil, List.length_replicate, put_len] at * <;> omega))) | ((have hw0 := start_in (IntKind.wrap .i64 (0 - at' flows x3.1)) (hp1.at (i := x3.1) (by omega)); first | omega | (simp only [List.length_append, List.length_cons, List.length_nil, List.length_replicate, put_len] at * <;> omega))) | (exact hp2.at (by omega)), by first | omega | assumption | (simp only [List.length_append, List.length_cons, List.length_nil, List.length_replicate, put_len] at * <;> omega) | ((have hw0 := start_in (at' flows f.Airway) (hp1.at (i := f.Airway) (by omega)); first | omega | (simp only [List.length_append, List.length_cons, List.length_nil, List.length_replicate, put_len] at * <;> omega))) | ((have hw0 := start_in (IntKind.wrap .i64 (0 - at' flows f.Airway)) (hp1.at (i := f.Airway) (by omega)); first | omega | (simp only [List.length_append, List.length_cons, List.length_nil, List.length_replicate, put_len] at * <;> omega))) | ((have hw0 := start_in (at' flows x3.1) (hp1.at (i := x3.1) (by omega)); first | omega | (simp only [List.length_append, List.length_cons, List.length_nil, List.length_replicate, put_len] at * <;> omega))) | ((have hw0 := start_in (IntKind.wrap .i64 (0 - at' flows x3.1)) (hp1.at (i := x3.1) (by omega)); first | omega | (simp only [List.length_append, List.length_cons, List.length_nil, List.length_replicate, put_len] at * <;> omega))) | (exact hp2.at (by omega)), by first | omega | assumption | (simp only [List.length_append, List.length_cons, List.length_nil, List.length_replicate, put_len] at * <;> omega) | ((have hw0 := start_in (at' flows f.Airway) (hp1.at (i := f.Airway) (by omega)); first | omega | (simp only [List.length_append, List.length_cons, List.length_nil, List.length_replicate, put_len] at * <;> omega))) | ((have hw0 := start_in (IntKind.wrap .i64 (0 - at' flows f.Airway)) (hp1.at (i := f.Airway) (by omega)); first | omega | (simp only [List.length_append, List.length_cons, List.length_nil, List.length_replicate, put_len] at * <;> omega))) | ((have hw0 := start_in (at' flows x3.1) (hp1.at (i := x3.1) (by omega)); first | omega | (simp only [List.length_append, List.length_cons, List.length_nil, List.length_replicate, put_len] at * <;> omega))) | ((have hw0 := start_in (IntKind.wrap .i64 (0 - at' flows x3.1)) (hp1.at (i := x3.1) (by omega)); first | omega | (simp only [List.length_append, List.length_cons, List.length_nil, List.length_replicate, put_len] at * <;> omega))) | (exact hp2.at (by omega)), by first | omega | assumption | (simp only [List.length_append, List.length_cons, List.length_nil, List.length_replicate, put_len] at * <;> omega) | ((have hw0 := start_in (at' flows f.Airway) (hp1.at (i := f.Airway) (by omega)); first | omega | (simp only [List.length_append, List.length_cons, List.length_nil, List.length_replicate, put_len] at * <;> omega))) | ((have hw0 := start_in (IntKind.wrap .i64 (0 - at' flows f.Airway)) (hp1.at (i := f.Airway) (by omega)); first | omega | (simp only [List.length_append, List.length_cons, List.length_nil, List.length_replicate, put_len] at * <;> omega))) | ((have hw0 := start_in (at' flows x3.1) (hp1.at (i := x3.1) (by omega)); first | omega | (simp only [List.length_append, List.length_cons, List.length_nil, List.length_replicate, put_len] at * <;> omega))) | ((have hw0 := start_in (IntKind.wrap .i64 (0 - at' flows x3.1)) (hp1.at (i := x3.1) (by omega)); first | omega | (simp only [List.length_append, List.length_cons, List.length_nil, List.length_replicate, put_len] at * <;> omega))) | (exact hp2.at (by omega))⟩ (by first | omega | assumption | (simp only [List.length_append, List.length_cons, List.length_nil, List.length_replicate, put_len] at * <;> omega) | ((have hw0 := start_in (at' flows f.Airway) (hp1.at (i := f.Airway) (by omega)); first | omega | (simp only [List.length_append, List.length_cons, List.length_nil, List.length_replicate, put_len] at * <;> omega))) | ((have hw0 := start_in (IntKind.wrap .i64 (0 - at' flows f.Airway)) (hp1.at (i := f.Airway) (by omega)); first | omega | (simp only [List.length_append, List.length_cons, List.length_nil, List.length_replicate, put_len] at * <;> omega))) | ((have hw0 := start_in (at' flows x3.1) (hp1.at (i := x3.1) (by omega)); first | omega | (simp only [List.length_append, List.length_cons, List.length_nil, List.length_replicate, put_len] at * <;> omega))) | ((have hw0 := start_in (IntKind.wrap .i64 (0 - at' flows x3.1)) (hp1.at (i := x3.1) (by omega)); first | omega | (simp only [List.length_append, List.length_cons, List.length_nil, List.length_replicate, put_len] at * <;> omega))) | (exact hp2.at (by omega))) (sub_of [] ⟨rfl, rfl, rfl, rfl, rfl, trivial⟩ ⟨rfl, trivial⟩ rfl) ?_ ?_
  · intro x1 i6
    obtain ⟨e33, e34, e35, e36, e37⟩ := i6
    try dsimp only at *
    refine run_seq ?_
    refine run_seq ?_
    refine run_region (q_move .n (.t rfl) rfl <|
        q_move .n (.t rfl) rfl <|
        q_nilc_ro .n (.t rfl) rfl <|
        q_fld_ro .n (.t rfl) fo_52_0 rfl <|
        q_ld1_ro .n (.t rfl) rfl ic_2 rfl <|
        q_idx_rm .n (.t rfl) (.t rfl) sl_25 (fun _ => by first | omega | assumption | (simp only [List.length_append, List.length_cons, List.length_nil, List.length_replicate, put_len] at * <;> omega) | ((have hw0 := start_in (at' flows f.Airway) (hp1.at (i := f.Airway) (by omega)); first | omega | (simp only [List.length_append, List.length_cons, List.length_nil, List.length_replicate, put_len] at * <;> omega))) | ((have hw0 := start_in (IntKind.wrap .i64 (0 - at' flows f.Airway)) (hp1.at (i := f.Airway) (by omega)); first | omega | (simp only [List.length_append, List.length_cons, List.length_nil, List.length_replicate, put_len] at * <;> omega))) | ((have hw0 := start_in (at' flows x3.1) (hp1.at (i := x3.1) (by omega)); first | omega | (simp only [List.length_append, List.length_cons, List.length_nil, List.length_replicate, put_len] at * <;> omega))) | ((have hw0 := start_in (IntKind.wrap .i64 (0 - at' flows x3.1)) (hp1.at (i := x3.1) (by omega)); first | omega | (simp only [List.length_append, List.length_cons, List.length_nil, List.length_replicate, put_len] at * <;> omega))) | (exact hp2.at (by omega))) rfl <|
        q_ld1_ro .n (.t rfl) rfl ic_2 rfl <|
        q_int .n (.t rfl) (.c rfl) rfl rfl <|
        Lex.nil) ?_
    refine run_cond (.t rfl) rfl (fun h7 => ?_) (fun h7 => ?_)
    · try simp only [Bool.and_eq_true, Bool.or_eq_true, Bool.not_eq_true', Bool.and_eq_false_iff, Bool.or_eq_false_iff, Bool.not_eq_false', decide_eq_true_eq, decide_eq_false_iff_not, beq_iff_eq, bne_iff_ne, beq_eq_false_iff_ne, bne_eq_false_iff_eq, Bool.true_and, ne_eq, Decidable.not_not, Int.not_lt, Int.not_le, Nat.not_lt, Nat.not_le, strB_nil, strB_nil', strB_nnil, strB_nnil'] at h7
      refine run_seq ?_
      refine run_region (q_move .n (.t rfl) rfl <|
          q_assign .n (.t rfl) rfl <|
          Lex.nil) ?_
      exact run_ret [(100, 200)] (.cons (.t rfl rfl) .nil) (by first | rfl | (simp only [put_len]; rfl)) ⟨rfl, trivial⟩ rfl
    · try simp only [Bool.and_eq_true, Bool.or_eq_true, Bool.not_eq_true', Bool.and_eq_false_iff, Bool.or_eq_false_iff, Bool.not_eq_false', decide_eq_true_eq, decide_eq_false_iff_not, beq_iff_eq, bne_iff_ne, beq_eq_false_iff_ne, bne_eq_false_iff_eq, Bool.true_and, ne_eq, Decidable.not_not, Int.not_lt, Int.not_le, Nat.not_lt, Nat.not_le, strB_nil, strB_nil', strB_nnil, strB_nnil'] at h7
      refine run_skip ?_
      refine run_seq ?_
      refine run_draw fmo (q_move .n (.t rfl) rfl <|
          q_move .n (.t rfl) rfl <|
          q_nilc_ro .n (.t rfl) rfl <|
          q_fld_ro .n (.t rfl) fo_33_1 rfl <|
          q_ld1_ro .n (.t rfl) rfl ic_31 rfl <|
          q_move .n (.t rfl) rfl <|
          q_nilc_ro .n (.t rfl) rfl <|
          q_fld_ro .n (.t rfl) fo_52_0 rfl <|
          q_ld1_ro .n (.t rfl) rfl ic_2 rfl <|
          q_idx_rm .n (.t rfl) (.t rfl) sl_31 (fun _ => by first | omega | assumption | (simp only [List.length_append, List.length_cons, List.length_nil, List.length_replicate, put_len] at * <;> omega) | ((have hw0 := start_in (at' flows f.Airway) (hp1.at (i := f.Airway) (by omega)); first | omega | (simp only [List.length_append, List.length_cons, List.length_nil, List.length_replicate, put_len] at * <;> omega))) | ((have hw0 := start_in (IntKind.wrap .i64 (0 - at' flows f.Airway)) (hp1.at (i := f.Airway) (by omega)); first | omega | (simp only [List.length_append, List.length_cons, List.length_nil, List.length_replicate, put_len] at * <;> omega))) | ((have hw0 := start_in (at' flows x3.1) (hp1.at (i := x3.1) (by omega)); first | omega | (simp only [List.length_append, List.length_cons, List.length_nil, List.length_replicate, put_len] at * <;> omega))) | ((have hw0 := start_in (IntKind.wrap .i64 (0 - at' flows x3.1)) (hp1.at (i := x3.1) (by omega)); first | omega | (simp only [List.length_append, List.length_cons, List.length_nil, List.length_replicate, put_len] at * <;> omega))) | (exact hp2.at (by omega))) rfl <|
          q_move .n (.t rfl) rfl <|
          q_move .n (.t rfl) rfl <|
          q_nilc_ro .n (.t rfl) rfl <|
          q_fld_ro .n (.t rfl) fo_52_0 rfl <|
          q_ld1_ro .n (.t rfl) rfl ic_2 rfl <|
          q_idx_rm .n (.t rfl) (.t rfl) sl_25 (fun _ => by first | omega | assumption | (simp only [List.length_append, List.length_cons, List.length_nil, List.length_replicate, put_len] at * <;> omega) | ((have hw0 := start_in (at' flows f.Airway) (hp1.at (i := f.Airway) (by omega)); first | omega | (simp only [List.length_append, List.length_cons, List.length_nil, List.length_replicate, put_len] at * <;> omega))) | ((have hw0 := start_in (IntKind.wrap .i64 (0 - at' flows f.Airway)) (hp1.at (i := f.Airway) (by omega)); first | omega | (simp only [List.length_append, List.length_cons, List.length_nil, List.length_replicate, put_len] at * <;> omega))) | ((have hw0 := start_in (at' flows x3.1) (hp1.at (i := x3.1) (by omega)); first | omega | (simp only [List.length_append, List.length_cons, List.length_nil, List.length_replicate, put_len] at * <;> omega))) | ((have hw0 := start_in (IntKind.wrap .i64 (0 - at' flows x3.1)) (hp1.at (i := x3.1) (by omega)); first | omega | (simp only [List.length_append, List.length_cons, List.length_nil, List.length_replicate, put_len] at * <;> omega))) | (exact hp2.at (by omega))) rfl <|
          q_ld1_ro .n (.t rfl) rfl ic_2 rfl <|
          q_neg .n (.t rfl) rfl <|
          q_call0 (full := false) .n .f en_105 (.cons (.t rfl) (.cons (.t rfl) .nil)) (.cons (.b (.a (.same rfl))) (.cons (.b (.a (.same rfl))) .nil)) (fun hg => c_spec_l13Start (at' m_.Airways f.Airway) (IntKind.wrap .i64 (0 - (at' flows f.Airway)))) rfl (fun h => Bool.noConfusion h) rfl <|
          q_move .n (.t rfl) rfl <|
          q_move .n (.t rfl) rfl <|
          q_move .n (.t rfl) rfl <|
          q_call0 (full := false) .n .f en_118 (.cons (.t rfl) (.cons (.t rfl) (.cons (.t rfl) .nil))) (.cons (.b (.a (.same rfl))) (.cons (.b (.a (.same rfl))) (.cons (.b (.a (.same rfl))) .nil))) (fun hg => c_spec_l17Leave m_ flows f (by first | omega | assumption | (simp only [List.length_append, List.length_cons, List.length_nil, List.length_replicate, put_len] at * <;> omega) | ((have hw0 := start_in (at' flows f.Airway) (hp1.at (i := f.Airway) (by omega)); first | omega | (simp only [List.length_append, List.length_cons, List.length_nil, List.length_replicate, put_len] at * <;> omega))) | ((have hw0 := start_in (IntKind.wrap .i64 (0 - at' flows f.Airway)) (hp1.at (i := f.Airway) (by omega)); first | omega | (simp only [List.length_append, List.length_cons, List.length_nil, List.length_replicate, put_len] at * <;> omega))) | ((have hw0 := start_in (at' flows x3.1) (hp1.at (i := x3.1) (by omega)); first | omega | (simp only [List.length_append, List.length_cons, List.length_nil, List.length_replicate, put_len] at * <;> omega))) | ((have hw0 := start_in (IntKind.wrap .i64 (0 - at' flows x3.1)) (hp1.at (i := x3.1) (by omega)); first | omega | (simp only [List.length_append, List.length_cons, List.length_nil, List.length_replicate, put_len] at * <;> omega))) | (exact hp2.at (by omega))) (by first | omega | assumption | (simp only [List.length_append, List.length_cons, List.length_nil, List.length_replicate, put_len] at * <;> omega) | ((have hw0 := start_in (at' flows f.Airway) (hp1.at (i := f.Airway) (by omega)); first | omega | (simp only [List.length_append, List.length_cons, List.length_nil, List.length_replicate, put_len] at * <;> omega))) | ((have hw0 := start_in (IntKind.wrap .i64 (0 - at' flows f.Airway)) (hp1.at (i := f.Airway) (by omega)); first | omega | (simp only [List.length_append, List.length_cons, List.length_nil, List.length_replicate, put_len] at * <;> omega))) | ((have hw0 := start_in (at' flows x3.1) (hp1.at (i := x3.1) (by omega)); first | omega | (simp only [List.length_append, List.length_cons, List.length_nil, List.length_replicate, put_len] at * <;> omega))) | ((have hw0 := start_in (IntKind.wrap .i64 (0 - at' flows x3.1)) (hp1.at (i := x3.1) (by omega)); first | omega | (simp only [List.length_append, List.length_cons, List.length_nil, List.length_replicate, put_len] at * <;> omega))) | (exact hp2.at (by omega))) (by first | omega | assumption | (simp only [List.length_append, List.length_cons, List.length_nil, List.length_replicate, put_len] at * <;> omega) | ((have hw0 := start_in (at' flows f.Airway) (hp1.at (i := f.Airway) (by omega)); first | omega | (simp only [List.length_append, List.length_cons, List.length_nil, List.length_replicate, put_len] at * <;> omega))) | ((have hw0 := start_in (IntKind.wrap .i64 (0 - at' flows f.Airway)) (hp1.at (i := f.Airway) (by omega)); first | omega | (simp only [List.length_append, List.length_cons, List.length_nil, List.length_replicate, put_len] at * <;> omega))) | ((have hw0 := start_in (at' flows x3.1) (hp1.at (i := x3.1) (by omega)); first | omega | (simp only [List.length_append, List.length_cons, List.length_nil, List.length_replicate, put_len] at * <;> omega))) | ((have hw0 := start_in (IntKind.wrap .i64 (0 - at' flows x3.1)) (hp1.at (i := x3.1) (by omega)); first | omega | (simp only [List.length_append, List.length_cons, List.length_nil, List.length_replicate, put_len] at * <;> omega))) | (exact hp2.at (by omega))) (by first | omega | assumption | (simp only [List.length_append, List.length_cons, List.length_nil, List.length_replicate, put_len] at * <;> omega) | ((have hw0 := start_in (at' flows f.Airway) (hp1.at (i := f.Airway) (by omega)); first | omega | (simp only [List.length_append, List.length_cons, List.length_nil, List.length_replicate, put_len] at * <;> omega))) | ((have hw0 := start_in (IntKind.wrap .i64 (0 - at' flows f.Airway)) (hp1.at (i := f.Airway) (by omega)); first | omega | (simp only [List.length_append, List.length_cons, List.length_nil, List.length_replicate, put_len] at * <;> omega))) | ((have hw0 := start_in (at' flows x3.1) (hp1.at (i := x3.1) (by omega)); first | omega | (simp only [List.length_append, List.length_cons, List.length_nil, List.length_replicate, put_len] at * <;> omega))) | ((have hw0 := start_in (IntKind.wrap .i64 (0 - at' flows x3.1)) (hp1.at (i := x3.1) (by omega)); first | omega | (simp only [List.length_append, List.length_cons, List.length_nil, List.length_replicate, put_len] at * <;> omega))) | (exact hp2.at (by omega)))) rfl (fun h => Bool.noConfusion h) rfl <|
          q_idx_ow .n (.t rfl) (.t rfl) sl_25 (fun _ => by first | omega | assumption | (simp only [List.length_append, List.length_cons, List.length_nil, List.length_replicate, put_len] at * <;> omega) | ((have hw0 := start_in (at' flows f.Airway) (hp1.at (i := f.Airway) (by omega)); first | omega | (simp only [List.length_append, List.length_cons, List.length_nil, List.length_replicate, put_len] at * <;> omega))) | ((have hw0 := start_in (IntKind.wrap .i64 (0 - at' flows f.Airway)) (hp1.at (i := f.Airway) (by omega)); first | omega | (simp only [List.length_append, List.length_cons, List.length_nil, List.length_replicate, put_len] at * <;> omega))) | ((have hw0 := start_in (at' flows x3.1) (hp1.at (i := x3.1) (by omega)); first | omega | (simp only [List.length_append, List.length_cons, List.length_nil, List.length_replicate, put_len] at * <;> omega))) | ((have hw0 := start_in (IntKind.wrap .i64 (0 - at' flows x3.1)) (hp1.at (i := x3.1) (by omega)); first | omega | (simp only [List.length_append, List.length_cons, List.length_nil, List.length_replicate, put_len] at * <;> omega))) | (exact hp2.at (by omega))) rfl <|
          q_st_rowm (m_spec_l17Leave m_ flows f) .n rfl (.t rfl) (.t rfl) rfl ts_2 (by first | omega | assumption | (simp only [List.length_append, List.length_cons, List.length_nil, List.length_replicate, put_len] at * <;> omega) | ((have hw0 := start_in (at' flows f.Airway) (hp1.at (i := f.Airway) (by omega)); first | omega | (simp only [List.length_append, List.length_cons, List.length_nil, List.length_replicate, put_len] at * <;> omega))) | ((have hw0 := start_in (IntKind.wrap .i64 (0 - at' flows f.Airway)) (hp1.at (i := f.Airway) (by omega)); first | omega | (simp only [List.length_append, List.length_cons, List.length_nil, List.length_replicate, put_len] at * <;> omega))) | ((have hw0 := start_in (at' flows x3.1) (hp1.at (i := x3.1) (by omega)); first | omega | (simp only [List.length_append, List.length_cons, List.length_nil, List.length_replicate, put_len] at * <;> omega))) | ((have hw0 := start_in (IntKind.wrap .i64 (0 - at' flows x3.1)) (hp1.at (i := x3.1) (by omega)); first | omega | (simp only [List.length_append, List.length_cons, List.length_nil, List.length_replicate, put_len] at * <;> omega))) | (exact hp2.at (by omega))) rfl rfl <|
          Lex.nil) (by kernel_rfl) ?_
      refine run_seq ?_
      refine run_seq ?_
      refine run_region (q_assign .n (.c rfl) rfl <|
          Lex.nil) ?_
      refine run_block ?_
      refine run_LOOP (m_spec_l17Arrival_b2 m_ flows f x1) _ _ _ rfl (fun (x2 : (List Int) × Int) => 0 ≤ x2.2 ∧ x2.2 ≤ m_.Junctions ∧ (x2.1.length : Int) = m_.Junctions) (fun x2 => 0 ≤ x2.2 ∧ x2.2 ≤ m_.Junctions ∧ (x2.1.length : Int) = m_.Junctions ∧ m_.Junctions ≤ x2.2) (fun x2 => (m_.Junctions - x2.2 : Int).toNat) (fun x2 => ⟨[(0, some (true, .rp [.int .i64 m_.Junctions, .sl 7 (m_.Airways.map gAirway.v)])), (1, some (true, .sl 1 (flows.map (V.int .i64)))), (7, some (true, .os 200 x2.1.length)), (9, some (true, .int .i64 x2.2))], [(200, some (.row 2 1 (x2.1.map (V.int .i64))))]⟩) (fun x2 => ⟨[(7, some (true, .os 200 x2.1.length))], [(200, some (.row 2 1 (x2.1.map (V.int .i64))))]⟩) ⟨by first | omega | assumption | (simp only [List.length_append, List.length_cons, List.length_nil, List.length_replicate, put_len] at * <;> omega) | ((have hw0 := start_in (at' flows f.Airway) (hp1.at (i := f.Airway) (by omega)); first | omega | (simp only [List.length_append, List.length_cons, List.length_nil, List.length_replicate, put_len] at * <;> omega))) | ((have hw0 := start_in (IntKind.wrap .i64 (0 - at' flows f.Airway)) (hp1.at (i := f.Airway) (by omega)); first | omega | (simp only [List.length_append, List.length_cons, List.length_nil, List.length_replicate, put_len] at * <;> omega))) | ((have hw0 := start_in (at' flows x3.1) (hp1.at (i := x3.1) (by omega)); first | omega | (simp only [List.length_append, List.length_cons, List.length_nil, List.length_replicate, put_len] at * <;> omega))) | ((have hw0 := start_in (IntKind.wrap .i64 (0 - at' flows x3.1)) (hp1.at (i := x3.1) (by omega)); first | omega | (simp only [List.length_append, List.length_cons, List.length_nil, List.length_replicate, put_len] at * <;> omega))) | (exact hp2.at (by omega)), by first | omega | assumption | (simp only [List.length_append, List.length_cons, List.length_nil, List.length_replicate, put_len] at * <;> omega) | ((have hw0 := start_in (at' flows f.Airway) (hp1.at (i := f.Airway) (by omega)); first | omega | (simp only [List.length_append, List.length_cons, List.length_nil, List.length_replicate, put_len] at * <;> omega))) | ((have hw0 := start_in (IntKind.wrap .i64 (0 - at' flows f.Airway)) (hp1.at (i := f.Airway) (by omega)); first | omega | (simp only [List.length_append, List.length_cons, List.length_nil, List.length_replicate, put_len] at * <;> omega))) | ((have hw0 := start_in (at' flows x3.1) (hp1.at (i := x3.1) (by omega)); first | omega | (simp only [List.length_append, List.length_cons, List.length_nil, List.length_replicate, put_len] at * <;> omega))) | ((have hw0 := start_in (IntKind.wrap .i64 (0 - at' flows x3.1)) (hp1.at (i := x3.1) (by omega)); first | omega | (simp only [List.length_append, List.length_cons, List.length_nil, List.length_replicate, put_len] at * <;> omega))) | (exact hp2.at (by omega)), by first | omega | assumption | (simp only [List.length_append, List.length_cons, List.length_nil, List.length_replicate, put_len] at * <;> omega) | ((have hw0 := start_in (at' flows f.Airway) (hp1.at (i := f.Airway) (by omega)); first | omega | (simp only [List.length_append, List.length_cons, List.length_nil, List.length_replicate, put_len] at * <;> omega))) | ((have hw0 := start_in (IntKind.wrap .i64 (0 - at' flows f.Airway)) (hp1.at (i := f.Airway) (by omega)); first | omega | (simp only [List.length_append, List.length_cons, List.length_nil, List.length_replicate, put_len] at * <;> omega))) | ((have hw0 := start_in (at' flows x3.1) (hp1.at (i := x3.1) (by omega)); first | omega | (simp only [List.length_append, List.length_cons, List.length_nil, List.length_replicate, put_len] at * <;> omega))) | ((have hw0 := start_in (IntKind.wrap .i64 (0 - at' flows x3.1)) (hp1.at (i := x3.1) (by omega)); first | omega | (simp only [List.length_append, List.length_cons, List.length_nil, List.length_replicate, put_len] at * <;> omega))) | (exact hp2.at (by omega))⟩ (by first | omega | assumption | (simp only [List.length_append, List.length_cons, List.length_nil, List.length_replicate, put_len] at * <;> omega) | ((have hw0 := start_in (at' flows f.Airway) (hp1.at (i := f.Airway) (by omega)); first | omega | (simp only [List.length_append, List.length_cons, List.length_nil, List.length_replicate, put_len] at * <;> omega))) | ((have hw0 := start_in (IntKind.wrap .i64 (0 - at' flows f.Airway)) (hp1.at (i := f.Airway) (by omega)); first | omega | (simp only [List.length_append, List.length_cons, List.length_nil, List.length_replicate, put_len] at * <;> omega))) | ((have hw0 := start_in (at' flows x3.1) (hp1.at (i := x3.1) (by omega)); first | omega | (simp only [List.length_append, List.length_cons, List.length_nil, List.length_replicate, put_len] at * <;> omega))) | ((have hw0 := start_in (IntKind.wrap .i64 (0 - at' flows x3.1)) (hp1.at (i := x3.1) (by omega)); first | omega | (simp only [List.length_append, List.length_cons, List.length_nil, List.length_replicate, put_len] at * <;> omega))) | (exact hp2.at (by omega))) (sub_of [] ⟨rfl, rfl, os_len rfl (by first | (simp only [put_len]; done) | (first | omega | assumption | (simp only [List.length_append, List.length_cons, List.length_nil, List.length_replicate, put_len] at * <;> omega) | ((have hw0 := start_in (at' flows f.Airway) (hp1.at (i := f.Airway) (by omega)); first | omega | (simp only [List.length_append, List.length_cons, List.length_nil, List.length_replicate, put_len] at * <;> omega))) | ((have hw0 := start_in (IntKind.wrap .i64 (0 - at' flows f.Airway)) (hp1.at (i := f.Airway) (by omega)); first | omega | (simp only [List.length_append, List.length_cons, List.length_nil, List.length_replicate, put_len] at * <;> omega))) | ((have hw0 := start_in (at' flows x3.1) (hp1.at (i := x3.1) (by omega)); first | omega | (simp only [List.length_append, List.length_cons, List.length_nil, List.length_replicate, put_len] at * <;> omega))) | ((have hw0 := start_in (IntKind.wrap .i64 (0 - at' flows x3.1)) (hp1.at (i := x3.1) (by omega)); first | omega | (simp only [List.length_append, List.length_cons, List.length_nil, List.length_replicate, put_len] at * <;> omega))) | (exact hp2.at (by omega)))), rfl, trivial⟩ ⟨rfl, trivial⟩ rfl) ?_ ?_
      · intro x2 i25
        obtain ⟨e26, e27, e28, e29⟩ := i25
        try dsimp only at *
        refine run_seq ?_
        refine run_region (q_move .n (.t rfl) rfl <|
            q_assign .n (.t rfl) rfl <|
            Lex.nil) ?_
        exact run_ret [(100, 200)] (.cons (.t rfl rfl) .nil) (by first | rfl | (simp only [put_len]; rfl)) ⟨rfl, trivial⟩ rfl
      · intro rec2 k2 hk8 x2 i9
        obtain ⟨e30, e31, e32⟩ := i9
        try dsimp only at *
        refine run_seq ?_
        refine run_seq ?_
        refine run_region (q_move .n (.t rfl) rfl <|
            q_move .n (.t rfl) rfl <|
            q_nilc_ro .n (.t rfl) rfl <|
            q_fld_ro .n (.t rfl) fo_33_0 rfl <|
            q_ld1_ro .n (.t rfl) rfl ic_2 rfl <|
            q_int .n (.t rfl) (.t rfl) rfl rfl <|
            Lex.nil) ?_
        refine run_cond (.t rfl) rfl (fun h10 => ?_) (fun h10 => ?_)
        · try simp only [Bool.and_eq_true, Bool.or_eq_true, Bool.not_eq_true', Bool.and_eq_false_iff, Bool.or_eq_false_iff, Bool.not_eq_false', decide_eq_true_eq, decide_eq_false_iff_not, beq_iff_eq, bne_iff_ne, beq_eq_false_iff_ne, bne_eq_false_iff_eq, Bool.true_and, ne_eq, Decidable.not_not, Int.not_lt, Int.not_le, Nat.not_lt, Nat.not_le, strB_nil, strB_nil', strB_nnil, strB_nnil'] at h10
          refine run_skip ?_
          refine run_seq ?_
          refine run_block ?_
          refine run_seq ?_
          refine run_region (q_assign .n (.c rfl) rfl <|
              Lex.nil) ?_
          refine run_block ?_
          refine run_LOOP (m_spec_l17Arrival_b3 m_ flows f x1 rec2 k2 x2) _ _ _ rfl (fun (x3 : Int × (List Int)) => 0 ≤ x3.1 ∧ x3.1 ≤ (flows.length : Int) ∧ x3.2.length = x2.1.length) (fun x3 => 0 ≤ x3.1 ∧ x3.1 ≤ (flows.length : Int) ∧ x3.2.length = x2.1.length ∧ (flows.length : Int) ≤ x3.1) (fun x3 => ((flows.length : Int) - x3.1 : Int).toNat) (fun x3 => ⟨[(0, some (true, .rp [.int .i64 m_.Junctions, .sl 7 (m_.Airways.map gAirway.v)])), (1, some (true, .sl 1 (flows.map (V.int .i64)))), (7, some (true, .os 200 x3.2.length)), (9, some (true, .int .i64 x2.2)), (10, some (true, .int .i64 x3.1))], [(200, some (.row 2 1 (x3.2.map (V.int .i64))))]⟩) (fun x3 => ⟨[(0, some (true, .rp [.int .i64 m_.Junctions, .sl 7 (m_.Airways.map gAirway.v)])), (1, some (true, .sl 1 (flows.map (V.int .i64)))), (7, some (true, .os 200 x3.2.length)), (9, some (true, .int .i64 x2.2))], [(200, some (.row 2 1 (x3.2.map (V.int .i64))))]⟩) ⟨by first | omega | assumption | (simp only [List.length_append, List.length_cons, List.length_nil, List.length_replicate, put_len] at * <;> omega) | ((have hw0 := start_in (at' flows f.Airway) (hp1.at (i := f.Airway) (by omega)); first | omega | (simp only [List.length_append, List.length_cons, List.length_nil, List.length_replicate, put_len] at * <;> omega))) | ((have hw0 := start_in (IntKind.wrap .i64 (0 - at' flows f.Airway)) (hp1.at (i := f.Airway) (by omega)); first | omega | (simp only [List.length_append, List.length_cons, List.length_nil, List.length_replicate, put_len] at * <;> omega))) | ((have hw0 := start_in (at' flows x3.1) (hp1.at (i := x3.1) (by omega)); first | omega | (simp only [List.length_append, List.length_cons, List.length_nil, List.length_replicate, put_len] at * <;> omega))) | ((have hw0 := start_in (IntKind.wrap .i64 (0 - at' flows x3.1)) (hp1.at (i := x3.1) (by omega)); first | omega | (simp only [List.length_append, List.length_cons, List.length_nil, List.length_replicate, put_len] at * <;> omega))) | (exact hp2.at (by omega)), by first | omega | assumption | (simp only [List.length_append, List.length_cons, List.length_nil, List.length_replicate, put_len] at * <;> omega) | ((have hw0 := start_in (at' flows f.Airway) (hp1.at (i := f.Airway) (by omega)); first | omega | (simp only [List.length_append, List.length_cons, List.length_nil, List.length_replicate, put_len] at * <;> omega))) | ((have hw0 := start_in (IntKind.wrap .i64 (0 - at' flows f.Airway)) (hp1.at (i := f.Airway) (by omega)); first | omega | (simp only [List.length_append, List.length_cons, List.length_nil, List.length_replicate, put_len] at * <;> omega))) | ((have hw0 := start_in (at' flows x3.1) (hp1.at (i := x3.1) (by omega)); first | omega | (simp only [List.length_append, List.length_cons, List.length_nil, List.length_replicate, put_len] at * <;> omega))) | ((have hw0 := start_in (IntKind.wrap .i64 (0 - at' flows x3.1)) (hp1.at (i := x3.1) (by omega)); first | omega | (simp only [List.length_append, List.length_cons, List.length_nil, List.length_replicate, put_len] at * <;> omega))) | (exact hp2.at (by omega)), by first | omega | assumption | (simp only [List.length_append, List.length_cons, List.length_nil, List.length_replicate, put_len] at * <;> omega) | ((have hw0 := start_in (at' flows f.Airway) (hp1.at (i := f.Airway) (by omega)); first | omega | (simp only [List.length_append, List.length_cons, List.length_nil, List.length_replicate, put_len] at * <;> omega))) | ((have hw0 := start_in (IntKind.wrap .i64 (0 - at' flows f.Airway)) (hp1.at (i := f.Airway) (by omega)); first | omega | (simp only [List.length_append, List.length_cons, List.length_nil, List.length_replicate, put_len] at * <;> omega))) | ((have hw0 := start_in (at' flows x3.1) (hp1.at (i := x3.1) (by omega)); first | omega | (simp only [List.length_append, List.length_cons, List.length_nil, List.length_replicate, put_len] at * <;> omega))) | ((have hw0 := start_in (IntKind.wrap .i64 (0 - at' flows x3.1)) (hp1.at (i := x3.1) (by omega)); first | omega | (simp only [List.length_append, List.length_cons, List.length_nil, List.length_replicate, put_len] at * <;> omega))) | (exact hp2.at (by omega))⟩ (by first | omega | assumption | (simp only [List.length_append, List.length_cons, List.length_nil, List.length_replicate, put_len] at * <;> omega) | ((have hw0 := start_in (at' flows f.Airway) (hp1.at (i := f.Airway) (by omega)); first | omega | (simp only [List.length_append, List.length_cons, List.length_nil, List.length_replicate, put_len] at * <;> omega))) | ((have hw0 := start_in (IntKind.wrap .i64 (0 - at' flows f.Airway)) (hp1.at (i := f.Airway) (by omega)); first | omega | (simp only [List.length_append, List.length_cons, List.length_nil, List.length_replicate, put_len] at * <;> omega))) | ((have hw0 := start_in (at' flows x3.1) (hp1.at (i := x3.1) (by omega)); first | omega | (simp only [List.length_append, List.length_cons, List.length_nil, List.length_replicate, put_len] at * <;> omega))) | ((have hw0 := start_in (IntKind.wrap .i64 (0 - at' flows x3.1)) (hp1.at (i := x3.1) (by omega)); first | omega | (simp only [List.length_append, List.length_cons, List.length_nil, List.length_replicate, put_len] at * <;> omega))) | (exact hp2.at (by omega))) (sub_of [] ⟨rfl, rfl, rfl, rfl, rfl, trivial⟩ ⟨rfl, trivial⟩ rfl) ?_ ?_
          · intro x3 i17
            obtain ⟨e18, e19, e20, e21⟩ := i17
            try dsimp only at *
            refine run_endB ?_
            refine run_region (q_move .n (.t rfl) rfl <|
                q_add .n (.t rfl) (.c rfl) (fun _ => by first | omega | assumption | (simp only [List.length_append, List.length_cons, List.length_nil, List.length_replicate, put_len] at * <;> omega) | ((have hw0 := start_in (at' flows f.Airway) (hp1.at (i := f.Airway) (by omega)); first | omega | (simp only [List.length_append, List.length_cons, List.length_nil, List.length_replicate, put_len] at * <;> omega))) | ((have hw0 := start_in (IntKind.wrap .i64 (0 - at' flows f.Airway)) (hp1.at (i := f.Airway) (by omega)); first | omega | (simp only [List.length_append, List.length_cons, List.length_nil, List.length_replicate, put_len] at * <;> omega))) | ((have hw0 := start_in (at' flows x3.1) (hp1.at (i := x3.1) (by omega)); first | omega | (simp only [List.length_append, List.length_cons, List.length_nil, List.length_replicate, put_len] at * <;> omega))) | ((have hw0 := start_in (IntKind.wrap .i64 (0 - at' flows x3.1)) (hp1.at (i := x3.1) (by omega)); first | omega | (simp only [List.length_append, List.length_cons, List.length_nil, List.length_replicate, put_len] at * <;> omega))) | (exact hp2.at (by omega))) rfl <|
                q_assign .n (.t rfl) rfl <|
                Lex.nil) ?_
            exact run_again (x3.2, x2.2 + 1) ⟨by first | omega | assumption | (simp only [List.length_append, List.length_cons, List.length_nil, List.length_replicate, put_len] at * <;> omega) | ((have hw0 := start_in (at' flows f.Airway) (hp1.at (i := f.Airway) (by omega)); first | omega | (simp only [List.length_append, List.length_cons, List.length_nil, List.length_replicate, put_len] at * <;> omega))) | ((have hw0 := start_in (IntKind.wrap .i64 (0 - at' flows f.Airway)) (hp1.at (i := f.Airway) (by omega)); first | omega | (simp only [List.length_append, List.length_cons, List.length_nil, List.length_replicate, put_len] at * <;> omega))) | ((have hw0 := start_in (at' flows x3.1) (hp1.at (i := x3.1) (by omega)); first | omega | (simp only [List.length_append, List.length_cons, List.length_nil, List.length_replicate, put_len] at * <;> omega))) | ((have hw0 := start_in (IntKind.wrap .i64 (0 - at' flows x3.1)) (hp1.at (i := x3.1) (by omega)); first | omega | (simp only [List.length_append, List.length_cons, List.length_nil, List.length_replicate, put_len] at * <;> omega))) | (exact hp2.at (by omega)), by first | omega | assumption | (simp only [List.length_append, List.length_cons, List.length_nil, List.length_replicate, put_len] at * <;> omega) | ((have hw0 := start_in (at' flows f.Airway) (hp1.at (i := f.Airway) (by omega)); first | omega | (simp only [List.length_append, List.length_cons, List.length_nil, List.length_replicate, put_len] at * <;> omega))) | ((have hw0 := start_in (IntKind.wrap .i64 (0 - at' flows f.Airway)) (hp1.at (i := f.Airway) (by omega)); first | omega | (simp only [List.length_append, List.length_cons, List.length_nil, List.length_replicate, put_len] at * <;> omega))) | ((have hw0 := start_in (at' flows x3.1) (hp1.at (i := x3.1) (by omega)); first | omega | (simp only [List.length_append, List.length_cons, List.length_nil, List.length_replicate, put_len] at * <;> omega))) | ((have hw0 := start_in (IntKind.wrap .i64 (0 - at' flows x3.1)) (hp1.at (i := x3.1) (by omega)); first | omega | (simp only [List.length_append, List.length_cons, List.length_nil, List.length_replicate, put_len] at * <;> omega))) | (exact hp2.at (by omega)), by first | omega | assumption | (simp only [List.length_append, List.length_cons, List.length_nil, List.length_replicate, put_len] at * <;> omega) | ((have hw0 := start_in (at' flows f.Airway) (hp1.at (i := f.Airway) (by omega)); first | omega | (simp only [List.length_append, List.length_cons, List.length_nil, List.length_replicate, put_len] at * <;> omega))) | ((have hw0 := start_in (IntKind.wrap .i64 (0 - at' flows f.Airway)) (hp1.at (i := f.Airway) (by omega)); first | omega | (simp only [List.length_append, List.length_cons, List.length_nil, List.length_replicate, put_len] at * <;> omega))) | ((have hw0 := start_in (at' flows x3.1) (hp1.at (i := x3.1) (by omega)); first | omega | (simp only [List.length_append, List.length_cons, List.length_nil, List.length_replicate, put_len] at * <;> omega))) | ((have hw0 := start_in (IntKind.wrap .i64 (0 - at' flows x3.1)) (hp1.at (i := x3.1) (by omega)); first | omega | (simp only [List.length_append, List.length_cons, List.length_nil, List.length_replicate, put_len] at * <;> omega))) | (exact hp2.at (by omega))⟩ (by first | omega | assumption | (simp only [List.length_append, List.length_cons, List.length_nil, List.length_replicate, put_len] at * <;> omega) | ((have hw0 := start_in (at' flows f.Airway) (hp1.at (i := f.Airway) (by omega)); first | omega | (simp only [List.length_append, List.length_cons, List.length_nil, List.length_replicate, put_len] at * <;> omega))) | ((have hw0 := start_in (IntKind.wrap .i64 (0 - at' flows f.Airway)) (hp1.at (i := f.Airway) (by omega)); first | omega | (simp only [List.length_append, List.length_cons, List.length_nil, List.length_replicate, put_len] at * <;> omega))) | ((have hw0 := start_in (at' flows x3.1) (hp1.at (i := x3.1) (by omega)); first | omega | (simp only [List.length_append, List.length_cons, List.length_nil, List.length_replicate, put_len] at * <;> omega))) | ((have hw0 := start_in (IntKind.wrap .i64 (0 - at' flows x3.1)) (hp1.at (i := x3.1) (by omega)); first | omega | (simp only [List.length_append, List.length_cons, List.length_nil, List.length_replicate, put_len] at * <;> omega))) | (exact hp2.at (by omega))) (sub_of [] ⟨rfl, rfl, rfl, rfl, trivial⟩ ⟨rfl, trivial⟩ rfl)
          · intro rec3 k3 hk11 x3 i12
            obtain ⟨e22, e23, e24⟩ := i12
            try dsimp only at *
            refine run_seq ?_
            refine run_seq ?_
            refine run_region (q_move .n (.t rfl) rfl <|
                q_move .n (.t rfl) rfl <|
                q_len .n (.t rfl) rfl len_map ss_25 rfl <|
                q_int .n (.t rfl) (.t rfl) rfl rfl <|
                Lex.nil) ?_
            refine run_cond (.t rfl) rfl (fun h13 => ?_) (fun h13 => ?_)
            · try simp only [Bool.and_eq_true, Bool.or_eq_true, Bool.not_eq_true', Bool.and_eq_false_iff, Bool.or_eq_false_iff, Bool.not_eq_false', decide_eq_true_eq, decide_eq_false_iff_not, beq_iff_eq, bne_iff_ne, beq_eq_false_iff_ne, bne_eq_false_iff_eq, Bool.true_and, ne_eq, Decidable.not_not, Int.not_lt, Int.not_le, Nat.not_lt, Nat.not_le, strB_nil, strB_nil', strB_nnil, strB_nnil'] at h13
              refine run_skip ?_
              refine run_seq ?_
              refine run_block ?_
              refine run_seq ?_
              refine run_seq ?_
              refine run_region (q_move .n (.t rfl) rfl <|
                  q_move .n (.t rfl) rfl <|
                  q_idx_rm .n (.t rfl) (.t rfl) sl_25 (fun _ => by first | omega | assumption | (simp only [List.length_append, List.length_cons, List.length_nil, List.length_replicate, put_len] at * <;> omega) | ((have hw0 := start_in (at' flows f.Airway) (hp1.at (i := f.Airway) (by omega)); first | omega | (simp only [List.length_append, List.length_cons, List.length_nil, List.length_replicate, put_len] at * <;> omega))) | ((have hw0 := start_in (IntKind.wrap .i64 (0 - at' flows f.Airway)) (hp1.at (i := f.Airway) (by omega)); first | omega | (simp only [List.length_append, List.length_cons, List.length_nil, List.length_replicate, put_len] at * <;> omega))) | ((have hw0 := start_in (at' flows x3.1) (hp1.at (i := x3.1) (by omega)); first | omega | (simp only [List.length_append, List.length_cons, List.length_nil, List.length_replicate, put_len] at * <;> omega))) | ((have hw0 := start_in (IntKind.wrap .i64 (0 - at' flows x3.1)) (hp1.at (i := x3.1) (by omega)); first | omega | (simp only [List.length_append, List.length_cons, List.length_nil, List.length_replicate, put_len] at * <;> omega))) | (exact hp2.at (by omega))) rfl <|
                  q_ld1_ro .n (.t rfl) rfl ic_2 rfl <|
                  q_int .n (.t rfl) (.c rfl) rfl rfl <|
                  Lex.nil) ?_
              refine run_cond (.t rfl) rfl (fun h14 => ?_) (fun h14 => ?_)
              · try simp only [Bool.and_eq_true, Bool.or_eq_true, Bool.not_eq_true', Bool.and_eq_false_iff, Bool.or_eq_false_iff, Bool.not_eq_false', decide_eq_true_eq, decide_eq_false_iff_not, beq_iff_eq, bne_iff_ne, beq_eq_false_iff_ne, bne_eq_false_iff_eq, Bool.true_and, ne_eq, Decidable.not_not, Int.not_lt, Int.not_le, Nat.not_lt, Nat.not_le, strB_nil, strB_nil', strB_nnil, strB_nnil'] at h14
                refine run_exit rfl ?_
                refine run_region (q_move .n (.t rfl) rfl <|
                    q_add .n (.t rfl) (.c rfl) (fun _ => by first | omega | assumption | (simp only [List.length_append, List.length_cons, List.length_nil, List.length_replicate, put_len] at * <;> omega) | ((have hw0 := start_in (at' flows f.Airway) (hp1.at (i := f.Airway) (by omega)); first | omega | (simp only [List.length_append, List.length_cons, List.length_nil, List.length_replicate, put_len] at * <;> omega))) | ((have hw0 := start_in (IntKind.wrap .i64 (0 - at' flows f.Airway)) (hp1.at (i := f.Airway) (by omega)); first | omega | (simp only [List.length_append, List.length_cons, List.length_nil, List.length_replicate, put_len] at * <;> omega))) | ((have hw0 := start_in (at' flows x3.1) (hp1.at (i := x3.1) (by omega)); first | omega | (simp only [List.length_append, List.length_cons, List.length_nil, List.length_replicate, put_len] at * <;> omega))) | ((have hw0 := start_in (IntKind.wrap .i64 (0 - at' flows x3.1)) (hp1.at (i := x3.1) (by omega)); first | omega | (simp only [List.length_append, List.length_cons, List.length_nil, List.length_replicate, put_len] at * <;> omega))) | (exact hp2.at (by omega))) rfl <|
                    q_assign .n (.t rfl) rfl <|
                    Lex.nil) ?_
                exact run_again (x3.1 + 1, x3.2) ⟨by first | omega | assumption | (simp only [List.length_append, List.length_cons, List.length_nil, List.length_replicate, put_len] at * <;> omega) | ((have hw0 := start_in (at' flows f.Airway) (hp1.at (i := f.Airway) (by omega)); first | omega | (simp only [List.length_append, List.length_cons, List.length_nil, List.length_replicate, put_len] at * <;> omega))) | ((have hw0 := start_in (IntKind.wrap .i64 (0 - at' flows f.Airway)) (hp1.at (i := f.Airway) (by omega)); first | omega | (simp only [List.length_append, List.length_cons, List.length_nil, List.length_replicate, put_len] at * <;> omega))) | ((have hw0 := start_in (at' flows x3.1) (hp1.at (i := x3.1) (by omega)); first | omega | (simp only [List.length_append, List.length_cons, List.length_nil, List.length_replicate, put_len] at * <;> omega))) | ((have hw0 := start_in (IntKind.wrap .i64 (0 - at' flows x3.1)) (hp1.at (i := x3.1) (by omega)); first | omega | (simp only [List.length_append, List.length_cons, List.length_nil, List.length_replicate, put_len] at * <;> omega))) | (exact hp2.at (by omega)), by first | omega | assumption | (simp only [List.length_append, List.length_cons, List.length_nil, List.length_replicate, put_len] at * <;> omega) | ((have hw0 := start_in (at' flows f.Airway) (hp1.at (i := f.Airway) (by omega)); first | omega | (simp only [List.length_append, List.length_cons, List.length_nil, List.length_replicate, put_len] at * <;> omega))) | ((have hw0 := start_in (IntKind.wrap .i64 (0 - at' flows f.Airway)) (hp1.at (i := f.Airway) (by omega)); first | omega | (simp only [List.length_append, List.length_cons, List.length_nil, List.length_replicate, put_len] at * <;> omega))) | ((have hw0 := start_in (at' flows x3.1) (hp1.at (i := x3.1) (by omega)); first | omega | (simp only [List.length_append, List.length_cons, List.length_nil, List.length_replicate, put_len] at * <;> omega))) | ((have hw0 := start_in (IntKind.wrap .i64 (0 - at' flows x3.1)) (hp1.at (i := x3.1) (by omega)); first | omega | (simp only [List.length_append, List.length_cons, List.length_nil, List.length_replicate, put_len] at * <;> omega))) | (exact hp2.at (by omega)), by first | omega | assumption | (simp only [List.length_append, List.length_cons, List.length_nil, List.length_replicate, put_len] at * <;> omega) | ((have hw0 := start_in (at' flows f.Airway) (hp1.at (i := f.Airway) (by omega)); first | omega | (simp only [List.length_append, List.length_cons, List.length_nil, List.length_replicate, put_len] at * <;> omega))) | ((have hw0 := start_in (IntKind.wrap .i64 (0 - at' flows f.Airway)) (hp1.at (i := f.Airway) (by omega)); first | omega | (simp only [List.length_append, List.length_cons, List.length_nil, List.length_replicate, put_len] at * <;> omega))) | ((have hw0 := start_in (at' flows x3.1) (hp1.at (i := x3.1) (by omega)); first | omega | (simp only [List.length_append, List.length_cons, List.length_nil, List.length_replicate, put_len] at * <;> omega))) | ((have hw0 := start_in (IntKind.wrap .i64 (0 - at' flows x3.1)) (hp1.at (i := x3.1) (by omega)); first | omega | (simp only [List.length_append, List.length_cons, List.length_nil, List.length_replicate, put_len] at * <;> omega))) | (exact hp2.at (by omega))⟩ (by first | omega | assumption | (simp only [List.length_append, List.length_cons, List.length_nil, List.length_replicate, put_len] at * <;> omega) | ((have hw0 := start_in (at' flows f.Airway) (hp1.at (i := f.Airway) (by omega)); first | omega | (simp only [List.length_append, List.length_cons, List.length_nil, List.length_replicate, put_len] at * <;> omega))) | ((have hw0 := start_in (IntKind.wrap .i64 (0 - at' flows f.Airway)) (hp1.at (i := f.Airway) (by omega)); first | omega | (simp only [List.length_append, List.length_cons, List.length_nil, List.length_replicate, put_len] at * <;> omega))) | ((have hw0 := start_in (at' flows x3.1) (hp1.at (i := x3.1) (by omega)); first | omega | (simp only [List.length_append, List.length_cons, List.length_nil, List.length_replicate, put_len] at * <;> omega))) | ((have hw0 := start_in (IntKind.wrap .i64 (0 - at' flows x3.1)) (hp1.at (i := x3.1) (by omega)); first | omega | (simp only [List.length_append, List.length_cons, List.length_nil, List.length_replicate, put_len] at * <;> omega))) | (exact hp2.at (by omega))) (sub_of [] ⟨rfl, rfl, rfl, rfl, rfl, trivial⟩ ⟨rfl, trivial⟩ rfl)
              · try simp only [Bool.and_eq_true, Bool.or_eq_true, Bool.not_eq_true', Bool.and_eq_false_iff, Bool.or_eq_false_iff, Bool.not_eq_false', decide_eq_true_eq, decide_eq_false_iff_not, beq_iff_eq, bne_iff_ne, beq_eq_false_iff_ne, bne_eq_false_iff_eq, Bool.true_and, ne_eq, Decidable.not_not, Int.not_lt, Int.not_le, Nat.not_lt, Nat.not_le, strB_nil, strB_nil', strB_nnil, strB_nnil'] at h14
                refine run_skip ?_
                refine run_seq ?_
                refine run_region (q_move .n (.t rfl) rfl <|
                    q_nilc_ro .n (.t rfl) rfl <|
                    q_fld_ro .n (.t rfl) fo_33_1 rfl <|
                    q_ld1_ro .n (.t rfl) rfl ic_31 rfl <|
                    q_move .n (.t rfl) rfl <|
                    q_idx_rm .n (.t rfl) (.t rfl) sl_31 (fun _ => by first | omega | assumption | (simp only [List.length_append, List.length_cons, List.length_nil, List.length_replicate, put_len] at * <;> omega) | ((have hw0 := start_in (at' flows f.Airway) (hp1.at (i := f.Airway) (by omega)); first | omega | (simp only [List.length_append, List.length_cons, List.length_nil, List.length_replicate, put_len] at * <;> omega))) | ((have hw0 := start_in (IntKind.wrap .i64 (0 - at' flows f.Airway)) (hp1.at (i := f.Airway) (by omega)); first | omega | (simp only [List.length_append, List.length_cons, List.length_nil, List.length_replicate, put_len] at * <;> omega))) | ((have hw0 := start_in (at' flows x3.1) (hp1.at (i := x3.1) (by omega)); first | omega | (simp only [List.length_append, List.length_cons, List.length_nil, List.length_replicate, put_len] at * <;> omega))) | ((have hw0 := start_in (IntKind.wrap .i64 (0 - at' flows x3.1)) (hp1.at (i := x3.1) (by omega)); first | omega | (simp only [List.length_append, List.length_cons, List.length_nil, List.length_replicate, put_len] at * <;> omega))) | (exact hp2.at (by omega))) rfl <|
                    q_assign .n (.t rfl) rfl <|
                    Lex.nil) ?_
                refine run_seq ?_
                refine run_region (q_move .n (.t rfl) rfl <|
                    q_move .n (.t rfl) rfl <|
                    q_move .n (.t rfl) rfl <|
                    q_idx_rm .n (.t rfl) (.t rfl) sl_25 (fun _ => by first | omega | assumption | (simp only [List.length_append, List.length_cons, List.length_nil, List.length_replicate, put_len] at * <;> omega) | ((have hw0 := start_in (at' flows f.Airway) (hp1.at (i := f.Airway) (by omega)); first | omega | (simp only [List.length_append, List.length_cons, List.length_nil, List.length_replicate, put_len] at * <;> omega))) | ((have hw0 := start_in (IntKind.wrap .i64 (0 - at' flows f.Airway)) (hp1.at (i := f.Airway) (by omega)); first | omega | (simp only [List.length_append, List.length_cons, List.length_nil, List.length_replicate, put_len] at * <;> omega))) | ((have hw0 := start_in (at' flows x3.1) (hp1.at (i := x3.1) (by omega)); first | omega | (simp only [List.length_append, List.length_cons, List.length_nil, List.length_replicate, put_len] at * <;> omega))) | ((have hw0 := start_in (IntKind.wrap .i64 (0 - at' flows x3.1)) (hp1.at (i := x3.1) (by omega)); first | omega | (simp only [List.length_append, List.length_cons, List.length_nil, List.length_replicate, put_len] at * <;> omega))) | (exact hp2.at (by omega))) rfl <|
                    q_ld1_ro .n (.t rfl) rfl ic_2 rfl <|
                    q_call0 (full := false) .n .f en_105 (.cons (.t rfl) (.cons (.t rfl) .nil)) (.cons (.b (.a (.same rfl))) (.cons (.b (.a (.same rfl))) .nil)) (fun hg => c_spec_l13Start (at' m_.Airways x3.1) (at' flows x3.1)) rfl (fun h => Bool.noConfusion h) rfl <|
                    q_assign .n (.t rfl) rfl <|
                    Lex.nil) ?_
                refine run_seq ?_
                refine run_region (q_move .n (.t rfl) rfl <|
                    q_move .n (.t rfl) rfl <|
                    q_move .n (.t rfl) rfl <|
                    q_idx_rm .n (.t rfl) (.t rfl) sl_25 (fun _ => by first | omega | assumption | (simp only [List.length_append, List.length_cons, List.length_nil, List.length_replicate, put_len] at * <;> omega) | ((have hw0 := start_in (at' flows f.Airway) (hp1.at (i := f.Airway) (by omega)); first | omega | (simp only [List.length_append, List.length_cons, List.length_nil, List.length_replicate, put_len] at * <;> omega))) | ((have hw0 := start_in (IntKind.wrap .i64 (0 - at' flows f.Airway)) (hp1.at (i := f.Airway) (by omega)); first | omega | (simp only [List.length_append, List.length_cons, List.length_nil, List.length_replicate, put_len] at * <;> omega))) | ((have hw0 := start_in (at' flows x3.1) (hp1.at (i := x3.1) (by omega)); first | omega | (simp only [List.length_append, List.length_cons, List.length_nil, List.length_replicate, put_len] at * <;> omega))) | ((have hw0 := start_in (IntKind.wrap .i64 (0 - at' flows x3.1)) (hp1.at (i := x3.1) (by omega)); first | omega | (simp only [List.length_append, List.length_cons, List.length_nil, List.length_replicate, put_len] at * <;> omega))) | (exact hp2.at (by omega))) rfl <|
                    q_ld1_ro .n (.t rfl) rfl ic_2 rfl <|
                    q_neg .n (.t rfl) rfl <|
                    q_call0 (full := false) .n .f en_105 (.cons (.t rfl) (.cons (.t rfl) .nil)) (.cons (.b (.a (.same rfl))) (.cons (.b (.a (.same rfl))) .nil)) (fun hg => c_spec_l13Start (at' m_.Airways x3.1) (IntKind.wrap .i64 (0 - (at' flows x3.1)))) rfl (fun h => Bool.noConfusion h) rfl <|
                    q_assign .n (.t rfl) rfl <|
                    Lex.nil) ?_
                refine run_seq ?_
                refine run_seq ?_
                refine run_region (q_move .n (.t rfl) rfl <|
                    q_move .n (.t rfl) rfl <|
                    q_idx_ow .n (.t rfl) (.t rfl) sl_25 (fun _ => by first | omega | assumption | (simp only [List.length_append, List.length_cons, List.length_nil, List.length_replicate, put_len] at * <;> omega) | ((have hw0 := start_in (at' flows f.Airway) (hp1.at (i := f.Airway) (by omega)); first | omega | (simp only [List.length_append, List.length_cons, List.length_nil, List.length_replicate, put_len] at * <;> omega))) | ((have hw0 := start_in (IntKind.wrap .i64 (0 - at' flows f.Airway)) (hp1.at (i := f.Airway) (by omega)); first | omega | (simp only [List.length_append, List.length_cons, List.length_nil, List.length_replicate, put_len] at * <;> omega))) | ((have hw0 := start_in (at' flows x3.1) (hp1.at (i := x3.1) (by omega)); first | omega | (simp only [List.length_append, List.length_cons, List.length_nil, List.length_replicate, put_len] at * <;> omega))) | ((have hw0 := start_in (IntKind.wrap .i64 (0 - at' flows x3.1)) (hp1.at (i := x3.1) (by omega)); first | omega | (simp only [List.length_append, List.length_cons, List.length_nil, List.length_replicate, put_len] at * <;> omega))) | (exact hp2.at (by omega))) rfl <|
                    q_ld1_row .n (.t rfl) rfl (fun _ => by first | omega | assumption | (simp only [List.length_append, List.length_cons, List.length_nil, List.length_replicate, put_len] at * <;> omega) | ((have hw0 := start_in (at' flows f.Airway) (hp1.at (i := f.Airway) (by omega)); first | omega | (simp only [List.length_append, List.length_cons, List.length_nil, List.length_replicate, put_len] at * <;> omega))) | ((have hw0 := start_in (IntKind.wrap .i64 (0 - at' flows f.Airway)) (hp1.at (i := f.Airway) (by omega)); first | omega | (simp only [List.length_append, List.length_cons, List.length_nil, List.length_replicate, put_len] at * <;> omega))) | ((have hw0 := start_in (at' flows x3.1) (hp1.at (i := x3.1) (by omega)); first | omega | (simp only [List.length_append, List.length_cons, List.length_nil, List.length_replicate, put_len] at * <;> omega))) | ((have hw0 := start_in (IntKind.wrap .i64 (0 - at' flows x3.1)) (hp1.at (i := x3.1) (by omega)); first | omega | (simp only [List.length_append, List.length_cons, List.length_nil, List.length_replicate, put_len] at * <;> omega))) | (exact hp2.at (by omega))) rfl rfl rfl ic_2 rfl <|
                    q_int .n (.t rfl) (.c rfl) rfl rfl <|
                    Lex.nil) ?_
                refine run_cond (.t rfl) rfl (fun h15 => ?_) (fun h15 => ?_)
                · try simp only [Bool.and_eq_true, Bool.or_eq_true, Bool.not_eq_true', Bool.and_eq_false_iff, Bool.or_eq_false_iff, Bool.not_eq_false', decide_eq_true_eq, decide_eq_false_iff_not, beq_iff_eq, bne_iff_ne, beq_eq_false_iff_ne, bne_eq_false_iff_eq, Bool.true_and, ne_eq, Decidable.not_not, Int.not_lt, Int.not_le, Nat.not_lt, Nat.not_le, strB_nil, strB_nil', strB_nnil, strB_nnil'] at h15
                  refine run_exit rfl ?_
                  refine run_region (q_move .n (.t rfl) rfl <|
                      q_add .n (.t rfl) (.c rfl) (fun _ => by first | omega | assumption | (simp only [List.length_append, List.length_cons, List.length_nil, List.length_replicate, put_len] at * <;> omega) | ((have hw0 := start_in (at' flows f.Airway) (hp1.at (i := f.Airway) (by omega)); first | omega | (simp only [List.length_append, List.length_cons, List.length_nil, List.length_replicate, put_len] at * <;> omega))) | ((have hw0 := start_in (IntKind.wrap .i64 (0 - at' flows f.Airway)) (hp1.at (i := f.Airway) (by omega)); first | omega | (simp only [List.length_append, List.length_cons, List.length_nil, List.length_replicate, put_len] at * <;> omega))) | ((have hw0 := start_in (at' flows x3.1) (hp1.at (i := x3.1) (by omega)); first | omega | (simp only [List.length_append, List.length_cons, List.length_nil, List.length_replicate, put_len] at * <;> omega))) | ((have hw0 := start_in (IntKind.wrap .i64 (0 - at' flows x3.1)) (hp1.at (i := x3.1) (by omega)); first | omega | (simp only [List.length_append, List.length_cons, List.length_nil, List.length_replicate, put_len] at * <;> omega))) | (exact hp2.at (by omega))) rfl <|
                      q_assign .n (.t rfl) rfl <|
                      Lex.nil) ?_
                  exact run_again (x3.1 + 1, x3.2) ⟨by first | omega | assumption | (simp only [List.length_append, List.length_cons, List.length_nil, List.length_replicate, put_len] at * <;> omega) | ((have hw0 := start_in (at' flows f.Airway) (hp1.at (i := f.Airway) (by omega)); first | omega | (simp only [List.length_append, List.length_cons, List.length_nil, List.length_replicate, put_len] at * <;> omega))) | ((have hw0 := start_in (IntKind.wrap .i64 (0 - at' flows f.Airway)) (hp1.at (i := f.Airway) (by omega)); first | omega | (simp only [List.length_append, List.length_cons, List.length_nil, List.length_replicate, put_len] at * <;> omega))) | ((have hw0 := start_in (at' flows x3.1) (hp1.at (i := x3.1) (by omega)); first | omega | (simp only [List.length_append, List.length_cons, List.length_nil, List.length_replicate, put_len] at * <;> omega))) | ((have hw0 := start_in (IntKind.wrap .i64 (0 - at' flows x3.1)) (hp1.at (i := x3.1) (by omega)); first | omega | (simp only [List.length_append, List.length_cons, List.length_nil, List.length_replicate, put_len] at * <;> omega))) | (exact hp2.at (by omega)), by first | omega | assumption | (simp only [List.length_append, List.length_cons, List.length_nil, List.length_replicate, put_len] at * <;> omega) | ((have hw0 := start_in (at' flows f.Airway) (hp1.at (i := f.Airway) (by omega)); first | omega | (simp only [List.length_append, List.length_cons, List.length_nil, List.length_replicate, put_len] at * <;> omega))) | ((have hw0 := start_in (IntKind.wrap .i64 (0 - at' flows f.Airway)) (hp1.at (i := f.Airway) (by omega)); first | omega | (simp only [List.length_append, List.length_cons, List.length_nil, List.length_replicate, put_len] at * <;> omega))) | ((have hw0 := start_in (at' flows x3.1) (hp1.at (i := x3.1) (by omega)); first | omega | (simp only [List.length_append, List.length_cons, List.length_nil, List.length_replicate, put_len] at * <;> omega))) | ((have hw0 := start_in (IntKind.wrap .i64 (0 - at' flows x3.1)) (hp1.at (i := x3.1) (by omega)); first | omega | (simp only [List.length_append, List.length_cons, List.length_nil, List.length_replicate, put_len] at * <;> omega))) | (exact hp2.at (by omega)), by first | omega | assumption | (simp only [List.length_append, List.length_cons, List.length_nil, List.length_replicate, put_len] at * <;> omega) | ((have hw0 := start_in (at' flows f.Airway) (hp1.at (i := f.Airway) (by omega)); first | omega | (simp only [List.length_append, List.length_cons, List.length_nil, List.length_replicate, put_len] at * <;> omega))) | ((have hw0 := start_in (IntKind.wrap .i64 (0 - at' flows f.Airway)) (hp1.at (i := f.Airway) (by omega)); first | omega | (simp only [List.length_append, List.length_cons, List.length_nil, List.length_replicate, put_len] at * <;> omega))) | ((have hw0 := start_in (at' flows x3.1) (hp1.at (i := x3.1) (by omega)); first | omega | (simp only [List.length_append, List.length_cons, List.length_nil, List.length_replicate, put_len] at * <;> omega))) | ((have hw0 := start_in (IntKind.wrap .i64 (0 - at' flows x3.1)) (hp1.at (i := x3.1) (by omega)); first | omega | (simp only [List.length_append, List.length_cons, List.length_nil, List.length_replicate, put_len] at * <;> omega))) | (exact hp2.at (by omega))⟩ (by first | omega | assumption | (simp only [List.length_append, List.length_cons, List.length_nil, List.length_replicate, put_len] at * <;> omega) | ((have hw0 := start_in (at' flows f.Airway) (hp1.at (i := f.Airway) (by omega)); first | omega | (simp only [List.length_append, List.length_cons, List.length_nil, List.length_replicate, put_len] at * <;> omega))) | ((have hw0 := start_in (IntKind.wrap .i64 (0 - at' flows f.Airway)) (hp1.at (i := f.Airway) (by omega)); first | omega | (simp only [List.length_append, List.length_cons, List.length_nil, List.length_replicate, put_len] at * <;> omega))) | ((have hw0 := start_in (at' flows x3.1) (hp1.at (i := x3.1) (by omega)); first | omega | (simp only [List.length_append, List.length_cons, List.length_nil, List.length_replicate, put_len] at * <;> omega))) | ((have hw0 := start_in (IntKind.wrap .i64 (0 - at' flows x3.1)) (hp1.at (i := x3.1) (by omega)); first | omega | (simp only [List.length_append, List.length_cons, List.length_nil, List.length_replicate, put_len] at * <;> omega))) | (exact hp2.at (by omega))) (sub_of [] ⟨rfl, rfl, rfl, rfl, rfl, trivial⟩ ⟨rfl, trivial⟩ rfl)
                · try simp only [Bool.and_eq_true, Bool.or_eq_true, Bool.not_eq_true', Bool.and_eq_false_iff, Bool.or_eq_false_iff, Bool.not_eq_false', decide_eq_true_eq, decide_eq_false_iff_not, beq_iff_eq, bne_iff_ne, beq_eq_false_iff_ne, bne_eq_false_iff_eq, Bool.true_and, ne_eq, Decidable.not_not, Int.not_lt, Int.not_le, Nat.not_lt, Nat.not_le, strB_nil, strB_nil', strB_nnil, strB_nnil'] at h15
                  refine run_skip ?_
                  refine run_seq ?_
                  refine run_draw fmo (q_move .n (.t rfl) rfl <|
                      q_move .n (.t rfl) rfl <|
                      q_idx_ow .n (.t rfl) (.t rfl) sl_25 (fun _ => by first | omega | assumption | (simp only [List.length_append, List.length_cons, List.length_nil, List.length_replicate, put_len] at * <;> omega) | ((have hw0 := start_in (at' flows f.Airway) (hp1.at (i := f.Airway) (by omega)); first | omega | (simp only [List.length_append, List.length_cons, List.length_nil, List.length_replicate, put_len] at * <;> omega))) | ((have hw0 := start_in (IntKind.wrap .i64 (0 - at' flows f.Airway)) (hp1.at (i := f.Airway) (by omega)); first | omega | (simp only [List.length_append, List.length_cons, List.length_nil, List.length_replicate, put_len] at * <;> omega))) | ((have hw0 := start_in (at' flows x3.1) (hp1.at (i := x3.1) (by omega)); first | omega | (simp only [List.length_append, List.length_cons, List.length_nil, List.length_replicate, put_len] at * <;> omega))) | ((have hw0 := start_in (IntKind.wrap .i64 (0 - at' flows x3.1)) (hp1.at (i := x3.1) (by omega)); first | omega | (simp only [List.length_append, List.length_cons, List.length_nil, List.length_replicate, put_len] at * <;> omega))) | (exact hp2.at (by omega))) rfl <|
                      q_ld1_row .n (.t rfl) rfl (fun _ => by first | omega | assumption | (simp only [List.length_append, List.length_cons, List.length_nil, List.length_replicate, put_len] at * <;> omega) | ((have hw0 := start_in (at' flows f.Airway) (hp1.at (i := f.Airway) (by omega)); first | omega | (simp only [List.length_append, List.length_cons, List.length_nil, List.length_replicate, put_len] at * <;> omega))) | ((have hw0 := start_in (IntKind.wrap .i64 (0 - at' flows f.Airway)) (hp1.at (i := f.Airway) (by omega)); first | omega | (simp only [List.length_append, List.length_cons, List.length_nil, List.length_replicate, put_len] at * <;> omega))) | ((have hw0 := start_in (at' flows x3.1) (hp1.at (i := x3.1) (by omega)); first | omega | (simp only [List.length_append, List.length_cons, List.length_nil, List.length_replicate, put_len] at * <;> omega))) | ((have hw0 := start_in (IntKind.wrap .i64 (0 - at' flows x3.1)) (hp1.at (i := x3.1) (by omega)); first | omega | (simp only [List.length_append, List.length_cons, List.length_nil, List.length_replicate, put_len] at * <;> omega))) | (exact hp2.at (by omega))) rfl rfl rfl ic_2 rfl <|
                      q_move .n (.t rfl) rfl <|
                      q_move .n (.t rfl) rfl <|
                      q_move .n (.t rfl) rfl <|
                      q_idx_rm .n (.t rfl) (.t rfl) sl_25 (fun _ => by first | omega | assumption | (simp only [List.length_append, List.length_cons, List.length_nil, List.length_replicate, put_len] at * <;> omega) | ((have hw0 := start_in (at' flows f.Airway) (hp1.at (i := f.Airway) (by omega)); first | omega | (simp only [List.length_append, List.length_cons, List.length_nil, List.length_replicate, put_len] at * <;> omega))) | ((have hw0 := start_in (IntKind.wrap .i64 (0 - at' flows f.Airway)) (hp1.at (i := f.Airway) (by omega)); first | omega | (simp only [List.length_append, List.length_cons, List.length_nil, List.length_replicate, put_len] at * <;> omega))) | ((have hw0 := start_in (at' flows x3.1) (hp1.at (i := x3.1) (by omega)); first | omega | (simp only [List.length_append, List.length_cons, List.length_nil, List.length_replicate, put_len] at * <;> omega))) | ((have hw0 := start_in (IntKind.wrap .i64 (0 - at' flows x3.1)) (hp1.at (i := x3.1) (by omega)); first | omega | (simp only [List.length_append, List.length_cons, List.length_nil, List.length_replicate, put_len] at * <;> omega))) | (exact hp2.at (by omega))) rfl <|
                      q_ld1_ro .n (.t rfl) rfl ic_2 rfl <|
                      q_call0 (full := false) .n .f en_119 (.cons (.t rfl) (.cons (.t rfl) .nil)) (.cons (.b (.a (.same rfl))) (.cons (.b (.a (.same rfl))) .nil)) (fun hg => c_spec_l03Time (at' m_.Airways x3.1) (at' flows x3.1) (by first | omega | assumption | (simp only [List.length_append, List.length_cons, List.length_nil, List.length_replicate, put_len] at * <;> omega) | ((have hw0 := start_in (at' flows f.Airway) (hp1.at (i := f.Airway) (by omega)); first | omega | (simp only [List.length_append, List.length_cons, List.length_nil, List.length_replicate, put_len] at * <;> omega))) | ((have hw0 := start_in (IntKind.wrap .i64 (0 - at' flows f.Airway)) (hp1.at (i := f.Airway) (by omega)); first | omega | (simp only [List.length_append, List.length_cons, List.length_nil, List.length_replicate, put_len] at * <;> omega))) | ((have hw0 := start_in (at' flows x3.1) (hp1.at (i := x3.1) (by omega)); first | omega | (simp only [List.length_append, List.length_cons, List.length_nil, List.length_replicate, put_len] at * <;> omega))) | ((have hw0 := start_in (IntKind.wrap .i64 (0 - at' flows x3.1)) (hp1.at (i := x3.1) (by omega)); first | omega | (simp only [List.length_append, List.length_cons, List.length_nil, List.length_replicate, put_len] at * <;> omega))) | (exact hp2.at (by omega))) (by first | omega | assumption | (simp only [List.length_append, List.length_cons, List.length_nil, List.length_replicate, put_len] at * <;> omega) | ((have hw0 := start_in (at' flows f.Airway) (hp1.at (i := f.Airway) (by omega)); first | omega | (simp only [List.length_append, List.length_cons, List.length_nil, List.length_replicate, put_len] at * <;> omega))) | ((have hw0 := start_in (IntKind.wrap .i64 (0 - at' flows f.Airway)) (hp1.at (i := f.Airway) (by omega)); first | omega | (simp only [List.length_append, List.length_cons, List.length_nil, List.length_replicate, put_len] at * <;> omega))) | ((have hw0 := start_in (at' flows x3.1) (hp1.at (i := x3.1) (by omega)); first | omega | (simp only [List.length_append, List.length_cons, List.length_nil, List.length_replicate, put_len] at * <;> omega))) | ((have hw0 := start_in (IntKind.wrap .i64 (0 - at' flows x3.1)) (hp1.at (i := x3.1) (by omega)); first | omega | (simp only [List.length_append, List.length_cons, List.length_nil, List.length_replicate, put_len] at * <;> omega))) | (exact hp2.at (by omega)))) rfl (fun h => Bool.noConfusion h) rfl <|
                      q_int .n (.t rfl) (.t rfl) rfl rfl <|
                      q_assign .n (.t rfl) rfl <|
                      Lex.nil) (by kernel_rfl) ?_
                  refine run_seq ?_
                  refine run_region (q_move .n (.t rfl) rfl <|
                      q_move .n (.t rfl) rfl <|
                      q_idx_ow .n (.t rfl) (.t rfl) sl_25 (fun _ => by first | omega | assumption | (simp only [List.length_append, List.length_cons, List.length_nil, List.length_replicate, put_len] at * <;> omega) | ((have hw0 := start_in (at' flows f.Airway) (hp1.at (i := f.Airway) (by omega)); first | omega | (simp only [List.length_append, List.length_cons, List.length_nil, List.length_replicate, put_len] at * <;> omega))) | ((have hw0 := start_in (IntKind.wrap .i64 (0 - at' flows f.Airway)) (hp1.at (i := f.Airway) (by omega)); first | omega | (simp only [List.length_append, List.length_cons, List.length_nil, List.length_replicate, put_len] at * <;> omega))) | ((have hw0 := start_in (at' flows x3.1) (hp1.at (i := x3.1) (by omega)); first | omega | (simp only [List.length_append, List.length_cons, List.length_nil, List.length_replicate, put_len] at * <;> omega))) | ((have hw0 := start_in (IntKind.wrap .i64 (0 - at' flows x3.1)) (hp1.at (i := x3.1) (by omega)); first | omega | (simp only [List.length_append, List.length_cons, List.length_nil, List.length_replicate, put_len] at * <;> omega))) | (exact hp2.at (by omega))) rfl <|
                      q_ld1_row .n (.t rfl) rfl (fun _ => by first | omega | assumption | (simp only [List.length_append, List.length_cons, List.length_nil, List.length_replicate, put_len] at * <;> omega) | ((have hw0 := start_in (at' flows f.Airway) (hp1.at (i := f.Airway) (by omega)); first | omega | (simp only [List.length_append, List.length_cons, List.length_nil, List.length_replicate, put_len] at * <;> omega))) | ((have hw0 := start_in (IntKind.wrap .i64 (0 - at' flows f.Airway)) (hp1.at (i := f.Airway) (by omega)); first | omega | (simp only [List.length_append, List.length_cons, List.length_nil, List.length_replicate, put_len] at * <;> omega))) | ((have hw0 := start_in (at' flows x3.1) (hp1.at (i := x3.1) (by omega)); first | omega | (simp only [List.length_append, List.length_cons, List.length_nil, List.length_replicate, put_len] at * <;> omega))) | ((have hw0 := start_in (IntKind.wrap .i64 (0 - at' flows x3.1)) (hp1.at (i := x3.1) (by omega)); first | omega | (simp only [List.length_append, List.length_cons, List.length_nil, List.length_replicate, put_len] at * <;> omega))) | (exact hp2.at (by omega))) rfl rfl rfl ic_2 rfl <|
                      q_int .n (.t rfl) (.c rfl) rfl rfl <|
                      q_move .n (.t rfl) rfl <|
                      q_move (.f rfl rfl) (.t rfl) rfl <|
                      q_move (.f rfl rfl) (.t rfl) rfl <|
                      q_move (.f rfl rfl) (.t rfl) rfl <|
                      q_idx_ow (.f rfl rfl) (.u rfl id) (.u rfl id) sl_25 (fun hg => by simp only [Bool.and_eq_true, Bool.or_eq_true, Bool.not_eq_true', Bool.and_eq_false_iff, Bool.or_eq_false_iff, Bool.not_eq_false', decide_eq_true_eq, decide_eq_false_iff_not, beq_iff_eq, bne_iff_ne, beq_eq_false_iff_ne, bne_eq_false_iff_eq, Bool.true_and, ne_eq, Decidable.not_not, Int.not_lt, Int.not_le, Nat.not_lt, Nat.not_le, strB_nil, strB_nil', strB_nnil, strB_nnil'] at hg; first | omega | assumption | (simp only [List.length_append, List.length_cons, List.length_nil, List.length_replicate, put_len] at * <;> omega) | ((have hw0 := start_in (at' flows f.Airway) (hp1.at (i := f.Airway) (by omega)); first | omega | (simp only [List.length_append, List.length_cons, List.length_nil, List.length_replicate, put_len] at * <;> omega))) | ((have hw0 := start_in (IntKind.wrap .i64 (0 - at' flows f.Airway)) (hp1.at (i := f.Airway) (by omega)); first | omega | (simp only [List.length_append, List.length_cons, List.length_nil, List.length_replicate, put_len] at * <;> omega))) | ((have hw0 := start_in (at' flows x3.1) (hp1.at (i := x3.1) (by omega)); first | omega | (simp only [List.length_append, List.length_cons, List.length_nil, List.length_replicate, put_len] at * <;> omega))) | ((have hw0 := start_in (IntKind.wrap .i64 (0 - at' flows x3.1)) (hp1.at (i := x3.1) (by omega)); first | omega | (simp only [List.length_append, List.length_cons, List.length_nil, List.length_replicate, put_len] at * <;> omega))) | (exact hp2.at (by omega))) rfl <|
                      q_ld1_row (.f rfl rfl) (.u rfl id) rfl (fun hg => by simp only [Bool.and_eq_true, Bool.or_eq_true, Bool.not_eq_true', Bool.and_eq_false_iff, Bool.or_eq_false_iff, Bool.not_eq_false', decide_eq_true_eq, decide_eq_false_iff_not, beq_iff_eq, bne_iff_ne, beq_eq_false_iff_ne, bne_eq_false_iff_eq, Bool.true_and, ne_eq, Decidable.not_not, Int.not_lt, Int.not_le, Nat.not_lt, Nat.not_le, strB_nil, strB_nil', strB_nnil, strB_nnil'] at hg; first | omega | assumption | (simp only [List.length_append, List.length_cons, List.length_nil, List.length_replicate, put_len] at * <;> omega) | ((have hw0 := start_in (at' flows f.Airway) (hp1.at (i := f.Airway) (by omega)); first | omega | (simp only [List.length_append, List.length_cons, List.length_nil, List.length_replicate, put_len] at * <;> omega))) | ((have hw0 := start_in (IntKind.wrap .i64 (0 - at' flows f.Airway)) (hp1.at (i := f.Airway) (by omega)); first | omega | (simp only [List.length_append, List.length_cons, List.length_nil, List.length_replicate, put_len] at * <;> omega))) | ((have hw0 := start_in (at' flows x3.1) (hp1.at (i := x3.1) (by omega)); first | omega | (simp only [List.length_append, List.length_cons, List.length_nil, List.length_replicate, put_len] at * <;> omega))) | ((have hw0 := start_in (IntKind.wrap .i64 (0 - at' flows x3.1)) (hp1.at (i := x3.1) (by omega)); first | omega | (simp only [List.length_append, List.length_cons, List.length_nil, List.length_replicate, put_len] at * <;> omega))) | (exact hp2.at (by omega))) rfl rfl rfl ic_2 rfl <|
                      q_int (.f rfl rfl) (.u rfl id) (.u rfl id) rfl rfl <|
                      q_or .n (.t rfl) (.u rfl id) rfl <|
                      Lex.nil) ?_
                  refine run_cond (.t rfl) rfl (fun h16 => ?_) (fun h16 => ?_)
                  · try simp only [Bool.and_eq_true, Bool.or_eq_true, Bool.not_eq_true', Bool.and_eq_false_iff, Bool.or_eq_false_iff, Bool.not_eq_false', decide_eq_true_eq, decide_eq_false_iff_not, beq_iff_eq, bne_iff_ne, beq_eq_false_iff_ne, bne_eq_false_iff_eq, Bool.true_and, ne_eq, Decidable.not_not, Int.not_lt, Int.not_le, Nat.not_lt, Nat.not_le, strB_nil, strB_nil', strB_nnil, strB_nnil'] at h16
                    refine run_region (q_move .n (.t rfl) rfl <|
                        q_move .n (.t rfl) rfl <|
                        q_move .n (.t rfl) rfl <|
                        q_idx_ow .n (.t rfl) (.t rfl) sl_25 (fun _ => by first | omega | assumption | (simp only [List.length_append, List.length_cons, List.length_nil, List.length_replicate, put_len] at * <;> omega) | ((have hw0 := start_in (at' flows f.Airway) (hp1.at (i := f.Airway) (by omega)); first | omega | (simp only [List.length_append, List.length_cons, List.length_nil, List.length_replicate, put_len] at * <;> omega))) | ((have hw0 := start_in (IntKind.wrap .i64 (0 - at' flows f.Airway)) (hp1.at (i := f.Airway) (by omega)); first | omega | (simp only [List.length_append, List.length_cons, List.length_nil, List.length_replicate, put_len] at * <;> omega))) | ((have hw0 := start_in (at' flows x3.1) (hp1.at (i := x3.1) (by omega)); first | omega | (simp only [List.length_append, List.length_cons, List.length_nil, List.length_replicate, put_len] at * <;> omega))) | ((have hw0 := start_in (IntKind.wrap .i64 (0 - at' flows x3.1)) (hp1.at (i := x3.1) (by omega)); first | omega | (simp only [List.length_append, List.length_cons, List.length_nil, List.length_replicate, put_len] at * <;> omega))) | (exact hp2.at (by omega))) rfl <|
                        q_st_rowm (IntKind.wrap .i64 ((at' x3.2 (m_spec_l13Start (at' m_.Airways x3.1) (at' flows x3.1))) + (m_spec_l03Time (at' m_.Airways x3.1) (at' flows x3.1)))) .n rfl (.t rfl) (.t rfl) rfl ts_2 (by first | omega | assumption | (simp only [List.length_append, List.length_cons, List.length_nil, List.length_replicate, put_len] at * <;> omega) | ((have hw0 := start_in (at' flows f.Airway) (hp1.at (i := f.Airway) (by omega)); first | omega | (simp only [List.length_append, List.length_cons, List.length_nil, List.length_replicate, put_len] at * <;> omega))) | ((have hw0 := start_in (IntKind.wrap .i64 (0 - at' flows f.Airway)) (hp1.at (i := f.Airway) (by omega)); first | omega | (simp only [List.length_append, List.length_cons, List.length_nil, List.length_replicate, put_len] at * <;> omega))) | ((have hw0 := start_in (at' flows x3.1) (hp1.at (i := x3.1) (by omega)); first | omega | (simp only [List.length_append, List.length_cons, List.length_nil, List.length_replicate, put_len] at * <;> omega))) | ((have hw0 := start_in (IntKind.wrap .i64 (0 - at' flows x3.1)) (hp1.at (i := x3.1) (by omega)); first | omega | (simp only [List.length_append, List.length_cons, List.length_nil, List.length_replicate, put_len] at * <;> omega))) | (exact hp2.at (by omega))) rfl rfl <|
                        Lex.nil) ?_
                    refine run_endB ?_
                    refine run_region (q_move .n (.t rfl) rfl <|
                        q_add .n (.t rfl) (.c rfl) (fun _ => by first | omega | assumption | (simp only [List.length_append, List.length_cons, List.length_nil, List.length_replicate, put_len] at * <;> omega) | ((have hw0 := start_in (at' flows f.Airway) (hp1.at (i := f.Airway) (by omega)); first | omega | (simp only [List.length_append, List.length_cons, List.length_nil, List.length_replicate, put_len] at * <;> omega))) | ((have hw0 := start_in (IntKind.wrap .i64 (0 - at' flows f.Airway)) (hp1.at (i := f.Airway) (by omega)); first | omega | (simp only [List.length_append, List.length_cons, List.length_nil, List.length_replicate, put_len] at * <;> omega))) | ((have hw0 := start_in (at' flows x3.1) (hp1.at (i := x3.1) (by omega)); first | omega | (simp only [List.length_append, List.length_cons, List.length_nil, List.length_replicate, put_len] at * <;> omega))) | ((have hw0 := start_in (IntKind.wrap .i64 (0 - at' flows x3.1)) (hp1.at (i := x3.1) (by omega)); first | omega | (simp only [List.length_append, List.length_cons, List.length_nil, List.length_replicate, put_len] at * <;> omega))) | (exact hp2.at (by omega))) rfl <|
                        q_assign .n (.t rfl) rfl <|
                        Lex.nil) ?_
                    exact run_again (x3.1 + 1, put' x3.2 (m_spec_l13Start (at' m_.Airways x3.1) (IntKind.wrap .i64 (0 - (at' flows x3.1)))) (IntKind.wrap .i64 ((at' x3.2 (m_spec_l13Start (at' m_.Airways x3.1) (at' flows x3.1))) + (m_spec_l03Time (at' m_.Airways x3.1) (at' flows x3.1))))) ⟨by first | omega | assumption | (simp only [List.length_append, List.length_cons, List.length_nil, List.length_replicate, put_len] at * <;> omega) | ((have hw0 := start_in (at' flows f.Airway) (hp1.at (i := f.Airway) (by omega)); first | omega | (simp only [List.length_append, List.length_cons, List.length_nil, List.length_replicate, put_len] at * <;> omega))) | ((have hw0 := start_in (IntKind.wrap .i64 (0 - at' flows f.Airway)) (hp1.at (i := f.Airway) (by omega)); first | omega | (simp only [List.length_append, List.length_cons, List.length_nil, List.length_replicate, put_len] at * <;> omega))) | ((have hw0 := start_in (at' flows x3.1) (hp1.at (i := x3.1) (by omega)); first | omega | (simp only [List.length_append, List.length_cons, List.length_nil, List.length_replicate, put_len] at * <;> omega))) | ((have hw0 := start_in (IntKind.wrap .i64 (0 - at' flows x3.1)) (hp1.at (i := x3.1) (by omega)); first | omega | (simp only [List.length_append, List.length_cons, List.length_nil, List.length_replicate, put_len] at * <;> omega))) | (exact hp2.at (by omega)), by first | omega | assumption | (simp only [List.length_append, List.length_cons, List.length_nil, List.length_replicate, put_len] at * <;> omega) | ((have hw0 := start_in (at' flows f.Airway) (hp1.at (i := f.Airway) (by omega)); first | omega | (simp only [List.length_append, List.length_cons, List.length_nil, List.length_replicate, put_len] at * <;> omega))) | ((have hw0 := start_in (IntKind.wrap .i64 (0 - at' flows f.Airway)) (hp1.at (i := f.Airway) (by omega)); first | omega | (simp only [List.length_append, List.length_cons, List.length_nil, List.length_replicate, put_len] at * <;> omega))) | ((have hw0 := start_in (at' flows x3.1) (hp1.at (i := x3.1) (by omega)); first | omega | (simp only [List.length_append, List.length_cons, List.length_nil, List.length_replicate, put_len] at * <;> omega))) | ((have hw0 := start_in (IntKind.wrap .i64 (0 - at' flows x3.1)) (hp1.at (i := x3.1) (by omega)); first | omega | (simp only [List.length_append, List.length_cons, List.length_nil, List.length_replicate, put_len] at * <;> omega))) | (exact hp2.at (by omega)), by first | omega | assumption | (simp only [List.length_append, List.length_cons, List.length_nil, List.length_replicate, put_len] at * <;> omega) | ((have hw0 := start_in (at' flows f.Airway) (hp1.at (i := f.Airway) (by omega)); first | omega | (simp only [List.length_append, List.length_cons, List.length_nil, List.length_replicate, put_len] at * <;> omega))) | ((have hw0 := start_in (IntKind.wrap .i64 (0 - at' flows f.Airway)) (hp1.at (i := f.Airway) (by omega)); first | omega | (simp only [List.length_append, List.length_cons, List.length_nil, List.length_replicate, put_len] at * <;> omega))) | ((have hw0 := start_in (at' flows x3.1) (hp1.at (i := x3.1) (by omega)); first | omega | (simp only [List.length_append, List.length_cons, List.length_nil, List.length_replicate, put_len] at * <;> omega))) | ((have hw0 := start_in (IntKind.wrap .i64 (0 - at' flows x3.1)) (hp1.at (i := x3.1) (by omega)); first | omega | (simp only [List.length_append, List.length_cons, List.length_nil, List.length_replicate, put_len] at * <;> omega))) | (exact hp2.at (by omega))⟩ (by first | omega | assumption | (simp only [List.length_append, List.length_cons, List.length_nil, List.length_replicate, put_len] at * <;> omega) | ((have hw0 := start_in (at' flows f.Airway) (hp1.at (i := f.Airway) (by omega)); first | omega | (simp only [List.length_append, List.length_cons, List.length_nil, List.length_replicate, put_len] at * <;> omega))) | ((have hw0 := start_in (IntKind.wrap .i64 (0 - at' flows f.Airway)) (hp1.at (i := f.Airway) (by omega)); first | omega | (simp only [List.length_append, List.length_cons, List.length_nil, List.length_replicate, put_len] at * <;> omega))) | ((have hw0 := start_in (at' flows x3.1) (hp1.at (i := x3.1) (by omega)); first | omega | (simp only [List.length_append, List.length_cons, List.length_nil, List.length_replicate, put_len] at * <;> omega))) | ((have hw0 := start_in (IntKind.wrap .i64 (0 - at' flows x3.1)) (hp1.at (i := x3.1) (by omega)); first | omega | (simp only [List.length_append, List.length_cons, List.length_nil, List.length_replicate, put_len] at * <;> omega))) | (exact hp2.at (by omega))) (sub_of [] ⟨rfl, rfl, os_len rfl (by first | (simp only [put_len]; done) | (first | omega | assumption | (simp only [List.length_append, List.length_cons, List.length_nil, List.length_replicate, put_len] at * <;> omega) | ((have hw0 := start_in (at' flows f.Airway) (hp1.at (i := f.Airway) (by omega)); first | omega | (simp only [List.length_append, List.length_cons, List.length_nil, List.length_replicate, put_len] at * <;> omega))) | ((have hw0 := start_in (IntKind.wrap .i64 (0 - at' flows f.Airway)) (hp1.at (i := f.Airway) (by omega)); first | omega | (simp only [List.length_append, List.length_cons, List.length_nil, List.length_replicate, put_len] at * <;> omega))) | ((have hw0 := start_in (at' flows x3.1) (hp1.at (i := x3.1) (by omega)); first | omega | (simp only [List.length_append, List.length_cons, List.length_nil, List.length_replicate, put_len] at * <;> omega))) | ((have hw0 := start_in (IntKind.wrap .i64 (0 - at' flows x3.1)) (hp1.at (i := x3.1) (by omega)); first | omega | (simp only [List.length_append, List.length_cons, List.length_nil, List.length_replicate, put_len] at * <;> omega))) | (exact hp2.at (by omega)))), rfl, rfl, trivial⟩ ⟨rfl, trivial⟩ rfl)
                  · try simp only [Bool.and_eq_true, Bool.or_eq_true, Bool.not_eq_true', Bool.and_eq_false_iff, Bool.or_eq_false_iff, Bool.not_eq_false', decide_eq_true_eq, decide_eq_false_iff_not, beq_iff_eq, bne_iff_ne, beq_eq_false_iff_ne, bne_eq_false_iff_eq, Bool.true_and, ne_eq, Decidable.not_not, Int.not_lt, Int.not_le, Nat.not_lt, Nat.not_le, strB_nil, strB_nil', strB_nnil, strB_nnil'] at h16
                    refine run_skip ?_
                    refine run_endB ?_
                    refine run_region (q_move .n (.t rfl) rfl <|
                        q_add .n (.t rfl) (.c rfl) (fun _ => by first | omega | assumption | (simp only [List.length_append, List.length_cons, List.length_nil, List.length_replicate, put_len] at * <;> omega) | ((have hw0 := start_in (at' flows f.Airway) (hp1.at (i := f.Airway) (by omega)); first | omega | (simp only [List.length_append, List.length_cons, List.length_nil, List.length_replicate, put_len] at * <;> omega))) | ((have hw0 := start_in (IntKind.wrap .i64 (0 - at' flows f.Airway)) (hp1.at (i := f.Airway) (by omega)); first | omega | (simp only [List.length_append, List.length_cons, List.length_nil, List.length_replicate, put_len] at * <;> omega))) | ((have hw0 := start_in (at' flows x3.1) (hp1.at (i := x3.1) (by omega)); first | omega | (simp only [List.length_append, List.length_cons, List.length_nil, List.length_replicate, put_len] at * <;> omega))) | ((have hw0 := start_in (IntKind.wrap .i64 (0 - at' flows x3.1)) (hp1.at (i := x3.1) (by omega)); first | omega | (simp only [List.length_append, List.length_cons, List.length_nil, List.length_replicate, put_len] at * <;> omega))) | (exact hp2.at (by omega))) rfl <|
                        q_assign .n (.t rfl) rfl <|
                        Lex.nil) ?_
                    exact run_again (x3.1 + 1, x3.2) ⟨by first | omega | assumption | (simp only [List.length_append, List.length_cons, List.length_nil, List.length_replicate, put_len] at * <;> omega) | ((have hw0 := start_in (at' flows f.Airway) (hp1.at (i := f.Airway) (by omega)); first | omega | (simp only [List.length_append, List.length_cons, List.length_nil, List.length_replicate, put_len] at * <;> omega))) | ((have hw0 := start_in (IntKind.wrap .i64 (0 - at' flows f.Airway)) (hp1.at (i := f.Airway) (by omega)); first | omega | (simp only [List.length_append, List.length_cons, List.length_nil, List.length_replicate, put_len] at * <;> omega))) | ((have hw0 := start_in (at' flows x3.1) (hp1.at (i := x3.1) (by omega)); first | omega | (simp only [List.length_append, List.length_cons, List.length_nil, List.length_replicate, put_len] at * <;> omega))) | ((have hw0 := start_in (IntKind.wrap .i64 (0 - at' flows x3.1)) (hp1.at (i := x3.1) (by omega)); first | omega | (simp only [List.length_append, List.length_cons, List.length_nil, List.length_replicate, put_len] at * <;> omega))) | (exact hp2.at (by omega)), by first | omega | assumption | (simp only [List.length_append, List.length_cons, List.length_nil, List.length_replicate, put_len] at * <;> omega) | ((have hw0 := start_in (at' flows f.Airway) (hp1.at (i := f.Airway) (by omega)); first | omega | (simp only [List.length_append, List.length_cons, List.length_nil, List.length_replicate, put_len] at * <;> omega))) | ((have hw0 := start_in (IntKind.wrap .i64 (0 - at' flows f.Airway)) (hp1.at (i := f.Airway) (by omega)); first | omega | (simp only [List.length_append, List.length_cons, List.length_nil, List.length_replicate, put_len] at * <;> omega))) | ((have hw0 := start_in (at' flows x3.1) (hp1.at (i := x3.1) (by omega)); first | omega | (simp only [List.length_append, List.length_cons, List.length_nil, List.length_replicate, put_len] at * <;> omega))) | ((have hw0 := start_in (IntKind.wrap .i64 (0 - at' flows x3.1)) (hp1.at (i := x3.1) (by omega)); first | omega | (simp only [List.length_append, List.length_cons, List.length_nil, List.length_replicate, put_len] at * <;> omega))) | (exact hp2.at (by omega)), by first | omega | assumption | (simp only [List.length_append, List.length_cons, List.length_nil, List.length_replicate, put_len] at * <;> omega) | ((have hw0 := start_in (at' flows f.Airway) (hp1.at (i := f.Airway) (by omega)); first | omega | (simp only [List.length_append, List.length_cons, List.length_nil, List.length_replicate, put_len] at * <;> omega))) | ((have hw0 := start_in (IntKind.wrap .i64 (0 - at' flows f.Airway)) (hp1.at (i := f.Airway) (by omega)); first | omega | (simp only [List.length_append, List.length_cons, List.length_nil, List.length_replicate, put_len] at * <;> omega))) | ((have hw0 := start_in (at' flows x3.1) (hp1.at (i := x3.1) (by omega)); first | omega | (simp only [List.length_append, List.length_cons, List.length_nil, List.length_replicate, put_len] at * <;> omega))) | ((have hw0 := start_in (IntKind.wrap .i64 (0 - at' flows x3.1)) (hp1.at (i := x3.1) (by omega)); first | omega | (simp only [List.length_append, List.length_cons, List.length_nil, List.length_replicate, put_len] at * <;> omega))) | (exact hp2.at (by omega))⟩ (by first | omega | assumption | (simp only [List.length_append, List.length_cons, List.length_nil, List.length_replicate, put_len] at * <;> omega) | ((have hw0 := start_in (at' flows f.Airway) (hp1.at (i := f.Airway) (by omega)); first | omega | (simp only [List.length_append, List.length_cons, List.length_nil, List.length_replicate, put_len] at * <;> omega))) | ((have hw0 := start_in (IntKind.wrap .i64 (0 - at' flows f.Airway)) (hp1.at (i := f.Airway) (by omega)); first | omega | (simp only [List.length_append, List.length_cons, List.length_nil, List.length_replicate, put_len] at * <;> omega))) | ((have hw0 := start_in (at' flows x3.1) (hp1.at (i := x3.1) (by omega)); first | omega | (simp only [List.length_append, List.length_cons, List.length_nil, List.length_replicate, put_len] at * <;> omega))) | ((have hw0 := start_in (IntKind.wrap .i64 (0 - at' flows x3.1)) (hp1.at (i := x3.1) (by omega)); first | omega | (simp only [List.length_append, List.length_cons, List.length_nil, List.length_replicate, put_len] at * <;> omega))) | (exact hp2.at (by omega))) (sub_of [] ⟨rfl, rfl, rfl, rfl, rfl, trivial⟩ ⟨rfl, trivial⟩ rfl)
            · try simp only [Bool.and_eq_true, Bool.or_eq_true, Bool.not_eq_true', Bool.and_eq_false_iff, Bool.or_eq_false_iff, Bool.not_eq_false', decide_eq_true_eq, decide_eq_false_iff_not, beq_iff_eq, bne_iff_ne, beq_eq_false_iff_ne, bne_eq_false_iff_eq, Bool.true_and, ne_eq, Decidable.not_not, Int.not_lt, Int.not_le, Nat.not_lt, Nat.not_le, strB_nil, strB_nil', strB_nnil, strB_nnil'] at h13
              refine run_exit rfl ?_
              exact run_cont hk11 (x3.1, x3.2) ⟨by first | omega | assumption | (simp only [List.length_append, List.length_cons, List.length_nil, List.length_replicate, put_len] at * <;> omega) | ((have hw0 := start_in (at' flows f.Airway) (hp1.at (i := f.Airway) (by omega)); first | omega | (simp only [List.length_append, List.length_cons, List.length_nil, List.length_replicate, put_len] at * <;> omega))) | ((have hw0 := start_in (IntKind.wrap .i64 (0 - at' flows f.Airway)) (hp1.at (i := f.Airway) (by omega)); first | omega | (simp only [List.length_append, List.length_cons, List.length_nil, List.length_replicate, put_len] at * <;> omega))) | ((have hw0 := start_in (at' flows x3.1) (hp1.at (i := x3.1) (by omega)); first | omega | (simp only [List.length_append, List.length_cons, List.length_nil, List.length_replicate, put_len] at * <;> omega))) | ((have hw0 := start_in (IntKind.wrap .i64 (0 - at' flows x3.1)) (hp1.at (i := x3.1) (by omega)); first | omega | (simp only [List.length_append, List.length_cons, List.length_nil, List.length_replicate, put_len] at * <;> omega))) | (exact hp2.at (by omega)), by first | omega | assumption | (simp only [List.length_append, List.length_cons, List.length_nil, List.length_replicate, put_len] at * <;> omega) | ((have hw0 := start_in (at' flows f.Airway) (hp1.at (i := f.Airway) (by omega)); first | omega | (simp only [List.length_append, List.length_cons, List.length_nil, List.length_replicate, put_len] at * <;> omega))) | ((have hw0 := start_in (IntKind.wrap .i64 (0 - at' flows f.Airway)) (hp1.at (i := f.Airway) (by omega)); first | omega | (simp only [List.length_append, List.length_cons, List.length_nil, List.length_replicate, put_len] at * <;> omega))) | ((have hw0 := start_in (at' flows x3.1) (hp1.at (i := x3.1) (by omega)); first | omega | (simp only [List.length_append, List.length_cons, List.length_nil, List.length_replicate, put_len] at * <;> omega))) | ((have hw0 := start_in (IntKind.wrap .i64 (0 - at' flows x3.1)) (hp1.at (i := x3.1) (by omega)); first | omega | (simp only [List.length_append, List.length_cons, List.length_nil, List.length_replicate, put_len] at * <;> omega))) | (exact hp2.at (by omega)), by first | omega | assumption | (simp only [List.length_append, List.length_cons, List.length_nil, List.length_replicate, put_len] at * <;> omega) | ((have hw0 := start_in (at' flows f.Airway) (hp1.at (i := f.Airway) (by omega)); first | omega | (simp only [List.length_append, List.length_cons, List.length_nil, List.length_replicate, put_len] at * <;> omega))) | ((have hw0 := start_in (IntKind.wrap .i64 (0 - at' flows f.Airway)) (hp1.at (i := f.Airway) (by omega)); first | omega | (simp only [List.length_append, List.length_cons, List.length_nil, List.length_replicate, put_len] at * <;> omega))) | ((have hw0 := start_in (at' flows x3.1) (hp1.at (i := x3.1) (by omega)); first | omega | (simp only [List.length_append, List.length_cons, List.length_nil, List.length_replicate, put_len] at * <;> omega))) | ((have hw0 := start_in (IntKind.wrap .i64 (0 - at' flows x3.1)) (hp1.at (i := x3.1) (by omega)); first | omega | (simp only [List.length_append, List.length_cons, List.length_nil, List.length_replicate, put_len] at * <;> omega))) | (exact hp2.at (by omega)), by first | omega | assumption | (simp only [List.length_append, List.length_cons, List.length_nil, List.length_replicate, put_len] at * <;> omega) | ((have hw0 := start_in (at' flows f.Airway) (hp1.at (i := f.Airway) (by omega)); first | omega | (simp only [List.length_append, List.length_cons, List.length_nil, List.length_replicate, put_len] at * <;> omega))) | ((have hw0 := start_in (IntKind.wrap .i64 (0 - at' flows f.Airway)) (hp1.at (i := f.Airway) (by omega)); first | omega | (simp only [List.length_append, List.length_cons, List.length_nil, List.length_replicate, put_len] at * <;> omega))) | ((have hw0 := start_in (at' flows x3.1) (hp1.at (i := x3.1) (by omega)); first | omega | (simp only [List.length_append, List.length_cons, List.length_nil, List.length_replicate, put_len] at * <;> omega))) | ((have hw0 := start_in (IntKind.wrap .i64 (0 - at' flows x3.1)) (hp1.at (i := x3.1) (by omega)); first | omega | (simp only [List.length_append, List.length_cons, List.length_nil, List.length_replicate, put_len] at * <;> omega))) | (exact hp2.at (by omega))⟩ (sub_of [] ⟨rfl, rfl, rfl, rfl, trivial⟩ ⟨rfl, trivial⟩ rfl)
        · try simp only [Bool.and_eq_true, Bool.or_eq_true, Bool.not_eq_true', Bool.and_eq_false_iff, Bool.or_eq_false_iff, Bool.not_eq_false', decide_eq_true_eq, decide_eq_false_iff_not, beq_iff_eq, bne_iff_ne, beq_eq_false_iff_ne, bne_eq_false_iff_eq, Bool.true_and, ne_eq, Decidable.not_not, Int.not_lt, Int.not_le, Nat.not_lt, Nat.not_le, strB_nil, strB_nil', strB_nnil, strB_nnil'] at h10
          refine run_exit rfl ?_
          exact run_cont hk8 (x2.1, x2.2) ⟨by first | omega | assumption | (simp only [List.length_append, List.length_cons, List.length_nil, List.length_replicate, put_len] at * <;> omega) | ((have hw0 := start_in (at' flows f.Airway) (hp1.at (i := f.Airway) (by omega)); first | omega | (simp only [List.length_append, List.length_cons, List.length_nil, List.length_replicate, put_len] at * <;> omega))) | ((have hw0 := start_in (IntKind.wrap .i64 (0 - at' flows f.Airway)) (hp1.at (i := f.Airway) (by omega)); first | omega | (simp only [List.length_append, List.length_cons, List.length_nil, List.length_replicate, put_len] at * <;> omega))) | ((have hw0 := start_in (at' flows x3.1) (hp1.at (i := x3.1) (by omega)); first | omega | (simp only [List.length_append, List.length_cons, List.length_nil, List.length_replicate, put_len] at * <;> omega))) | ((have hw0 := start_in (IntKind.wrap .i64 (0 - at' flows x3.1)) (hp1.at (i := x3.1) (by omega)); first | omega | (simp only [List.length_append, List.length_cons, List.length_nil, List.length_replicate, put_len] at * <;> omega))) | (exact hp2.at (by omega)), by first | omega | assumption | (simp only [List.length_append, List.length_cons, List.length_nil, List.length_replicate, put_len] at * <;> omega) | ((have hw0 := start_in (at' flows f.Airway) (hp1.at (i := f.Airway) (by omega)); first | omega | (simp only [List.length_append, List.length_cons, List.length_nil, List.length_replicate, put_len] at * <;> omega))) | ((have hw0 := start_in (IntKind.wrap .i64 (0 - at' flows f.Airway)) (hp1.at (i := f.Airway) (by omega)); first | omega | (simp only [List.length_append, List.length_cons, List.length_nil, List.length_replicate, put_len] at * <;> omega))) | ((have hw0 := start_in (at' flows x3.1) (hp1.at (i := x3.1) (by omega)); first | omega | (simp only [List.length_append, List.length_cons, List.length_nil, List.length_replicate, put_len] at * <;> omega))) | ((have hw0 := start_in (IntKind.wrap .i64 (0 - at' flows x3.1)) (hp1.at (i := x3.1) (by omega)); first | omega | (simp only [List.length_append, List.length_cons, List.length_nil, List.length_replicate, put_len] at * <;> omega))) | (exact hp2.at (by omega)), by first | omega | assumption | (simp only [List.length_append, List.length_cons, List.length_nil, List.length_replicate, put_len] at * <;> omega) | ((have hw0 := start_in (at' flows f.Airway) (hp1.at (i := f.Airway) (by omega)); first | omega | (simp only [List.length_append, List.length_cons, List.length_nil, List.length_replicate, put_len] at * <;> omega))) | ((have hw0 := start_in (IntKind.wrap .i64 (0 - at' flows f.Airway)) (hp1.at (i := f.Airway) (by omega)); first | omega | (simp only [List.length_append, List.length_cons, List.length_nil, List.length_replicate, put_len] at * <;> omega))) | ((have hw0 := start_in (at' flows x3.1) (hp1.at (i := x3.1) (by omega)); first | omega | (simp only [List.length_append, List.length_cons, List.length_nil, List.length_replicate, put_len] at * <;> omega))) | ((have hw0 := start_in (IntKind.wrap .i64 (0 - at' flows x3.1)) (hp1.at (i := x3.1) (by omega)); first | omega | (simp only [List.length_append, List.length_cons, List.length_nil, List.length_replicate, put_len] at * <;> omega))) | (exact hp2.at (by omega)), by first | omega | assumption | (simp only [List.length_append, List.length_cons, List.length_nil, List.length_replicate, put_len] at * <;> omega) | ((have hw0 := start_in (at' flows f.Airway) (hp1.at (i := f.Airway) (by omega)); first | omega | (simp only [List.length_append, List.length_cons, List.length_nil, List.length_replicate, put_len] at * <;> omega))) | ((have hw0 := start_in (IntKind.wrap .i64 (0 - at' flows f.Airway)) (hp1.at (i := f.Airway) (by omega)); first | omega | (simp only [List.length_append, List.length_cons, List.length_nil, List.length_replicate, put_len] at * <;> omega))) | ((have hw0 := start_in (at' flows x3.1) (hp1.at (i := x3.1) (by omega)); first | omega | (simp only [List.length_append, List.length_cons, List.length_nil, List.length_replicate, put_len] at * <;> omega))) | ((have hw0 := start_in (IntKind.wrap .i64 (0 - at' flows x3.1)) (hp1.at (i := x3.1) (by omega)); first | omega | (simp only [List.length_append, List.length_cons, List.length_nil, List.length_replicate, put_len] at * <;> omega))) | (exact hp2.at (by omega))⟩ (sub_of [] ⟨rfl, trivial⟩ ⟨rfl, trivial⟩ rfl)
  · intro rec1 k1 hk3 x1 i4
    obtain ⟨e38, e39, e40, e41⟩ := i4
    try dsimp only at *
    refine run_seq ?_
    refine run_seq ?_
    refine run_region (q_move .n (.t rfl) rfl <|
        q_move .n (.t rfl) rfl <|
        q_nilc_ro .n (.t rfl) rfl <|
        q_fld_ro .n (.t rfl) fo_33_0 rfl <|
        q_ld1_ro .n (.t rfl) rfl ic_2 rfl <|
        q_int .n (.t rfl) (.t rfl) rfl rfl <|
        Lex.nil) ?_
    refine run_cond (.t rfl) rfl (fun h5 => ?_) (fun h5 => ?_)
    · try simp only [Bool.and_eq_true, Bool.or_eq_true, Bool.not_eq_true', Bool.and_eq_false_iff, Bool.or_eq_false_iff, Bool.not_eq_false', decide_eq_true_eq, decide_eq_false_iff_not, beq_iff_eq, bne_iff_ne, beq_eq_false_iff_ne, bne_eq_false_iff_eq, Bool.true_and, ne_eq, Decidable.not_not, Int.not_lt, Int.not_le, Nat.not_lt, Nat.not_le, strB_nil, strB_nil', strB_nnil, strB_nnil'] at h5
      refine run_skip ?_
      refine run_seq ?_
      refine run_block ?_
      refine run_region (q_move .n (.t rfl) rfl <|
          q_bslicem ([(-1)] : List Int) (f := V.int .i64) (l := 201) .n rfl rfl (.cons (.c rfl) .nil) rfl si_25 zv_2 rfl rfl rfl <|
          q_appm (xs := x1.1) (ys := ([(-1)] : List Int)) (f := V.int .i64) (l := 202) .n rfl (.ow (.t rfl) rfl (take_all (by simp only [len_map, put_len])) (by simp only [len_map, put_len])) (.ow (.t rfl) rfl (take_all (by simp only [len_map, put_len])) (by simp only [len_map, put_len])) si_25 zv_2 rfl (by first | omega | assumption | (simp only [List.length_append, List.length_cons, List.length_nil, List.length_replicate, put_len] at * <;> omega) | ((have hw0 := start_in (at' flows f.Airway) (hp1.at (i := f.Airway) (by omega)); first | omega | (simp only [List.length_append, List.length_cons, List.length_nil, List.length_replicate, put_len] at * <;> omega))) | ((have hw0 := start_in (IntKind.wrap .i64 (0 - at' flows f.Airway)) (hp1.at (i := f.Airway) (by omega)); first | omega | (simp only [List.length_append, List.length_cons, List.length_nil, List.length_replicate, put_len] at * <;> omega))) | ((have hw0 := start_in (at' flows x3.1) (hp1.at (i := x3.1) (by omega)); first | omega | (simp only [List.length_append, List.length_cons, List.length_nil, List.length_replicate, put_len] at * <;> omega))) | ((have hw0 := start_in (IntKind.wrap .i64 (0 - at' flows x3.1)) (hp1.at (i := x3.1) (by omega)); first | omega | (simp only [List.length_append, List.length_cons, List.length_nil, List.length_replicate, put_len] at * <;> omega))) | (exact hp2.at (by omega))) rfl rfl <|
          q_assign .n (.t rfl) rfl <|
          Lex.nil) ?_
      refine run_endB ?_
      refine run_region (q_move .n (.t rfl) rfl <|
          q_add .n (.t rfl) (.c rfl) (fun _ => by first | omega | assumption | (simp only [List.length_append, List.length_cons, List.length_nil, List.length_replicate, put_len] at * <;> omega) | ((have hw0 := start_in (at' flows f.Airway) (hp1.at (i := f.Airway) (by omega)); first | omega | (simp only [List.length_append, List.length_cons, List.length_nil, List.length_replicate, put_len] at * <;> omega))) | ((have hw0 := start_in (IntKind.wrap .i64 (0 - at' flows f.Airway)) (hp1.at (i := f.Airway) (by omega)); first | omega | (simp only [List.length_append, List.length_cons, List.length_nil, List.length_replicate, put_len] at * <;> omega))) | ((have hw0 := start_in (at' flows x3.1) (hp1.at (i := x3.1) (by omega)); first | omega | (simp only [List.length_append, List.length_cons, List.length_nil, List.length_replicate, put_len] at * <;> omega))) | ((have hw0 := start_in (IntKind.wrap .i64 (0 - at' flows x3.1)) (hp1.at (i := x3.1) (by omega)); first | omega | (simp only [List.length_append, List.length_cons, List.length_nil, List.length_replicate, put_len] at * <;> omega))) | (exact hp2.at (by omega))) rfl <|
          q_assign .n (.t rfl) rfl <|
          Lex.nil) ?_
      exact run_again (x1.1 ++ ([(-1)] : List Int), x1.2 + 1) ⟨by first | omega | assumption | (simp only [List.length_append, List.length_cons, List.length_nil, List.length_replicate, put_len] at * <;> omega) | ((have hw0 := start_in (at' flows f.Airway) (hp1.at (i := f.Airway) (by omega)); first | omega | (simp only [List.length_append, List.length_cons, List.length_nil, List.length_replicate, put_len] at * <;> omega))) | ((have hw0 := start_in (IntKind.wrap .i64 (0 - at' flows f.Airway)) (hp1.at (i := f.Airway) (by omega)); first | omega | (simp only [List.length_append, List.length_cons, List.length_nil, List.length_replicate, put_len] at * <;> omega))) | ((have hw0 := start_in (at' flows x3.1) (hp1.at (i := x3.1) (by omega)); first | omega | (simp only [List.length_append, List.length_cons, List.length_nil, List.length_replicate, put_len] at * <;> omega))) | ((have hw0 := start_in (IntKind.wrap .i64 (0 - at' flows x3.1)) (hp1.at (i := x3.1) (by omega)); first | omega | (simp only [List.length_append, List.length_cons, List.length_nil, List.length_replicate, put_len] at * <;> omega))) | (exact hp2.at (by omega)), by first | omega | assumption | (simp only [List.length_append, List.length_cons, List.length_nil, List.length_replicate, put_len] at * <;> omega) | ((have hw0 := start_in (at' flows f.Airway) (hp1.at (i := f.Airway) (by omega)); first | omega | (simp only [List.length_append, List.length_cons, List.length_nil, List.length_replicate, put_len] at * <;> omega))) | ((have hw0 := start_in (IntKind.wrap .i64 (0 - at' flows f.Airway)) (hp1.at (i := f.Airway) (by omega)); first | omega | (simp only [List.length_append, List.length_cons, List.length_nil, List.length_replicate, put_len] at * <;> omega))) | ((have hw0 := start_in (at' flows x3.1) (hp1.at (i := x3.1) (by omega)); first | omega | (simp only [List.length_append, List.length_cons, List.length_nil, List.length_replicate, put_len] at * <;> omega))) | ((have hw0 := start_in (IntKind.wrap .i64 (0 - at' flows x3.1)) (hp1.at (i := x3.1) (by omega)); first | omega | (simp only [List.length_append, List.length_cons, List.length_nil, List.length_replicate, put_len] at * <;> omega))) | (exact hp2.at (by omega)), by first | omega | assumption | (simp only [List.length_append, List.length_cons, List.length_nil, List.length_replicate, put_len] at * <;> omega) | ((have hw0 := start_in (at' flows f.Airway) (hp1.at (i := f.Airway) (by omega)); first | omega | (simp only [List.length_append, List.length_cons, List.length_nil, List.length_replicate, put_len] at * <;> omega))) | ((have hw0 := start_in (IntKind.wrap .i64 (0 - at' flows f.Airway)) (hp1.at (i := f.Airway) (by omega)); first | omega | (simp only [List.length_append, List.length_cons, List.length_nil, List.length_replicate, put_len] at * <;> omega))) | ((have hw0 := start_in (at' flows x3.1) (hp1.at (i := x3.1) (by omega)); first | omega | (simp only [List.length_append, List.length_cons, List.length_nil, List.length_replicate, put_len] at * <;> omega))) | ((have hw0 := start_in (IntKind.wrap .i64 (0 - at' flows x3.1)) (hp1.at (i := x3.1) (by omega)); first | omega | (simp only [List.length_append, List.length_cons, List.length_nil, List.length_replicate, put_len] at * <;> omega))) | (exact hp2.at (by omega)), by first | omega | assumption | (simp only [List.length_append, List.length_cons, List.length_nil, List.length_replicate, put_len] at * <;> omega) | ((have hw0 := start_in (at' flows f.Airway) (hp1.at (i := f.Airway) (by omega)); first | omega | (simp only [List.length_append, List.length_cons, List.length_nil, List.length_replicate, put_len] at * <;> omega))) | ((have hw0 := start_in (IntKind.wrap .i64 (0 - at' flows f.Airway)) (hp1.at (i := f.Airway) (by omega)); first | omega | (simp only [List.length_append, List.length_cons, List.length_nil, List.length_replicate, put_len] at * <;> omega))) | ((have hw0 := start_in (at' flows x3.1) (hp1.at (i := x3.1) (by omega)); first | omega | (simp only [List.length_append, List.length_cons, List.length_nil, List.length_replicate, put_len] at * <;> omega))) | ((have hw0 := start_in (IntKind.wrap .i64 (0 - at' flows x3.1)) (hp1.at (i := x3.1) (by omega)); first | omega | (simp only [List.length_append, List.length_cons, List.length_nil, List.length_replicate, put_len] at * <;> omega))) | (exact hp2.at (by omega))⟩ (by first | omega | assumption | (simp only [List.length_append, List.length_cons, List.length_nil, List.length_replicate, put_len] at * <;> omega) | ((have hw0 := start_in (at' flows f.Airway) (hp1.at (i := f.Airway) (by omega)); first | omega | (simp only [List.length_append, List.length_cons, List.length_nil, List.length_replicate, put_len] at * <;> omega))) | ((have hw0 := start_in (IntKind.wrap .i64 (0 - at' flows f.Airway)) (hp1.at (i := f.Airway) (by omega)); first | omega | (simp only [List.length_append, List.length_cons, List.length_nil, List.length_replicate, put_len] at * <;> omega))) | ((have hw0 := start_in (at' flows x3.1) (hp1.at (i := x3.1) (by omega)); first | omega | (simp only [List.length_append, List.length_cons, List.length_nil, List.length_replicate, put_len] at * <;> omega))) | ((have hw0 := start_in (IntKind.wrap .i64 (0 - at' flows x3.1)) (hp1.at (i := x3.1) (by omega)); first | omega | (simp only [List.length_append, List.length_cons, List.length_nil, List.length_replicate, put_len] at * <;> omega))) | (exact hp2.at (by omega))) (sub_of [(200, 202)] ⟨rfl, rfl, rfl, rfl, rfl, trivial⟩ ⟨rfl, trivial⟩ rfl)
    · try simp only [Bool.and_eq_true, Bool.or_eq_true, Bool.not_eq_true', Bool.and_eq_false_iff, Bool.or_eq_false_iff, Bool.not_eq_false', decide_eq_true_eq, decide_eq_false_iff_not, beq_iff_eq, bne_iff_ne, beq_eq_false_iff_ne, bne_eq_false_iff_eq, Bool.true_and, ne_eq, Decidable.not_not, Int.not_lt, Int.not_le, Nat.not_lt, Nat.not_le, strB_nil, strB_nil', strB_nnil, strB_nnil'] at h5
      refine run_exit rfl ?_
      exact run_cont hk3 (x1.1, x1.2) ⟨by first | omega | assumption | (simp only [List.length_append, List.length_cons, List.length_nil, List.length_replicate, put_len] at * <;> omega) | ((have hw0 := start_in (at' flows f.Airway) (hp1.at (i := f.Airway) (by omega)); first | omega | (simp only [List.length_append, List.length_cons, List.length_nil, List.length_replicate, put_len] at * <;> omega))) | ((have hw0 := start_in (IntKind.wrap .i64 (0 - at' flows f.Airway)) (hp1.at (i := f.Airway) (by omega)); first | omega | (simp only [List.length_append, List.length_cons, List.length_nil, List.length_replicate, put_len] at * <;> omega))) | ((have hw0 := start_in (at' flows x3.1) (hp1.at (i := x3.1) (by omega)); first | omega | (simp only [List.length_append, List.length_cons, List.length_nil, List.length_replicate, put_len] at * <;> omega))) | ((have hw0 := start_in (IntKind.wrap .i64 (0 - at' flows x3.1)) (hp1.at (i := x3.1) (by omega)); first | omega | (simp only [List.length_append, List.length_cons, List.length_nil, List.length_replicate, put_len] at * <;> omega))) | (exact hp2.at (by omega)), by first | omega | assumption | (simp only [List.length_append, List.length_cons, List.length_nil, List.length_replicate, put_len] at * <;> omega) | ((have hw0 := start_in (at' flows f.Airway) (hp1.at (i := f.Airway) (by omega)); first | omega | (simp only [List.length_append, List.length_cons, List.length_nil, List.length_replicate, put_len] at * <;> omega))) | ((have hw0 := start_in (IntKind.wrap .i64 (0 - at' flows f.Airway)) (hp1.at (i := f.Airway) (by omega)); first | omega | (simp only [List.length_append, List.length_cons, List.length_nil, List.length_replicate, put_len] at * <;> omega))) | ((have hw0 := start_in (at' flows x3.1) (hp1.at (i := x3.1) (by omega)); first | omega | (simp only [List.length_append, List.length_cons, List.length_nil, List.length_replicate, put_len] at * <;> omega))) | ((have hw0 := start_in (IntKind.wrap .i64 (0 - at' flows x3.1)) (hp1.at (i := x3.1) (by omega)); first | omega | (simp only [List.length_append, List.length_cons, List.length_nil, List.length_replicate, put_len] at * <;> omega))) | (exact hp2.at (by omega)), by first | omega | assumption | (simp only [List.length_append, List.length_cons, List.length_nil, List.length_replicate, put_len] at * <;> omega) | ((have hw0 := start_in (at' flows f.Airway) (hp1.at (i := f.Airway) (by omega)); first | omega | (simp only [List.length_append, List.length_cons, List.length_nil, List.length_replicate, put_len] at * <;> omega))) | ((have hw0 := start_in (IntKind.wrap .i64 (0 - at' flows f.Airway)) (hp1.at (i := f.Airway) (by omega)); first | omega | (simp only [List.length_append, List.length_cons, List.length_nil, List.length_replicate, put_len] at * <;> omega))) | ((have hw0 := start_in (at' flows x3.1) (hp1.at (i := x3.1) (by omega)); first | omega | (simp only [List.length_append, List.length_cons, List.length_nil, List.length_replicate, put_len] at * <;> omega))) | ((have hw0 := start_in (IntKind.wrap .i64 (0 - at' flows x3.1)) (hp1.at (i := x3.1) (by omega)); first | omega | (simp only [List.length_append, List.length_cons, List.length_nil, List.length_replicate, put_len] at * <;> omega))) | (exact hp2.at (by omega)), by first | omega | assumption | (simp only [List.length_append, List.length_cons, List.length_nil, List.length_replicate, put_len] at * <;> omega) | ((have hw0 := start_in (at' flows f.Airway) (hp1.at (i := f.Airway) (by omega)); first | omega | (simp only [List.length_append, List.length_cons, List.length_nil, List.length_replicate, put_len] at * <;> omega))) | ((have hw0 := start_in (IntKind.wrap .i64 (0 - at' flows f.Airway)) (hp1.at (i := f.Airway) (by omega)); first | omega | (simp only [List.length_append, List.length_cons, List.length_nil, List.length_replicate, put_len] at * <;> omega))) | ((have hw0 := start_in (at' flows x3.1) (hp1.at (i := x3.1) (by omega)); first | omega | (simp only [List.length_append, List.length_cons, List.length_nil, List.length_replicate, put_len] at * <;> omega))) | ((have hw0 := start_in (IntKind.wrap .i64 (0 - at' flows x3.1)) (hp1.at (i := x3.1) (by omega)); first | omega | (simp only [List.length_append, List.length_cons, List.length_nil, List.length_replicate, put_len] at * <;> omega))) | (exact hp2.at (by omega)), by first | omega | assumption | (simp only [List.length_append, List.length_cons, List.length_nil, List.length_replicate, put_len] at * <;> omega) | ((have hw0 := start_in (at' flows f.Airway) (hp1.at (i := f.Airway) (by omega)); first | omega | (simp only [List.length_append, List.length_cons, List.length_nil, List.length_replicate, put_len] at * <;> omega))) | ((have hw0 := start_in (IntKind.wrap .i64 (0 - at' flows f.Airway)) (hp1.at (i := f.Airway) (by omega)); first | omega | (simp only [List.length_append, List.length_cons, List.length_nil, List.length_replicate, put_len] at * <;> omega))) | ((have hw0 := start_in (at' flows x3.1) (hp1.at (i := x3.1) (by omega)); first | omega | (simp only [List.length_append, List.length_cons, List.length_nil, List.length_replicate, put_len] at * <;> omega))) | ((have hw0 := start_in (IntKind.wrap .i64 (0 - at' flows x3.1)) (hp1.at (i := x3.1) (by omega)); first | omega | (simp only [List.length_append, List.length_cons, List.length_nil, List.length_replicate, put_len] at * <;> omega))) | (exact hp2.at (by omega))⟩ (sub_of [] ⟨rfl, rfl, rfl, rfl, trivial⟩ ⟨rfl, trivial⟩ rfl)

/-! ### spec_l00In -/
theorem c_spec_l00In (n_ : Int) (low : Int) (high : Int) : Con Try.prog 70 [.int .i64 n_, .int .i64 low, .int .i64 high] [] (.bool (m_spec_l00In n_ low high)) ([]) := by
  refine con_intro (out := fun r : Bool => ((.bool r : V), ([] : List (Nat × Option O)))) (r := (m_spec_l00In n_ low high)) Try.func70 rfl Try.ntmps70 rfl ?_
  refine run_seq ?_
  refine run_region (q_assign .n (.c rfl) rfl <|
      Lex.nil) ?_
  refine run_seq ?_
  refine run_region (q_move .n (.t rfl) rfl <|
      q_move .n (.t rfl) rfl <|
      q_int .n (.t rfl) (.t rfl) rfl rfl <|
      q_move .n (.t rfl) rfl <|
      q_move (.t rfl rfl) (.t rfl) rfl <|
      q_move (.t rfl rfl) (.t rfl) rfl <|
      q_int (.t rfl rfl) (.u rfl id) (.u rfl id) rfl rfl <|
      q_and .n (.t rfl) (.u rfl id) rfl <|
      q_assign .n (.t rfl) rfl <|
      Lex.nil) ?_
  exact run_ret [] (.cons (.t rfl rfl) .nil) rfl trivial rfl

/-! ### spec_l01Small -/
theorem c_spec_l01Small (c_ : Int) : Con Try.prog 156 [.int .u8 c_] [] (.bool (m_spec_l01Small c_)) ([]) := by
  refine con_intro (out := fun r : Bool => ((.bool r : V), ([] : List (Nat × Option O)))) (r := (m_spec_l01Small c_)) Try.func156 rfl Try.ntmps156 rfl ?_
  refine run_seq ?_
  refine run_region (q_assign .n (.c rfl) rfl <|
      Lex.nil) ?_
  refine run_seq ?_
  refine run_region (q_move .n (.t rfl) rfl <|
      q_int .n (.t rfl) (.c rfl) rfl rfl <|
      q_move .n (.t rfl) rfl <|
      q_move (.t rfl rfl) (.t rfl) rfl <|
      q_int (.t rfl rfl) (.u rfl id) (.c rfl) rfl rfl <|
      q_and .n (.t rfl) (.u rfl id) rfl <|
      q_assign .n (.t rfl) rfl <|
      Lex.nil) ?_
  exact run_ret [] (.cons (.t rfl rfl) .nil) rfl trivial rfl

/-! ### spec_l01Digit -/
theorem c_spec_l01Digit (c_ : Int) : Con Try.prog 157 [.int .u8 c_] [] (.bool (m_spec_l01Digit c_)) ([]) := by
  refine con_intro (out := fun r : Bool => ((.bool r : V), ([] : List (Nat × Option O)))) (r := (m_spec_l01Digit c_)) Try.func157 rfl Try.ntmps157 rfl ?_
  refine run_seq ?_
  refine run_region (q_assign .n (.c rfl) rfl <|
      Lex.nil) ?_
  refine run_seq ?_
  refine run_region (q_move .n (.t rfl) rfl <|
      q_int .n (.t rfl) (.c rfl) rfl rfl <|
      q_move .n (.t rfl) rfl <|
      q_move (.t rfl rfl) (.t rfl) rfl <|
      q_int (.t rfl rfl) (.u rfl id) (.c rfl) rfl rfl <|
      q_and .n (.t rfl) (.u rfl id) rfl <|
      q_assign .n (.t rfl) rfl <|
      Lex.nil) ?_
  exact run_ret [] (.cons (.t rfl rfl) .nil) rfl trivial rfl

/-! ### spec_l01Name -/
theorem c_spec_l01Name (s_ : List UInt8) : Con Try.prog 148 [.str s_] [] (.bool (m_spec_l01Name s_)) ([]) := by
  refine con_intro (out := fun r : Bool => ((.bool r : V), ([] : List (Nat × Option O)))) (r := (m_spec_l01Name s_)) Try.func148 rfl Try.ntmps148 rfl ?_
  refine run_seq ?_
  refine run_region (q_assign .n (.c rfl) rfl <|
      Lex.nil) ?_
  refine run_seq ?_
  refine run_seq ?_
  refine run_region (q_move .n (.t rfl) rfl <|
      q_strcmp .n (.t rfl) (.c rfl) rfl rfl <|
      q_move .n (.t rfl) rfl <|
      q_move (.f rfl rfl) (.t rfl) rfl <|
      q_len (.f rfl rfl) (.u rfl id) rfl rfl st_9 rfl <|
      q_int (.f rfl rfl) (.u rfl id) (.c rfl) rfl rfl <|
      q_or .n (.t rfl) (.u rfl id) rfl <|
      q_move .n (.t rfl) rfl <|
      q_move (.f rfl rfl) (.t rfl) rfl <|
      q_strat (.f rfl rfl) (.u rfl id) (.c rfl) st_9 (fun hg => by simp only [Bool.and_eq_true, Bool.or_eq_true, Bool.not_eq_true', Bool.and_eq_false_iff, Bool.or_eq_false_iff, Bool.not_eq_false', decide_eq_true_eq, decide_eq_false_iff_not, beq_iff_eq, bne_iff_ne, beq_eq_false_iff_ne, bne_eq_false_iff_eq, Bool.true_and, ne_eq, Decidable.not_not, Int.not_lt, Int.not_le, Nat.not_lt, Nat.not_le, strB_nil, strB_nil', strB_nnil, strB_nnil'] at hg; first | omega | assumption | (simp only [List.length_append, List.length_cons, List.length_nil, List.length_replicate, put_len] at * <;> omega)) rfl <|
      q_call0 (full := false) (.f rfl rfl) .f en_156 (.cons (.u rfl id) .nil) (.cons (.b (.a (.same rfl))) .nil) (fun hg => c_spec_l01Small (((s_.getD (0 : Int).toNat 0).toNat : Nat) : Int)) rfl (fun h => Bool.noConfusion h) rfl <|
      q_not (.f rfl rfl) (.u rfl id) rfl <|
      q_or .n (.t rfl) (.u rfl id) rfl <|
      Lex.nil) ?_
  refine run_cond (.t rfl) rfl (fun h1 => ?_) (fun h1 => ?_)
  · try simp only [Bool.and_eq_true, Bool.or_eq_true, Bool.not_eq_true', Bool.and_eq_false_iff, Bool.or_eq_false_iff, Bool.not_eq_false', decide_eq_true_eq, decide_eq_false_iff_not, beq_iff_eq, bne_iff_ne, beq_eq_false_iff_ne, bne_eq_false_iff_eq, Bool.true_and, ne_eq, Decidable.not_not, Int.not_lt, Int.not_le, Nat.not_lt, Nat.not_le, strB_nil, strB_nil', strB_nnil, strB_nnil'] at h1
    refine run_seq ?_
    refine run_region (q_assign .n (.c rfl) rfl <|
        Lex.nil) ?_
    exact run_ret [] (.cons (.t rfl rfl) .nil) rfl trivial rfl
  · try simp only [Bool.and_eq_true, Bool.or_eq_true, Bool.not_eq_true', Bool.and_eq_false_iff, Bool.or_eq_false_iff, Bool.not_eq_false', decide_eq_true_eq, decide_eq_false_iff_not, beq_iff_eq, bne_iff_ne, beq_eq_false_iff_ne, bne_eq_false_iff_eq, Bool.true_and, ne_eq, Decidable.not_not, Int.not_lt, Int.not_le, Nat.not_lt, Nat.not_le, strB_nil, strB_nil', strB_nnil, strB_nnil'] at h1
    refine run_skip ?_
    refine run_seq ?_
    refine run_seq ?_
    refine run_region (q_assign .n (.c rfl) rfl <|
        Lex.nil) ?_
    refine run_block ?_
    refine run_LOOP (m_spec_l01Name_b1 s_) _ _ _ rfl (fun (x1 : Int) => 0 ≤ x1 ∧ x1 ≤ (s_.length : Int)) (fun x1 => 0 ≤ x1 ∧ x1 ≤ (s_.length : Int) ∧ (s_.length : Int) ≤ x1) (fun x1 => ((s_.length : Int) - x1 : Int).toNat) (fun x1 => ⟨[(0, some (true, .str s_)), (3, some (true, .int .i64 x1))], []⟩) (fun x1 => ⟨[], []⟩) ⟨by first | omega | assumption | (simp only [List.length_append, List.length_cons, List.length_nil, List.length_replicate, put_len] at * <;> omega), by first | omega | assumption | (simp only [List.length_append, List.length_cons, List.length_nil, List.length_replicate, put_len] at * <;> omega)⟩ (by first | omega | assumption | (simp only [List.length_append, List.length_cons, List.length_nil, List.length_replicate, put_len] at * <;> omega)) (sub_of [] ⟨rfl, rfl, trivial⟩ trivial rfl) ?_ ?_
    · intro x1 i6
      obtain ⟨e7, e8, e9⟩ := i6
      try dsimp only at *
      refine run_seq ?_
      refine run_region (q_assign .n (.c rfl) rfl <|
          Lex.nil) ?_
      exact run_ret [] (.cons (.t rfl rfl) .nil) rfl trivial rfl
    · intro rec1 k1 hk2 x1 i3
      obtain ⟨e10, e11⟩ := i3
      try dsimp only at *
      refine run_seq ?_
      refine run_seq ?_
      refine run_region (q_move .n (.t rfl) rfl <|
          q_move .n (.t rfl) rfl <|
          q_len .n (.t rfl) rfl rfl st_9 rfl <|
          q_int .n (.t rfl) (.t rfl) rfl rfl <|
          Lex.nil) ?_
      refine run_cond (.t rfl) rfl (fun h4 => ?_) (fun h4 => ?_)
      · try simp only [Bool.and_eq_true, Bool.or_eq_true, Bool.not_eq_true', Bool.and_eq_false_iff, Bool.or_eq_false_iff, Bool.not_eq_false', decide_eq_true_eq, decide_eq_false_iff_not, beq_iff_eq, bne_iff_ne, beq_eq_false_iff_ne, bne_eq_false_iff_eq, Bool.true_and, ne_eq, Decidable.not_not, Int.not_lt, Int.not_le, Nat.not_lt, Nat.not_le, strB_nil, strB_nil', strB_nnil, strB_nnil'] at h4
        refine run_skip ?_
        refine run_seq ?_
        refine run_block ?_
        refine run_seq ?_
        refine run_region (q_move .n (.t rfl) rfl <|
            q_move .n (.t rfl) rfl <|
            q_strat .n (.t rfl) (.t rfl) st_9 (fun _ => by first | omega | assumption | (simp only [List.length_append, List.length_cons, List.length_nil, List.length_replicate, put_len] at * <;> omega)) rfl <|
            q_call0 (full := false) .n .f en_156 (.cons (.t rfl) .nil) (.cons (.b (.a (.same rfl))) .nil) (fun hg => c_spec_l01Small (((s_.getD x1.toNat 0).toNat : Nat) : Int)) rfl (fun h => Bool.noConfusion h) rfl <|
            q_not .n (.t rfl) rfl <|
            q_move .n (.t rfl) rfl <|
            q_move (.t rfl rfl) (.t rfl) rfl <|
            q_move (.t rfl rfl) (.t rfl) rfl <|
            q_strat (.t rfl rfl) (.u rfl id) (.u rfl id) st_9 (fun hg => by simp only [Bool.and_eq_true, Bool.or_eq_true, Bool.not_eq_true', Bool.and_eq_false_iff, Bool.or_eq_false_iff, Bool.not_eq_false', decide_eq_true_eq, decide_eq_false_iff_not, beq_iff_eq, bne_iff_ne, beq_eq_false_iff_ne, bne_eq_false_iff_eq, Bool.true_and, ne_eq, Decidable.not_not, Int.not_lt, Int.not_le, Nat.not_lt, Nat.not_le, strB_nil, strB_nil', strB_nnil, strB_nnil'] at hg; first | omega | assumption | (simp only [List.length_append, List.length_cons, List.length_nil, List.length_replicate, put_len] at * <;> omega)) rfl <|
            q_call0 (full := false) (.t rfl rfl) .f en_157 (.cons (.u rfl id) .nil) (.cons (.b (.a (.same rfl))) .nil) (fun hg => c_spec_l01Digit (((s_.getD x1.toNat 0).toNat : Nat) : Int)) rfl (fun h => Bool.noConfusion h) rfl <|
            q_not (.t rfl rfl) (.u rfl id) rfl <|
            q_and .n (.t rfl) (.u rfl id) rfl <|
            Lex.nil) ?_
        refine run_cond (.t rfl) rfl (fun h5 => ?_) (fun h5 => ?_)
        · try simp only [Bool.and_eq_true, Bool.or_eq_true, Bool.not_eq_true', Bool.and_eq_false_iff, Bool.or_eq_false_iff, Bool.not_eq_false', decide_eq_true_eq, decide_eq_false_iff_not, beq_iff_eq, bne_iff_ne, beq_eq_false_iff_ne, bne_eq_false_iff_eq, Bool.true_and, ne_eq, Decidable.not_not, Int.not_lt, Int.not_le, Nat.not_lt, Nat.not_le, strB_nil, strB_nil', strB_nnil, strB_nnil'] at h5
          refine run_seq ?_
          refine run_region (q_assign .n (.c rfl) rfl <|
              Lex.nil) ?_
          exact run_ret [] (.cons (.t rfl rfl) .nil) rfl trivial rfl
        · try simp only [Bool.and_eq_true, Bool.or_eq_true, Bool.not_eq_true', Bool.and_eq_false_iff, Bool.or_eq_false_iff, Bool.not_eq_false', decide_eq_true_eq, decide_eq_false_iff_not, beq_iff_eq, bne_iff_ne, beq_eq_false_iff_ne, bne_eq_false_iff_eq, Bool.true_and, ne_eq, Decidable.not_not, Int.not_lt, Int.not_le, Nat.not_lt, Nat.not_le, strB_nil, strB_nil', strB_nnil, strB_nnil'] at h5
          refine run_skip ?_
          refine run_endB ?_
          refine run_region (q_move .n (.t rfl) rfl <|
              q_add .n (.t rfl) (.c rfl) (fun _ => by first | omega | assumption | (simp only [List.length_append, List.length_cons, List.length_nil, List.length_replicate, put_len] at * <;> omega)) rfl <|
              q_assign .n (.t rfl) rfl <|
              Lex.nil) ?_
          exact run_again (x1 + 1) ⟨by first | omega | assumption | (simp only [List.length_append, List.length_cons, List.length_nil, List.length_replicate, put_len] at * <;> omega), by first | omega | assumption | (simp only [List.length_append, List.length_cons, List.length_nil, List.length_replicate, put_len] at * <;> omega)⟩ (by first | omega | assumption | (simp only [List.length_append, List.length_cons, List.length_nil, List.length_replicate, put_len] at * <;> omega)) (sub_of [] ⟨rfl, rfl, trivial⟩ trivial rfl)
      · try simp only [Bool.and_eq_true, Bool.or_eq_true, Bool.not_eq_true', Bool.and_eq_false_iff, Bool.or_eq_false_iff, Bool.not_eq_false', decide_eq_true_eq, decide_eq_false_iff_not, beq_iff_eq, bne_iff_ne, beq_eq_false_iff_ne, bne_eq_false_iff_eq, Bool.true_and, ne_eq, Decidable.not_not, Int.not_lt, Int.not_le, Nat.not_lt, Nat.not_le, strB_nil, strB_nil', strB_nnil, strB_nnil'] at h4
        refine run_exit rfl ?_
        exact run_cont hk2 x1 ⟨by first | omega | assumption | (simp only [List.length_append, List.length_cons, List.length_nil, List.length_replicate, put_len] at * <;> omega), by first | omega | assumption | (simp only [List.length_append, List.length_cons, List.length_nil, List.length_replicate, put_len] at * <;> omega), by first | omega | assumption | (simp only [List.length_append, List.length_cons, List.length_nil, List.length_replicate, put_len] at * <;> omega)⟩ (sub_of [] trivial trivial rfl)

/-! ### spec_l03Ok -/
theorem c_spec_l03Ok (a : gAirway) : Con Try.prog 132 [.rp [.str a.Id, .int .i64 a.From, .int .i64 a.To, .int .i64 a.Length, .int .i64 a.Section, .int .i64 a.Friction, .int .i64 a.Shock]] [] (.bool (m_spec_l03Ok a)) ([]) := by
  refine con_intro (out := fun r : Bool => ((.bool r : V), ([] : List (Nat × Option O)))) (r := (m_spec_l03Ok a)) Try.func132 rfl Try.ntmps132 rfl ?_
  refine run_seq ?_
  refine run_region (q_assign .n (.c rfl) rfl <|
      Lex.nil) ?_
  refine run_seq ?_
  refine run_seq ?_
  refine run_draw fmo (q_move .n (.t rfl) rfl <|
      q_nilc_ro .n (.t rfl) rfl <|
      q_fld_ro .n (.t rfl) fo_105_0 rfl <|
      q_ld1_ro .n (.t rfl) rfl ic_9 rfl <|
      q_call0 (full := false) .n .f en_148 (.cons (.t rfl) .nil) (.cons (.b (.a (.same rfl))) .nil) (fun hg => c_spec_l01Name a.Id) rfl (fun h => Bool.noConfusion h) rfl <|
      q_not .n (.t rfl) rfl <|
      q_move .n (.t rfl) rfl <|
      q_move (.f rfl rfl) (.t rfl) rfl <|
      q_nilc_ro (.f rfl rfl) (.u rfl id) rfl <|
      q_fld_ro (.f rfl rfl) (.u rfl id) fo_105_1 rfl <|
      q_ld1_ro (.f rfl rfl) (.u rfl id) rfl ic_2 rfl <|
      q_call0 (full := false) (.f rfl rfl) .f en_70 (.cons (.u rfl id) (.cons (.c rfl) (.cons (.c rfl) .nil))) (.cons (.b (.a (.same rfl))) (.cons (.b (.a (.same rfl))) (.cons (.b (.a (.same rfl))) .nil))) (fun hg => c_spec_l00In a.From 0 15) rfl (fun h => Bool.noConfusion h) rfl <|
      q_not (.f rfl rfl) (.u rfl id) rfl <|
      q_or .n (.t rfl) (.u rfl id) rfl <|
      q_move .n (.t rfl) rfl <|
      q_move (.f rfl rfl) (.t rfl) rfl <|
      q_nilc_ro (.f rfl rfl) (.u rfl id) rfl <|
      q_fld_ro (.f rfl rfl) (.u rfl id) fo_105_2 rfl <|
      q_ld1_ro (.f rfl rfl) (.u rfl id) rfl ic_2 rfl <|
      q_call0 (full := false) (.f rfl rfl) .f en_70 (.cons (.u rfl id) (.cons (.c rfl) (.cons (.c rfl) .nil))) (.cons (.b (.a (.same rfl))) (.cons (.b (.a (.same rfl))) (.cons (.b (.a (.same rfl))) .nil))) (fun hg => c_spec_l00In a.To 0 15) rfl (fun h => Bool.noConfusion h) rfl <|
      q_not (.f rfl rfl) (.u rfl id) rfl <|
      q_or .n (.t rfl) (.u rfl id) rfl <|
      q_move .n (.t rfl) rfl <|
      q_move (.f rfl rfl) (.t rfl) rfl <|
      q_nilc_ro (.f rfl rfl) (.u rfl id) rfl <|
      q_fld_ro (.f rfl rfl) (.u rfl id) fo_105_1 rfl <|
      q_ld1_ro (.f rfl rfl) (.u rfl id) rfl ic_2 rfl <|
      q_move (.f rfl rfl) (.t rfl) rfl <|
      q_nilc_ro (.f rfl rfl) (.u rfl id) rfl <|
      q_fld_ro (.f rfl rfl) (.u rfl id) fo_105_2 rfl <|
      q_ld1_ro (.f rfl rfl) (.u rfl id) rfl ic_2 rfl <|
      q_int (.f rfl rfl) (.u rfl id) (.u rfl id) rfl rfl <|
      q_or .n (.t rfl) (.u rfl id) rfl <|
      Lex.nil) (by kernel_rfl) ?_
  refine run_cond (.t rfl) rfl (fun h1 => ?_) (fun h1 => ?_)
  · try simp only [Bool.and_eq_true, Bool.or_eq_true, Bool.not_eq_true', Bool.and_eq_false_iff, Bool.or_eq_false_iff, Bool.not_eq_false', decide_eq_true_eq, decide_eq_false_iff_not, beq_iff_eq, bne_iff_ne, beq_eq_false_iff_ne, bne_eq_false_iff_eq, Bool.true_and, ne_eq, Decidable.not_not, Int.not_lt, Int.not_le, Nat.not_lt, Nat.not_le, strB_nil, strB_nil', strB_nnil, strB_nnil'] at h1
    try have hf0h1 := l00In_imp h1
    try have hf1h1 := l00In_imp h1.1
    try have hf2h1 := l00In_imp h1.2
    try have hf3h1 := l00In_imp h1.1.1
    try have hf4h1 := l00In_imp h1.1.2
    try have hf5h1 := l00In_imp h1.2.1
    try have hf6h1 := l00In_imp h1.2.2
    refine run_seq ?_
    refine run_region (q_assign .n (.c rfl) rfl <|
        Lex.nil) ?_
    exact run_ret [] (.cons (.t rfl rfl) .nil) rfl trivial rfl
  · try simp only [Bool.and_eq_true, Bool.or_eq_true, Bool.not_eq_true', Bool.and_eq_false_iff, Bool.or_eq_false_iff, Bool.not_eq_false', decide_eq_true_eq, decide_eq_false_iff_not, beq_iff_eq, bne_iff_ne, beq_eq_false_iff_ne, bne_eq_false_iff_eq, Bool.true_and, ne_eq, Decidable.not_not, Int.not_lt, Int.not_le, Nat.not_lt, Nat.not_le, strB_nil, strB_nil', strB_nnil, strB_nnil'] at h1
    try have hf0h1 := l00In_imp h1
    try have hf1h1 := l00In_imp h1.1
    try have hf2h1 := l00In_imp h1.2
    try have hf3h1 := l00In_imp h1.1.1
    try have hf4h1 := l00In_imp h1.1.2
    try have hf5h1 := l00In_imp h1.2.1
    try have hf6h1 := l00In_imp h1.2.2
    refine run_skip ?_
    refine run_seq ?_
    refine run_region (q_move .n (.t rfl) rfl <|
        q_nilc_ro .n (.t rfl) rfl <|
        q_fld_ro .n (.t rfl) fo_105_3 rfl <|
        q_ld1_ro .n (.t rfl) rfl ic_2 rfl <|
        q_call0 (full := false) .n .f en_70 (.cons (.t rfl) (.cons (.c rfl) (.cons (.c rfl) .nil))) (.cons (.b (.a (.same rfl))) (.cons (.b (.a (.same rfl))) (.cons (.b (.a (.same rfl))) .nil))) (fun hg => c_spec_l00In a.Length 1 10000) rfl (fun h => Bool.noConfusion h) rfl <|
        q_move .n (.t rfl) rfl <|
        q_move (.t rfl rfl) (.t rfl) rfl <|
        q_nilc_ro (.t rfl rfl) (.u rfl id) rfl <|
        q_fld_ro (.t rfl rfl) (.u rfl id) fo_105_4 rfl <|
        q_ld1_ro (.t rfl rfl) (.u rfl id) rfl ic_2 rfl <|
        q_call0 (full := false) (.t rfl rfl) .f en_70 (.cons (.u rfl id) (.cons (.c rfl) (.cons (.c rfl) .nil))) (.cons (.b (.a (.same rfl))) (.cons (.b (.a (.same rfl))) (.cons (.b (.a (.same rfl))) .nil))) (fun hg => c_spec_l00In a.Section 50 5000) rfl (fun h => Bool.noConfusion h) rfl <|
        q_and .n (.t rfl) (.u rfl id) rfl <|
        q_move .n (.t rfl) rfl <|
        q_move (.t rfl rfl) (.t rfl) rfl <|
        q_nilc_ro (.t rfl rfl) (.u rfl id) rfl <|
        q_fld_ro (.t rfl rfl) (.u rfl id) fo_105_5 rfl <|
        q_ld1_ro (.t rfl rfl) (.u rfl id) rfl ic_2 rfl <|
        q_call0 (full := false) (.t rfl rfl) .f en_70 (.cons (.u rfl id) (.cons (.c rfl) (.cons (.c rfl) .nil))) (.cons (.b (.a (.same rfl))) (.cons (.b (.a (.same rfl))) (.cons (.b (.a (.same rfl))) .nil))) (fun hg => c_spec_l00In a.Friction 1 1000) rfl (fun h => Bool.noConfusion h) rfl <|
        q_and .n (.t rfl) (.u rfl id) rfl <|
        q_move .n (.t rfl) rfl <|
        q_move (.t rfl rfl) (.t rfl) rfl <|
        q_nilc_ro (.t rfl rfl) (.u rfl id) rfl <|
        q_fld_ro (.t rfl rfl) (.u rfl id) fo_105_6 rfl <|
        q_ld1_ro (.t rfl rfl) (.u rfl id) rfl ic_2 rfl <|
        q_call0 (full := false) (.t rfl rfl) .f en_70 (.cons (.u rfl id) (.cons (.c rfl) (.cons (.c rfl) .nil))) (.cons (.b (.a (.same rfl))) (.cons (.b (.a (.same rfl))) (.cons (.b (.a (.same rfl))) .nil))) (fun hg => c_spec_l00In a.Shock 0 1000) rfl (fun h => Bool.noConfusion h) rfl <|
        q_and .n (.t rfl) (.u rfl id) rfl <|
        q_assign .n (.t rfl) rfl <|
        Lex.nil) ?_
    exact run_ret [] (.cons (.t rfl rfl) .nil) rfl trivial rfl

/-! ### spec_l04Junction -/
theorem c_spec_l04Junction (m_ : gMine) (j : Int) : Con Try.prog 133 [.rp [.int .i64 m_.Junctions, .sl 7 (m_.Airways.map gAirway.v)], .int .i64 j] [] (.bool (m_spec_l04Junction m_ j)) ([]) := by
  refine con_intro (out := fun r : Bool => ((.bool r : V), ([] : List (Nat × Option O)))) (r := (m_spec_l04Junction m_ j)) Try.func133 rfl Try.ntmps133 rfl ?_
  refine run_factP (t := 0) 1 rfl rfl fun hl => ?_
  have l1 := hl; clear hl; simp only [List.length_map] at l1
  refine run_seq ?_
  refine run_region (q_assign .n (.c rfl) rfl <|
      Lex.nil) ?_
  refine run_seq ?_
  refine run_region (q_move .n (.t rfl) rfl <|
      q_move .n (.t rfl) rfl <|
      q_nilc_ro .n (.t rfl) rfl <|
      q_fld_ro .n (.t rfl) fo_33_0 rfl <|
      q_ld1_ro .n (.t rfl) rfl ic_2 rfl <|
      q_int .n (.t rfl) (.c rfl) rfl rfl <|
      q_call0 (full := false) .n .f en_70 (.cons (.t rfl) (.cons (.c rfl) (.cons (.t rfl) .nil))) (.cons (.b (.a (.same rfl))) (.cons (.b (.a (.same rfl))) (.cons (.b (.a (.same rfl))) .nil))) (fun hg => c_spec_l00In j 0 (IntKind.wrap .i64 (m_.Junctions - 1))) rfl (fun h => Bool.noConfusion h) rfl <|
      q_assign .n (.t rfl) rfl <|
      Lex.nil) ?_
  exact run_ret [] (.cons (.t rfl rfl) .nil) rfl trivial rfl

/-! ### spec_l04Ok -/
theorem c_spec_l04Ok (m_ : gMine) : Con Try.prog 102 [.rp [.int .i64 m_.Junctions, .sl 7 (m_.Airways.map gAirway.v)]] [] (.bool (m_spec_l04Ok m_)) ([]) := by
  refine con_intro (out := fun r : Bool => ((.bool r : V), ([] : List (Nat × Option O)))) (r := (m_spec_l04Ok m_)) Try.func102 rfl Try.ntmps102 rfl ?_
  refine run_factP (t := 0) 1 rfl rfl fun hl => ?_
  have l1 := hl; clear hl; simp only [List.length_map] at l1
  refine run_seq ?_
  refine run_region (q_assign .n (.c rfl) rfl <|
      Lex.nil) ?_
  refine run_seq ?_
  refine run_seq ?_
  refine run_region (q_move .n (.t rfl) rfl <|
      q_nilc_ro .n (.t rfl) rfl <|
      q_fld_ro .n (.t rfl) fo_33_0 rfl <|
      q_ld1_ro .n (.t rfl) rfl ic_2 rfl <|
      q_call0 (full := false) .n .f en_70 (.cons (.t rfl) (.cons (.c rfl) (.cons (.c rfl) .nil))) (.cons (.b (.a (.same rfl))) (.cons (.b (.a (.same rfl))) (.cons (.b (.a (.same rfl))) .nil))) (fun hg => c_spec_l00In m_.Junctions 1 16) rfl (fun h => Bool.noConfusion h) rfl <|
      q_not .n (.t rfl) rfl <|
      Lex.nil) ?_
  refine run_cond (.t rfl) rfl (fun h2 => ?_) (fun h2 => ?_)
  · try simp only [Bool.and_eq_true, Bool.or_eq_true, Bool.not_eq_true', Bool.and_eq_false_iff, Bool.or_eq_false_iff, Bool.not_eq_false', decide_eq_true_eq, decide_eq_false_iff_not, beq_iff_eq, bne_iff_ne, beq_eq_false_iff_ne, bne_eq_false_iff_eq, Bool.true_and, ne_eq, Decidable.not_not, Int.not_lt, Int.not_le, Nat.not_lt, Nat.not_le, strB_nil, strB_nil', strB_nnil, strB_nnil'] at h2
    try have hf0h2 := l00In_imp h2
    try have hf1h2 := l00In_imp h2.1
    try have hf2h2 := l00In_imp h2.2
    try have hf3h2 := l00In_imp h2.1.1
    try have hf4h2 := l00In_imp h2.1.2
    try have hf5h2 := l00In_imp h2.2.1
    try have hf6h2 := l00In_imp h2.2.2
    refine run_seq ?_
    refine run_region (q_assign .n (.c rfl) rfl <|
        Lex.nil) ?_
    exact run_ret [] (.cons (.t rfl rfl) .nil) rfl trivial rfl
  · try simp only [Bool.and_eq_true, Bool.or_eq_true, Bool.not_eq_true', Bool.and_eq_false_iff, Bool.or_eq_false_iff, Bool.not_eq_false', decide_eq_true_eq, decide_eq_false_iff_not, beq_iff_eq, bne_iff_ne, beq_eq_false_iff_ne, bne_eq_false_iff_eq, Bool.true_and, ne_eq, Decidable.not_not, Int.not_lt, Int.not_le, Nat.not_lt, Nat.not_le, strB_nil, strB_nil', strB_nnil, strB_nnil'] at h2
    try have hf0h2 := l00In_imp h2
    try have hf1h2 := l00In_imp h2.1
    try have hf2h2 := l00In_imp h2.2
    try have hf3h2 := l00In_imp h2.1.1
    try have hf4h2 := l00In_imp h2.1.2
    try have hf5h2 := l00In_imp h2.2.1
    try have hf6h2 := l00In_imp h2.2.2
    refine run_skip ?_
    refine run_seq ?_
    refine run_seq ?_
    refine run_region (q_assign .n (.c rfl) rfl <|
        Lex.nil) ?_
    refine run_block ?_
    refine run_LOOP (m_spec_l04Ok_b1 m_) _ _ _ rfl (fun (x1 : Int) => 0 ≤ x1 ∧ x1 ≤ (m_.Airways.length : Int)) (fun x1 => 0 ≤ x1 ∧ x1 ≤ (m_.Airways.length : Int) ∧ (m_.Airways.length : Int) ≤ x1) (fun x1 => ((m_.Airways.length : Int) - x1 : Int).toNat) (fun x1 => ⟨[(0, some (true, .rp [.int .i64 m_.Junctions, .sl 7 (m_.Airways.map gAirway.v)])), (3, some (true, .int .i64 x1))], []⟩) (fun x1 => ⟨[(0, some (true, .rp [.int .i64 m_.Junctions, .sl 7 (m_.Airways.map gAirway.v)]))], []⟩) ⟨by first | omega | assumption | (simp only [List.length_append, List.length_cons, List.length_nil, List.length_replicate, put_len] at * <;> omega), by first | omega | assumption | (simp only [List.length_append, List.length_cons, List.length_nil, List.length_replicate, put_len] at * <;> omega)⟩ (by first | omega | assumption | (simp only [List.length_append, List.length_cons, List.length_nil, List.length_replicate, put_len] at * <;> omega)) (sub_of [] ⟨rfl, rfl, trivial⟩ trivial rfl) ?_ ?_
    · intro x1 i7
      obtain ⟨e8, e9, e10⟩ := i7
      try dsimp only at *
      refine run_seq ?_
      refine run_region (q_move .n (.t rfl) rfl <|
          q_nilc_ro .n (.t rfl) rfl <|
          q_fld_ro .n (.t rfl) fo_33_1 rfl <|
          q_ld1_ro .n (.t rfl) rfl ic_31 rfl <|
          q_len .n (.t rfl) rfl len_map ss_31 rfl <|
          q_int .n (.t rfl) (.c rfl) rfl rfl <|
          q_assign .n (.t rfl) rfl <|
          Lex.nil) ?_
      exact run_ret [] (.cons (.t rfl rfl) .nil) rfl trivial rfl
    · intro rec1 k1 hk3 x1 i4
      obtain ⟨e11, e12⟩ := i4
      try dsimp only at *
      refine run_seq ?_
      refine run_seq ?_
      refine run_region (q_move .n (.t rfl) rfl <|
          q_move .n (.t rfl) rfl <|
          q_nilc_ro .n (.t rfl) rfl <|
          q_fld_ro .n (.t rfl) fo_33_1 rfl <|
          q_ld1_ro .n (.t rfl) rfl ic_31 rfl <|
          q_len .n (.t rfl) rfl len_map ss_31 rfl <|
          q_int .n (.t rfl) (.t rfl) rfl rfl <|
          Lex.nil) ?_
      refine run_cond (.t rfl) rfl (fun h5 => ?_) (fun h5 => ?_)
      · try simp only [Bool.and_eq_true, Bool.or_eq_true, Bool.not_eq_true', Bool.and_eq_false_iff, Bool.or_eq_false_iff, Bool.not_eq_false', decide_eq_true_eq, decide_eq_false_iff_not, beq_iff_eq, bne_iff_ne, beq_eq_false_iff_ne, bne_eq_false_iff_eq, Bool.true_and, ne_eq, Decidable.not_not, Int.not_lt, Int.not_le, Nat.not_lt, Nat.not_le, strB_nil, strB_nil', strB_nnil, strB_nnil'] at h5
        refine run_skip ?_
        refine run_seq ?_
        refine run_block ?_
        refine run_seq ?_
        refine run_region (q_move .n (.t rfl) rfl <|
            q_nilc_ro .n (.t rfl) rfl <|
            q_fld_ro .n (.t rfl) fo_33_1 rfl <|
            q_ld1_ro .n (.t rfl) rfl ic_31 rfl <|
            q_move .n (.t rfl) rfl <|
            q_idx_rm .n (.t rfl) (.t rfl) sl_31 (fun _ => by first | omega | assumption | (simp only [List.length_append, List.length_cons, List.length_nil, List.length_replicate, put_len] at * <;> omega)) rfl <|
            q_assign .n (.t rfl) rfl <|
            Lex.nil) ?_
        refine run_seq ?_
        refine run_draw fmo (q_move .n (.t rfl) rfl <|
            q_call0 (full := false) .n .f en_132 (.cons (.t rfl) .nil) (.cons (.b (.a (.same rfl))) .nil) (fun hg => c_spec_l03Ok (at' m_.Airways x1)) rfl (fun h => Bool.noConfusion h) rfl <|
            q_not .n (.t rfl) rfl <|
            q_move .n (.t rfl) rfl <|
            q_move (.f rfl rfl) (.t rfl) rfl <|
            q_move (.f rfl rfl) (.t rfl) rfl <|
            q_nilc_ro (.f rfl rfl) (.u rfl id) rfl <|
            q_fld_ro (.f rfl rfl) (.u rfl id) fo_105_1 rfl <|
            q_ld1_ro (.f rfl rfl) (.u rfl id) rfl ic_2 rfl <|
            q_call0 (full := false) (.f rfl rfl) .f en_133 (.cons (.u rfl id) (.cons (.u rfl id) .nil)) (.cons (.b (.a (.same rfl))) (.cons (.b (.a (.same rfl))) .nil)) (fun hg => c_spec_l04Junction m_ (at' m_.Airways x1).From) rfl (fun h => Bool.noConfusion h) rfl <|
            q_not (.f rfl rfl) (.u rfl id) rfl <|
            q_or .n (.t rfl) (.u rfl id) rfl <|
            q_move .n (.t rfl) rfl <|
            q_move (.f rfl rfl) (.t rfl) rfl <|
            q_move (.f rfl rfl) (.t rfl) rfl <|
            q_nilc_ro (.f rfl rfl) (.u rfl id) rfl <|
            q_fld_ro (.f rfl rfl) (.u rfl id) fo_105_2 rfl <|
            q_ld1_ro (.f rfl rfl) (.u rfl id) rfl ic_2 rfl <|
            q_call0 (full := false) (.f rfl rfl) .f en_133 (.cons (.u rfl id) (.cons (.u rfl id) .nil)) (.cons (.b (.a (.same rfl))) (.cons (.b (.a (.same rfl))) .nil)) (fun hg => c_spec_l04Junction m_ (at' m_.Airways x1).To) rfl (fun h => Bool.noConfusion h) rfl <|
            q_not (.f rfl rfl) (.u rfl id) rfl <|
            q_or .n (.t rfl) (.u rfl id) rfl <|
            q_move .n (.t rfl) rfl <|
            q_move (.f rfl rfl) (.t rfl) rfl <|
            q_int (.f rfl rfl) (.u rfl id) (.c rfl) rfl rfl <|
            q_move (.f rfl rfl) (.u rfl id) rfl <|
            q_move (.t rfl rfl) (.t rfl) rfl <|
            q_nilc_ro (.t rfl rfl) (.u rfl id) rfl <|
            q_fld_ro (.t rfl rfl) (.u rfl id) fo_33_1 rfl <|
            q_ld1_ro (.t rfl rfl) (.u rfl id) rfl ic_31 rfl <|
            q_move (.t rfl rfl) (.t rfl) rfl <|
            q_sub (.t rfl rfl) (.u rfl id) (.c rfl) (fun hg => by simp only [Bool.and_eq_true, Bool.or_eq_true, Bool.not_eq_true', Bool.and_eq_false_iff, Bool.or_eq_false_iff, Bool.not_eq_false', decide_eq_true_eq, decide_eq_false_iff_not, beq_iff_eq, bne_iff_ne, beq_eq_false_iff_ne, bne_eq_false_iff_eq, Bool.true_and, ne_eq, Decidable.not_not, Int.not_lt, Int.not_le, Nat.not_lt, Nat.not_le, strB_nil, strB_nil', strB_nnil, strB_nnil'] at hg; first | omega | assumption | (simp only [List.length_append, List.length_cons, List.length_nil, List.length_replicate, put_len] at * <;> omega)) rfl <|
            q_idx_rm (.t rfl rfl) (.u rfl id) (.u rfl id) sl_31 (fun hg => by simp only [Bool.and_eq_true, Bool.or_eq_true, Bool.not_eq_true', Bool.and_eq_false_iff, Bool.or_eq_false_iff, Bool.not_eq_false', decide_eq_true_eq, decide_eq_false_iff_not, beq_iff_eq, bne_iff_ne, beq_eq_false_iff_ne, bne_eq_false_iff_eq, Bool.true_and, ne_eq, Decidable.not_not, Int.not_lt, Int.not_le, Nat.not_lt, Nat.not_le, strB_nil, strB_nil', strB_nnil, strB_nnil'] at hg; first | omega | assumption | (simp only [List.length_append, List.length_cons, List.length_nil, List.length_replicate, put_len] at * <;> omega)) rfl <|
            q_fld_ro (.t rfl rfl) (.u rfl id) fo_105_0 rfl <|
            q_ld1_ro (.t rfl rfl) (.u rfl id) rfl ic_9 rfl <|
            q_move (.t rfl rfl) (.t rfl) rfl <|
            q_nilc_ro (.t rfl rfl) (.u rfl id) rfl <|
            q_fld_ro (.t rfl rfl) (.u rfl id) fo_105_0 rfl <|
            q_ld1_ro (.t rfl rfl) (.u rfl id) rfl ic_9 rfl <|
            q_strcmp (.t rfl rfl) (.u rfl id) (.u rfl id) rfl rfl <|
            q_and (.f rfl rfl) (.u rfl id) (.u rfl id) rfl <|
            q_or .n (.t rfl) (.u rfl id) rfl <|
            Lex.nil) (by kernel_rfl) ?_
        refine run_cond (.t rfl) rfl (fun h6 => ?_) (fun h6 => ?_)
        · try simp only [Bool.and_eq_true, Bool.or_eq_true, Bool.not_eq_true', Bool.and_eq_false_iff, Bool.or_eq_false_iff, Bool.not_eq_false', decide_eq_true_eq, decide_eq_false_iff_not, beq_iff_eq, bne_iff_ne, beq_eq_false_iff_ne, bne_eq_false_iff_eq, Bool.true_and, ne_eq, Decidable.not_not, Int.not_lt, Int.not_le, Nat.not_lt, Nat.not_le, strB_nil, strB_nil', strB_nnil, strB_nnil'] at h6
          refine run_seq ?_
          refine run_region (q_assign .n (.c rfl) rfl <|
              Lex.nil) ?_
          exact run_ret [] (.cons (.t rfl rfl) .nil) rfl trivial rfl
        · try simp only [Bool.and_eq_true, Bool.or_eq_true, Bool.not_eq_true', Bool.and_eq_false_iff, Bool.or_eq_false_iff, Bool.not_eq_false', decide_eq_true_eq, decide_eq_false_iff_not, beq_iff_eq, bne_iff_ne, beq_eq_false_iff_ne, bne_eq_false_iff_eq, Bool.true_and, ne_eq, Decidable.not_not, Int.not_lt, Int.not_le, Nat.not_lt, Nat.not_le, strB_nil, strB_nil', strB_nnil, strB_nnil'] at h6
          refine run_skip ?_
          refine run_endB ?_
          refine run_region (q_move .n (.t rfl) rfl <|
              q_add .n (.t rfl) (.c rfl) (fun _ => by first | omega | assumption | (simp only [List.length_append, List.length_cons, List.length_nil, List.length_replicate, put_len] at * <;> omega)) rfl <|
              q_assign .n (.t rfl) rfl <|
              Lex.nil) ?_
          exact run_again (x1 + 1) ⟨by first | omega | assumption | (simp only [List.length_append, List.length_cons, List.length_nil, List.length_replicate, put_len] at * <;> omega), by first | omega | assumption | (simp only [List.length_append, List.length_cons, List.length_nil, List.length_replicate, put_len] at * <;> omega)⟩ (by first | omega | assumption | (simp only [List.length_append, List.length_cons, List.length_nil, List.length_replicate, put_len] at * <;> omega)) (sub_of [] ⟨rfl, rfl, trivial⟩ trivial rfl)
      · try simp only [Bool.and_eq_true, Bool.or_eq_true, Bool.not_eq_true', Bool.and_eq_false_iff, Bool.or_eq_false_iff, Bool.not_eq_false', decide_eq_true_eq, decide_eq_false_iff_not, beq_iff_eq, bne_iff_ne, beq_eq_false_iff_ne, bne_eq_false_iff_eq, Bool.true_and, ne_eq, Decidable.not_not, Int.not_lt, Int.not_le, Nat.not_lt, Nat.not_le, strB_nil, strB_nil', strB_nnil, strB_nnil'] at h5
        refine run_exit rfl ?_
        exact run_cont hk3 x1 ⟨by first | omega | assumption | (simp only [List.length_append, List.length_cons, List.length_nil, List.length_replicate, put_len] at * <;> omega), by first | omega | assumption | (simp only [List.length_append, List.length_cons, List.length_nil, List.length_replicate, put_len] at * <;> omega), by first | omega | assumption | (simp only [List.length_append, List.length_cons, List.length_nil, List.length_replicate, put_len] at * <;> omega)⟩ (sub_of [] ⟨rfl, trivial⟩ trivial rfl)

/-! ### spec_l17One -/
theorem c_spec_l17One (f : gFire) : Con Try.prog 141 [.rp [.int .i64 f.Airway, .int .i64 f.At, .int .i64 f.Start]] [] (.bool (m_spec_l17One f)) ([]) := by
  refine con_intro (out := fun r : Bool => ((.bool r : V), ([] : List (Nat × Option O)))) (r := (m_spec_l17One f)) Try.func141 rfl Try.ntmps141 rfl ?_
  refine run_seq ?_
  refine run_region (q_assign .n (.c rfl) rfl <|
      Lex.nil) ?_
  refine run_seq ?_
  refine run_region (q_move .n (.t rfl) rfl <|
      q_nilc_ro .n (.t rfl) rfl <|
      q_fld_ro .n (.t rfl) fo_52_0 rfl <|
      q_ld1_ro .n (.t rfl) rfl ic_2 rfl <|
      q_call0 (full := false) .n .f en_70 (.cons (.t rfl) (.cons (.c rfl) (.cons (.c rfl) .nil))) (.cons (.b (.a (.same rfl))) (.cons (.b (.a (.same rfl))) (.cons (.b (.a (.same rfl))) .nil))) (fun hg => c_spec_l00In f.Airway 0 23) rfl (fun h => Bool.noConfusion h) rfl <|
      q_move .n (.t rfl) rfl <|
      q_move (.t rfl rfl) (.t rfl) rfl <|
      q_nilc_ro (.t rfl rfl) (.u rfl id) rfl <|
      q_fld_ro (.t rfl rfl) (.u rfl id) fo_52_1 rfl <|
      q_ld1_ro (.t rfl rfl) (.u rfl id) rfl ic_2 rfl <|
      q_call0 (full := false) (.t rfl rfl) .f en_70 (.cons (.u rfl id) (.cons (.c rfl) (.cons (.c rfl) .nil))) (.cons (.b (.a (.same rfl))) (.cons (.b (.a (.same rfl))) (.cons (.b (.a (.same rfl))) .nil))) (fun hg => c_spec_l00In f.At 0 10000) rfl (fun h => Bool.noConfusion h) rfl <|
      q_and .n (.t rfl) (.u rfl id) rfl <|
      q_move .n (.t rfl) rfl <|
      q_move (.t rfl rfl) (.t rfl) rfl <|
      q_nilc_ro (.t rfl rfl) (.u rfl id) rfl <|
      q_fld_ro (.t rfl rfl) (.u rfl id) fo_52_2 rfl <|
      q_ld1_ro (.t rfl rfl) (.u rfl id) rfl ic_2 rfl <|
      q_call0 (full := false) (.t rfl rfl) .f en_70 (.cons (.u rfl id) (.cons (.c rfl) (.cons (.c rfl) .nil))) (.cons (.b (.a (.same rfl))) (.cons (.b (.a (.same rfl))) (.cons (.b (.a (.same rfl))) .nil))) (fun hg => c_spec_l00In f.Start 0 36000) rfl (fun h => Bool.noConfusion h) rfl <|
      q_and .n (.t rfl) (.u rfl id) rfl <|
      q_assign .n (.t rfl) rfl <|
      Lex.nil) ?_
  exact run_ret [] (.cons (.t rfl rfl) .nil) rfl trivial rfl

/-! ### spec_l17Fire -/
theorem c_spec_l17Fire (m_ : gMine) (f : gFire) : Con Try.prog 116 [.rp [.int .i64 m_.Junctions, .sl 7 (m_.Airways.map gAirway.v)], .rp [.int .i64 f.Airway, .int .i64 f.At, .int .i64 f.Start]] [] (.bool (m_spec_l17Fire m_ f)) ([]) := by
  refine con_intro (out := fun r : Bool => ((.bool r : V), ([] : List (Nat × Option O)))) (r := (m_spec_l17Fire m_ f)) Try.func116 rfl Try.ntmps116 rfl ?_
  refine run_factP (t := 0) 1 rfl rfl fun hl => ?_
  have l1 := hl; clear hl; simp only [List.length_map] at l1
  refine run_seq ?_
  refine run_region (q_assign .n (.c rfl) rfl <|
      Lex.nil) ?_
  refine run_seq ?_
  refine run_draw fmo (q_move .n (.t rfl) rfl <|
      q_call0 (full := false) .n .f en_141 (.cons (.t rfl) .nil) (.cons (.b (.a (.same rfl))) .nil) (fun hg => c_spec_l17One f) rfl (fun h => Bool.noConfusion h) rfl <|
      q_move .n (.t rfl) rfl <|
      q_move (.t rfl rfl) (.t rfl) rfl <|
      q_nilc_ro (.t rfl rfl) (.u rfl id) rfl <|
      q_fld_ro (.t rfl rfl) (.u rfl id) fo_52_0 rfl <|
      q_ld1_ro (.t rfl rfl) (.u rfl id) rfl ic_2 rfl <|
      q_move (.t rfl rfl) (.t rfl) rfl <|
      q_nilc_ro (.t rfl rfl) (.u rfl id) rfl <|
      q_fld_ro (.t rfl rfl) (.u rfl id) fo_33_1 rfl <|
      q_ld1_ro (.t rfl rfl) (.u rfl id) rfl ic_31 rfl <|
      q_len (.t rfl rfl) (.u rfl id) rfl len_map ss_31 rfl <|
      q_int (.t rfl rfl) (.u rfl id) (.u rfl id) rfl rfl <|
      q_and .n (.t rfl) (.u rfl id) rfl <|
      q_move .n (.t rfl) rfl <|
      q_move (.t rfl rfl) (.t rfl) rfl <|
      q_nilc_ro (.t rfl rfl) (.u rfl id) rfl <|
      q_fld_ro (.t rfl rfl) (.u rfl id) fo_52_1 rfl <|
      q_ld1_ro (.t rfl rfl) (.u rfl id) rfl ic_2 rfl <|
      q_move (.t rfl rfl) (.t rfl) rfl <|
      q_nilc_ro (.t rfl rfl) (.u rfl id) rfl <|
      q_fld_ro (.t rfl rfl) (.u rfl id) fo_33_1 rfl <|
      q_ld1_ro (.t rfl rfl) (.u rfl id) rfl ic_31 rfl <|
      q_move (.t rfl rfl) (.t rfl) rfl <|
      q_nilc_ro (.t rfl rfl) (.u rfl id) rfl <|
      q_fld_ro (.t rfl rfl) (.u rfl id) fo_52_0 rfl <|
      q_ld1_ro (.t rfl rfl) (.u rfl id) rfl ic_2 rfl <|
      q_idx_rm (.t rfl rfl) (.u rfl id) (.u rfl id) sl_31 (fun hg => by simp only [Bool.and_eq_true, Bool.or_eq_true, Bool.not_eq_true', Bool.and_eq_false_iff, Bool.or_eq_false_iff, Bool.not_eq_false', decide_eq_true_eq, decide_eq_false_iff_not, beq_iff_eq, bne_iff_ne, beq_eq_false_iff_ne, bne_eq_false_iff_eq, Bool.true_and, ne_eq, Decidable.not_not, Int.not_lt, Int.not_le, Nat.not_lt, Nat.not_le, strB_nil, strB_nil', strB_nnil, strB_nnil'] at hg; first | omega | assumption | (simp only [List.length_append, List.length_cons, List.length_nil, List.length_replicate, put_len] at * <;> omega) | ((simp only [m_spec_l17One, m_spec_l00In, Bool.and_eq_true, decide_eq_true_eq] at hg; omega))) rfl <|
      q_fld_ro (.t rfl rfl) (.u rfl id) fo_105_3 rfl <|
      q_ld1_ro (.t rfl rfl) (.u rfl id) rfl ic_2 rfl <|
      q_int (.t rfl rfl) (.u rfl id) (.u rfl id) rfl rfl <|
      q_and .n (.t rfl) (.u rfl id) rfl <|
      q_assign .n (.t rfl) rfl <|
      Lex.nil) (by kernel_rfl) ?_
  exact run_ret [] (.cons (.t rfl rfl) .nil) rfl trivial rfl

/-! ### spec_l03Flow -/
theorem c_spec_l03Flow (q : Int) : Con Try.prog 135 [.int .i64 q] [] (.bool (m_spec_l03Flow q)) ([]) := by
  refine con_intro (out := fun r : Bool => ((.bool r : V), ([] : List (Nat × Option O)))) (r := (m_spec_l03Flow q)) Try.func135 rfl Try.ntmps135 rfl ?_
  refine run_seq ?_
  refine run_region (q_assign .n (.c rfl) rfl <|
      Lex.nil) ?_
  refine run_seq ?_
  refine run_region (q_move .n (.t rfl) rfl <|
      q_call0 (full := false) .n .f en_70 (.cons (.t rfl) (.cons (.c rfl) (.cons (.c rfl) .nil))) (.cons (.b (.a (.same rfl))) (.cons (.b (.a (.same rfl))) (.cons (.b (.a (.same rfl))) .nil))) (fun hg => c_spec_l00In q (-100000) 100000) rfl (fun h => Bool.noConfusion h) rfl <|
      q_assign .n (.t rfl) rfl <|
      Lex.nil) ?_
  exact run_ret [] (.cons (.t rfl rfl) .nil) rfl trivial rfl

/-! ### spec_l07Flows -/
theorem c_spec_l07Flows (m_ : gMine) (flows : List Int) : Con Try.prog 117 [.rp [.int .i64 m_.Junctions, .sl 7 (m_.Airways.map gAirway.v)], .sl 1 (flows.map (V.int .i64))] [] (.bool (m_spec_l07Flows m_ flows)) ([]) := by
  refine con_intro (out := fun r : Bool => ((.bool r : V), ([] : List (Nat × Option O)))) (r := (m_spec_l07Flows m_ flows)) Try.func117 rfl Try.ntmps117 rfl ?_
  refine run_factP (t := 0) 1 rfl rfl fun hl => ?_
  have l1 := hl; clear hl; simp only [List.length_map] at l1
  refine run_fact (t := 1) rfl fun hl => ?_
  have l2 := hl; clear hl; simp only [List.length_map] at l2
  refine run_seq ?_
  refine run_region (q_assign .n (.c rfl) rfl <|
      Lex.nil) ?_
  refine run_seq ?_
  refine run_seq ?_
  refine run_region (q_assign .n (.c rfl) rfl <|
      Lex.nil) ?_
  refine run_block ?_
  refine run_LOOP (m_spec_l07Flows_b1 m_ flows) _ _ _ rfl (fun (x1 : Int) => 0 ≤ x1 ∧ x1 ≤ (flows.length : Int)) (fun x1 => 0 ≤ x1 ∧ x1 ≤ (flows.length : Int) ∧ (flows.length : Int) ≤ x1) (fun x1 => ((flows.length : Int) - x1 : Int).toNat) (fun x1 => ⟨[(0, some (true, .rp [.int .i64 m_.Junctions, .sl 7 (m_.Airways.map gAirway.v)])), (1, some (true, .sl 1 (flows.map (V.int .i64)))), (5, some (true, .int .i64 x1))], []⟩) (fun x1 => ⟨[(0, some (true, .rp [.int .i64 m_.Junctions, .sl 7 (m_.Airways.map gAirway.v)])), (1, some (true, .sl 1 (flows.map (V.int .i64))))], []⟩) ⟨by first | omega | assumption | (simp only [List.length_append, List.length_cons, List.length_nil, List.length_replicate, put_len] at * <;> omega), by first | omega | assumption | (simp only [List.length_append, List.length_cons, List.length_nil, List.length_replicate, put_len] at * <;> omega)⟩ (by first | omega | assumption | (simp only [List.length_append, List.length_cons, List.length_nil, List.length_replicate, put_len] at * <;> omega)) (sub_of [] ⟨rfl, rfl, rfl, trivial⟩ trivial rfl) ?_ ?_
  · intro x1 i7
    obtain ⟨e8, e9, e10⟩ := i7
    try dsimp only at *
    refine run_seq ?_
    refine run_region (q_move .n (.t rfl) rfl <|
        q_len .n (.t rfl) rfl len_map ss_25 rfl <|
        q_move .n (.t rfl) rfl <|
        q_nilc_ro .n (.t rfl) rfl <|
        q_fld_ro .n (.t rfl) fo_33_1 rfl <|
        q_ld1_ro .n (.t rfl) rfl ic_31 rfl <|
        q_len .n (.t rfl) rfl len_map ss_31 rfl <|
        q_int .n (.t rfl) (.t rfl) rfl rfl <|
        q_assign .n (.t rfl) rfl <|
        Lex.nil) ?_
    exact run_ret [] (.cons (.t rfl rfl) .nil) rfl trivial rfl
  · intro rec1 k1 hk3 x1 i4
    obtain ⟨e11, e12⟩ := i4
    try dsimp only at *
    refine run_seq ?_
    refine run_seq ?_
    refine run_region (q_move .n (.t rfl) rfl <|
        q_move .n (.t rfl) rfl <|
        q_len .n (.t rfl) rfl len_map ss_25 rfl <|
        q_int .n (.t rfl) (.t rfl) rfl rfl <|
        Lex.nil) ?_
    refine run_cond (.t rfl) rfl (fun h5 => ?_) (fun h5 => ?_)
    · try simp only [Bool.and_eq_true, Bool.or_eq_true, Bool.not_eq_true', Bool.and_eq_false_iff, Bool.or_eq_false_iff, Bool.not_eq_false', decide_eq_true_eq, decide_eq_false_iff_not, beq_iff_eq, bne_iff_ne, beq_eq_false_iff_ne, bne_eq_false_iff_eq, Bool.true_and, ne_eq, Decidable.not_not, Int.not_lt, Int.not_le, Nat.not_lt, Nat.not_le, strB_nil, strB_nil', strB_nnil, strB_nnil'] at h5
      refine run_skip ?_
      refine run_seq ?_
      refine run_block ?_
      refine run_seq ?_
      refine run_region (q_move .n (.t rfl) rfl <|
          q_move .n (.t rfl) rfl <|
          q_idx_rm .n (.t rfl) (.t rfl) sl_25 (fun _ => by first | omega | assumption | (simp only [List.length_append, List.length_cons, List.length_nil, List.length_replicate, put_len] at * <;> omega)) rfl <|
          q_ld1_ro .n (.t rfl) rfl ic_2 rfl <|
          q_call0 (full := false) .n .f en_135 (.cons (.t rfl) .nil) (.cons (.b (.a (.same rfl))) .nil) (fun hg => c_spec_l03Flow (at' flows x1)) rfl (fun h => Bool.noConfusion h) rfl <|
          q_not .n (.t rfl) rfl <|
          Lex.nil) ?_
      refine run_cond (.t rfl) rfl (fun h6 => ?_) (fun h6 => ?_)
      · try simp only [Bool.and_eq_true, Bool.or_eq_true, Bool.not_eq_true', Bool.and_eq_false_iff, Bool.or_eq_false_iff, Bool.not_eq_false', decide_eq_true_eq, decide_eq_false_iff_not, beq_iff_eq, bne_iff_ne, beq_eq_false_iff_ne, bne_eq_false_iff_eq, Bool.true_and, ne_eq, Decidable.not_not, Int.not_lt, Int.not_le, Nat.not_lt, Nat.not_le, strB_nil, strB_nil', strB_nnil, strB_nnil'] at h6
        refine run_seq ?_
        refine run_region (q_assign .n (.c rfl) rfl <|
            Lex.nil) ?_
        exact run_ret [] (.cons (.t rfl rfl) .nil) rfl trivial rfl
      · try simp only [Bool.and_eq_true, Bool.or_eq_true, Bool.not_eq_true', Bool.and_eq_false_iff, Bool.or_eq_false_iff, Bool.not_eq_false', decide_eq_true_eq, decide_eq_false_iff_not, beq_iff_eq, bne_iff_ne, beq_eq_false_iff_ne, bne_eq_false_iff_eq, Bool.true_and, ne_eq, Decidable.not_not, Int.not_lt, Int.not_le, Nat.not_lt, Nat.not_le, strB_nil, strB_nil', strB_nnil, strB_nnil'] at h6
        refine run_skip ?_
        refine run_endB ?_
        refine run_region (q_move .n (.t rfl) rfl <|
            q_add .n (.t rfl) (.c rfl) (fun _ => by first | omega | assumption | (simp only [List.length_append, List.length_cons, List.length_nil, List.length_replicate, put_len] at * <;> omega)) rfl <|
            q_assign .n (.t rfl) rfl <|
            Lex.nil) ?_
        exact run_again (x1 + 1) ⟨by first | omega | assumption | (simp only [List.length_append, List.length_cons, List.length_nil, List.length_replicate, put_len] at * <;> omega), by first | omega | assumption | (simp only [List.length_append, List.length_cons, List.length_nil, List.length_replicate, put_len] at * <;> omega)⟩ (by first | omega | assumption | (simp only [List.length_append, List.length_cons, List.length_nil, List.length_replicate, put_len] at * <;> omega)) (sub_of [] ⟨rfl, rfl, rfl, trivial⟩ trivial rfl)
    · try simp only [Bool.and_eq_true, Bool.or_eq_true, Bool.not_eq_true', Bool.and_eq_false_iff, Bool.or_eq_false_iff, Bool.not_eq_false', decide_eq_true_eq, decide_eq_false_iff_not, beq_iff_eq, bne_iff_ne, beq_eq_false_iff_ne, bne_eq_false_iff_eq, Bool.true_and, ne_eq, Decidable.not_not, Int.not_lt, Int.not_le, Nat.not_lt, Nat.not_le, strB_nil, strB_nil', strB_nnil, strB_nnil'] at h5
      refine run_exit rfl ?_
      exact run_cont hk3 x1 ⟨by first | omega | assumption | (simp only [List.length_append, List.length_cons, List.length_nil, List.length_replicate, put_len] at * <;> omega), by first | omega | assumption | (simp only [List.length_append, List.length_cons, List.length_nil, List.length_replicate, put_len] at * <;> omega), by first | omega | assumption | (simp only [List.length_append, List.length_cons, List.length_nil, List.length_replicate, put_len] at * <;> omega)⟩ (sub_of [] ⟨rfl, rfl, trivial⟩ trivial rfl)

/-! ### spec_l17Ask -/
theorem c_spec_l17Ask (m_ : gMine) (flows : List Int) (f : gFire) : Con Try.prog 75 [.rp [.int .i64 m_.Junctions, .sl 7 (m_.Airways.map gAirway.v)], .sl 1 (flows.map (V.int .i64)), .rp [.int .i64 f.Airway, .int .i64 f.At, .int .i64 f.Start]] [] (.int .i64 (m_spec_l17Ask m_ flows f)) ([]) := by
  refine con_intro (out := fun r : Int => ((.int .i64 r : V), ([] : List (Nat × Option O)))) (r := (m_spec_l17Ask m_ flows f)) Try.func75 rfl Try.ntmps75 rfl ?_
  refine run_factP (t := 0) 1 rfl rfl fun hl => ?_
  have l1 := hl; clear hl; simp only [List.length_map] at l1
  refine run_fact (t := 1) rfl fun hl => ?_
  have l2 := hl; clear hl; simp only [List.length_map] at l2
  refine run_seq ?_
  refine run_region (q_assign .n (.c rfl) rfl <|
      Lex.nil) ?_
  refine run_seq ?_
  refine run_seq ?_
  refine run_region (q_move .n (.t rfl) rfl <|
      q_call0 (full := false) .n .f en_102 (.cons (.t rfl) .nil) (.cons (.b (.a (.same rfl))) .nil) (fun hg => c_spec_l04Ok m_) rfl (fun h => Bool.noConfusion h) rfl <|
      q_not .n (.t rfl) rfl <|
      q_move .n (.t rfl) rfl <|
      q_move (.f rfl rfl) (.t rfl) rfl <|
      q_move (.f rfl rfl) (.t rfl) rfl <|
      q_call0 (full := false) (.f rfl rfl) .f en_116 (.cons (.u rfl id) (.cons (.u rfl id) .nil)) (.cons (.b (.a (.same rfl))) (.cons (.b (.a (.same rfl))) .nil)) (fun hg => c_spec_l17Fire m_ f) rfl (fun h => Bool.noConfusion h) rfl <|
      q_not (.f rfl rfl) (.u rfl id) rfl <|
      q_or .n (.t rfl) (.u rfl id) rfl <|
      Lex.nil) ?_
  refine run_cond (.t rfl) rfl (fun h3 => ?_) (fun h3 => ?_)
  · try simp only [Bool.and_eq_true, Bool.or_eq_true, Bool.not_eq_true', Bool.and_eq_false_iff, Bool.or_eq_false_iff, Bool.not_eq_false', decide_eq_true_eq, decide_eq_false_iff_not, beq_iff_eq, bne_iff_ne, beq_eq_false_iff_ne, bne_eq_false_iff_eq, Bool.true_and, ne_eq, Decidable.not_not, Int.not_lt, Int.not_le, Nat.not_lt, Nat.not_le, strB_nil, strB_nil', strB_nnil, strB_nnil'] at h3
    try have hf0h3 := l04Ok_imp h3
    try have hf1h3 := l04Ok_imp h3.1
    try have hf2h3 := l04Ok_imp h3.2
    try have hf3h3 := l04Ok_imp h3.1.1
    try have hf4h3 := l04Ok_imp h3.1.2
    try have hf5h3 := l04Ok_imp h3.2.1
    try have hf6h3 := l04Ok_imp h3.2.2
    refine run_seq ?_
    refine run_region (q_assign .n (.c rfl) rfl <|
        Lex.nil) ?_
    exact run_ret [] (.cons (.t rfl rfl) .nil) rfl trivial rfl
  · try simp only [Bool.and_eq_true, Bool.or_eq_true, Bool.not_eq_true', Bool.and_eq_false_iff, Bool.or_eq_false_iff, Bool.not_eq_false', decide_eq_true_eq, decide_eq_false_iff_not, beq_iff_eq, bne_iff_ne, beq_eq_false_iff_ne, bne_eq_false_iff_eq, Bool.true_and, ne_eq, Decidable.not_not, Int.not_lt, Int.not_le, Nat.not_lt, Nat.not_le, strB_nil, strB_nil', strB_nnil, strB_nnil'] at h3
    try have hf0h3 := l04Ok_imp h3
    try have hf1h3 := l04Ok_imp h3.1
    try have hf2h3 := l04Ok_imp h3.2
    try have hf3h3 := l04Ok_imp h3.1.1
    try have hf4h3 := l04Ok_imp h3.1.2
    try have hf5h3 := l04Ok_imp h3.2.1
    try have hf6h3 := l04Ok_imp h3.2.2
    refine run_skip ?_
    refine run_seq ?_
    refine run_seq ?_
    refine run_region (q_move .n (.t rfl) rfl <|
        q_move .n (.t rfl) rfl <|
        q_call0 (full := false) .n .f en_117 (.cons (.t rfl) (.cons (.t rfl) .nil)) (.cons (.b (.a (.same rfl))) (.cons (.b (.a (.same rfl))) .nil)) (fun hg => c_spec_l07Flows m_ flows) rfl (fun h => Bool.noConfusion h) rfl <|
        q_not .n (.t rfl) rfl <|
        Lex.nil) ?_
    refine run_cond (.t rfl) rfl (fun h4 => ?_) (fun h4 => ?_)
    · try simp only [Bool.and_eq_true, Bool.or_eq_true, Bool.not_eq_true', Bool.and_eq_false_iff, Bool.or_eq_false_iff, Bool.not_eq_false', decide_eq_true_eq, decide_eq_false_iff_not, beq_iff_eq, bne_iff_ne, beq_eq_false_iff_ne, bne_eq_false_iff_eq, Bool.true_and, ne_eq, Decidable.not_not, Int.not_lt, Int.not_le, Nat.not_lt, Nat.not_le, strB_nil, strB_nil', strB_nnil, strB_nnil'] at h4
      refine run_seq ?_
      refine run_region (q_assign .n (.c rfl) rfl <|
          Lex.nil) ?_
      exact run_ret [] (.cons (.t rfl rfl) .nil) rfl trivial rfl
    · try simp only [Bool.and_eq_true, Bool.or_eq_true, Bool.not_eq_true', Bool.and_eq_false_iff, Bool.or_eq_false_iff, Bool.not_eq_false', decide_eq_true_eq, decide_eq_false_iff_not, beq_iff_eq, bne_iff_ne, beq_eq_false_iff_ne, bne_eq_false_iff_eq, Bool.true_and, ne_eq, Decidable.not_not, Int.not_lt, Int.not_le, Nat.not_lt, Nat.not_le, strB_nil, strB_nil', strB_nnil, strB_nnil'] at h4
      refine run_skip ?_
      refine run_seq ?_
      refine run_region (q_assign .n (.c rfl) rfl <|
          Lex.nil) ?_
      exact run_ret [] (.cons (.t rfl rfl) .nil) rfl trivial rfl

/-! ### spec_l17Time -/
theorem c_spec_l17Time (t : Int) : Con Try.prog 126 [.int .i64 t] [] (.bool (m_spec_l17Time t)) ([]) := by
  refine con_intro (out := fun r : Bool => ((.bool r : V), ([] : List (Nat × Option O)))) (r := (m_spec_l17Time t)) Try.func126 rfl Try.ntmps126 rfl ?_
  refine run_seq ?_
  refine run_region (q_assign .n (.c rfl) rfl <|
      Lex.nil) ?_
  refine run_seq ?_
  refine run_region (q_move .n (.t rfl) rfl <|
      q_call0 (full := false) .n .f en_70 (.cons (.t rfl) (.cons (.c rfl) (.cons (.c rfl) .nil))) (.cons (.b (.a (.same rfl))) (.cons (.b (.a (.same rfl))) (.cons (.b (.a (.same rfl))) .nil))) (fun hg => c_spec_l00In t 0 36000) rfl (fun h => Bool.noConfusion h) rfl <|
      q_assign .n (.t rfl) rfl <|
      Lex.nil) ?_
  exact run_ret [] (.cons (.t rfl rfl) .nil) rfl trivial rfl

/-! ### spec_l17More -/
theorem c_spec_l17More (m_ : gMine) (flows : List Int) (f : gFire) (time : Int) : Con Try.prog 81 [.rp [.int .i64 m_.Junctions, .sl 7 (m_.Airways.map gAirway.v)], .sl 1 (flows.map (V.int .i64)), .rp [.int .i64 f.Airway, .int .i64 f.At, .int .i64 f.Start], .int .i64 time] [] (.int .i64 (m_spec_l17More m_ flows f time)) ([]) := by
  refine con_intro (out := fun r : Int => ((.int .i64 r : V), ([] : List (Nat × Option O)))) (r := (m_spec_l17More m_ flows f time)) Try.func81 rfl Try.ntmps81 rfl ?_
  refine run_factP (t := 0) 1 rfl rfl fun hl => ?_
  have l1 := hl; clear hl; simp only [List.length_map] at l1
  refine run_fact (t := 1) rfl fun hl => ?_
  have l2 := hl; clear hl; simp only [List.length_map] at l2
  refine run_seq ?_
  refine run_region (q_assign .n (.c rfl) rfl <|
      Lex.nil) ?_
  refine run_seq ?_
  refine run_region (q_move .n (.t rfl) rfl <|
      q_move .n (.t rfl) rfl <|
      q_move .n (.t rfl) rfl <|
      q_call0 (full := false) .n .f en_75 (.cons (.t rfl) (.cons (.t rfl) (.cons (.t rfl) .nil))) (.cons (.b (.a (.same rfl))) (.cons (.b (.a (.same rfl))) (.cons (.b (.a (.same rfl))) .nil))) (fun hg => c_spec_l17Ask m_ flows f) rfl (fun h => Bool.noConfusion h) rfl <|
      q_assign .n (.t rfl) rfl <|
      Lex.nil) ?_
  refine run_seq ?_
  refine run_seq ?_
  refine run_region (q_move .n (.t rfl) rfl <|
      q_int .n (.t rfl) (.c rfl) rfl rfl <|
      Lex.nil) ?_
  refine run_cond (.t rfl) rfl (fun h3 => ?_) (fun h3 => ?_)
  · try simp only [Bool.and_eq_true, Bool.or_eq_true, Bool.not_eq_true', Bool.and_eq_false_iff, Bool.or_eq_false_iff, Bool.not_eq_false', decide_eq_true_eq, decide_eq_false_iff_not, beq_iff_eq, bne_iff_ne, beq_eq_false_iff_ne, bne_eq_false_iff_eq, Bool.true_and, ne_eq, Decidable.not_not, Int.not_lt, Int.not_le, Nat.not_lt, Nat.not_le, strB_nil, strB_nil', strB_nnil, strB_nnil'] at h3
    try have hf0h3 := l17Ask_impM h3
    try have hf1h3 := l17Ask_impM h3.1
    try have hf2h3 := l17Ask_impM h3.2
    try have hf3h3 := l17Ask_impM h3.1.1
    try have hf4h3 := l17Ask_impM h3.1.2
    try have hf5h3 := l17Ask_impM h3.2.1
    try have hf6h3 := l17Ask_impM h3.2.2
    try have hf7h3 := l17Ask_impF h3
    try have hf8h3 := l17Ask_impF h3.1
    try have hf9h3 := l17Ask_impF h3.2
    try have hf10h3 := l17Ask_impF h3.1.1
    try have hf11h3 := l17Ask_impF h3.1.2
    try have hf12h3 := l17Ask_impF h3.2.1
    try have hf13h3 := l17Ask_impF h3.2.2
    try have hf14h3 := l17Ask_impS h3
    try have hf15h3 := l17Ask_impS h3.1
    try have hf16h3 := l17Ask_impS h3.2
    try have hf17h3 := l17Ask_impS h3.1.1
    try have hf18h3 := l17Ask_impS h3.1.2
    try have hf19h3 := l17Ask_impS h3.2.1
    try have hf20h3 := l17Ask_impS h3.2.2
    try have hf21h3 := l17Ask_impJ h3
    try have hf22h3 := l17Ask_impJ h3.1
    try have hf23h3 := l17Ask_impJ h3.2
    try have hf24h3 := l17Ask_impJ h3.1.1
    try have hf25h3 := l17Ask_impJ h3.1.2
    try have hf26h3 := l17Ask_impJ h3.2.1
    try have hf27h3 := l17Ask_impJ h3.2.2
    refine run_seq ?_
    refine run_region (q_move .n (.t rfl) rfl <|
        q_assign .n (.t rfl) rfl <|
        Lex.nil) ?_
    exact run_ret [] (.cons (.t rfl rfl) .nil) rfl trivial rfl
  · try simp only [Bool.and_eq_true, Bool.or_eq_true, Bool.not_eq_true', Bool.and_eq_false_iff, Bool.or_eq_false_iff, Bool.not_eq_false', decide_eq_true_eq, decide_eq_false_iff_not, beq_iff_eq, bne_iff_ne, beq_eq_false_iff_ne, bne_eq_false_iff_eq, Bool.true_and, ne_eq, Decidable.not_not, Int.not_lt, Int.not_le, Nat.not_lt, Nat.not_le, strB_nil, strB_nil', strB_nnil, strB_nnil'] at h3
    try have hf0h3 := l17Ask_impM h3
    try have hf1h3 := l17Ask_impM h3.1
    try have hf2h3 := l17Ask_impM h3.2
    try have hf3h3 := l17Ask_impM h3.1.1
    try have hf4h3 := l17Ask_impM h3.1.2
    try have hf5h3 := l17Ask_impM h3.2.1
    try have hf6h3 := l17Ask_impM h3.2.2
    try have hf7h3 := l17Ask_impF h3
    try have hf8h3 := l17Ask_impF h3.1
    try have hf9h3 := l17Ask_impF h3.2
    try have hf10h3 := l17Ask_impF h3.1.1
    try have hf11h3 := l17Ask_impF h3.1.2
    try have hf12h3 := l17Ask_impF h3.2.1
    try have hf13h3 := l17Ask_impF h3.2.2
    try have hf14h3 := l17Ask_impS h3
    try have hf15h3 := l17Ask_impS h3.1
    try have hf16h3 := l17Ask_impS h3.2
    try have hf17h3 := l17Ask_impS h3.1.1
    try have hf18h3 := l17Ask_impS h3.1.2
    try have hf19h3 := l17Ask_impS h3.2.1
    try have hf20h3 := l17Ask_impS h3.2.2
    try have hf21h3 := l17Ask_impJ h3
    try have hf22h3 := l17Ask_impJ h3.1
    try have hf23h3 := l17Ask_impJ h3.2
    try have hf24h3 := l17Ask_impJ h3.1.1
    try have hf25h3 := l17Ask_impJ h3.1.2
    try have hf26h3 := l17Ask_impJ h3.2.1
    try have hf27h3 := l17Ask_impJ h3.2.2
    refine run_skip ?_
    refine run_seq ?_
    refine run_seq ?_
    refine run_region (q_move .n (.t rfl) rfl <|
        q_call0 (full := false) .n .f en_126 (.cons (.t rfl) .nil) (.cons (.b (.a (.same rfl))) .nil) (fun hg => c_spec_l17Time time) rfl (fun h => Bool.noConfusion h) rfl <|
        q_not .n (.t rfl) rfl <|
        Lex.nil) ?_
    refine run_cond (.t rfl) rfl (fun h4 => ?_) (fun h4 => ?_)
    · try simp only [Bool.and_eq_true, Bool.or_eq_true, Bool.not_eq_true', Bool.and_eq_false_iff, Bool.or_eq_false_iff, Bool.not_eq_false', decide_eq_true_eq, decide_eq_false_iff_not, beq_iff_eq, bne_iff_ne, beq_eq_false_iff_ne, bne_eq_false_iff_eq, Bool.true_and, ne_eq, Decidable.not_not, Int.not_lt, Int.not_le, Nat.not_lt, Nat.not_le, strB_nil, strB_nil', strB_nnil, strB_nnil'] at h4
      refine run_seq ?_
      refine run_region (q_assign .n (.c rfl) rfl <|
          Lex.nil) ?_
      exact run_ret [] (.cons (.t rfl rfl) .nil) rfl trivial rfl
    · try simp only [Bool.and_eq_true, Bool.or_eq_true, Bool.not_eq_true', Bool.and_eq_false_iff, Bool.or_eq_false_iff, Bool.not_eq_false', decide_eq_true_eq, decide_eq_false_iff_not, beq_iff_eq, bne_iff_ne, beq_eq_false_iff_ne, bne_eq_false_iff_eq, Bool.true_and, ne_eq, Decidable.not_not, Int.not_lt, Int.not_le, Nat.not_lt, Nat.not_le, strB_nil, strB_nil', strB_nnil, strB_nnil'] at h4
      refine run_skip ?_
      refine run_seq ?_
      refine run_region (q_move .n (.t rfl) rfl <|
          q_assign .n (.t rfl) rfl <|
          Lex.nil) ?_
      exact run_ret [] (.cons (.t rfl rfl) .nil) rfl trivial rfl

/-! ### spec_l00Min -/
theorem c_spec_l00Min (a : Int) (b : Int) : Con Try.prog 127 [.int .i64 a, .int .i64 b] [] (.int .i64 (m_spec_l00Min a b)) ([]) := by
  refine con_intro (out := fun r : Int => ((.int .i64 r : V), ([] : List (Nat × Option O)))) (r := (m_spec_l00Min a b)) Try.func127 rfl Try.ntmps127 rfl ?_
  refine run_seq ?_
  refine run_region (q_assign .n (.c rfl) rfl <|
      Lex.nil) ?_
  refine run_seq ?_
  refine run_seq ?_
  refine run_region (q_move .n (.t rfl) rfl <|
      q_move .n (.t rfl) rfl <|
      q_int .n (.t rfl) (.t rfl) rfl rfl <|
      Lex.nil) ?_
  refine run_cond (.t rfl) rfl (fun h1 => ?_) (fun h1 => ?_)
  · try simp only [Bool.and_eq_true, Bool.or_eq_true, Bool.not_eq_true', Bool.and_eq_false_iff, Bool.or_eq_false_iff, Bool.not_eq_false', decide_eq_true_eq, decide_eq_false_iff_not, beq_iff_eq, bne_iff_ne, beq_eq_false_iff_ne, bne_eq_false_iff_eq, Bool.true_and, ne_eq, Decidable.not_not, Int.not_lt, Int.not_le, Nat.not_lt, Nat.not_le, strB_nil, strB_nil', strB_nnil, strB_nnil'] at h1
    refine run_seq ?_
    refine run_region (q_move .n (.t rfl) rfl <|
        q_assign .n (.t rfl) rfl <|
        Lex.nil) ?_
    exact run_ret [] (.cons (.t rfl rfl) .nil) rfl trivial rfl
  · try simp only [Bool.and_eq_true, Bool.or_eq_true, Bool.not_eq_true', Bool.and_eq_false_iff, Bool.or_eq_false_iff, Bool.not_eq_false', decide_eq_true_eq, decide_eq_false_iff_not, beq_iff_eq, bne_iff_ne, beq_eq_false_iff_ne, bne_eq_false_iff_eq, Bool.true_and, ne_eq, Decidable.not_not, Int.not_lt, Int.not_le, Nat.not_lt, Nat.not_le, strB_nil, strB_nil', strB_nnil, strB_nnil'] at h1
    refine run_skip ?_
    refine run_seq ?_
    refine run_region (q_move .n (.t rfl) rfl <|
        q_assign .n (.t rfl) rfl <|
        Lex.nil) ?_
    exact run_ret [] (.cons (.t rfl rfl) .nil) rfl trivial rfl

/-! ### spec_l17Front -/
theorem c_spec_l17Front (m_ : gMine) (flows : List Int) (arrival : List Int) (airway : Int) (time : Int) (hp1 : MineIn m_) (hp2 : FlowsIn m_ flows) (hp3 : (arrival.length : Int) = m_.Junctions) (hp4 : 0 ≤ airway ∧ airway < m_.Airways.length) : Con Try.prog 82 [.rp [.int .i64 m_.Junctions, .sl 7 (m_.Airways.map gAirway.v)], .sl 1 (flows.map (V.int .i64)), .sl 1 (arrival.map (V.int .i64)), .int .i64 airway, .int .i64 time] [] (.int .i64 (m_spec_l17Front m_ flows arrival airway time)) ([]) := by
  refine con_intro (out := fun r : Int => ((.int .i64 r : V), ([] : List (Nat × Option O)))) (r := (m_spec_l17Front m_ flows arrival airway time)) Try.func82 rfl Try.ntmps82 rfl ?_
  have hJ1 := hp1.1
  have hA1 := hp1.2.1
  have hF2 := hp2.1
  refine run_factP (t := 0) 1 rfl rfl fun hl => ?_
  have l1 := hl; clear hl; simp only [List.length_map] at l1
  refine run_fact (t := 1) rfl fun hl => ?_
  have l2 := hl; clear hl; simp only [List.length_map] at l2
  refine run_fact (t := 2) rfl fun hl => ?_
  have l3 := hl; clear hl; simp only [List.length_map] at l3
  refine run_seq ?_
  refine run_region (q_assign .n (.c rfl) rfl <|
      Lex.nil) ?_
  refine run_seq ?_
  refine run_region (q_move .n (.t rfl) rfl <|
      q_move .n (.t rfl) rfl <|
      q_idx_rm .n (.t rfl) (.t rfl) sl_25 (fun _ => by first | omega | assumption | (simp only [List.length_append, List.length_cons, List.length_nil, List.length_replicate, put_len] at * <;> omega) | ((have hw0 := start_in (at' flows airway) (hp1.at (i := airway) hp4); first | omega | (simp only [List.length_append, List.length_cons, List.length_nil, List.length_replicate, put_len] at * <;> omega))) | ((have hq := hp1.at hp4; unfold AirIn at hq; omega))) rfl <|
      q_ld1_ro .n (.t rfl) rfl ic_2 rfl <|
      q_call0 (full := false) .n .f en_91 (.cons (.t rfl) .nil) (.cons (.b (.a (.same rfl))) .nil) (fun hg => c_spec_l03Abs (at' flows airway)) rfl (fun h => Bool.noConfusion h) rfl <|
      q_assign .n (.t rfl) rfl <|
      Lex.nil) ?_
  refine run_seq ?_
  refine run_region (q_move .n (.t rfl) rfl <|
      q_nilc_ro .n (.t rfl) rfl <|
      q_fld_ro .n (.t rfl) fo_33_1 rfl <|
      q_ld1_ro .n (.t rfl) rfl ic_31 rfl <|
      q_move .n (.t rfl) rfl <|
      q_idx_rm .n (.t rfl) (.t rfl) sl_31 (fun _ => by first | omega | assumption | (simp only [List.length_append, List.length_cons, List.length_nil, List.length_replicate, put_len] at * <;> omega) | ((have hw0 := start_in (at' flows airway) (hp1.at (i := airway) hp4); first | omega | (simp only [List.length_append, List.length_cons, List.length_nil, List.length_replicate, put_len] at * <;> omega))) | ((have hq := hp1.at hp4; unfold AirIn at hq; omega))) rfl <|
      q_assign .n (.t rfl) rfl <|
      Lex.nil) ?_
  refine run_seq ?_
  refine run_seq ?_
  refine run_region (q_move .n (.t rfl) rfl <|
      q_int .n (.t rfl) (.c rfl) rfl rfl <|
      Lex.nil) ?_
  refine run_cond (.t rfl) rfl (fun h4 => ?_) (fun h4 => ?_)
  · try simp only [Bool.and_eq_true, Bool.or_eq_true, Bool.not_eq_true', Bool.and_eq_false_iff, Bool.or_eq_false_iff, Bool.not_eq_false', decide_eq_true_eq, decide_eq_false_iff_not, beq_iff_eq, bne_iff_ne, beq_eq_false_iff_ne, bne_eq_false_iff_eq, Bool.true_and, ne_eq, Decidable.not_not, Int.not_lt, Int.not_le, Nat.not_lt, Nat.not_le, strB_nil, strB_nil', strB_nnil, strB_nnil'] at h4
    refine run_seq ?_
    refine run_region (q_assign .n (.c rfl) rfl <|
        Lex.nil) ?_
    exact run_ret [] (.cons (.t rfl rfl) .nil) rfl trivial rfl
  · try simp only [Bool.and_eq_true, Bool.or_eq_true, Bool.not_eq_true', Bool.and_eq_false_iff, Bool.or_eq_false_iff, Bool.not_eq_false', decide_eq_true_eq, decide_eq_false_iff_not, beq_iff_eq, bne_iff_ne, beq_eq_false_iff_ne, bne_eq_false_iff_eq, Bool.true_and, ne_eq, Decidable.not_not, Int.not_lt, Int.not_le, Nat.not_lt, Nat.not_le, strB_nil, strB_nil', strB_nnil, strB_nnil'] at h4
    refine run_skip ?_
    refine run_seq ?_
    refine run_region (q_move .n (.t rfl) rfl <|
        q_move .n (.t rfl) rfl <|
        q_move .n (.t rfl) rfl <|
        q_move .n (.t rfl) rfl <|
        q_idx_rm .n (.t rfl) (.t rfl) sl_25 (fun _ => by first | omega | assumption | (simp only [List.length_append, List.length_cons, List.length_nil, List.length_replicate, put_len] at * <;> omega) | ((have hw0 := start_in (at' flows airway) (hp1.at (i := airway) hp4); first | omega | (simp only [List.length_append, List.length_cons, List.length_nil, List.length_replicate, put_len] at * <;> omega))) | ((have hq := hp1.at hp4; unfold AirIn at hq; omega))) rfl <|
        q_ld1_ro .n (.t rfl) rfl ic_2 rfl <|
        q_call0 (full := false) .n .f en_105 (.cons (.t rfl) (.cons (.t rfl) .nil)) (.cons (.b (.a (.same rfl))) (.cons (.b (.a (.same rfl))) .nil)) (fun hg => c_spec_l13Start (at' m_.Airways airway) (at' flows airway)) rfl (fun h => Bool.noConfusion h) rfl <|
        q_idx_rm .n (.t rfl) (.t rfl) sl_25 (fun _ => by first | omega | assumption | (simp only [List.length_append, List.length_cons, List.length_nil, List.length_replicate, put_len] at * <;> omega) | ((have hw0 := start_in (at' flows airway) (hp1.at (i := airway) hp4); first | omega | (simp only [List.length_append, List.length_cons, List.length_nil, List.length_replicate, put_len] at * <;> omega))) | ((have hq := hp1.at hp4; unfold AirIn at hq; omega))) rfl <|
        q_ld1_ro .n (.t rfl) rfl ic_2 rfl <|
        q_assign .n (.t rfl) rfl <|
        Lex.nil) ?_
    refine run_seq ?_
    refine run_seq ?_
    refine run_region (q_move .n (.t rfl) rfl <|
        q_int .n (.t rfl) (.c rfl) rfl rfl <|
        q_move .n (.t rfl) rfl <|
        q_move (.f rfl rfl) (.t rfl) rfl <|
        q_move (.f rfl rfl) (.t rfl) rfl <|
        q_int (.f rfl rfl) (.u rfl id) (.u rfl id) rfl rfl <|
        q_or .n (.t rfl) (.u rfl id) rfl <|
        Lex.nil) ?_
    refine run_cond (.t rfl) rfl (fun h5 => ?_) (fun h5 => ?_)
    · try simp only [Bool.and_eq_true, Bool.or_eq_true, Bool.not_eq_true', Bool.and_eq_false_iff, Bool.or_eq_false_iff, Bool.not_eq_false', decide_eq_true_eq, decide_eq_false_iff_not, beq_iff_eq, bne_iff_ne, beq_eq_false_iff_ne, bne_eq_false_iff_eq, Bool.true_and, ne_eq, Decidable.not_not, Int.not_lt, Int.not_le, Nat.not_lt, Nat.not_le, strB_nil, strB_nil', strB_nnil, strB_nnil'] at h5
      refine run_seq ?_
      refine run_region (q_assign .n (.c rfl) rfl <|
          Lex.nil) ?_
      exact run_ret [] (.cons (.t rfl rfl) .nil) rfl trivial rfl
    · try simp only [Bool.and_eq_true, Bool.or_eq_true, Bool.not_eq_true', Bool.and_eq_false_iff, Bool.or_eq_false_iff, Bool.not_eq_false', decide_eq_true_eq, decide_eq_false_iff_not, beq_iff_eq, bne_iff_ne, beq_eq_false_iff_ne, bne_eq_false_iff_eq, Bool.true_and, ne_eq, Decidable.not_not, Int.not_lt, Int.not_le, Nat.not_lt, Nat.not_le, strB_nil, strB_nil', strB_nnil, strB_nnil'] at h5
      refine run_skip ?_
      refine run_seq ?_
      refine run_draw fmo (q_move .n (.t rfl) rfl <|
          q_nilc_ro .n (.t rfl) rfl <|
          q_fld_ro .n (.t rfl) fo_105_3 rfl <|
          q_ld1_ro .n (.t rfl) rfl ic_2 rfl <|
          q_move .n (.t rfl) rfl <|
          q_move .n (.t rfl) rfl <|
          q_int .n (.t rfl) (.t rfl) rfl rfl <|
          q_move .n (.t rfl) rfl <|
          q_int .n (.t rfl) (.t rfl) rfl rfl <|
          q_move .n (.t rfl) rfl <|
          q_nilc_ro .n (.t rfl) rfl <|
          q_fld_ro .n (.t rfl) fo_105_4 rfl <|
          q_ld1_ro .n (.t rfl) rfl ic_2 rfl <|
          q_quo .n (.t rfl) (.t rfl) (fun hg => by first | omega | assumption | (simp only [List.length_append, List.length_cons, List.length_nil, List.length_replicate, put_len] at * <;> omega) | ((have hw0 := start_in (at' flows airway) (hp1.at (i := airway) hp4); first | omega | (simp only [List.length_append, List.length_cons, List.length_nil, List.length_replicate, put_len] at * <;> omega))) | ((have hq := hp1.at hp4; unfold AirIn at hq; omega))) rfl <|
          q_call0 (full := false) .n .f en_127 (.cons (.t rfl) (.cons (.t rfl) .nil)) (.cons (.b (.a (.same rfl))) (.cons (.b (.a (.same rfl))) .nil)) (fun hg => c_spec_l00Min (at' m_.Airways airway).Length (IntKind.wrap .i64 (Int.tdiv (IntKind.wrap .i64 ((IntKind.wrap .i64 (time - (at' arrival (m_spec_l13Start (at' m_.Airways airway) (at' flows airway))))) * (m_spec_l03Abs (at' flows airway)))) (at' m_.Airways airway).Section))) rfl (fun h => Bool.noConfusion h) rfl <|
          q_assign .n (.t rfl) rfl <|
          Lex.nil) (by kernel_rfl) ?_
      exact run_ret [] (.cons (.t rfl rfl) .nil) rfl trivial rfl


end Go.Proofs.Ytahohnhmdlndfaa
