/-
  THE WALKS: each Go function computes its model. Conditions: as each theorem states them (hp1, hp2 ..).
-/
import Derived.Test.YtahohnhmdlndfaaExactSmokyAirwaysWalks2
set_option linter.unusedVariables false
set_option linter.unusedSimpArgs false
set_option linter.unusedSectionVars false
set_option linter.unnecessarySimpa false
namespace Go.Proofs.Ytahohnhmdlndfaa
open Go Go.RowKit Go.Proofs Go.Proofs.Ytahohnhmdlndfaa.E
/-! ### spec_SmokyAirways -/
theorem c_spec_SmokyAirways (m_ : gMine) (flows : List Int) (f : gFire) (time : Int) : Con Try.prog 42 [.st [.int .i64 m_.Junctions, .sl 7 (m_.Airways.map gAirway.v)], .sl 1 (flows.map (V.int .i64)), .st [.int .i64 f.Airway, .int .i64 f.At, .int .i64 f.Start], .int .i64 time] [] (.tup [.os 100 (m_spec_SmokyAirways m_ flows f time).1.length, .int .i64 (m_spec_SmokyAirways m_ flows f time).2]) ([(100, some (.row 2 1 ((m_spec_SmokyAirways m_ flows f time).1.map (V.int .i64))))]) := by
  refine con_intro (out := fun r : (List Int) × Int => ((.tup [.os 100 r.1.length, .int .i64 r.2] : V), ([(100, some (.row 2 1 (r.1.map (V.int .i64))))] : List (Nat × Option O)))) (r := (m_spec_SmokyAirways m_ flows f time)) Try.func42 rfl Try.ntmps42 rfl ?_
  refine run_factS (t := 0) 1 rfl rfl fun hl => ?_
  have l1 := hl; clear hl; simp only [List.length_map] at l1
  refine run_fact (t := 1) rfl fun hl => ?_
  have l2 := hl; clear hl; simp only [List.length_map] at l2
  refine run_seq ?_
  refine run_region (q_box (l := 200) .n rfl (.t rfl) rfl rfl rfl rfl <|
      q_box (l := 201) .n rfl (.t rfl) rfl rfl rfl rfl <|
      q_assign .n (.c rfl) rfl <|
      q_assign .n (.c rfl) rfl <|
      Lex.nil) ?_
  refine run_seq ?_
  refine run_region (q_move .n (.t rfl) rfl <|
      q_move .n (.t rfl) rfl <|
      q_call0 (full := true) .n .f en_81 (.cons (.t rfl) (.cons (.t rfl) (.cons (.t rfl) (.cons (.t rfl) .nil)))) (.cons (.b (.ptr rfl rfl (.inr rfl) rfl rfl (.cons (.same rfl) (.cons (.same rfl) .nil)))) (.cons (.b (.a (.same rfl))) (.cons (.b (.ptr rfl rfl (.inr rfl) rfl rfl (.cons (.same rfl) (.cons (.same rfl) (.cons (.same rfl) .nil))))) (.cons (.b (.a (.same rfl))) .nil)))) (fun hg => c_spec_l17More m_ flows f time) rfl (fun _ => rfl) rfl <|
      q_assign .n (.t rfl) rfl <|
      Lex.nil) ?_
  refine run_seq ?_
  refine run_seq ?_
  refine run_region (q_move .n (.t rfl) rfl <|
      q_int .n (.t rfl) (.c rfl) rfl rfl <|
      Lex.nil) ?_
  refine run_cond (.t rfl) rfl (fun h3 => ?_) (fun h3 => ?_)
  · try simp only [Bool.and_eq_true, Bool.or_eq_true, Bool.not_eq_true', Bool.and_eq_false_iff, Bool.or_eq_false_iff, Bool.not_eq_false', decide_eq_true_eq, decide_eq_false_iff_not, beq_iff_eq, bne_iff_ne, beq_eq_false_iff_ne, bne_eq_false_iff_eq, Bool.true_and, ne_eq, Decidable.not_not, Int.not_lt, Int.not_le, Nat.not_lt, Nat.not_le, strB_nil, strB_nil', strB_nnil, strB_nnil'] at h3
    try have hf0h3 := l17More_impM h3
    try have hf1h3 := l17More_impM h3.1
    try have hf2h3 := l17More_impM h3.2
    try have hf3h3 := l17More_impM h3.1.1
    try have hf4h3 := l17More_impM h3.1.2
    try have hf5h3 := l17More_impM h3.2.1
    try have hf6h3 := l17More_impM h3.2.2
    try have hf7h3 := l17More_impF h3
    try have hf8h3 := l17More_impF h3.1
    try have hf9h3 := l17More_impF h3.2
    try have hf10h3 := l17More_impF h3.1.1
    try have hf11h3 := l17More_impF h3.1.2
    try have hf12h3 := l17More_impF h3.2.1
    try have hf13h3 := l17More_impF h3.2.2
    try have hf14h3 := l17More_impS h3
    try have hf15h3 := l17More_impS h3.1
    try have hf16h3 := l17More_impS h3.2
    try have hf17h3 := l17More_impS h3.1.1
    try have hf18h3 := l17More_impS h3.1.2
    try have hf19h3 := l17More_impS h3.2.1
    try have hf20h3 := l17More_impS h3.2.2
    try have hf21h3 := l17More_impJ h3
    try have hf22h3 := l17More_impJ h3.1
    try have hf23h3 := l17More_impJ h3.2
    try have hf24h3 := l17More_impJ h3.1.1
    try have hf25h3 := l17More_impJ h3.1.2
    try have hf26h3 := l17More_impJ h3.2.1
    try have hf27h3 := l17More_impJ h3.2.2
    refine run_seq ?_
    refine run_region (q_move .n (.t rfl) rfl <|
        q_assign .n (.c rfl) rfl <|
        q_assign .n (.t rfl) rfl <|
        Lex.nil) ?_
    refine run_sub (sub_adopt (t := 8) (l := 202) (el := 2) (sz := 1) rfl rfl) ?_
    exact run_ret [(100, 202)] (.cons (.t rfl rfl) (.cons (.t rfl rfl) .nil)) (by first | rfl | (simp only [put_len]; rfl)) ⟨rfl, trivial⟩ rfl
  · try simp only [Bool.and_eq_true, Bool.or_eq_true, Bool.not_eq_true', Bool.and_eq_false_iff, Bool.or_eq_false_iff, Bool.not_eq_false', decide_eq_true_eq, decide_eq_false_iff_not, beq_iff_eq, bne_iff_ne, beq_eq_false_iff_ne, bne_eq_false_iff_eq, Bool.true_and, ne_eq, Decidable.not_not, Int.not_lt, Int.not_le, Nat.not_lt, Nat.not_le, strB_nil, strB_nil', strB_nnil, strB_nnil'] at h3
    try have hf0h3 := l17More_impM h3
    try have hf1h3 := l17More_impM h3.1
    try have hf2h3 := l17More_impM h3.2
    try have hf3h3 := l17More_impM h3.1.1
    try have hf4h3 := l17More_impM h3.1.2
    try have hf5h3 := l17More_impM h3.2.1
    try have hf6h3 := l17More_impM h3.2.2
    try have hf7h3 := l17More_impF h3
    try have hf8h3 := l17More_impF h3.1
    try have hf9h3 := l17More_impF h3.2
    try have hf10h3 := l17More_impF h3.1.1
    try have hf11h3 := l17More_impF h3.1.2
    try have hf12h3 := l17More_impF h3.2.1
    try have hf13h3 := l17More_impF h3.2.2
    try have hf14h3 := l17More_impS h3
    try have hf15h3 := l17More_impS h3.1
    try have hf16h3 := l17More_impS h3.2
    try have hf17h3 := l17More_impS h3.1.1
    try have hf18h3 := l17More_impS h3.1.2
    try have hf19h3 := l17More_impS h3.2.1
    try have hf20h3 := l17More_impS h3.2.2
    try have hf21h3 := l17More_impJ h3
    try have hf22h3 := l17More_impJ h3.1
    try have hf23h3 := l17More_impJ h3.2
    try have hf24h3 := l17More_impJ h3.1.1
    try have hf25h3 := l17More_impJ h3.1.2
    try have hf26h3 := l17More_impJ h3.2.1
    try have hf27h3 := l17More_impJ h3.2.2
    refine run_skip ?_
    refine run_seq ?_
    refine run_region (q_move .n (.t rfl) rfl <|
        q_callM (full := true) [] [(100, 203)] .n rfl .f en_76 (.cons (.t rfl) (.cons (.t rfl) (.cons (.t rfl) .nil))) (.cons (.b (.ptr rfl rfl (.inr rfl) rfl rfl (.cons (.same rfl) (.cons (.same rfl) .nil)))) (.cons (.b (.a (.same rfl))) (.cons (.b (.ptr rfl rfl (.inr rfl) rfl rfl (.cons (.same rfl) (.cons (.same rfl) (.cons (.same rfl) .nil))))) .nil))) (c_spec_l17Arrival m_ flows f (by first | omega | assumption | (simp only [List.length_append, List.length_cons, List.length_nil, List.length_replicate, put_len] at * <;> omega) | (exact (arrivals_SmB (by assumption) (by assumption) (by assumption)).2)) (by first | omega | assumption | (simp only [List.length_append, List.length_cons, List.length_nil, List.length_replicate, put_len] at * <;> omega) | (exact (arrivals_SmB (by assumption) (by assumption) (by assumption)).2)) (by first | omega | assumption | (simp only [List.length_append, List.length_cons, List.length_nil, List.length_replicate, put_len] at * <;> omega) | (exact (arrivals_SmB (by assumption) (by assumption) (by assumption)).2))) trivial rfl rfl (fun _ => rfl) (fun _ => (hr_row (fun _ => rfl) hr_nil)) rfl <|
        q_assign .n (.t rfl) rfl <|
        Lex.nil) ?_
    refine run_seq ?_
    refine run_region (q_bslicem ([] : List Int) (f := V.int .i64) (l := 204) .n rfl rfl .nil rfl si_25 zv_2 rfl rfl rfl <|
        q_assign .n (.t rfl) rfl <|
        Lex.nil) ?_
    refine run_seq ?_
    refine run_seq ?_
    refine run_region (q_assign .n (.c rfl) rfl <|
        Lex.nil) ?_
    refine run_block ?_
    refine run_LOOP (m_spec_SmokyAirways_b1 m_ flows f time) _ _ _ rfl (fun (x1 : (List Int) × Int) => 0 ≤ x1.2 ∧ x1.2 ≤ (flows.length : Int) ∧ (x1.1.length : Int) + 0 ≤ x1.2 + (([] : List Int).length : Int)) (fun x1 => 0 ≤ x1.2 ∧ x1.2 ≤ (flows.length : Int) ∧ (x1.1.length : Int) + 0 ≤ x1.2 + (([] : List Int).length : Int) ∧ (flows.length : Int) ≤ x1.2) (fun x1 => ((flows.length : Int) - x1.2 : Int).toNat) (fun x1 => ⟨[(1, some (true, .sl 1 (flows.map (V.int .i64)))), (3, some (true, .int .i64 time)), (4, some (true, .op 200 0 0 0)), (6, some (true, .op 201 0 0 0)), (11, some (true, .os 203 (m_spec_l17Arrival m_ flows f).length)), (12, some (true, .os 204 x1.1.length)), (13, some (true, .int .i64 x1.2))], [(200, some (.box 33 [.int .i64 m_.Junctions, .sl 7 (m_.Airways.map gAirway.v)])), (201, some (.box 52 [.int .i64 f.Airway, .int .i64 f.At, .int .i64 f.Start])), (203, some (.row 2 1 ((m_spec_l17Arrival m_ flows f).map (V.int .i64)))), (204, some (.row 2 1 (x1.1.map (V.int .i64))))]⟩) (fun x1 => ⟨[(12, some (true, .os 204 x1.1.length))], [(204, some (.row 2 1 (x1.1.map (V.int .i64))))]⟩) ⟨by first | omega | assumption | (simp only [List.length_append, List.length_cons, List.length_nil, List.length_replicate, put_len] at * <;> omega) | (exact (arrivals_SmB (by assumption) (by assumption) (by assumption)).2), by first | omega | assumption | (simp only [List.length_append, List.length_cons, List.length_nil, List.length_replicate, put_len] at * <;> omega) | (exact (arrivals_SmB (by assumption) (by assumption) (by assumption)).2), by first | omega | assumption | (simp only [List.length_append, List.length_cons, List.length_nil, List.length_replicate, put_len] at * <;> omega) | (exact (arrivals_SmB (by assumption) (by assumption) (by assumption)).2)⟩ (by first | omega | assumption | (simp only [List.length_append, List.length_cons, List.length_nil, List.length_replicate, put_len] at * <;> omega) | (exact (arrivals_SmB (by assumption) (by assumption) (by assumption)).2)) (sub_of [] ⟨rfl, rfl, rfl, rfl, rfl, rfl, rfl, trivial⟩ ⟨rfl, rfl, rfl, rfl, trivial⟩ rfl) ?_ ?_
    · intro x1 i8
      obtain ⟨e9, e10, e11, e12⟩ := i8
      try dsimp only at *
      refine run_seq ?_
      refine run_region (q_move .n (.t rfl) rfl <|
          q_assign .n (.t rfl) rfl <|
          q_assign .n (.c rfl) rfl <|
          Lex.nil) ?_
      exact run_ret [(100, 204)] (.cons (.t rfl rfl) (.cons (.t rfl rfl) .nil)) (by first | rfl | (simp only [put_len]; rfl)) ⟨rfl, trivial⟩ rfl
    · intro rec1 k1 hk4 x1 i5
      obtain ⟨e13, e14, e15⟩ := i5
      try dsimp only at *
      refine run_seq ?_
      refine run_seq ?_
      refine run_region (q_move .n (.t rfl) rfl <|
          q_move .n (.t rfl) rfl <|
          q_len .n (.t rfl) rfl len_map ss_25 rfl <|
          q_int .n (.t rfl) (.t rfl) rfl rfl <|
          Lex.nil) ?_
      refine run_cond (.t rfl) rfl (fun h6 => ?_) (fun h6 => ?_)
      · try simp only [Bool.and_eq_true, Bool.or_eq_true, Bool.not_eq_true', Bool.and_eq_false_iff, Bool.or_eq_false_iff, Bool.not_eq_false', decide_eq_true_eq, decide_eq_false_iff_not, beq_iff_eq, bne_iff_ne, beq_eq_false_iff_ne, bne_eq_false_iff_eq, Bool.true_and, ne_eq, Decidable.not_not, Int.not_lt, Int.not_le, Nat.not_lt, Nat.not_le, strB_nil, strB_nil', strB_nnil, strB_nnil'] at h6
        refine run_skip ?_
        refine run_seq ?_
        refine run_block ?_
        refine run_seq ?_
        refine run_region (q_move .n (.t rfl) rfl <|
            q_fld_ow .n (.t rfl) fo_52_0 rfl <|
            q_ld1_ow .n (.t rfl) rfl (.inr rfl) (fun _ => rfl) rfl ic_2 rfl <|
            q_int .n (.t rfl) (.t rfl) rfl rfl <|
            q_move .n (.t rfl) rfl <|
            q_move (.t rfl rfl) (.t rfl) rfl <|
            q_fld_ow (.t rfl rfl) (.t rfl) fo_52_2 rfl <|
            q_ld1_ow (.t rfl rfl) (.u rfl id) rfl (.inr rfl) (fun _ => rfl) rfl ic_2 rfl <|
            q_int (.t rfl rfl) (.u rfl id) (.u rfl id) rfl rfl <|
            q_and .n (.t rfl) (.u rfl id) rfl <|
            q_move .n (.t rfl) rfl <|
            q_move (.f rfl rfl) (.t rfl) rfl <|
            q_move (.f rfl rfl) (.t rfl) rfl <|
            q_move (.f rfl rfl) (.t rfl) rfl <|
            q_move (.f rfl rfl) (.t rfl) rfl <|
            q_call0 (full := true) (.f rfl rfl) .f en_82 (.cons (.t rfl) (.cons (.u rfl id) (.cons (.u rfl id) (.cons (.u rfl id) (.cons (.u rfl id) .nil))))) (.cons (.b (.ptr rfl rfl (.inr rfl) rfl rfl (.cons (.same rfl) (.cons (.same rfl) .nil)))) (.cons (.b (.a (.same rfl))) (.cons (.b (.a (.own rfl rfl rfl (take_all (by simp only [len_map, put_len])) (by simp only [len_map, put_len])))) (.cons (.b (.a (.same rfl))) (.cons (.b (.a (.same rfl))) .nil))))) (fun hg => c_spec_l17Front m_ flows (m_spec_l17Arrival m_ flows f) x1.2 time (by simp only [Bool.and_eq_true, Bool.or_eq_true, Bool.not_eq_true', Bool.and_eq_false_iff, Bool.or_eq_false_iff, Bool.not_eq_false', decide_eq_true_eq, decide_eq_false_iff_not, beq_iff_eq, bne_iff_ne, beq_eq_false_iff_ne, bne_eq_false_iff_eq, Bool.true_and, ne_eq, Decidable.not_not, Int.not_lt, Int.not_le, Nat.not_lt, Nat.not_le, strB_nil, strB_nil', strB_nnil, strB_nnil'] at hg; first | omega | assumption | (simp only [List.length_append, List.length_cons, List.length_nil, List.length_replicate, put_len] at * <;> omega) | (exact (arrivals_SmB (by assumption) (by assumption) (by assumption)).2)) (by simp only [Bool.and_eq_true, Bool.or_eq_true, Bool.not_eq_true', Bool.and_eq_false_iff, Bool.or_eq_false_iff, Bool.not_eq_false', decide_eq_true_eq, decide_eq_false_iff_not, beq_iff_eq, bne_iff_ne, beq_eq_false_iff_ne, bne_eq_false_iff_eq, Bool.true_and, ne_eq, Decidable.not_not, Int.not_lt, Int.not_le, Nat.not_lt, Nat.not_le, strB_nil, strB_nil', strB_nnil, strB_nnil'] at hg; first | omega | assumption | (simp only [List.length_append, List.length_cons, List.length_nil, List.length_replicate, put_len] at * <;> omega) | (exact (arrivals_SmB (by assumption) (by assumption) (by assumption)).2)) (by simp only [Bool.and_eq_true, Bool.or_eq_true, Bool.not_eq_true', Bool.and_eq_false_iff, Bool.or_eq_false_iff, Bool.not_eq_false', decide_eq_true_eq, decide_eq_false_iff_not, beq_iff_eq, bne_iff_ne, beq_eq_false_iff_ne, bne_eq_false_iff_eq, Bool.true_and, ne_eq, Decidable.not_not, Int.not_lt, Int.not_le, Nat.not_lt, Nat.not_le, strB_nil, strB_nil', strB_nnil, strB_nnil'] at hg; first | omega | assumption | (simp only [List.length_append, List.length_cons, List.length_nil, List.length_replicate, put_len] at * <;> omega) | (exact (arrivals_SmB (by assumption) (by assumption) (by assumption)).2)) (by simp only [Bool.and_eq_true, Bool.or_eq_true, Bool.not_eq_true', Bool.and_eq_false_iff, Bool.or_eq_false_iff, Bool.not_eq_false', decide_eq_true_eq, decide_eq_false_iff_not, beq_iff_eq, bne_iff_ne, beq_eq_false_iff_ne, bne_eq_false_iff_eq, Bool.true_and, ne_eq, Decidable.not_not, Int.not_lt, Int.not_le, Nat.not_lt, Nat.not_le, strB_nil, strB_nil', strB_nnil, strB_nnil'] at hg; first | omega | assumption | (simp only [List.length_append, List.length_cons, List.length_nil, List.length_replicate, put_len] at * <;> omega) | (exact (arrivals_SmB (by assumption) (by assumption) (by assumption)).2))) rfl (fun _ => rfl) rfl <|
            q_int (.f rfl rfl) (.u rfl id) (.c rfl) rfl rfl <|
            q_or .n (.t rfl) (.u rfl id) rfl <|
            Lex.nil) ?_
        refine run_cond (.t rfl) rfl (fun h7 => ?_) (fun h7 => ?_)
        · try simp only [Bool.and_eq_true, Bool.or_eq_true, Bool.not_eq_true', Bool.and_eq_false_iff, Bool.or_eq_false_iff, Bool.not_eq_false', decide_eq_true_eq, decide_eq_false_iff_not, beq_iff_eq, bne_iff_ne, beq_eq_false_iff_ne, bne_eq_false_iff_eq, Bool.true_and, ne_eq, Decidable.not_not, Int.not_lt, Int.not_le, Nat.not_lt, Nat.not_le, strB_nil, strB_nil', strB_nnil, strB_nnil'] at h7
          refine run_region (q_move .n (.t rfl) rfl <|
              q_move .n (.t rfl) rfl <|
              q_bslicem ([x1.2] : List Int) (f := V.int .i64) (l := 205) .n rfl rfl (.cons (.t rfl) .nil) rfl si_25 zv_2 rfl rfl rfl <|
              q_appm (xs := x1.1) (ys := ([x1.2] : List Int)) (f := V.int .i64) (l := 206) .n rfl (.ow (.t rfl) rfl (take_all (by simp only [len_map, put_len])) (by simp only [len_map, put_len])) (.ow (.t rfl) rfl (take_all (by simp only [len_map, put_len])) (by simp only [len_map, put_len])) si_25 zv_2 rfl (by first | omega | assumption | (simp only [List.length_append, List.length_cons, List.length_nil, List.length_replicate, put_len] at * <;> omega) | (exact (arrivals_SmB (by assumption) (by assumption) (by assumption)).2)) rfl rfl <|
              q_assign .n (.t rfl) rfl <|
              Lex.nil) ?_
          refine run_endB ?_
          refine run_region (q_move .n (.t rfl) rfl <|
              q_add .n (.t rfl) (.c rfl) (fun _ => by first | omega | assumption | (simp only [List.length_append, List.length_cons, List.length_nil, List.length_replicate, put_len] at * <;> omega) | (exact (arrivals_SmB (by assumption) (by assumption) (by assumption)).2)) rfl <|
              q_assign .n (.t rfl) rfl <|
              Lex.nil) ?_
          exact run_again (x1.1 ++ ([x1.2] : List Int), x1.2 + 1) ⟨by first | omega | assumption | (simp only [List.length_append, List.length_cons, List.length_nil, List.length_replicate, put_len] at * <;> omega) | (exact (arrivals_SmB (by assumption) (by assumption) (by assumption)).2), by first | omega | assumption | (simp only [List.length_append, List.length_cons, List.length_nil, List.length_replicate, put_len] at * <;> omega) | (exact (arrivals_SmB (by assumption) (by assumption) (by assumption)).2), by first | omega | assumption | (simp only [List.length_append, List.length_cons, List.length_nil, List.length_replicate, put_len] at * <;> omega) | (exact (arrivals_SmB (by assumption) (by assumption) (by assumption)).2)⟩ (by first | omega | assumption | (simp only [List.length_append, List.length_cons, List.length_nil, List.length_replicate, put_len] at * <;> omega) | (exact (arrivals_SmB (by assumption) (by assumption) (by assumption)).2)) (sub_of [(204, 206)] ⟨rfl, rfl, rfl, rfl, rfl, rfl, rfl, trivial⟩ ⟨rfl, rfl, rfl, rfl, trivial⟩ rfl)
        · try simp only [Bool.and_eq_true, Bool.or_eq_true, Bool.not_eq_true', Bool.and_eq_false_iff, Bool.or_eq_false_iff, Bool.not_eq_false', decide_eq_true_eq, decide_eq_false_iff_not, beq_iff_eq, bne_iff_ne, beq_eq_false_iff_ne, bne_eq_false_iff_eq, Bool.true_and, ne_eq, Decidable.not_not, Int.not_lt, Int.not_le, Nat.not_lt, Nat.not_le, strB_nil, strB_nil', strB_nnil, strB_nnil'] at h7
          refine run_skip ?_
          refine run_endB ?_
          refine run_region (q_move .n (.t rfl) rfl <|
              q_add .n (.t rfl) (.c rfl) (fun _ => by first | omega | assumption | (simp only [List.length_append, List.length_cons, List.length_nil, List.length_replicate, put_len] at * <;> omega) | (exact (arrivals_SmB (by assumption) (by assumption) (by assumption)).2)) rfl <|
              q_assign .n (.t rfl) rfl <|
              Lex.nil) ?_
          exact run_again (x1.1, x1.2 + 1) ⟨by first | omega | assumption | (simp only [List.length_append, List.length_cons, List.length_nil, List.length_replicate, put_len] at * <;> omega) | (exact (arrivals_SmB (by assumption) (by assumption) (by assumption)).2), by first | omega | assumption | (simp only [List.length_append, List.length_cons, List.length_nil, List.length_replicate, put_len] at * <;> omega) | (exact (arrivals_SmB (by assumption) (by assumption) (by assumption)).2), by first | omega | assumption | (simp only [List.length_append, List.length_cons, List.length_nil, List.length_replicate, put_len] at * <;> omega) | (exact (arrivals_SmB (by assumption) (by assumption) (by assumption)).2)⟩ (by first | omega | assumption | (simp only [List.length_append, List.length_cons, List.length_nil, List.length_replicate, put_len] at * <;> omega) | (exact (arrivals_SmB (by assumption) (by assumption) (by assumption)).2)) (sub_of [] ⟨rfl, rfl, rfl, rfl, rfl, rfl, rfl, trivial⟩ ⟨rfl, rfl, rfl, rfl, trivial⟩ rfl)
      · try simp only [Bool.and_eq_true, Bool.or_eq_true, Bool.not_eq_true', Bool.and_eq_false_iff, Bool.or_eq_false_iff, Bool.not_eq_false', decide_eq_true_eq, decide_eq_false_iff_not, beq_iff_eq, bne_iff_ne, beq_eq_false_iff_ne, bne_eq_false_iff_eq, Bool.true_and, ne_eq, Decidable.not_not, Int.not_lt, Int.not_le, Nat.not_lt, Nat.not_le, strB_nil, strB_nil', strB_nnil, strB_nnil'] at h6
        refine run_exit rfl ?_
        exact run_cont hk4 (x1.1, x1.2) ⟨by first | omega | assumption | (simp only [List.length_append, List.length_cons, List.length_nil, List.length_replicate, put_len] at * <;> omega) | (exact (arrivals_SmB (by assumption) (by assumption) (by assumption)).2), by first | omega | assumption | (simp only [List.length_append, List.length_cons, List.length_nil, List.length_replicate, put_len] at * <;> omega) | (exact (arrivals_SmB (by assumption) (by assumption) (by assumption)).2), by first | omega | assumption | (simp only [List.length_append, List.length_cons, List.length_nil, List.length_replicate, put_len] at * <;> omega) | (exact (arrivals_SmB (by assumption) (by assumption) (by assumption)).2), by first | omega | assumption | (simp only [List.length_append, List.length_cons, List.length_nil, List.length_replicate, put_len] at * <;> omega) | (exact (arrivals_SmB (by assumption) (by assumption) (by assumption)).2)⟩ (sub_of [] ⟨rfl, trivial⟩ ⟨rfl, trivial⟩ rfl)

/-! ### impl_within -/
theorem c_impl_within (n_ : Int) (low : Int) (high : Int) : Con Try.prog 72 [.int .i64 n_, .int .i64 low, .int .i64 high] [] (.bool (m_impl_within n_ low high)) ([]) := by
  refine con_intro (out := fun r : Bool => ((.bool r : V), ([] : List (Nat × Option O)))) (r := (m_impl_within n_ low high)) Try.func72 rfl Try.ntmps72 rfl ?_
  refine run_seq ?_
  refine run_region (q_assign .n (.c rfl) rfl <|
      Lex.nil) ?_
  refine run_seq ?_
  refine run_region (q_move .n (.t rfl) rfl <|
      q_move .n (.t rfl) rfl <|
      q_int .n (.t rfl) (.t rfl) rfl rfl <|
      q_move .n (.t rfl) rfl <|
      q_move (.t rfl rfl) (.t rfl) rfl <|
      q_move (.t rfl rfl) (.t rfl) rfl <|
      q_int (.t rfl rfl) (.u rfl id) (.u rfl id) rfl rfl <|
      q_and .n (.t rfl) (.u rfl id) rfl <|
      q_assign .n (.t rfl) rfl <|
      Lex.nil) ?_
  exact run_ret [] (.cons (.t rfl rfl) .nil) rfl trivial rfl

/-! ### slices_IndexFunc_int64 -/
theorem c_slices_IndexFunc_int64 (s_ : List Int) (f : Int → Bool) (F_f : FuncId) (C_f : List V) (he_f : entB Try.prog F_f = true) (hr_f : C_f.all V.ro = true) (hc_f : ∀ (a0 : Int), Con Try.prog F_f ([.int .i64 a0] ++ C_f) [] (.bool (f a0)) []) : Con Try.prog 155 [.sl 1 (s_.map (V.int .i64)), .clo F_f C_f] [] (.int .i64 (m_slices_IndexFunc_int64 s_ f)) ([]) := by
  refine con_intro (out := fun r : Int => ((.int .i64 r : V), ([] : List (Nat × Option O)))) (r := (m_slices_IndexFunc_int64 s_ f)) Try.func155 rfl Try.ntmps155 rfl ?_
  refine run_fact (t := 0) rfl fun hl => ?_
  have l1 := hl; clear hl; simp only [List.length_map] at l1
  refine run_seq ?_
  refine run_region (q_assign .n (.c rfl) rfl <|
      Lex.nil) ?_
  refine run_seq ?_
  refine run_seq ?_
  refine run_region (q_move .n (.t rfl) rfl <|
      q_len .n (.t rfl) rfl len_map ss_25 rfl <|
      q_move .n (.c rfl) rfl <|
      Lex.nil) ?_
  refine run_block ?_
  refine run_LOOP (m_slices_IndexFunc_int64_b1 s_ f) _ _ _ rfl (fun (x1 : Int) => 0 ≤ x1 ∧ x1 ≤ (s_.length : Int)) (fun x1 => 0 ≤ x1 ∧ x1 ≤ (s_.length : Int) ∧ (s_.length : Int) ≤ x1) (fun x1 => ((s_.length : Int) - x1 : Int).toNat) (fun x1 => ⟨[(0, some (true, .sl 1 (s_.map (V.int .i64)))), (1, some (true, .clo F_f C_f)), (7, some (true, .int .i64 (s_.length : Int))), (8, some (true, .int .i64 x1))], []⟩) (fun x1 => ⟨[], []⟩) ⟨by first | omega | assumption | (simp only [List.length_append, List.length_cons, List.length_nil, List.length_replicate, put_len] at * <;> omega), by first | omega | assumption | (simp only [List.length_append, List.length_cons, List.length_nil, List.length_replicate, put_len] at * <;> omega)⟩ (by first | omega | assumption | (simp only [List.length_append, List.length_cons, List.length_nil, List.length_replicate, put_len] at * <;> omega)) (sub_of [] ⟨rfl, clo_ren hr_f rfl, rfl, rfl, trivial⟩ trivial rfl) ?_ ?_
  · intro x1 i6
    obtain ⟨e7, e8, e9⟩ := i6
    try dsimp only at *
    refine run_seq ?_
    refine run_region (q_assign .n (.c rfl) rfl <|
        Lex.nil) ?_
    exact run_ret [] (.cons (.t rfl rfl) .nil) rfl trivial rfl
  · intro rec1 k1 hk2 x1 i3
    obtain ⟨e10, e11⟩ := i3
    try dsimp only at *
    refine run_seq ?_
    refine run_region (q_int .n (.t rfl) (.t rfl) rfl rfl <|
        Lex.nil) ?_
    refine run_seq ?_
    refine run_cond (.t rfl) rfl (fun h4 => ?_) (fun h4 => ?_)
    · try simp only [Bool.and_eq_true, Bool.or_eq_true, Bool.not_eq_true', Bool.and_eq_false_iff, Bool.or_eq_false_iff, Bool.not_eq_false', decide_eq_true_eq, decide_eq_false_iff_not, beq_iff_eq, bne_iff_ne, beq_eq_false_iff_ne, bne_eq_false_iff_eq, Bool.true_and, ne_eq, Decidable.not_not, Int.not_lt, Int.not_le, Nat.not_lt, Nat.not_le, strB_nil, strB_nil', strB_nnil, strB_nnil'] at h4
      refine run_skip ?_
      refine run_seq ?_
      refine run_block ?_
      refine run_seq ?_
      refine run_region (q_move .n (.t rfl) rfl <|
          q_assign .n (.t rfl) rfl <|
          Lex.nil) ?_
      refine run_seq ?_
      refine run_region (q_move .n (.t rfl) rfl <|
          q_move .n (.t rfl) rfl <|
          q_move .n (.t rfl) rfl <|
          q_idx_rm .n (.t rfl) (.t rfl) sl_25 (fun _ => by first | omega | assumption | (simp only [List.length_append, List.length_cons, List.length_nil, List.length_replicate, put_len] at * <;> omega)) rfl <|
          q_ld1_ro .n (.t rfl) rfl ic_2 rfl <|
          q_call0 (full := false) .n (.c (.t rfl)) he_f (.cons (.t rfl) .nil) (passes_app hr_f (.cons (.b (.a (.same rfl))) .nil)) (fun hg => hc_f (at' s_ x1)) rfl (fun h => Bool.noConfusion h) rfl <|
          Lex.nil) ?_
      refine run_cond (.t rfl) rfl (fun h5 => ?_) (fun h5 => ?_)
      · try simp only [Bool.and_eq_true, Bool.or_eq_true, Bool.not_eq_true', Bool.and_eq_false_iff, Bool.or_eq_false_iff, Bool.not_eq_false', decide_eq_true_eq, decide_eq_false_iff_not, beq_iff_eq, bne_iff_ne, beq_eq_false_iff_ne, bne_eq_false_iff_eq, Bool.true_and, ne_eq, Decidable.not_not, Int.not_lt, Int.not_le, Nat.not_lt, Nat.not_le, strB_nil, strB_nil', strB_nnil, strB_nnil'] at h5
        refine run_seq ?_
        refine run_region (q_move .n (.t rfl) rfl <|
            q_assign .n (.t rfl) rfl <|
            Lex.nil) ?_
        exact run_ret [] (.cons (.t rfl rfl) .nil) rfl trivial rfl
      · try simp only [Bool.and_eq_true, Bool.or_eq_true, Bool.not_eq_true', Bool.and_eq_false_iff, Bool.or_eq_false_iff, Bool.not_eq_false', decide_eq_true_eq, decide_eq_false_iff_not, beq_iff_eq, bne_iff_ne, beq_eq_false_iff_ne, bne_eq_false_iff_eq, Bool.true_and, ne_eq, Decidable.not_not, Int.not_lt, Int.not_le, Nat.not_lt, Nat.not_le, strB_nil, strB_nil', strB_nnil, strB_nnil'] at h5
        refine run_skip ?_
        refine run_endB ?_
        refine run_region (q_add .n (.t rfl) (.c rfl) (fun _ => by first | omega | assumption | (simp only [List.length_append, List.length_cons, List.length_nil, List.length_replicate, put_len] at * <;> omega)) rfl <|
            q_move .n (.t rfl) rfl <|
            Lex.nil) ?_
        exact run_again (x1 + 1) ⟨by first | omega | assumption | (simp only [List.length_append, List.length_cons, List.length_nil, List.length_replicate, put_len] at * <;> omega), by first | omega | assumption | (simp only [List.length_append, List.length_cons, List.length_nil, List.length_replicate, put_len] at * <;> omega)⟩ (by first | omega | assumption | (simp only [List.length_append, List.length_cons, List.length_nil, List.length_replicate, put_len] at * <;> omega)) (sub_of [] ⟨rfl, clo_ren hr_f rfl, rfl, rfl, trivial⟩ trivial rfl)
    · try simp only [Bool.and_eq_true, Bool.or_eq_true, Bool.not_eq_true', Bool.and_eq_false_iff, Bool.or_eq_false_iff, Bool.not_eq_false', decide_eq_true_eq, decide_eq_false_iff_not, beq_iff_eq, bne_iff_ne, beq_eq_false_iff_ne, bne_eq_false_iff_eq, Bool.true_and, ne_eq, Decidable.not_not, Int.not_lt, Int.not_le, Nat.not_lt, Nat.not_le, strB_nil, strB_nil', strB_nnil, strB_nnil'] at h4
      refine run_exit rfl ?_
      exact run_cont hk2 x1 ⟨by first | omega | assumption | (simp only [List.length_append, List.length_cons, List.length_nil, List.length_replicate, put_len] at * <;> omega), by first | omega | assumption | (simp only [List.length_append, List.length_cons, List.length_nil, List.length_replicate, put_len] at * <;> omega), by first | omega | assumption | (simp only [List.length_append, List.length_cons, List.length_nil, List.length_replicate, put_len] at * <;> omega)⟩ (sub_of [] trivial trivial rfl)

/-! ### slices_ContainsFunc_int64 -/
theorem c_slices_ContainsFunc_int64 (s_ : List Int) (f : Int → Bool) (F_f : FuncId) (C_f : List V) (he_f : entB Try.prog F_f = true) (hr_f : C_f.all V.ro = true) (hc_f : ∀ (a0 : Int), Con Try.prog F_f ([.int .i64 a0] ++ C_f) [] (.bool (f a0)) []) : Con Try.prog 144 [.sl 1 (s_.map (V.int .i64)), .clo F_f C_f] [] (.bool (m_slices_ContainsFunc_int64 s_ f)) ([]) := by
  refine con_intro (out := fun r : Bool => ((.bool r : V), ([] : List (Nat × Option O)))) (r := (m_slices_ContainsFunc_int64 s_ f)) Try.func144 rfl Try.ntmps144 rfl ?_
  refine run_fact (t := 0) rfl fun hl => ?_
  have l1 := hl; clear hl; simp only [List.length_map] at l1
  refine run_seq ?_
  refine run_region (q_assign .n (.c rfl) rfl <|
      Lex.nil) ?_
  refine run_seq ?_
  refine run_region (q_move .n (.t rfl) rfl <|
      q_move .n (.t rfl) rfl <|
      q_call0 (full := false) .n .f en_155 (.cons (.t rfl) (.cons (.t rfl) .nil)) (.cons (.b (.a (.same rfl))) (.cons (.clo (passBs_ro hr_f)) .nil)) (fun hg => c_slices_IndexFunc_int64 s_ f F_f C_f he_f hr_f hc_f) rfl (fun h => Bool.noConfusion h) rfl <|
      q_int .n (.t rfl) (.c rfl) rfl rfl <|
      q_assign .n (.t rfl) rfl <|
      Lex.nil) ?_
  exact run_ret [] (.cons (.t rfl rfl) .nil) rfl trivial rfl

/-! ### impl_allWithin_1 -/
theorem c_impl_allWithin_1 (n_ : Int) (p1 : Int) (p2 : Int) : Con Try.prog 145 [.int .i64 n_, .rp [.int .i64 p1], .rp [.int .i64 p2]] [] (.bool (m_impl_allWithin_1 n_ p1 p2)) ([]) := by
  refine con_intro (out := fun r : Bool => ((.bool r : V), ([] : List (Nat × Option O)))) (r := (m_impl_allWithin_1 n_ p1 p2)) Try.func145 rfl Try.ntmps145 rfl ?_
  refine run_seq ?_
  refine run_region (q_assign .n (.c rfl) rfl <|
      Lex.nil) ?_
  refine run_seq ?_
  refine run_region (q_move .n (.t rfl) rfl <|
      q_ld1_ro .n (.t rfl) rfl ic_2 rfl <|
      q_ld1_ro .n (.t rfl) rfl ic_2 rfl <|
      q_call0 (full := false) .n .f en_72 (.cons (.t rfl) (.cons (.t rfl) (.cons (.t rfl) .nil))) (.cons (.b (.a (.same rfl))) (.cons (.b (.a (.same rfl))) (.cons (.b (.a (.same rfl))) .nil))) (fun hg => c_impl_within n_ p1 p2) rfl (fun h => Bool.noConfusion h) rfl <|
      q_not .n (.t rfl) rfl <|
      q_assign .n (.t rfl) rfl <|
      Lex.nil) ?_
  exact run_ret [] (.cons (.t rfl rfl) .nil) rfl trivial rfl

/-! ### impl_allWithin -/
theorem c_impl_allWithin (list : List Int) (low : Int) (high : Int) : Con Try.prog 125 [.sl 1 (list.map (V.int .i64)), .int .i64 low, .int .i64 high] [] (.bool (m_impl_allWithin list low high)) ([]) := by
  refine con_intro (out := fun r : Bool => ((.bool r : V), ([] : List (Nat × Option O)))) (r := (m_impl_allWithin list low high)) Try.func125 rfl Try.ntmps125 rfl ?_
  refine run_fact (t := 0) rfl fun hl => ?_
  have l1 := hl; clear hl; simp only [List.length_map] at l1
  refine run_seq ?_
  refine run_region (q_box (l := 200) .n rfl (.t rfl) rfl rfl rfl rfl <|
      q_box (l := 201) .n rfl (.t rfl) rfl rfl rfl rfl <|
      q_assign .n (.c rfl) rfl <|
      Lex.nil) ?_
  refine run_seq ?_
  refine run_region (q_move .n (.t rfl) rfl <|
      q_clo .n (.cons (.t rfl) (.cons (.t rfl) .nil)) rfl rfl <|
      q_call0 (full := true) .n .f en_144 (.cons (.t rfl) (.cons (.t rfl) .nil)) (.cons (.b (.a (.same rfl))) (.cons (.clo (.cons (.ptr rfl rfl (.inr rfl) rfl rfl (.cons (.same rfl) .nil)) (.cons (.ptr rfl rfl (.inr rfl) rfl rfl (.cons (.same rfl) .nil)) .nil))) .nil)) (fun hg => c_slices_ContainsFunc_int64 list (fun (a0 : Int) => m_impl_allWithin_1 a0 low high) 145 [.rp [.int .i64 low], .rp [.int .i64 high]] en_145 rfl (fun a0 => c_impl_allWithin_1 a0 low high)) rfl (fun _ => rfl) rfl <|
      q_not .n (.t rfl) rfl <|
      q_assign .n (.t rfl) rfl <|
      Lex.nil) ?_
  exact run_ret [] (.cons (.t rfl rfl) .nil) rfl trivial rfl

/-! ### impl_Mine_hasList -/
theorem c_impl_Mine_hasList (m_ : gMine) (list : List Int) (low : Int) (high : Int) : Con Try.prog 140 [.st [.int .i64 m_.Junctions, .sl 7 (m_.Airways.map gAirway.v)], .sl 1 (list.map (V.int .i64)), .int .i64 low, .int .i64 high] [] (.bool (m_impl_Mine_hasList m_ list low high)) ([]) := by
  refine con_intro (out := fun r : Bool => ((.bool r : V), ([] : List (Nat × Option O)))) (r := (m_impl_Mine_hasList m_ list low high)) Try.func140 rfl Try.ntmps140 rfl ?_
  refine run_factS (t := 0) 1 rfl rfl fun hl => ?_
  have l1 := hl; clear hl; simp only [List.length_map] at l1
  refine run_fact (t := 1) rfl fun hl => ?_
  have l2 := hl; clear hl; simp only [List.length_map] at l2
  refine run_seq ?_
  refine run_region (q_box (l := 200) .n rfl (.t rfl) rfl rfl rfl rfl <|
      q_assign .n (.c rfl) rfl <|
      Lex.nil) ?_
  refine run_seq ?_
  refine run_region (q_move .n (.t rfl) rfl <|
      q_len .n (.t rfl) rfl len_map ss_25 rfl <|
      q_fld_ow .n (.t rfl) fo_33_1 rfl <|
      q_ld1_ow .n (.t rfl) rfl (.inr rfl) (fun _ => rfl) rfl ic_31 rfl <|
      q_len .n (.t rfl) rfl len_map ss_31 rfl <|
      q_int .n (.t rfl) (.t rfl) rfl rfl <|
      q_move .n (.t rfl) rfl <|
      q_move (.t rfl rfl) (.t rfl) rfl <|
      q_move (.t rfl rfl) (.t rfl) rfl <|
      q_move (.t rfl rfl) (.t rfl) rfl <|
      q_call0 (full := false) (.t rfl rfl) .f en_125 (.cons (.u rfl id) (.cons (.u rfl id) (.cons (.u rfl id) .nil))) (.cons (.b (.a (.same rfl))) (.cons (.b (.a (.same rfl))) (.cons (.b (.a (.same rfl))) .nil))) (fun hg => c_impl_allWithin list low high) rfl (fun h => Bool.noConfusion h) rfl <|
      q_and .n (.t rfl) (.u rfl id) rfl <|
      q_assign .n (.t rfl) rfl <|
      Lex.nil) ?_
  exact run_ret [] (.cons (.t rfl rfl) .nil) rfl trivial rfl

/-! ### impl_Mine_hasFlows -/
theorem c_impl_Mine_hasFlows (m_ : gMine) (flows : List Int) : Con Try.prog 110 [.st [.int .i64 m_.Junctions, .sl 7 (m_.Airways.map gAirway.v)], .sl 1 (flows.map (V.int .i64))] [] (.bool (m_impl_Mine_hasFlows m_ flows)) ([]) := by
  refine con_intro (out := fun r : Bool => ((.bool r : V), ([] : List (Nat × Option O)))) (r := (m_impl_Mine_hasFlows m_ flows)) Try.func110 rfl Try.ntmps110 rfl ?_
  refine run_factS (t := 0) 1 rfl rfl fun hl => ?_
  have l1 := hl; clear hl; simp only [List.length_map] at l1
  refine run_fact (t := 1) rfl fun hl => ?_
  have l2 := hl; clear hl; simp only [List.length_map] at l2
  refine run_seq ?_
  refine run_region (q_box (l := 200) .n rfl (.t rfl) rfl rfl rfl rfl <|
      q_assign .n (.c rfl) rfl <|
      Lex.nil) ?_
  refine run_seq ?_
  refine run_region (q_ldN_ow .n (.t rfl) rfl (.inr rfl) ag_33 (fun _ => rfl) rfl rfl <|
      q_move .n (.t rfl) rfl <|
      q_call0 (full := false) .n .f en_140 (.cons (.t rfl) (.cons (.t rfl) (.cons (.c rfl) (.cons (.c rfl) .nil)))) (.cons (.sts rfl) (.cons (.b (.a (.same rfl))) (.cons (.b (.a (.same rfl))) (.cons (.b (.a (.same rfl))) .nil)))) (fun hg => c_impl_Mine_hasList m_ flows (-100000) 100000) rfl (fun h => Bool.noConfusion h) rfl <|
      q_assign .n (.t rfl) rfl <|
      Lex.nil) ?_
  exact run_ret [] (.cons (.t rfl rfl) .nil) rfl trivial rfl

/-! ### impl_indexValid_impl_Airway -/
theorem c_impl_indexValid_impl_Airway (list : List gAirway) (k_ : Int) : Con Try.prog 83 [.sl 7 (list.map gAirway.v), .int .i64 k_] [] (.bool (m_impl_indexValid_impl_Airway list k_)) ([]) := by
  refine con_intro (out := fun r : Bool => ((.bool r : V), ([] : List (Nat × Option O)))) (r := (m_impl_indexValid_impl_Airway list k_)) Try.func83 rfl Try.ntmps83 rfl ?_
  refine run_fact (t := 0) rfl fun hl => ?_
  have l1 := hl; clear hl; simp only [List.length_map] at l1
  refine run_seq ?_
  refine run_region (q_assign .n (.c rfl) rfl <|
      Lex.nil) ?_
  refine run_seq ?_
  refine run_region (q_move .n (.t rfl) rfl <|
      q_move .n (.t rfl) rfl <|
      q_len .n (.t rfl) rfl len_map ss_31 rfl <|
      q_sub .n (.t rfl) (.c rfl) (fun _ => by first | omega | assumption | (simp only [List.length_append, List.length_cons, List.length_nil, List.length_replicate, put_len] at * <;> omega)) rfl <|
      q_call0 (full := false) .n .f en_72 (.cons (.t rfl) (.cons (.c rfl) (.cons (.t rfl) .nil))) (.cons (.b (.a (.same rfl))) (.cons (.b (.a (.same rfl))) (.cons (.b (.a (.same rfl))) .nil))) (fun hg => c_impl_within k_ 0 ((list.length : Int) - 1)) rfl (fun h => Bool.noConfusion h) rfl <|
      q_assign .n (.t rfl) rfl <|
      Lex.nil) ?_
  exact run_ret [] (.cons (.t rfl rfl) .nil) rfl trivial rfl

/-! ### impl_onlyNameBytes -/
theorem c_impl_onlyNameBytes (s_ : List UInt8) (hp1 : s_.length ≤ 10) : Con Try.prog 160 [.str s_] [] (.bool (m_impl_onlyNameBytes s_)) ([]) := by
  refine con_intro (out := fun r : Bool => ((.bool r : V), ([] : List (Nat × Option O)))) (r := (m_impl_onlyNameBytes s_)) Try.func160 rfl Try.ntmps160 rfl ?_
  refine run_seq ?_
  refine run_region (q_assign .n (.c rfl) rfl <|
      Lex.nil) ?_
  refine run_seq ?_
  refine run_seq ?_
  refine run_region (q_move .n (.t rfl) rfl <|
      q_len .n (.t rfl) rfl rfl st_9 rfl <|
      q_move .n (.c rfl) rfl <|
      Lex.nil) ?_
  refine run_block ?_
  refine run_LOOP (m_impl_onlyNameBytes_b1 s_) _ _ _ rfl (fun (x1 : Int) => 0 ≤ x1 ∧ x1 ≤ (s_.length : Int)) (fun x1 => 0 ≤ x1 ∧ x1 ≤ (s_.length : Int) ∧ (s_.length : Int) ≤ x1) (fun x1 => ((s_.length : Int) - x1 : Int).toNat) (fun x1 => ⟨[(0, some (true, .str s_)), (6, some (true, .int .i64 (s_.length : Int))), (7, some (true, .int .i64 x1))], []⟩) (fun x1 => ⟨[], []⟩) ⟨by first | omega | assumption | (simp only [List.length_append, List.length_cons, List.length_nil, List.length_replicate, put_len] at * <;> omega), by first | omega | assumption | (simp only [List.length_append, List.length_cons, List.length_nil, List.length_replicate, put_len] at * <;> omega)⟩ (by first | omega | assumption | (simp only [List.length_append, List.length_cons, List.length_nil, List.length_replicate, put_len] at * <;> omega)) (sub_of [] ⟨rfl, rfl, rfl, trivial⟩ trivial rfl) ?_ ?_
  · intro x1 i5
    obtain ⟨e6, e7, e8⟩ := i5
    try dsimp only at *
    refine run_seq ?_
    refine run_region (q_assign .n (.c rfl) rfl <|
        Lex.nil) ?_
    exact run_ret [] (.cons (.t rfl rfl) .nil) rfl trivial rfl
  · intro rec1 k1 hk1 x1 i2
    obtain ⟨e9, e10⟩ := i2
    try dsimp only at *
    refine run_seq ?_
    refine run_region (q_int .n (.t rfl) (.t rfl) rfl rfl <|
        Lex.nil) ?_
    refine run_seq ?_
    refine run_cond (.t rfl) rfl (fun h3 => ?_) (fun h3 => ?_)
    · try simp only [Bool.and_eq_true, Bool.or_eq_true, Bool.not_eq_true', Bool.and_eq_false_iff, Bool.or_eq_false_iff, Bool.not_eq_false', decide_eq_true_eq, decide_eq_false_iff_not, beq_iff_eq, bne_iff_ne, beq_eq_false_iff_ne, bne_eq_false_iff_eq, Bool.true_and, ne_eq, Decidable.not_not, Int.not_lt, Int.not_le, Nat.not_lt, Nat.not_le, strB_nil, strB_nil', strB_nnil, strB_nnil'] at h3
      refine run_skip ?_
      refine run_seq ?_
      refine run_block ?_
      refine run_seq ?_
      refine run_region (q_move .n (.t rfl) rfl <|
          q_assign .n (.t rfl) rfl <|
          Lex.nil) ?_
      refine run_seq ?_
      refine run_region (q_move .n (.t rfl) rfl <|
          q_move .n (.t rfl) rfl <|
          q_strat .n (.t rfl) (.t rfl) st_9 (fun _ => by first | omega | assumption | (simp only [List.length_append, List.length_cons, List.length_nil, List.length_replicate, put_len] at * <;> omega)) rfl <|
          q_assign .n (.t rfl) rfl <|
          Lex.nil) ?_
      refine run_seq ?_
      refine run_region (q_move .n (.t rfl) rfl <|
          q_int .n (.t rfl) (.c rfl) rfl rfl <|
          q_move .n (.t rfl) rfl <|
          q_move (.f rfl rfl) (.t rfl) rfl <|
          q_int (.f rfl rfl) (.u rfl id) (.c rfl) rfl rfl <|
          q_or .n (.t rfl) (.u rfl id) rfl <|
          q_move .n (.t rfl) rfl <|
          q_move (.t rfl rfl) (.t rfl) rfl <|
          q_int (.t rfl rfl) (.u rfl id) (.c rfl) rfl rfl <|
          q_move (.t rfl rfl) (.u rfl id) rfl <|
          q_move (.f rfl rfl) (.t rfl) rfl <|
          q_int (.f rfl rfl) (.u rfl id) (.c rfl) rfl rfl <|
          q_or (.t rfl rfl) (.u rfl id) (.u rfl id) rfl <|
          q_and .n (.t rfl) (.u rfl id) rfl <|
          Lex.nil) ?_
      refine run_cond (.t rfl) rfl (fun h4 => ?_) (fun h4 => ?_)
      · try simp only [Bool.and_eq_true, Bool.or_eq_true, Bool.not_eq_true', Bool.and_eq_false_iff, Bool.or_eq_false_iff, Bool.not_eq_false', decide_eq_true_eq, decide_eq_false_iff_not, beq_iff_eq, bne_iff_ne, beq_eq_false_iff_ne, bne_eq_false_iff_eq, Bool.true_and, ne_eq, Decidable.not_not, Int.not_lt, Int.not_le, Nat.not_lt, Nat.not_le, strB_nil, strB_nil', strB_nnil, strB_nnil'] at h4
        refine run_seq ?_
        refine run_region (q_assign .n (.c rfl) rfl <|
            Lex.nil) ?_
        exact run_ret [] (.cons (.t rfl rfl) .nil) rfl trivial rfl
      · try simp only [Bool.and_eq_true, Bool.or_eq_true, Bool.not_eq_true', Bool.and_eq_false_iff, Bool.or_eq_false_iff, Bool.not_eq_false', decide_eq_true_eq, decide_eq_false_iff_not, beq_iff_eq, bne_iff_ne, beq_eq_false_iff_ne, bne_eq_false_iff_eq, Bool.true_and, ne_eq, Decidable.not_not, Int.not_lt, Int.not_le, Nat.not_lt, Nat.not_le, strB_nil, strB_nil', strB_nnil, strB_nnil'] at h4
        refine run_skip ?_
        refine run_endB ?_
        refine run_region (q_add .n (.t rfl) (.c rfl) (fun _ => by first | omega | assumption | (simp only [List.length_append, List.length_cons, List.length_nil, List.length_replicate, put_len] at * <;> omega)) rfl <|
            q_move .n (.t rfl) rfl <|
            Lex.nil) ?_
        exact run_again (x1 + 1) ⟨by first | omega | assumption | (simp only [List.length_append, List.length_cons, List.length_nil, List.length_replicate, put_len] at * <;> omega), by first | omega | assumption | (simp only [List.length_append, List.length_cons, List.length_nil, List.length_replicate, put_len] at * <;> omega)⟩ (by first | omega | assumption | (simp only [List.length_append, List.length_cons, List.length_nil, List.length_replicate, put_len] at * <;> omega)) (sub_of [] ⟨rfl, rfl, rfl, trivial⟩ trivial rfl)
    · try simp only [Bool.and_eq_true, Bool.or_eq_true, Bool.not_eq_true', Bool.and_eq_false_iff, Bool.or_eq_false_iff, Bool.not_eq_false', decide_eq_true_eq, decide_eq_false_iff_not, beq_iff_eq, bne_iff_ne, beq_eq_false_iff_ne, bne_eq_false_iff_eq, Bool.true_and, ne_eq, Decidable.not_not, Int.not_lt, Int.not_le, Nat.not_lt, Nat.not_le, strB_nil, strB_nil', strB_nnil, strB_nnil'] at h3
      refine run_exit rfl ?_
      exact run_cont hk1 x1 ⟨by first | omega | assumption | (simp only [List.length_append, List.length_cons, List.length_nil, List.length_replicate, put_len] at * <;> omega), by first | omega | assumption | (simp only [List.length_append, List.length_cons, List.length_nil, List.length_replicate, put_len] at * <;> omega), by first | omega | assumption | (simp only [List.length_append, List.length_cons, List.length_nil, List.length_replicate, put_len] at * <;> omega)⟩ (sub_of [] trivial trivial rfl)

/-! ### impl_IsName -/
theorem c_impl_IsName (s_ : List UInt8) : Con Try.prog 151 [.str s_] [] (.bool (m_impl_IsName s_)) ([]) := by
  refine con_intro (out := fun r : Bool => ((.bool r : V), ([] : List (Nat × Option O)))) (r := (m_impl_IsName s_)) Try.func151 rfl Try.ntmps151 rfl ?_
  refine run_seq ?_
  refine run_region (q_assign .n (.c rfl) rfl <|
      Lex.nil) ?_
  refine run_seq ?_
  refine run_seq ?_
  refine run_region (q_move .n (.t rfl) rfl <|
      q_len .n (.t rfl) rfl rfl st_9 rfl <|
      q_int .n (.t rfl) (.c rfl) rfl rfl <|
      q_move .n (.t rfl) rfl <|
      q_move (.f rfl rfl) (.t rfl) rfl <|
      q_len (.f rfl rfl) (.u rfl id) rfl rfl st_9 rfl <|
      q_int (.f rfl rfl) (.u rfl id) (.c rfl) rfl rfl <|
      q_or .n (.t rfl) (.u rfl id) rfl <|
      q_move .n (.t rfl) rfl <|
      q_move (.f rfl rfl) (.t rfl) rfl <|
      q_strat (.f rfl rfl) (.u rfl id) (.c rfl) st_9 (fun hg => by simp only [Bool.and_eq_true, Bool.or_eq_true, Bool.not_eq_true', Bool.and_eq_false_iff, Bool.or_eq_false_iff, Bool.not_eq_false', decide_eq_true_eq, decide_eq_false_iff_not, beq_iff_eq, bne_iff_ne, beq_eq_false_iff_ne, bne_eq_false_iff_eq, Bool.true_and, ne_eq, Decidable.not_not, Int.not_lt, Int.not_le, Nat.not_lt, Nat.not_le, strB_nil, strB_nil', strB_nnil, strB_nnil'] at hg; first | omega | assumption | (simp only [List.length_append, List.length_cons, List.length_nil, List.length_replicate, put_len] at * <;> omega)) rfl <|
      q_int (.f rfl rfl) (.u rfl id) (.c rfl) rfl rfl <|
      q_or .n (.t rfl) (.u rfl id) rfl <|
      q_move .n (.t rfl) rfl <|
      q_move (.f rfl rfl) (.t rfl) rfl <|
      q_strat (.f rfl rfl) (.u rfl id) (.c rfl) st_9 (fun hg => by simp only [Bool.and_eq_true, Bool.or_eq_true, Bool.not_eq_true', Bool.and_eq_false_iff, Bool.or_eq_false_iff, Bool.not_eq_false', decide_eq_true_eq, decide_eq_false_iff_not, beq_iff_eq, bne_iff_ne, beq_eq_false_iff_ne, bne_eq_false_iff_eq, Bool.true_and, ne_eq, Decidable.not_not, Int.not_lt, Int.not_le, Nat.not_lt, Nat.not_le, strB_nil, strB_nil', strB_nnil, strB_nnil'] at hg; first | omega | assumption | (simp only [List.length_append, List.length_cons, List.length_nil, List.length_replicate, put_len] at * <;> omega)) rfl <|
      q_int (.f rfl rfl) (.u rfl id) (.c rfl) rfl rfl <|
      q_or .n (.t rfl) (.u rfl id) rfl <|
      Lex.nil) ?_
  refine run_cond (.t rfl) rfl (fun h1 => ?_) (fun h1 => ?_)
  · try simp only [Bool.and_eq_true, Bool.or_eq_true, Bool.not_eq_true', Bool.and_eq_false_iff, Bool.or_eq_false_iff, Bool.not_eq_false', decide_eq_true_eq, decide_eq_false_iff_not, beq_iff_eq, bne_iff_ne, beq_eq_false_iff_ne, bne_eq_false_iff_eq, Bool.true_and, ne_eq, Decidable.not_not, Int.not_lt, Int.not_le, Nat.not_lt, Nat.not_le, strB_nil, strB_nil', strB_nnil, strB_nnil'] at h1
    refine run_seq ?_
    refine run_region (q_assign .n (.c rfl) rfl <|
        Lex.nil) ?_
    exact run_ret [] (.cons (.t rfl rfl) .nil) rfl trivial rfl
  · try simp only [Bool.and_eq_true, Bool.or_eq_true, Bool.not_eq_true', Bool.and_eq_false_iff, Bool.or_eq_false_iff, Bool.not_eq_false', decide_eq_true_eq, decide_eq_false_iff_not, beq_iff_eq, bne_iff_ne, beq_eq_false_iff_ne, bne_eq_false_iff_eq, Bool.true_and, ne_eq, Decidable.not_not, Int.not_lt, Int.not_le, Nat.not_lt, Nat.not_le, strB_nil, strB_nil', strB_nnil, strB_nnil'] at h1
    refine run_skip ?_
    refine run_seq ?_
    refine run_region (q_move .n (.t rfl) rfl <|
        q_call0 (full := false) .n .f en_160 (.cons (.t rfl) .nil) (.cons (.b (.a (.same rfl))) .nil) (fun hg => c_impl_onlyNameBytes s_ (by first | omega | assumption | (simp only [List.length_append, List.length_cons, List.length_nil, List.length_replicate, put_len] at * <;> omega))) rfl (fun h => Bool.noConfusion h) rfl <|
        q_assign .n (.t rfl) rfl <|
        Lex.nil) ?_
    exact run_ret [] (.cons (.t rfl rfl) .nil) rfl trivial rfl

/-! ### impl_junctionOk -/
theorem c_impl_junctionOk (n_ : Int) : Con Try.prog 158 [.int .i64 n_] [] (.bool (m_impl_junctionOk n_)) ([]) := by
  refine con_intro (out := fun r : Bool => ((.bool r : V), ([] : List (Nat × Option O)))) (r := (m_impl_junctionOk n_)) Try.func158 rfl Try.ntmps158 rfl ?_
  refine run_seq ?_
  refine run_region (q_assign .n (.c rfl) rfl <|
      Lex.nil) ?_
  refine run_seq ?_
  refine run_region (q_move .n (.t rfl) rfl <|
      q_call0 (full := false) .n .f en_72 (.cons (.t rfl) (.cons (.c rfl) (.cons (.c rfl) .nil))) (.cons (.b (.a (.same rfl))) (.cons (.b (.a (.same rfl))) (.cons (.b (.a (.same rfl))) .nil))) (fun hg => c_impl_within n_ 0 15) rfl (fun h => Bool.noConfusion h) rfl <|
      q_assign .n (.t rfl) rfl <|
      Lex.nil) ?_
  exact run_ret [] (.cons (.t rfl rfl) .nil) rfl trivial rfl

/-! ### impl_ValidAirway -/
theorem c_impl_ValidAirway (a : gAirway) : Con Try.prog 149 [.st [.str a.Id, .int .i64 a.From, .int .i64 a.To, .int .i64 a.Length, .int .i64 a.Section, .int .i64 a.Friction, .int .i64 a.Shock]] [] (.bool (m_impl_ValidAirway a)) ([]) := by
  refine con_intro (out := fun r : Bool => ((.bool r : V), ([] : List (Nat × Option O)))) (r := (m_impl_ValidAirway a)) Try.func149 rfl Try.ntmps149 rfl ?_
  refine run_seq ?_
  refine run_region (q_box (l := 200) .n rfl (.t rfl) rfl rfl rfl rfl <|
      q_assign .n (.c rfl) rfl <|
      Lex.nil) ?_
  refine run_seq ?_
  refine run_region (q_fld_ow .n (.t rfl) fo_105_0 rfl <|
      q_ld1_ow .n (.t rfl) rfl (.inr rfl) (fun _ => rfl) rfl ic_9 rfl <|
      q_call0 (full := false) .n .f en_151 (.cons (.t rfl) .nil) (.cons (.b (.a (.same rfl))) .nil) (fun hg => c_impl_IsName a.Id) rfl (fun h => Bool.noConfusion h) rfl <|
      q_move .n (.t rfl) rfl <|
      q_fld_ow (.t rfl rfl) (.t rfl) fo_105_1 rfl <|
      q_ld1_ow (.t rfl rfl) (.u rfl id) rfl (.inr rfl) (fun _ => rfl) rfl ic_2 rfl <|
      q_call0 (full := false) (.t rfl rfl) .f en_158 (.cons (.u rfl id) .nil) (.cons (.b (.a (.same rfl))) .nil) (fun hg => c_impl_junctionOk a.From) rfl (fun h => Bool.noConfusion h) rfl <|
      q_and .n (.t rfl) (.u rfl id) rfl <|
      q_move .n (.t rfl) rfl <|
      q_fld_ow (.t rfl rfl) (.t rfl) fo_105_2 rfl <|
      q_ld1_ow (.t rfl rfl) (.u rfl id) rfl (.inr rfl) (fun _ => rfl) rfl ic_2 rfl <|
      q_call0 (full := false) (.t rfl rfl) .f en_158 (.cons (.u rfl id) .nil) (.cons (.b (.a (.same rfl))) .nil) (fun hg => c_impl_junctionOk a.To) rfl (fun h => Bool.noConfusion h) rfl <|
      q_and .n (.t rfl) (.u rfl id) rfl <|
      q_move .n (.t rfl) rfl <|
      q_fld_ow (.t rfl rfl) (.t rfl) fo_105_1 rfl <|
      q_ld1_ow (.t rfl rfl) (.u rfl id) rfl (.inr rfl) (fun _ => rfl) rfl ic_2 rfl <|
      q_fld_ow (.t rfl rfl) (.t rfl) fo_105_2 rfl <|
      q_ld1_ow (.t rfl rfl) (.u rfl id) rfl (.inr rfl) (fun _ => rfl) rfl ic_2 rfl <|
      q_int (.t rfl rfl) (.u rfl id) (.u rfl id) rfl rfl <|
      q_and .n (.t rfl) (.u rfl id) rfl <|
      q_move .n (.t rfl) rfl <|
      q_fld_ow (.t rfl rfl) (.t rfl) fo_105_3 rfl <|
      q_ld1_ow (.t rfl rfl) (.u rfl id) rfl (.inr rfl) (fun _ => rfl) rfl ic_2 rfl <|
      q_call0 (full := false) (.t rfl rfl) .f en_72 (.cons (.u rfl id) (.cons (.c rfl) (.cons (.c rfl) .nil))) (.cons (.b (.a (.same rfl))) (.cons (.b (.a (.same rfl))) (.cons (.b (.a (.same rfl))) .nil))) (fun hg => c_impl_within a.Length 1 10000) rfl (fun h => Bool.noConfusion h) rfl <|
      q_and .n (.t rfl) (.u rfl id) rfl <|
      q_move .n (.t rfl) rfl <|
      q_fld_ow (.t rfl rfl) (.t rfl) fo_105_4 rfl <|
      q_ld1_ow (.t rfl rfl) (.u rfl id) rfl (.inr rfl) (fun _ => rfl) rfl ic_2 rfl <|
      q_call0 (full := false) (.t rfl rfl) .f en_72 (.cons (.u rfl id) (.cons (.c rfl) (.cons (.c rfl) .nil))) (.cons (.b (.a (.same rfl))) (.cons (.b (.a (.same rfl))) (.cons (.b (.a (.same rfl))) .nil))) (fun hg => c_impl_within a.Section 50 5000) rfl (fun h => Bool.noConfusion h) rfl <|
      q_and .n (.t rfl) (.u rfl id) rfl <|
      q_move .n (.t rfl) rfl <|
      q_fld_ow (.t rfl rfl) (.t rfl) fo_105_5 rfl <|
      q_ld1_ow (.t rfl rfl) (.u rfl id) rfl (.inr rfl) (fun _ => rfl) rfl ic_2 rfl <|
      q_call0 (full := false) (.t rfl rfl) .f en_72 (.cons (.u rfl id) (.cons (.c rfl) (.cons (.c rfl) .nil))) (.cons (.b (.a (.same rfl))) (.cons (.b (.a (.same rfl))) (.cons (.b (.a (.same rfl))) .nil))) (fun hg => c_impl_within a.Friction 1 1000) rfl (fun h => Bool.noConfusion h) rfl <|
      q_and .n (.t rfl) (.u rfl id) rfl <|
      q_move .n (.t rfl) rfl <|
      q_fld_ow (.t rfl rfl) (.t rfl) fo_105_6 rfl <|
      q_ld1_ow (.t rfl rfl) (.u rfl id) rfl (.inr rfl) (fun _ => rfl) rfl ic_2 rfl <|
      q_call0 (full := false) (.t rfl rfl) .f en_72 (.cons (.u rfl id) (.cons (.c rfl) (.cons (.c rfl) .nil))) (.cons (.b (.a (.same rfl))) (.cons (.b (.a (.same rfl))) (.cons (.b (.a (.same rfl))) .nil))) (fun hg => c_impl_within a.Shock 0 1000) rfl (fun h => Bool.noConfusion h) rfl <|
      q_and .n (.t rfl) (.u rfl id) rfl <|
      q_assign .n (.t rfl) rfl <|
      Lex.nil) ?_
  exact run_ret [] (.cons (.t rfl rfl) .nil) rfl trivial rfl

/-! ### impl_Mine_hasJunction -/
theorem c_impl_Mine_hasJunction (m_ : gMine) (n_ : Int) : Con Try.prog 159 [.st [.int .i64 m_.Junctions, .sl 7 (m_.Airways.map gAirway.v)], .int .i64 n_] [] (.bool (m_impl_Mine_hasJunction m_ n_)) ([]) := by
  refine con_intro (out := fun r : Bool => ((.bool r : V), ([] : List (Nat × Option O)))) (r := (m_impl_Mine_hasJunction m_ n_)) Try.func159 rfl Try.ntmps159 rfl ?_
  refine run_factS (t := 0) 1 rfl rfl fun hl => ?_
  have l1 := hl; clear hl; simp only [List.length_map] at l1
  refine run_seq ?_
  refine run_region (q_box (l := 200) .n rfl (.t rfl) rfl rfl rfl rfl <|
      q_assign .n (.c rfl) rfl <|
      Lex.nil) ?_
  refine run_seq ?_
  refine run_region (q_move .n (.t rfl) rfl <|
      q_fld_ow .n (.t rfl) fo_33_0 rfl <|
      q_ld1_ow .n (.t rfl) rfl (.inr rfl) (fun _ => rfl) rfl ic_2 rfl <|
      q_int .n (.t rfl) (.c rfl) rfl rfl <|
      q_call0 (full := false) .n .f en_72 (.cons (.t rfl) (.cons (.c rfl) (.cons (.t rfl) .nil))) (.cons (.b (.a (.same rfl))) (.cons (.b (.a (.same rfl))) (.cons (.b (.a (.same rfl))) .nil))) (fun hg => c_impl_within n_ 0 (IntKind.wrap .i64 (m_.Junctions - 1))) rfl (fun h => Bool.noConfusion h) rfl <|
      q_assign .n (.t rfl) rfl <|
      Lex.nil) ?_
  exact run_ret [] (.cons (.t rfl rfl) .nil) rfl trivial rfl

/-! ### impl_Mine_hasEnds -/
theorem c_impl_Mine_hasEnds (m_ : gMine) (a : gAirway) : Con Try.prog 150 [.st [.int .i64 m_.Junctions, .sl 7 (m_.Airways.map gAirway.v)], .st [.str a.Id, .int .i64 a.From, .int .i64 a.To, .int .i64 a.Length, .int .i64 a.Section, .int .i64 a.Friction, .int .i64 a.Shock]] [] (.bool (m_impl_Mine_hasEnds m_ a)) ([]) := by
  refine con_intro (out := fun r : Bool => ((.bool r : V), ([] : List (Nat × Option O)))) (r := (m_impl_Mine_hasEnds m_ a)) Try.func150 rfl Try.ntmps150 rfl ?_
  refine run_factS (t := 0) 1 rfl rfl fun hl => ?_
  have l1 := hl; clear hl; simp only [List.length_map] at l1
  refine run_seq ?_
  refine run_region (q_box (l := 200) .n rfl (.t rfl) rfl rfl rfl rfl <|
      q_box (l := 201) .n rfl (.t rfl) rfl rfl rfl rfl <|
      q_assign .n (.c rfl) rfl <|
      Lex.nil) ?_
  refine run_seq ?_
  refine run_region (q_ldN_ow .n (.t rfl) rfl (.inr rfl) ag_33 (fun _ => rfl) rfl rfl <|
      q_fld_ow .n (.t rfl) fo_105_1 rfl <|
      q_ld1_ow .n (.t rfl) rfl (.inr rfl) (fun _ => rfl) rfl ic_2 rfl <|
      q_call0 (full := false) .n .f en_159 (.cons (.t rfl) (.cons (.t rfl) .nil)) (.cons (.sts rfl) (.cons (.b (.a (.same rfl))) .nil)) (fun hg => c_impl_Mine_hasJunction m_ a.From) rfl (fun h => Bool.noConfusion h) rfl <|
      q_move .n (.t rfl) rfl <|
      q_ldN_ow (.t rfl rfl) (.t rfl) rfl (.inr rfl) ag_33 (fun _ => rfl) rfl rfl <|
      q_fld_ow (.t rfl rfl) (.t rfl) fo_105_2 rfl <|
      q_ld1_ow (.t rfl rfl) (.u rfl id) rfl (.inr rfl) (fun _ => rfl) rfl ic_2 rfl <|
      q_call0 (full := false) (.t rfl rfl) .f en_159 (.cons (.u rfl id) (.cons (.u rfl id) .nil)) (.cons (.sts rfl) (.cons (.b (.a (.same rfl))) .nil)) (fun hg => c_impl_Mine_hasJunction m_ a.To) rfl (fun h => Bool.noConfusion h) rfl <|
      q_and .n (.t rfl) (.u rfl id) rfl <|
      q_assign .n (.t rfl) rfl <|
      Lex.nil) ?_
  exact run_ret [] (.cons (.t rfl rfl) .nil) rfl trivial rfl

/-! ### impl_ValidMine -/
theorem c_impl_ValidMine (m_ : gMine) : Con Try.prog 138 [.st [.int .i64 m_.Junctions, .sl 7 (m_.Airways.map gAirway.v)]] [] (.bool (m_impl_ValidMine m_)) ([]) := by
  refine con_intro (out := fun r : Bool => ((.bool r : V), ([] : List (Nat × Option O)))) (r := (m_impl_ValidMine m_)) Try.func138 rfl Try.ntmps138 rfl ?_
  refine run_factS (t := 0) 1 rfl rfl fun hl => ?_
  have l1 := hl; clear hl; simp only [List.length_map] at l1
  refine run_seq ?_
  refine run_region (q_box (l := 200) .n rfl (.t rfl) rfl rfl rfl rfl <|
      q_assign .n (.c rfl) rfl <|
      Lex.nil) ?_
  refine run_seq ?_
  refine run_seq ?_
  refine run_region (q_fld_ow .n (.t rfl) fo_33_0 rfl <|
      q_ld1_ow .n (.t rfl) rfl (.inr rfl) (fun _ => rfl) rfl ic_2 rfl <|
      q_call0 (full := false) .n .f en_72 (.cons (.t rfl) (.cons (.c rfl) (.cons (.c rfl) .nil))) (.cons (.b (.a (.same rfl))) (.cons (.b (.a (.same rfl))) (.cons (.b (.a (.same rfl))) .nil))) (fun hg => c_impl_within m_.Junctions 1 16) rfl (fun h => Bool.noConfusion h) rfl <|
      q_not .n (.t rfl) rfl <|
      q_move .n (.t rfl) rfl <|
      q_fld_ow (.f rfl rfl) (.t rfl) fo_33_1 rfl <|
      q_ld1_ow (.f rfl rfl) (.u rfl id) rfl (.inr rfl) (fun _ => rfl) rfl ic_31 rfl <|
      q_len (.f rfl rfl) (.u rfl id) rfl len_map ss_31 rfl <|
      q_int (.f rfl rfl) (.u rfl id) (.c rfl) rfl rfl <|
      q_or .n (.t rfl) (.u rfl id) rfl <|
      Lex.nil) ?_
  refine run_cond (.t rfl) rfl (fun h2 => ?_) (fun h2 => ?_)
  · try simp only [Bool.and_eq_true, Bool.or_eq_true, Bool.not_eq_true', Bool.and_eq_false_iff, Bool.or_eq_false_iff, Bool.not_eq_false', decide_eq_true_eq, decide_eq_false_iff_not, beq_iff_eq, bne_iff_ne, beq_eq_false_iff_ne, bne_eq_false_iff_eq, Bool.true_and, ne_eq, Decidable.not_not, Int.not_lt, Int.not_le, Nat.not_lt, Nat.not_le, strB_nil, strB_nil', strB_nnil, strB_nnil'] at h2
    try have hf0h2 := within_imp h2
    try have hf1h2 := within_imp h2.1
    try have hf2h2 := within_imp h2.2
    try have hf3h2 := within_imp h2.1.1
    try have hf4h2 := within_imp h2.1.2
    try have hf5h2 := within_imp h2.2.1
    try have hf6h2 := within_imp h2.2.2
    refine run_seq ?_
    refine run_region (q_assign .n (.c rfl) rfl <|
        Lex.nil) ?_
    exact run_ret [] (.cons (.t rfl rfl) .nil) rfl trivial rfl
  · try simp only [Bool.and_eq_true, Bool.or_eq_true, Bool.not_eq_true', Bool.and_eq_false_iff, Bool.or_eq_false_iff, Bool.not_eq_false', decide_eq_true_eq, decide_eq_false_iff_not, beq_iff_eq, bne_iff_ne, beq_eq_false_iff_ne, bne_eq_false_iff_eq, Bool.true_and, ne_eq, Decidable.not_not, Int.not_lt, Int.not_le, Nat.not_lt, Nat.not_le, strB_nil, strB_nil', strB_nnil, strB_nnil'] at h2
    try have hf0h2 := within_imp h2
    try have hf1h2 := within_imp h2.1
    try have hf2h2 := within_imp h2.2
    try have hf3h2 := within_imp h2.1.1
    try have hf4h2 := within_imp h2.1.2
    try have hf5h2 := within_imp h2.2.1
    try have hf6h2 := within_imp h2.2.2
    refine run_skip ?_
    refine run_seq ?_
    refine run_seq ?_
    refine run_region (q_fld_ow .n (.t rfl) fo_33_1 rfl <|
        q_ld1_ow .n (.t rfl) rfl (.inr rfl) (fun _ => rfl) rfl ic_31 rfl <|
        q_len .n (.t rfl) rfl len_map ss_31 rfl <|
        q_move .n (.c rfl) rfl <|
        Lex.nil) ?_
    refine run_block ?_
    refine run_LOOP (m_impl_ValidMine_b1 m_) _ _ _ rfl (fun (x1 : Int) => 0 ≤ x1 ∧ x1 ≤ (m_.Airways.length : Int)) (fun x1 => 0 ≤ x1 ∧ x1 ≤ (m_.Airways.length : Int) ∧ (m_.Airways.length : Int) ≤ x1) (fun x1 => ((m_.Airways.length : Int) - x1 : Int).toNat) (fun x1 => ⟨[(1, some (true, .op 200 0 0 0)), (16, some (true, .sl 7 (m_.Airways.map gAirway.v))), (17, some (true, .int .i64 (m_.Airways.length : Int))), (18, some (true, .int .i64 x1))], [(200, some (.box 33 [.int .i64 m_.Junctions, .sl 7 (m_.Airways.map gAirway.v)]))]⟩) (fun x1 => ⟨[], []⟩) ⟨by first | omega | assumption | (simp only [List.length_append, List.length_cons, List.length_nil, List.length_replicate, put_len] at * <;> omega), by first | omega | assumption | (simp only [List.length_append, List.length_cons, List.length_nil, List.length_replicate, put_len] at * <;> omega)⟩ (by first | omega | assumption | (simp only [List.length_append, List.length_cons, List.length_nil, List.length_replicate, put_len] at * <;> omega)) (sub_of [] ⟨rfl, rfl, rfl, rfl, trivial⟩ ⟨rfl, trivial⟩ rfl) ?_ ?_
    · intro x1 i7
      obtain ⟨e8, e9, e10⟩ := i7
      try dsimp only at *
      refine run_seq ?_
      refine run_region (q_assign .n (.c rfl) rfl <|
          Lex.nil) ?_
      exact run_ret [] (.cons (.t rfl rfl) .nil) rfl trivial rfl
    · intro rec1 k1 hk3 x1 i4
      obtain ⟨e11, e12⟩ := i4
      try dsimp only at *
      refine run_seq ?_
      refine run_region (q_int .n (.t rfl) (.t rfl) rfl rfl <|
          Lex.nil) ?_
      refine run_seq ?_
      refine run_cond (.t rfl) rfl (fun h5 => ?_) (fun h5 => ?_)
      · try simp only [Bool.and_eq_true, Bool.or_eq_true, Bool.not_eq_true', Bool.and_eq_false_iff, Bool.or_eq_false_iff, Bool.not_eq_false', decide_eq_true_eq, decide_eq_false_iff_not, beq_iff_eq, bne_iff_ne, beq_eq_false_iff_ne, bne_eq_false_iff_eq, Bool.true_and, ne_eq, Decidable.not_not, Int.not_lt, Int.not_le, Nat.not_lt, Nat.not_le, strB_nil, strB_nil', strB_nnil, strB_nnil'] at h5
        refine run_skip ?_
        refine run_seq ?_
        refine run_block ?_
        refine run_seq ?_
        refine run_region (q_move .n (.t rfl) rfl <|
            q_idx_rm .n (.t rfl) (.t rfl) sl_31 (fun _ => by first | omega | assumption | (simp only [List.length_append, List.length_cons, List.length_nil, List.length_replicate, put_len] at * <;> omega)) rfl <|
            q_ldN_ro .n (.t rfl) ag_105 rfl rfl rfl <|
            q_alloc (l := 201) .n rfl zv_105 rfl rfl <|
            q_assign .n (.t rfl) rfl <|
            q_st_boxm [.str (at' m_.Airways x1).Id, .int .i64 (at' m_.Airways x1).From, .int .i64 (at' m_.Airways x1).To, .int .i64 (at' m_.Airways x1).Length, .int .i64 (at' m_.Airways x1).Section, .int .i64 (at' m_.Airways x1).Friction, .int .i64 (at' m_.Airways x1).Shock] .n rfl (.t rfl) (.t rfl) rfl ts_105 rfl rfl <|
            Lex.nil) ?_
        refine run_seq ?_
        refine run_draw fmo (q_ldN_ow .n (.t rfl) rfl (.inr rfl) ag_105 (fun _ => rfl) rfl rfl <|
            q_call0 (full := false) .n .f en_149 (.cons (.t rfl) .nil) (.cons (.sts rfl) .nil) (fun hg => c_impl_ValidAirway (at' m_.Airways x1)) rfl (fun h => Bool.noConfusion h) rfl <|
            q_not .n (.t rfl) rfl <|
            q_move .n (.t rfl) rfl <|
            q_ldN_ow (.f rfl rfl) (.t rfl) rfl (.inr rfl) ag_33 (fun _ => rfl) rfl rfl <|
            q_ldN_ow (.f rfl rfl) (.t rfl) rfl (.inr rfl) ag_105 (fun _ => rfl) rfl rfl <|
            q_call0 (full := false) (.f rfl rfl) .f en_150 (.cons (.u rfl id) (.cons (.u rfl id) .nil)) (.cons (.sts rfl) (.cons (.sts rfl) .nil)) (fun hg => c_impl_Mine_hasEnds m_ (at' m_.Airways x1)) rfl (fun h => Bool.noConfusion h) rfl <|
            q_not (.f rfl rfl) (.u rfl id) rfl <|
            q_or .n (.t rfl) (.u rfl id) rfl <|
            q_move .n (.t rfl) rfl <|
            q_move (.f rfl rfl) (.t rfl) rfl <|
            q_int (.f rfl rfl) (.u rfl id) (.c rfl) rfl rfl <|
            q_move (.f rfl rfl) (.u rfl id) rfl <|
            q_fld_ow (.t rfl rfl) (.t rfl) fo_105_0 rfl <|
            q_ld1_ow (.t rfl rfl) (.u rfl id) rfl (.inr rfl) (fun _ => rfl) rfl ic_9 rfl <|
            q_fld_ow (.t rfl rfl) (.t rfl) fo_33_1 rfl <|
            q_ld1_ow (.t rfl rfl) (.u rfl id) rfl (.inr rfl) (fun _ => rfl) rfl ic_31 rfl <|
            q_move (.t rfl rfl) (.t rfl) rfl <|
            q_sub (.t rfl rfl) (.u rfl id) (.c rfl) (fun hg => by simp only [Bool.and_eq_true, Bool.or_eq_true, Bool.not_eq_true', Bool.and_eq_false_iff, Bool.or_eq_false_iff, Bool.not_eq_false', decide_eq_true_eq, decide_eq_false_iff_not, beq_iff_eq, bne_iff_ne, beq_eq_false_iff_ne, bne_eq_false_iff_eq, Bool.true_and, ne_eq, Decidable.not_not, Int.not_lt, Int.not_le, Nat.not_lt, Nat.not_le, strB_nil, strB_nil', strB_nnil, strB_nnil'] at hg; first | omega | assumption | (simp only [List.length_append, List.length_cons, List.length_nil, List.length_replicate, put_len] at * <;> omega)) rfl <|
            q_idx_rm (.t rfl rfl) (.u rfl id) (.u rfl id) sl_31 (fun hg => by simp only [Bool.and_eq_true, Bool.or_eq_true, Bool.not_eq_true', Bool.and_eq_false_iff, Bool.or_eq_false_iff, Bool.not_eq_false', decide_eq_true_eq, decide_eq_false_iff_not, beq_iff_eq, bne_iff_ne, beq_eq_false_iff_ne, bne_eq_false_iff_eq, Bool.true_and, ne_eq, Decidable.not_not, Int.not_lt, Int.not_le, Nat.not_lt, Nat.not_le, strB_nil, strB_nil', strB_nnil, strB_nnil'] at hg; first | omega | assumption | (simp only [List.length_append, List.length_cons, List.length_nil, List.length_replicate, put_len] at * <;> omega)) rfl <|
            q_fld_ro (.t rfl rfl) (.u rfl id) fo_105_0 rfl <|
            q_ld1_ro (.t rfl rfl) (.u rfl id) rfl ic_9 rfl <|
            q_strcmp (.t rfl rfl) (.u rfl id) (.u rfl id) rfl rfl <|
            q_and (.f rfl rfl) (.u rfl id) (.u rfl id) rfl <|
            q_or .n (.t rfl) (.u rfl id) rfl <|
            Lex.nil) (by kernel_rfl) ?_
        refine run_cond (.t rfl) rfl (fun h6 => ?_) (fun h6 => ?_)
        · try simp only [Bool.and_eq_true, Bool.or_eq_true, Bool.not_eq_true', Bool.and_eq_false_iff, Bool.or_eq_false_iff, Bool.not_eq_false', decide_eq_true_eq, decide_eq_false_iff_not, beq_iff_eq, bne_iff_ne, beq_eq_false_iff_ne, bne_eq_false_iff_eq, Bool.true_and, ne_eq, Decidable.not_not, Int.not_lt, Int.not_le, Nat.not_lt, Nat.not_le, strB_nil, strB_nil', strB_nnil, strB_nnil'] at h6
          refine run_seq ?_
          refine run_region (q_assign .n (.c rfl) rfl <|
              Lex.nil) ?_
          exact run_ret [] (.cons (.t rfl rfl) .nil) rfl trivial rfl
        · try simp only [Bool.and_eq_true, Bool.or_eq_true, Bool.not_eq_true', Bool.and_eq_false_iff, Bool.or_eq_false_iff, Bool.not_eq_false', decide_eq_true_eq, decide_eq_false_iff_not, beq_iff_eq, bne_iff_ne, beq_eq_false_iff_ne, bne_eq_false_iff_eq, Bool.true_and, ne_eq, Decidable.not_not, Int.not_lt, Int.not_le, Nat.not_lt, Nat.not_le, strB_nil, strB_nil', strB_nnil, strB_nnil'] at h6
          refine run_skip ?_
          refine run_endB ?_
          refine run_region (q_add .n (.t rfl) (.c rfl) (fun _ => by first | omega | assumption | (simp only [List.length_append, List.length_cons, List.length_nil, List.length_replicate, put_len] at * <;> omega)) rfl <|
              q_move .n (.t rfl) rfl <|
              Lex.nil) ?_
          exact run_again (x1 + 1) ⟨by first | omega | assumption | (simp only [List.length_append, List.length_cons, List.length_nil, List.length_replicate, put_len] at * <;> omega), by first | omega | assumption | (simp only [List.length_append, List.length_cons, List.length_nil, List.length_replicate, put_len] at * <;> omega)⟩ (by first | omega | assumption | (simp only [List.length_append, List.length_cons, List.length_nil, List.length_replicate, put_len] at * <;> omega)) (sub_of [] ⟨rfl, rfl, rfl, rfl, trivial⟩ ⟨rfl, trivial⟩ rfl)
      · try simp only [Bool.and_eq_true, Bool.or_eq_true, Bool.not_eq_true', Bool.and_eq_false_iff, Bool.or_eq_false_iff, Bool.not_eq_false', decide_eq_true_eq, decide_eq_false_iff_not, beq_iff_eq, bne_iff_ne, beq_eq_false_iff_ne, bne_eq_false_iff_eq, Bool.true_and, ne_eq, Decidable.not_not, Int.not_lt, Int.not_le, Nat.not_lt, Nat.not_le, strB_nil, strB_nil', strB_nnil, strB_nnil'] at h5
        refine run_exit rfl ?_
        exact run_cont hk3 x1 ⟨by first | omega | assumption | (simp only [List.length_append, List.length_cons, List.length_nil, List.length_replicate, put_len] at * <;> omega), by first | omega | assumption | (simp only [List.length_append, List.length_cons, List.length_nil, List.length_replicate, put_len] at * <;> omega), by first | omega | assumption | (simp only [List.length_append, List.length_cons, List.length_nil, List.length_replicate, put_len] at * <;> omega)⟩ (sub_of [] trivial trivial rfl)

/-! ### impl_Fire_valid -/
theorem c_impl_Fire_valid (f : gFire) : Con Try.prog 142 [.st [.int .i64 f.Airway, .int .i64 f.At, .int .i64 f.Start]] [] (.bool (m_impl_Fire_valid f)) ([]) := by
  refine con_intro (out := fun r : Bool => ((.bool r : V), ([] : List (Nat × Option O)))) (r := (m_impl_Fire_valid f)) Try.func142 rfl Try.ntmps142 rfl ?_
  refine run_seq ?_
  refine run_region (q_box (l := 200) .n rfl (.t rfl) rfl rfl rfl rfl <|
      q_assign .n (.c rfl) rfl <|
      Lex.nil) ?_
  refine run_seq ?_
  refine run_region (q_fld_ow .n (.t rfl) fo_52_0 rfl <|
      q_ld1_ow .n (.t rfl) rfl (.inr rfl) (fun _ => rfl) rfl ic_2 rfl <|
      q_call0 (full := false) .n .f en_72 (.cons (.t rfl) (.cons (.c rfl) (.cons (.c rfl) .nil))) (.cons (.b (.a (.same rfl))) (.cons (.b (.a (.same rfl))) (.cons (.b (.a (.same rfl))) .nil))) (fun hg => c_impl_within f.Airway 0 23) rfl (fun h => Bool.noConfusion h) rfl <|
      q_move .n (.t rfl) rfl <|
      q_fld_ow (.t rfl rfl) (.t rfl) fo_52_1 rfl <|
      q_ld1_ow (.t rfl rfl) (.u rfl id) rfl (.inr rfl) (fun _ => rfl) rfl ic_2 rfl <|
      q_call0 (full := false) (.t rfl rfl) .f en_72 (.cons (.u rfl id) (.cons (.c rfl) (.cons (.c rfl) .nil))) (.cons (.b (.a (.same rfl))) (.cons (.b (.a (.same rfl))) (.cons (.b (.a (.same rfl))) .nil))) (fun hg => c_impl_within f.At 0 10000) rfl (fun h => Bool.noConfusion h) rfl <|
      q_and .n (.t rfl) (.u rfl id) rfl <|
      q_move .n (.t rfl) rfl <|
      q_fld_ow (.t rfl rfl) (.t rfl) fo_52_2 rfl <|
      q_ld1_ow (.t rfl rfl) (.u rfl id) rfl (.inr rfl) (fun _ => rfl) rfl ic_2 rfl <|
      q_call0 (full := false) (.t rfl rfl) .f en_72 (.cons (.u rfl id) (.cons (.c rfl) (.cons (.c rfl) .nil))) (.cons (.b (.a (.same rfl))) (.cons (.b (.a (.same rfl))) (.cons (.b (.a (.same rfl))) .nil))) (fun hg => c_impl_within f.Start 0 36000) rfl (fun h => Bool.noConfusion h) rfl <|
      q_and .n (.t rfl) (.u rfl id) rfl <|
      q_assign .n (.t rfl) rfl <|
      Lex.nil) ?_
  exact run_ret [] (.cons (.t rfl rfl) .nil) rfl trivial rfl

/-! ### impl_ValidFire -/
theorem c_impl_ValidFire (m_ : gMine) (f : gFire) : Con Try.prog 120 [.st [.int .i64 m_.Junctions, .sl 7 (m_.Airways.map gAirway.v)], .st [.int .i64 f.Airway, .int .i64 f.At, .int .i64 f.Start]] [] (.bool (m_impl_ValidFire m_ f)) ([]) := by
  refine con_intro (out := fun r : Bool => ((.bool r : V), ([] : List (Nat × Option O)))) (r := (m_impl_ValidFire m_ f)) Try.func120 rfl Try.ntmps120 rfl ?_
  refine run_factS (t := 0) 1 rfl rfl fun hl => ?_
  have l1 := hl; clear hl; simp only [List.length_map] at l1
  refine run_seq ?_
  refine run_region (q_box (l := 200) .n rfl (.t rfl) rfl rfl rfl rfl <|
      q_box (l := 201) .n rfl (.t rfl) rfl rfl rfl rfl <|
      q_assign .n (.c rfl) rfl <|
      Lex.nil) ?_
  refine run_seq ?_
  refine run_draw fmo (q_ldN_ow .n (.t rfl) rfl (.inr rfl) ag_33 (fun _ => rfl) rfl rfl <|
      q_call0 (full := false) .n .f en_138 (.cons (.t rfl) .nil) (.cons (.sts rfl) .nil) (fun hg => c_impl_ValidMine m_) rfl (fun h => Bool.noConfusion h) rfl <|
      q_move .n (.t rfl) rfl <|
      q_ldN_ow (.t rfl rfl) (.t rfl) rfl (.inr rfl) ag_52 (fun _ => rfl) rfl rfl <|
      q_call0 (full := false) (.t rfl rfl) .f en_142 (.cons (.u rfl id) .nil) (.cons (.sts rfl) .nil) (fun hg => c_impl_Fire_valid f) rfl (fun h => Bool.noConfusion h) rfl <|
      q_and .n (.t rfl) (.u rfl id) rfl <|
      q_move .n (.t rfl) rfl <|
      q_fld_ow (.t rfl rfl) (.t rfl) fo_33_1 rfl <|
      q_ld1_ow (.t rfl rfl) (.u rfl id) rfl (.inr rfl) (fun _ => rfl) rfl ic_31 rfl <|
      q_fld_ow (.t rfl rfl) (.t rfl) fo_52_0 rfl <|
      q_ld1_ow (.t rfl rfl) (.u rfl id) rfl (.inr rfl) (fun _ => rfl) rfl ic_2 rfl <|
      q_call0 (full := false) (.t rfl rfl) .f en_83 (.cons (.u rfl id) (.cons (.u rfl id) .nil)) (.cons (.b (.a (.same rfl))) (.cons (.b (.a (.same rfl))) .nil)) (fun hg => c_impl_indexValid_impl_Airway m_.Airways f.Airway) rfl (fun h => Bool.noConfusion h) rfl <|
      q_and .n (.t rfl) (.u rfl id) rfl <|
      q_move .n (.t rfl) rfl <|
      q_fld_ow (.t rfl rfl) (.t rfl) fo_52_1 rfl <|
      q_ld1_ow (.t rfl rfl) (.u rfl id) rfl (.inr rfl) (fun _ => rfl) rfl ic_2 rfl <|
      q_fld_ow (.t rfl rfl) (.t rfl) fo_33_1 rfl <|
      q_ld1_ow (.t rfl rfl) (.u rfl id) rfl (.inr rfl) (fun _ => rfl) rfl ic_31 rfl <|
      q_fld_ow (.t rfl rfl) (.t rfl) fo_52_0 rfl <|
      q_ld1_ow (.t rfl rfl) (.u rfl id) rfl (.inr rfl) (fun _ => rfl) rfl ic_2 rfl <|
      q_idx_rm (.t rfl rfl) (.u rfl id) (.u rfl id) sl_31 (fun hg => by simp only [Bool.and_eq_true, Bool.or_eq_true, Bool.not_eq_true', Bool.and_eq_false_iff, Bool.or_eq_false_iff, Bool.not_eq_false', decide_eq_true_eq, decide_eq_false_iff_not, beq_iff_eq, bne_iff_ne, beq_eq_false_iff_ne, bne_eq_false_iff_eq, Bool.true_and, ne_eq, Decidable.not_not, Int.not_lt, Int.not_le, Nat.not_lt, Nat.not_le, strB_nil, strB_nil', strB_nnil, strB_nnil'] at hg; first | omega | assumption | (simp only [List.length_append, List.length_cons, List.length_nil, List.length_replicate, put_len] at * <;> omega) | ((have hq := indexValid_imp hg.2; omega)) | ((have hq := indexValid_imp hg; omega))) rfl <|
      q_fld_ro (.t rfl rfl) (.u rfl id) fo_105_3 rfl <|
      q_ld1_ro (.t rfl rfl) (.u rfl id) rfl ic_2 rfl <|
      q_int (.t rfl rfl) (.u rfl id) (.u rfl id) rfl rfl <|
      q_and .n (.t rfl) (.u rfl id) rfl <|
      q_assign .n (.t rfl) rfl <|
      Lex.nil) (by kernel_rfl) ?_
  exact run_ret [] (.cons (.t rfl rfl) .nil) rfl trivial rfl

/-! ### impl_fireCode -/
theorem c_impl_fireCode (m_ : gMine) (flows : List Int) (f : gFire) (time : Int) : Con Try.prog 77 [.st [.int .i64 m_.Junctions, .sl 7 (m_.Airways.map gAirway.v)], .sl 1 (flows.map (V.int .i64)), .st [.int .i64 f.Airway, .int .i64 f.At, .int .i64 f.Start], .int .i64 time] [] (.int .i64 (m_impl_fireCode m_ flows f time)) ([]) := by
  refine con_intro (out := fun r : Int => ((.int .i64 r : V), ([] : List (Nat × Option O)))) (r := (m_impl_fireCode m_ flows f time)) Try.func77 rfl Try.ntmps77 rfl ?_
  refine run_factS (t := 0) 1 rfl rfl fun hl => ?_
  have l1 := hl; clear hl; simp only [List.length_map] at l1
  refine run_fact (t := 1) rfl fun hl => ?_
  have l2 := hl; clear hl; simp only [List.length_map] at l2
  refine run_seq ?_
  refine run_region (q_box (l := 200) .n rfl (.t rfl) rfl rfl rfl rfl <|
      q_box (l := 201) .n rfl (.t rfl) rfl rfl rfl rfl <|
      q_assign .n (.c rfl) rfl <|
      Lex.nil) ?_
  refine run_seq ?_
  refine run_block ?_
  refine run_seq ?_
  refine run_region (q_ldN_ow .n (.t rfl) rfl (.inr rfl) ag_33 (fun _ => rfl) rfl rfl <|
      q_ldN_ow .n (.t rfl) rfl (.inr rfl) ag_52 (fun _ => rfl) rfl rfl <|
      q_call0 (full := false) .n .f en_120 (.cons (.t rfl) (.cons (.t rfl) .nil)) (.cons (.sts rfl) (.cons (.sts rfl) .nil)) (fun hg => c_impl_ValidFire m_ f) rfl (fun h => Bool.noConfusion h) rfl <|
      q_not .n (.t rfl) rfl <|
      q_assign .n (.t rfl) rfl <|
      Lex.nil) ?_
  refine run_cond (.t rfl) rfl (fun h3 => ?_) (fun h3 => ?_)
  · try simp only [Bool.and_eq_true, Bool.or_eq_true, Bool.not_eq_true', Bool.and_eq_false_iff, Bool.or_eq_false_iff, Bool.not_eq_false', decide_eq_true_eq, decide_eq_false_iff_not, beq_iff_eq, bne_iff_ne, beq_eq_false_iff_ne, bne_eq_false_iff_eq, Bool.true_and, ne_eq, Decidable.not_not, Int.not_lt, Int.not_le, Nat.not_lt, Nat.not_le, strB_nil, strB_nil', strB_nnil, strB_nnil'] at h3
    refine run_seq ?_
    refine run_region (q_assign .n (.c rfl) rfl <|
        Lex.nil) ?_
    exact run_ret [] (.cons (.t rfl rfl) .nil) rfl trivial rfl
  · try simp only [Bool.and_eq_true, Bool.or_eq_true, Bool.not_eq_true', Bool.and_eq_false_iff, Bool.or_eq_false_iff, Bool.not_eq_false', decide_eq_true_eq, decide_eq_false_iff_not, beq_iff_eq, bne_iff_ne, beq_eq_false_iff_ne, bne_eq_false_iff_eq, Bool.true_and, ne_eq, Decidable.not_not, Int.not_lt, Int.not_le, Nat.not_lt, Nat.not_le, strB_nil, strB_nil', strB_nnil, strB_nnil'] at h3
    refine run_seq ?_
    refine run_region (q_move .n (.t rfl) rfl <|
        q_call0 (full := false) .n .f en_72 (.cons (.t rfl) (.cons (.c rfl) (.cons (.c rfl) .nil))) (.cons (.b (.a (.same rfl))) (.cons (.b (.a (.same rfl))) (.cons (.b (.a (.same rfl))) .nil))) (fun hg => c_impl_within time 0 36000) rfl (fun h => Bool.noConfusion h) rfl <|
        q_not .n (.t rfl) rfl <|
        q_assign .n (.t rfl) rfl <|
        Lex.nil) ?_
    refine run_cond (.t rfl) rfl (fun h4 => ?_) (fun h4 => ?_)
    · try simp only [Bool.and_eq_true, Bool.or_eq_true, Bool.not_eq_true', Bool.and_eq_false_iff, Bool.or_eq_false_iff, Bool.not_eq_false', decide_eq_true_eq, decide_eq_false_iff_not, beq_iff_eq, bne_iff_ne, beq_eq_false_iff_ne, bne_eq_false_iff_eq, Bool.true_and, ne_eq, Decidable.not_not, Int.not_lt, Int.not_le, Nat.not_lt, Nat.not_le, strB_nil, strB_nil', strB_nnil, strB_nnil'] at h4
      try have hf0h4 := within_imp h4
      try have hf1h4 := within_imp h4.1
      try have hf2h4 := within_imp h4.2
      try have hf3h4 := within_imp h4.1.1
      try have hf4h4 := within_imp h4.1.2
      try have hf5h4 := within_imp h4.2.1
      try have hf6h4 := within_imp h4.2.2
      refine run_seq ?_
      refine run_region (q_assign .n (.c rfl) rfl <|
          Lex.nil) ?_
      exact run_ret [] (.cons (.t rfl rfl) .nil) rfl trivial rfl
    · try simp only [Bool.and_eq_true, Bool.or_eq_true, Bool.not_eq_true', Bool.and_eq_false_iff, Bool.or_eq_false_iff, Bool.not_eq_false', decide_eq_true_eq, decide_eq_false_iff_not, beq_iff_eq, bne_iff_ne, beq_eq_false_iff_ne, bne_eq_false_iff_eq, Bool.true_and, ne_eq, Decidable.not_not, Int.not_lt, Int.not_le, Nat.not_lt, Nat.not_le, strB_nil, strB_nil', strB_nnil, strB_nnil'] at h4
      try have hf0h4 := within_imp h4
      try have hf1h4 := within_imp h4.1
      try have hf2h4 := within_imp h4.2
      try have hf3h4 := within_imp h4.1.1
      try have hf4h4 := within_imp h4.1.2
      try have hf5h4 := within_imp h4.2.1
      try have hf6h4 := within_imp h4.2.2
      refine run_seq ?_
      refine run_region (q_ldN_ow .n (.t rfl) rfl (.inr rfl) ag_33 (fun _ => rfl) rfl rfl <|
          q_move .n (.t rfl) rfl <|
          q_call0 (full := false) .n .f en_110 (.cons (.t rfl) (.cons (.t rfl) .nil)) (.cons (.sts rfl) (.cons (.b (.a (.same rfl))) .nil)) (fun hg => c_impl_Mine_hasFlows m_ flows) rfl (fun h => Bool.noConfusion h) rfl <|
          q_not .n (.t rfl) rfl <|
          q_assign .n (.t rfl) rfl <|
          Lex.nil) ?_
      refine run_cond (.t rfl) rfl (fun h5 => ?_) (fun h5 => ?_)
      · try simp only [Bool.and_eq_true, Bool.or_eq_true, Bool.not_eq_true', Bool.and_eq_false_iff, Bool.or_eq_false_iff, Bool.not_eq_false', decide_eq_true_eq, decide_eq_false_iff_not, beq_iff_eq, bne_iff_ne, beq_eq_false_iff_ne, bne_eq_false_iff_eq, Bool.true_and, ne_eq, Decidable.not_not, Int.not_lt, Int.not_le, Nat.not_lt, Nat.not_le, strB_nil, strB_nil', strB_nnil, strB_nnil'] at h5
        refine run_seq ?_
        refine run_region (q_assign .n (.c rfl) rfl <|
            Lex.nil) ?_
        exact run_ret [] (.cons (.t rfl rfl) .nil) rfl trivial rfl
      · try simp only [Bool.and_eq_true, Bool.or_eq_true, Bool.not_eq_true', Bool.and_eq_false_iff, Bool.or_eq_false_iff, Bool.not_eq_false', decide_eq_true_eq, decide_eq_false_iff_not, beq_iff_eq, bne_iff_ne, beq_eq_false_iff_ne, bne_eq_false_iff_eq, Bool.true_and, ne_eq, Decidable.not_not, Int.not_lt, Int.not_le, Nat.not_lt, Nat.not_le, strB_nil, strB_nil', strB_nnil, strB_nnil'] at h5
        refine run_skip ?_
        refine run_endB ?_
        refine run_seq ?_
        refine run_region (q_assign .n (.c rfl) rfl <|
            Lex.nil) ?_
        exact run_ret [] (.cons (.t rfl rfl) .nil) rfl trivial rfl

/-! ### impl_abs -/
theorem c_impl_abs (n_ : Int) : Con Try.prog 95 [.int .i64 n_] [] (.int .i64 (m_impl_abs n_)) ([]) := by
  refine con_intro (out := fun r : Int => ((.int .i64 r : V), ([] : List (Nat × Option O)))) (r := (m_impl_abs n_)) Try.func95 rfl Try.ntmps95 rfl ?_
  refine run_seq ?_
  refine run_region (q_assign .n (.c rfl) rfl <|
      Lex.nil) ?_
  refine run_seq ?_
  refine run_region (q_move .n (.t rfl) rfl <|
      q_move .n (.t rfl) rfl <|
      q_neg .n (.t rfl) rfl <|
      q_max .n (.t rfl) (.t rfl) rfl <|
      q_assign .n (.t rfl) rfl <|
      Lex.nil) ?_
  exact run_ret [] (.cons (.t rfl rfl) .nil) rfl trivial rfl

/-! ### impl_Airway_ways -/
theorem c_impl_Airway_ways (a : gAirway) (flow : Int) : Con Try.prog 111 [.st [.str a.Id, .int .i64 a.From, .int .i64 a.To, .int .i64 a.Length, .int .i64 a.Section, .int .i64 a.Friction, .int .i64 a.Shock], .int .i64 flow] [] (.tup [.int .i64 (m_impl_Airway_ways a flow).1, .int .i64 (m_impl_Airway_ways a flow).2]) ([]) := by
  refine con_intro (out := fun r : Int × Int => ((.tup [.int .i64 r.1, .int .i64 r.2] : V), ([] : List (Nat × Option O)))) (r := (m_impl_Airway_ways a flow)) Try.func111 rfl Try.ntmps111 rfl ?_
  refine run_seq ?_
  refine run_region (q_box (l := 200) .n rfl (.t rfl) rfl rfl rfl rfl <|
      q_assign .n (.c rfl) rfl <|
      q_assign .n (.c rfl) rfl <|
      Lex.nil) ?_
  refine run_seq ?_
  refine run_seq ?_
  refine run_region (q_move .n (.t rfl) rfl <|
      q_int .n (.t rfl) (.c rfl) rfl rfl <|
      Lex.nil) ?_
  refine run_cond (.t rfl) rfl (fun h1 => ?_) (fun h1 => ?_)
  · try simp only [Bool.and_eq_true, Bool.or_eq_true, Bool.not_eq_true', Bool.and_eq_false_iff, Bool.or_eq_false_iff, Bool.not_eq_false', decide_eq_true_eq, decide_eq_false_iff_not, beq_iff_eq, bne_iff_ne, beq_eq_false_iff_ne, bne_eq_false_iff_eq, Bool.true_and, ne_eq, Decidable.not_not, Int.not_lt, Int.not_le, Nat.not_lt, Nat.not_le, strB_nil, strB_nil', strB_nnil, strB_nnil'] at h1
    refine run_seq ?_
    refine run_draw fmo (q_fld_ow .n (.t rfl) fo_105_2 rfl <|
        q_ld1_ow .n (.t rfl) rfl (.inr rfl) (fun _ => rfl) rfl ic_2 rfl <|
        q_fld_ow .n (.t rfl) fo_105_1 rfl <|
        q_ld1_ow .n (.t rfl) rfl (.inr rfl) (fun _ => rfl) rfl ic_2 rfl <|
        q_assign .n (.t rfl) rfl <|
        q_assign .n (.t rfl) rfl <|
        Lex.nil) (by kernel_rfl) ?_
    exact run_ret [] (.cons (.t rfl rfl) (.cons (.t rfl rfl) .nil)) rfl trivial rfl
  · try simp only [Bool.and_eq_true, Bool.or_eq_true, Bool.not_eq_true', Bool.and_eq_false_iff, Bool.or_eq_false_iff, Bool.not_eq_false', decide_eq_true_eq, decide_eq_false_iff_not, beq_iff_eq, bne_iff_ne, beq_eq_false_iff_ne, bne_eq_false_iff_eq, Bool.true_and, ne_eq, Decidable.not_not, Int.not_lt, Int.not_le, Nat.not_lt, Nat.not_le, strB_nil, strB_nil', strB_nnil, strB_nnil'] at h1
    refine run_skip ?_
    refine run_seq ?_
    refine run_draw fmo (q_fld_ow .n (.t rfl) fo_105_1 rfl <|
        q_ld1_ow .n (.t rfl) rfl (.inr rfl) (fun _ => rfl) rfl ic_2 rfl <|
        q_fld_ow .n (.t rfl) fo_105_2 rfl <|
        q_ld1_ow .n (.t rfl) rfl (.inr rfl) (fun _ => rfl) rfl ic_2 rfl <|
        q_assign .n (.t rfl) rfl <|
        q_assign .n (.t rfl) rfl <|
        Lex.nil) (by kernel_rfl) ?_
    exact run_ret [] (.cons (.t rfl rfl) (.cons (.t rfl rfl) .nil)) rfl trivial rfl

/-! ### math_bits_Mul32 -/
theorem c_math_bits_Mul32 (x_ : Int) (y : Int) : Con Try.prog 153 [.int .u32 x_, .int .u32 y] [] (.tup [.int .u32 (m_math_bits_Mul32 x_ y).1, .int .u32 (m_math_bits_Mul32 x_ y).2]) ([]) := by
  refine con_intro (out := fun r : Int × Int => ((.tup [.int .u32 r.1, .int .u32 r.2] : V), ([] : List (Nat × Option O)))) (r := (m_math_bits_Mul32 x_ y)) Try.func153 rfl Try.ntmps153 rfl ?_
  refine run_seq ?_
  refine run_region (q_assign .n (.c rfl) rfl <|
      q_assign .n (.c rfl) rfl <|
      Lex.nil) ?_
  refine run_seq ?_
  refine run_region (q_move .n (.t rfl) rfl <|
      q_conv .n (.t rfl) cv_163_166 rfl <|
      q_move .n (.t rfl) rfl <|
      q_conv .n (.t rfl) cv_163_166 rfl <|
      q_int .n (.t rfl) (.t rfl) rfl rfl <|
      q_assign .n (.t rfl) rfl <|
      Lex.nil) ?_
  refine run_seq ?_
  refine run_region (q_move .n (.t rfl) rfl <|
      q_shr .n (.t rfl) (.c rfl) (fun _ => by first | omega | assumption | (simp only [List.length_append, List.length_cons, List.length_nil, List.length_replicate, put_len] at * <;> omega)) rfl <|
      q_conv .n (.t rfl) cv_166_163 rfl <|
      q_move .n (.t rfl) rfl <|
      q_conv .n (.t rfl) cv_166_163 rfl <|
      q_assign .n (.t rfl) rfl <|
      q_assign .n (.t rfl) rfl <|
      Lex.nil) ?_
  exact run_ret [] (.cons (.t rfl rfl) (.cons (.t rfl rfl) .nil)) rfl trivial rfl

/-! ### math_bits_Mul64 -/
theorem c_math_bits_Mul64 (x_ : Int) (y : Int) : Con Try.prog 154 [.int .u64 x_, .int .u64 y] [] (.tup [.int .u64 (m_math_bits_Mul64 x_ y).1, .int .u64 (m_math_bits_Mul64 x_ y).2]) ([]) := by
  refine con_intro (out := fun r : Int × Int => ((.tup [.int .u64 r.1, .int .u64 r.2] : V), ([] : List (Nat × Option O)))) (r := (m_math_bits_Mul64 x_ y)) Try.func154 rfl Try.ntmps154 rfl ?_
  refine run_seq ?_
  refine run_region (q_assign .n (.c rfl) rfl <|
      q_assign .n (.c rfl) rfl <|
      Lex.nil) ?_
  refine run_seq ?_
  refine run_region (q_move .n (.t rfl) rfl <|
      q_int .n (.t rfl) (.c rfl) rfl rfl <|
      q_assign .n (.t rfl) rfl <|
      Lex.nil) ?_
  refine run_seq ?_
  refine run_region (q_move .n (.t rfl) rfl <|
      q_shr .n (.t rfl) (.c rfl) (fun _ => by first | omega | assumption | (simp only [List.length_append, List.length_cons, List.length_nil, List.length_replicate, put_len] at * <;> omega)) rfl <|
      q_assign .n (.t rfl) rfl <|
      Lex.nil) ?_
  refine run_seq ?_
  refine run_region (q_move .n (.t rfl) rfl <|
      q_int .n (.t rfl) (.c rfl) rfl rfl <|
      q_assign .n (.t rfl) rfl <|
      Lex.nil) ?_
  refine run_seq ?_
  refine run_region (q_move .n (.t rfl) rfl <|
      q_shr .n (.t rfl) (.c rfl) (fun _ => by first | omega | assumption | (simp only [List.length_append, List.length_cons, List.length_nil, List.length_replicate, put_len] at * <;> omega)) rfl <|
      q_assign .n (.t rfl) rfl <|
      Lex.nil) ?_
  refine run_seq ?_
  refine run_region (q_move .n (.t rfl) rfl <|
      q_move .n (.t rfl) rfl <|
      q_int .n (.t rfl) (.t rfl) rfl rfl <|
      q_assign .n (.t rfl) rfl <|
      Lex.nil) ?_
  refine run_seq ?_
  refine run_region (q_move .n (.t rfl) rfl <|
      q_move .n (.t rfl) rfl <|
      q_int .n (.t rfl) (.t rfl) rfl rfl <|
      q_move .n (.t rfl) rfl <|
      q_shr .n (.t rfl) (.c rfl) (fun _ => by first | omega | assumption | (simp only [List.length_append, List.length_cons, List.length_nil, List.length_replicate, put_len] at * <;> omega)) rfl <|
      q_int .n (.t rfl) (.t rfl) rfl rfl <|
      q_assign .n (.t rfl) rfl <|
      Lex.nil) ?_
  refine run_seq ?_
  refine run_region (q_move .n (.t rfl) rfl <|
      q_int .n (.t rfl) (.c rfl) rfl rfl <|
      q_assign .n (.t rfl) rfl <|
      Lex.nil) ?_
  refine run_seq ?_
  refine run_region (q_move .n (.t rfl) rfl <|
      q_shr .n (.t rfl) (.c rfl) (fun _ => by first | omega | assumption | (simp only [List.length_append, List.length_cons, List.length_nil, List.length_replicate, put_len] at * <;> omega)) rfl <|
      q_assign .n (.t rfl) rfl <|
      Lex.nil) ?_
  refine run_seq ?_
  refine run_region (q_move .n (.t rfl) rfl <|
      q_move .n (.t rfl) rfl <|
      q_move .n (.t rfl) rfl <|
      q_int .n (.t rfl) (.t rfl) rfl rfl <|
      q_int .n (.t rfl) (.t rfl) rfl rfl <|
      q_assign .n (.t rfl) rfl <|
      Lex.nil) ?_
  refine run_seq ?_
  refine run_region (q_move .n (.t rfl) rfl <|
      q_move .n (.t rfl) rfl <|
      q_int .n (.t rfl) (.t rfl) rfl rfl <|
      q_move .n (.t rfl) rfl <|
      q_int .n (.t rfl) (.t rfl) rfl rfl <|
      q_move .n (.t rfl) rfl <|
      q_shr .n (.t rfl) (.c rfl) (fun _ => by first | omega | assumption | (simp only [List.length_append, List.length_cons, List.length_nil, List.length_replicate, put_len] at * <;> omega)) rfl <|
      q_int .n (.t rfl) (.t rfl) rfl rfl <|
      q_assign .n (.t rfl) rfl <|
      Lex.nil) ?_
  refine run_seq ?_
  refine run_region (q_move .n (.t rfl) rfl <|
      q_move .n (.t rfl) rfl <|
      q_int .n (.t rfl) (.t rfl) rfl rfl <|
      q_assign .n (.t rfl) rfl <|
      Lex.nil) ?_
  exact run_ret [] (.cons (.t rfl rfl) (.cons (.t rfl rfl) .nil)) rfl trivial rfl

/-! ### math_bits_Mul -/
theorem c_math_bits_Mul (x_ : Int) (y : Int) : Con Try.prog 143 [.int .u64 x_, .int .u64 y] [] (.tup [.int .u64 (m_math_bits_Mul x_ y).1, .int .u64 (m_math_bits_Mul x_ y).2]) ([]) := by
  refine con_intro (out := fun r : Int × Int => ((.tup [.int .u64 r.1, .int .u64 r.2] : V), ([] : List (Nat × Option O)))) (r := (m_math_bits_Mul x_ y)) Try.func143 rfl Try.ntmps143 rfl ?_
  refine run_seq ?_
  refine run_region (q_assign .n (.c rfl) rfl <|
      q_assign .n (.c rfl) rfl <|
      Lex.nil) ?_
  refine run_seq ?_
  refine run_cond (.c rfl) rfl (fun h1 => ?_) (fun h1 => ?_)
  · try simp only [Bool.and_eq_true, Bool.or_eq_true, Bool.not_eq_true', Bool.and_eq_false_iff, Bool.or_eq_false_iff, Bool.not_eq_false', decide_eq_true_eq, decide_eq_false_iff_not, beq_iff_eq, bne_iff_ne, beq_eq_false_iff_ne, bne_eq_false_iff_eq, Bool.true_and, ne_eq, Decidable.not_not, Int.not_lt, Int.not_le, Nat.not_lt, Nat.not_le, strB_nil, strB_nil', strB_nnil, strB_nnil'] at h1
    refine run_seq ?_
    refine run_region (q_move .n (.t rfl) rfl <|
        q_conv .n (.t rfl) cv_156_163 rfl <|
        q_move .n (.t rfl) rfl <|
        q_conv .n (.t rfl) cv_156_163 rfl <|
        q_call0 (full := false) .n .f en_153 (.cons (.t rfl) (.cons (.t rfl) .nil)) (.cons (.b (.a (.same rfl))) (.cons (.b (.a (.same rfl))) .nil)) (fun hg => c_math_bits_Mul32 (IntKind.wrap .u32 x_) (IntKind.wrap .u32 y)) rfl (fun h => Bool.noConfusion h) rfl <|
        q_move .n (.t rfl) rfl <|
        q_ext .n (.t rfl) rfl rfl rfl <|
        q_ext .n (.t rfl) rfl rfl rfl <|
        q_assign .n (.t rfl) rfl <|
        q_assign .n (.t rfl) rfl <|
        Lex.nil) ?_
    refine run_seq ?_
    refine run_region (q_move .n (.t rfl) rfl <|
        q_conv .n (.t rfl) cv_163_156 rfl <|
        q_move .n (.t rfl) rfl <|
        q_conv .n (.t rfl) cv_163_156 rfl <|
        q_assign .n (.t rfl) rfl <|
        q_assign .n (.t rfl) rfl <|
        Lex.nil) ?_
    exact run_ret [] (.cons (.t rfl rfl) (.cons (.t rfl rfl) .nil)) rfl trivial rfl
  · try simp only [Bool.and_eq_true, Bool.or_eq_true, Bool.not_eq_true', Bool.and_eq_false_iff, Bool.or_eq_false_iff, Bool.not_eq_false', decide_eq_true_eq, decide_eq_false_iff_not, beq_iff_eq, bne_iff_ne, beq_eq_false_iff_ne, bne_eq_false_iff_eq, Bool.true_and, ne_eq, Decidable.not_not, Int.not_lt, Int.not_le, Nat.not_lt, Nat.not_le, strB_nil, strB_nil', strB_nnil, strB_nnil'] at h1
    refine run_skip ?_
    refine run_seq ?_
    refine run_region (q_move .n (.t rfl) rfl <|
        q_move .n (.t rfl) rfl <|
        q_call0 (full := false) .n .f en_154 (.cons (.t rfl) (.cons (.t rfl) .nil)) (.cons (.b (.a (.same rfl))) (.cons (.b (.a (.same rfl))) .nil)) (fun hg => c_math_bits_Mul64 x_ y) rfl (fun h => Bool.noConfusion h) rfl <|
        q_move .n (.t rfl) rfl <|
        q_ext .n (.t rfl) rfl rfl rfl <|
        q_ext .n (.t rfl) rfl rfl rfl <|
        q_assign .n (.t rfl) rfl <|
        q_assign .n (.t rfl) rfl <|
        Lex.nil) ?_
    refine run_seq ?_
    refine run_region (q_move .n (.t rfl) rfl <|
        q_move .n (.t rfl) rfl <|
        q_assign .n (.t rfl) rfl <|
        q_assign .n (.t rfl) rfl <|
        Lex.nil) ?_
    exact run_ret [] (.cons (.t rfl rfl) (.cons (.t rfl rfl) .nil)) rfl trivial rfl

/-! ### slices_Repeat_int64 -/
theorem c_slices_Repeat_int64 (x_ : List Int) (count : Int) (hp1 : x_.length = 1) (hp2 : 1 ≤ count ∧ count ≤ 16) : Con Try.prog 121 [.sl 1 (x_.map (V.int .i64)), .int .i64 count] [] (.os 100 (m_slices_Repeat_int64 x_ count).length) ([(100, some (.row 2 1 ((m_slices_Repeat_int64 x_ count).map (V.int .i64))))]) := by
  refine con_intro (out := fun r : (List Int) => ((.os 100 r.length : V), ([(100, some (.row 2 1 (r.map (V.int .i64))))] : List (Nat × Option O)))) (r := (m_slices_Repeat_int64 x_ count)) Try.func121 rfl Try.ntmps121 rfl ?_
  have hM := mul_rep (n := (x_.length : Int)) (c := count) (by omega) hp2
  have hW := wr64 (n := count) (by omega)
  refine run_fact (t := 0) rfl fun hl => ?_
  have l1 := hl; clear hl; simp only [List.length_map] at l1
  refine run_seq ?_
  refine run_region (q_assign .n (.c rfl) rfl <|
      Lex.nil) ?_
  refine run_seq ?_
  refine run_seq ?_
  refine run_region (q_move .n (.t rfl) rfl <|
      q_int .n (.t rfl) (.c rfl) rfl rfl <|
      Lex.nil) ?_
  refine run_if (.t rfl) (fun h2 => ?_) (fun h2 => ?_)
  · try simp only [Bool.and_eq_true, Bool.or_eq_true, Bool.not_eq_true', Bool.and_eq_false_iff, Bool.or_eq_false_iff, Bool.not_eq_false', decide_eq_true_eq, decide_eq_false_iff_not, beq_iff_eq, bne_iff_ne, beq_eq_false_iff_ne, bne_eq_false_iff_eq, Bool.true_and, ne_eq, Decidable.not_not, Int.not_lt, Int.not_le, Nat.not_lt, Nat.not_le, strB_nil, strB_nil', strB_nnil, strB_nnil'] at h2
    exfalso; first | omega | assumption | (simp only [List.length_append, List.length_cons, List.length_nil, List.length_replicate, put_len] at * <;> omega) | ((have hq := rep_step (by assumption) (by assumption) hp2.2 (by assumption); dsimp only at hq ⊢; omega)) | ((rw [cpy_len (by simp only [List.length_take] at *; omega)]; done)) | ((dsimp only; rw [cpy_len (by simp only [List.length_take, List.length_replicate, hM, hW] at *; omega)]; simp only [List.length_replicate, hM, hW]; omega)) | ((have hp := pre_len (xs := x1.1) (b := x1.2) (by omega); rw [cpy_len (by rw [List.length_take]; omega)]; done)) | ((simp only [hM, hW, List.length_replicate] at *; omega)) | ((rw [cpy_len (by simp only [List.length_take, List.length_replicate, hM, hW] at *; omega)]))
  · try simp only [Bool.and_eq_true, Bool.or_eq_true, Bool.not_eq_true', Bool.and_eq_false_iff, Bool.or_eq_false_iff, Bool.not_eq_false', decide_eq_true_eq, decide_eq_false_iff_not, beq_iff_eq, bne_iff_ne, beq_eq_false_iff_ne, bne_eq_false_iff_eq, Bool.true_and, ne_eq, Decidable.not_not, Int.not_lt, Int.not_le, Nat.not_lt, Nat.not_le, strB_nil, strB_nil', strB_nnil, strB_nnil'] at h2
    refine run_skip ?_
    refine run_seq ?_
    refine run_region (q_move .n (.t rfl) rfl <|
        q_len .n (.t rfl) rfl len_map ss_25 rfl <|
        q_conv .n (.t rfl) cv_3_156 rfl <|
        q_move .n (.t rfl) rfl <|
        q_conv .n (.t rfl) cv_3_156 rfl <|
        q_call0 (full := false) .n .f en_143 (.cons (.t rfl) (.cons (.t rfl) .nil)) (.cons (.b (.a (.same rfl))) (.cons (.b (.a (.same rfl))) .nil)) (fun hg => c_math_bits_Mul (IntKind.wrap .u64 (x_.length : Int)) (IntKind.wrap .u64 count)) rfl (fun h => Bool.noConfusion h) rfl <|
        q_move .n (.t rfl) rfl <|
        q_ext .n (.t rfl) rfl rfl rfl <|
        q_ext .n (.t rfl) rfl rfl rfl <|
        q_assign .n (.t rfl) rfl <|
        q_assign .n (.t rfl) rfl <|
        Lex.nil) ?_
    refine run_seq ?_
    refine run_seq ?_
    refine run_region (q_move .n (.t rfl) rfl <|
        q_int .n (.t rfl) (.c rfl) rfl rfl <|
        q_move .n (.t rfl) rfl <|
        q_move (.f rfl rfl) (.t rfl) rfl <|
        q_int (.f rfl rfl) (.u rfl id) (.c rfl) rfl rfl <|
        q_or .n (.t rfl) (.u rfl id) rfl <|
        Lex.nil) ?_
    refine run_if (.t rfl) (fun h3 => ?_) (fun h3 => ?_)
    · try simp only [Bool.and_eq_true, Bool.or_eq_true, Bool.not_eq_true', Bool.and_eq_false_iff, Bool.or_eq_false_iff, Bool.not_eq_false', decide_eq_true_eq, decide_eq_false_iff_not, beq_iff_eq, bne_iff_ne, beq_eq_false_iff_ne, bne_eq_false_iff_eq, Bool.true_and, ne_eq, Decidable.not_not, Int.not_lt, Int.not_le, Nat.not_lt, Nat.not_le, strB_nil, strB_nil', strB_nnil, strB_nnil'] at h3
      exfalso; first | omega | assumption | (simp only [List.length_append, List.length_cons, List.length_nil, List.length_replicate, put_len] at * <;> omega) | ((have hq := rep_step (by assumption) (by assumption) hp2.2 (by assumption); dsimp only at hq ⊢; omega)) | ((rw [cpy_len (by simp only [List.length_take] at *; omega)]; done)) | ((dsimp only; rw [cpy_len (by simp only [List.length_take, List.length_replicate, hM, hW] at *; omega)]; simp only [List.length_replicate, hM, hW]; omega)) | ((have hp := pre_len (xs := x1.1) (b := x1.2) (by omega); rw [cpy_len (by rw [List.length_take]; omega)]; done)) | ((simp only [hM, hW, List.length_replicate] at *; omega)) | ((rw [cpy_len (by simp only [List.length_take, List.length_replicate, hM, hW] at *; omega)]))
    · try simp only [Bool.and_eq_true, Bool.or_eq_true, Bool.not_eq_true', Bool.and_eq_false_iff, Bool.or_eq_false_iff, Bool.not_eq_false', decide_eq_true_eq, decide_eq_false_iff_not, beq_iff_eq, bne_iff_ne, beq_eq_false_iff_ne, bne_eq_false_iff_eq, Bool.true_and, ne_eq, Decidable.not_not, Int.not_lt, Int.not_le, Nat.not_lt, Nat.not_le, strB_nil, strB_nil', strB_nnil, strB_nnil'] at h3
      refine run_skip ?_
      refine run_seq ?_
      refine run_region (q_move .n (.t rfl) rfl <|
          q_conv .n (.t rfl) cv_156_3 rfl <|
          q_makem (f := V.int .i64) (l := 200) (0 : Int) .n rfl (.t rfl) (.t rfl) si_25 zv_2 (by first | omega | assumption | (simp only [List.length_append, List.length_cons, List.length_nil, List.length_replicate, put_len] at * <;> omega) | ((have hq := rep_step (by assumption) (by assumption) hp2.2 (by assumption); dsimp only at hq ⊢; omega)) | ((rw [cpy_len (by simp only [List.length_take] at *; omega)]; done)) | ((dsimp only; rw [cpy_len (by simp only [List.length_take, List.length_replicate, hM, hW] at *; omega)]; simp only [List.length_replicate, hM, hW]; omega)) | ((have hp := pre_len (xs := x1.1) (b := x1.2) (by omega); rw [cpy_len (by rw [List.length_take]; omega)]; done)) | ((simp only [hM, hW, List.length_replicate] at *; omega)) | ((rw [cpy_len (by simp only [List.length_take, List.length_replicate, hM, hW] at *; omega)]))) rfl rfl rfl <|
          q_assign .n (.t rfl) rfl <|
          Lex.nil) ?_
      refine run_seq ?_
      refine run_region (q_move .n (.t rfl) rfl <|
          q_move .n (.t rfl) rfl <|
          q_copym (ys := x_) (off := 0) (m := (List.replicate (IntKind.wrap .i64 (m_math_bits_Mul (IntKind.wrap .u64 (x_.length : Int)) (IntKind.wrap .u64 count)).2 : Int).toNat (0 : Int)).length) .n rfl (.os (.t rfl)) rfl (by first | omega | assumption | (simp only [List.length_append, List.length_cons, List.length_nil, List.length_replicate, put_len] at * <;> omega) | ((have hq := rep_step (by assumption) (by assumption) hp2.2 (by assumption); dsimp only at hq ⊢; omega)) | ((rw [cpy_len (by simp only [List.length_take] at *; omega)]; done)) | ((dsimp only; rw [cpy_len (by simp only [List.length_take, List.length_replicate, hM, hW] at *; omega)]; simp only [List.length_replicate, hM, hW]; omega)) | ((have hp := pre_len (xs := x1.1) (b := x1.2) (by omega); rw [cpy_len (by rw [List.length_take]; omega)]; done)) | ((simp only [hM, hW, List.length_replicate] at *; omega)) | ((rw [cpy_len (by simp only [List.length_take, List.length_replicate, hM, hW] at *; omega)]))) (.ro (.t rfl)) sl_25 rfl rfl <|
          q_assign .n (.t rfl) rfl <|
          Lex.nil) ?_
      refine run_seq ?_
      refine run_block ?_
      refine run_LOOP (m_slices_Repeat_int64_b1 x_ count) _ _ _ rfl (fun (x1 : (List Int) × Int) => (x1.1.length : Int) = count ∧ 1 ≤ x1.2 ∧ x1.2 ≤ count) (fun x1 => (x1.1.length : Int) = count ∧ 1 ≤ x1.2 ∧ x1.2 ≤ count) (fun x1 => (count - x1.2 : Int).toNat) (fun x1 => ⟨[(7, some (true, .os 200 x1.1.length)), (8, some (true, .int .i64 x1.2))], [(200, some (.row 2 1 (x1.1.map (V.int .i64))))]⟩) (fun x1 => ⟨[(7, some (true, .os 200 x1.1.length))], [(200, some (.row 2 1 (x1.1.map (V.int .i64))))]⟩) ⟨by first | omega | assumption | (simp only [List.length_append, List.length_cons, List.length_nil, List.length_replicate, put_len] at * <;> omega) | ((have hq := rep_step (by assumption) (by assumption) hp2.2 (by assumption); dsimp only at hq ⊢; omega)) | ((rw [cpy_len (by simp only [List.length_take] at *; omega)]; done)) | ((dsimp only; rw [cpy_len (by simp only [List.length_take, List.length_replicate, hM, hW] at *; omega)]; simp only [List.length_replicate, hM, hW]; omega)) | ((have hp := pre_len (xs := x1.1) (b := x1.2) (by omega); rw [cpy_len (by rw [List.length_take]; omega)]; done)) | ((simp only [hM, hW, List.length_replicate] at *; omega)) | ((rw [cpy_len (by simp only [List.length_take, List.length_replicate, hM, hW] at *; omega)])), by first | omega | assumption | (simp only [List.length_append, List.length_cons, List.length_nil, List.length_replicate, put_len] at * <;> omega) | ((have hq := rep_step (by assumption) (by assumption) hp2.2 (by assumption); dsimp only at hq ⊢; omega)) | ((rw [cpy_len (by simp only [List.length_take] at *; omega)]; done)) | ((dsimp only; rw [cpy_len (by simp only [List.length_take, List.length_replicate, hM, hW] at *; omega)]; simp only [List.length_replicate, hM, hW]; omega)) | ((have hp := pre_len (xs := x1.1) (b := x1.2) (by omega); rw [cpy_len (by rw [List.length_take]; omega)]; done)) | ((simp only [hM, hW, List.length_replicate] at *; omega)) | ((rw [cpy_len (by simp only [List.length_take, List.length_replicate, hM, hW] at *; omega)]))⟩ (by first | omega | assumption | (simp only [List.length_append, List.length_cons, List.length_nil, List.length_replicate, put_len] at * <;> omega) | ((have hq := rep_step (by assumption) (by assumption) hp2.2 (by assumption); dsimp only at hq ⊢; omega)) | ((rw [cpy_len (by simp only [List.length_take] at *; omega)]; done)) | ((dsimp only; rw [cpy_len (by simp only [List.length_take, List.length_replicate, hM, hW] at *; omega)]; simp only [List.length_replicate, hM, hW]; omega)) | ((have hp := pre_len (xs := x1.1) (b := x1.2) (by omega); rw [cpy_len (by rw [List.length_take]; omega)]; done)) | ((simp only [hM, hW, List.length_replicate] at *; omega)) | ((rw [cpy_len (by simp only [List.length_take, List.length_replicate, hM, hW] at *; omega)]))) (sub_of [] ⟨os_len rfl (by first | (simp only [put_len]; done) | (first | omega | assumption | (simp only [List.length_append, List.length_cons, List.length_nil, List.length_replicate, put_len] at * <;> omega) | ((have hq := rep_step (by assumption) (by assumption) hp2.2 (by assumption); dsimp only at hq ⊢; omega)) | ((rw [cpy_len (by simp only [List.length_take] at *; omega)]; done)) | ((dsimp only; rw [cpy_len (by simp only [List.length_take, List.length_replicate, hM, hW] at *; omega)]; simp only [List.length_replicate, hM, hW]; omega)) | ((have hp := pre_len (xs := x1.1) (b := x1.2) (by omega); rw [cpy_len (by rw [List.length_take]; omega)]; done)) | ((simp only [hM, hW, List.length_replicate] at *; omega)) | ((rw [cpy_len (by simp only [List.length_take, List.length_replicate, hM, hW] at *; omega)])))), rfl, trivial⟩ ⟨rfl, trivial⟩ rfl) ?_ ?_
      · intro x1 i7
        obtain ⟨e8, e9⟩ := i7
        try dsimp only at *
        refine run_seq ?_
        refine run_region (q_move .n (.t rfl) rfl <|
            q_assign .n (.t rfl) rfl <|
            Lex.nil) ?_
        exact run_ret [(100, 200)] (.cons (.t rfl rfl) .nil) (by first | rfl | (simp only [put_len]; rfl)) ⟨rfl, trivial⟩ rfl
      · intro rec1 k1 hk4 x1 i5
        obtain ⟨e10, e11⟩ := i5
        try dsimp only at *
        refine run_seq ?_
        refine run_seq ?_
        refine run_region (q_move .n (.t rfl) rfl <|
            q_move .n (.t rfl) rfl <|
            q_len .n (.t rfl) rfl rfl ss_25 rfl <|
            q_int .n (.t rfl) (.t rfl) rfl rfl <|
            Lex.nil) ?_
        refine run_cond (.t rfl) rfl (fun h6 => ?_) (fun h6 => ?_)
        · try simp only [Bool.and_eq_true, Bool.or_eq_true, Bool.not_eq_true', Bool.and_eq_false_iff, Bool.or_eq_false_iff, Bool.not_eq_false', decide_eq_true_eq, decide_eq_false_iff_not, beq_iff_eq, bne_iff_ne, beq_eq_false_iff_ne, bne_eq_false_iff_eq, Bool.true_and, ne_eq, Decidable.not_not, Int.not_lt, Int.not_le, Nat.not_lt, Nat.not_le, strB_nil, strB_nil', strB_nnil, strB_nnil'] at h6
          refine run_skip ?_
          refine run_block ?_
          refine run_draw fmo (q_move .n (.t rfl) rfl <|
              q_move .n (.t rfl) rfl <|
              q_move .n (.t rfl) rfl <|
              q_cut_oss (x1.1.length : Int) .n (.t rfl) (.s (.t rfl)) .n sl_25 rfl (fun _ => by first | omega | assumption | (simp only [List.length_append, List.length_cons, List.length_nil, List.length_replicate, put_len] at * <;> omega) | ((have hq := rep_step (by assumption) (by assumption) hp2.2 (by assumption); dsimp only at hq ⊢; omega)) | ((rw [cpy_len (by simp only [List.length_take] at *; omega)]; done)) | ((dsimp only; rw [cpy_len (by simp only [List.length_take, List.length_replicate, hM, hW] at *; omega)]; simp only [List.length_replicate, hM, hW]; omega)) | ((have hp := pre_len (xs := x1.1) (b := x1.2) (by omega); rw [cpy_len (by rw [List.length_take]; omega)]; done)) | ((simp only [hM, hW, List.length_replicate] at *; omega)) | ((rw [cpy_len (by simp only [List.length_take, List.length_replicate, hM, hW] at *; omega)]))) rfl <|
              q_move .n (.t rfl) rfl <|
              q_move .n (.t rfl) rfl <|
              q_cut_owm (xs := x1.1) (b := x1.2) .n (.t rfl) (.s (.t rfl)) sl_25 (fun _ => by first | omega | assumption | (simp only [List.length_append, List.length_cons, List.length_nil, List.length_replicate, put_len] at * <;> omega) | ((have hq := rep_step (by assumption) (by assumption) hp2.2 (by assumption); dsimp only at hq ⊢; omega)) | ((rw [cpy_len (by simp only [List.length_take] at *; omega)]; done)) | ((dsimp only; rw [cpy_len (by simp only [List.length_take, List.length_replicate, hM, hW] at *; omega)]; simp only [List.length_replicate, hM, hW]; omega)) | ((have hp := pre_len (xs := x1.1) (b := x1.2) (by omega); rw [cpy_len (by rw [List.length_take]; omega)]; done)) | ((simp only [hM, hW, List.length_replicate] at *; omega)) | ((rw [cpy_len (by simp only [List.length_take, List.length_replicate, hM, hW] at *; omega)]))) rfl <|
              q_copym (ys := pre' x1.1 x1.2) (off := x1.2.toNat) (m := ((x1.1.length : Int).toNat - x1.2.toNat)) .n rfl (.oss (.t rfl)) rfl (by first | omega | assumption | (simp only [List.length_append, List.length_cons, List.length_nil, List.length_replicate, put_len] at * <;> omega) | ((have hq := rep_step (by assumption) (by assumption) hp2.2 (by assumption); dsimp only at hq ⊢; omega)) | ((rw [cpy_len (by simp only [List.length_take] at *; omega)]; done)) | ((dsimp only; rw [cpy_len (by simp only [List.length_take, List.length_replicate, hM, hW] at *; omega)]; simp only [List.length_replicate, hM, hW]; omega)) | ((have hp := pre_len (xs := x1.1) (b := x1.2) (by omega); rw [cpy_len (by rw [List.length_take]; omega)]; done)) | ((simp only [hM, hW, List.length_replicate] at *; omega)) | ((rw [cpy_len (by simp only [List.length_take, List.length_replicate, hM, hW] at *; omega)]))) (.ow (.t rfl) rfl pre_map (by simp only [len_map, pre_len])) sl_25 rfl rfl <|
              q_int .n (.t rfl) (.t rfl) rfl rfl <|
              q_assign .n (.t rfl) rfl <|
              Lex.nil) (by kernel_rfl) ?_
          refine run_endB ?_
          exact run_again (cpy x1.1 (x1.2.toNat) ((pre' x1.1 x1.2).take (min (pre' x1.1 x1.2).length ((x1.1.length : Int).toNat - x1.2.toNat))), IntKind.wrap .i64 (x1.2 + (((min (pre' x1.1 x1.2).length ((x1.1.length : Int).toNat - x1.2.toNat)) : Nat) : Int))) ⟨by first | omega | assumption | (simp only [List.length_append, List.length_cons, List.length_nil, List.length_replicate, put_len] at * <;> omega) | ((have hq := rep_step (by assumption) (by assumption) hp2.2 (by assumption); dsimp only at hq ⊢; omega)) | ((rw [cpy_len (by simp only [List.length_take] at *; omega)]; done)) | ((dsimp only; rw [cpy_len (by simp only [List.length_take, List.length_replicate, hM, hW] at *; omega)]; simp only [List.length_replicate, hM, hW]; omega)) | ((have hp := pre_len (xs := x1.1) (b := x1.2) (by omega); rw [cpy_len (by rw [List.length_take]; omega)]; done)) | ((simp only [hM, hW, List.length_replicate] at *; omega)) | ((rw [cpy_len (by simp only [List.length_take, List.length_replicate, hM, hW] at *; omega)])), by first | omega | assumption | (simp only [List.length_append, List.length_cons, List.length_nil, List.length_replicate, put_len] at * <;> omega) | ((have hq := rep_step (by assumption) (by assumption) hp2.2 (by assumption); dsimp only at hq ⊢; omega)) | ((rw [cpy_len (by simp only [List.length_take] at *; omega)]; done)) | ((dsimp only; rw [cpy_len (by simp only [List.length_take, List.length_replicate, hM, hW] at *; omega)]; simp only [List.length_replicate, hM, hW]; omega)) | ((have hp := pre_len (xs := x1.1) (b := x1.2) (by omega); rw [cpy_len (by rw [List.length_take]; omega)]; done)) | ((simp only [hM, hW, List.length_replicate] at *; omega)) | ((rw [cpy_len (by simp only [List.length_take, List.length_replicate, hM, hW] at *; omega)]))⟩ (by first | omega | assumption | (simp only [List.length_append, List.length_cons, List.length_nil, List.length_replicate, put_len] at * <;> omega) | ((have hq := rep_step (by assumption) (by assumption) hp2.2 (by assumption); dsimp only at hq ⊢; omega)) | ((rw [cpy_len (by simp only [List.length_take] at *; omega)]; done)) | ((dsimp only; rw [cpy_len (by simp only [List.length_take, List.length_replicate, hM, hW] at *; omega)]; simp only [List.length_replicate, hM, hW]; omega)) | ((have hp := pre_len (xs := x1.1) (b := x1.2) (by omega); rw [cpy_len (by rw [List.length_take]; omega)]; done)) | ((simp only [hM, hW, List.length_replicate] at *; omega)) | ((rw [cpy_len (by simp only [List.length_take, List.length_replicate, hM, hW] at *; omega)]))) (sub_of [] ⟨os_len rfl (by first | (simp only [put_len]; done) | (first | omega | assumption | (simp only [List.length_append, List.length_cons, List.length_nil, List.length_replicate, put_len] at * <;> omega) | ((have hq := rep_step (by assumption) (by assumption) hp2.2 (by assumption); dsimp only at hq ⊢; omega)) | ((rw [cpy_len (by simp only [List.length_take] at *; omega)]; done)) | ((dsimp only; rw [cpy_len (by simp only [List.length_take, List.length_replicate, hM, hW] at *; omega)]; simp only [List.length_replicate, hM, hW]; omega)) | ((have hp := pre_len (xs := x1.1) (b := x1.2) (by omega); rw [cpy_len (by rw [List.length_take]; omega)]; done)) | ((simp only [hM, hW, List.length_replicate] at *; omega)) | ((rw [cpy_len (by simp only [List.length_take, List.length_replicate, hM, hW] at *; omega)])))), rfl, trivial⟩ ⟨rfl, trivial⟩ rfl)
        · try simp only [Bool.and_eq_true, Bool.or_eq_true, Bool.not_eq_true', Bool.and_eq_false_iff, Bool.or_eq_false_iff, Bool.not_eq_false', decide_eq_true_eq, decide_eq_false_iff_not, beq_iff_eq, bne_iff_ne, beq_eq_false_iff_ne, bne_eq_false_iff_eq, Bool.true_and, ne_eq, Decidable.not_not, Int.not_lt, Int.not_le, Nat.not_lt, Nat.not_le, strB_nil, strB_nil', strB_nnil, strB_nnil'] at h6
          refine run_exit rfl ?_
          exact run_cont hk4 (x1.1, x1.2) ⟨by first | omega | assumption | (simp only [List.length_append, List.length_cons, List.length_nil, List.length_replicate, put_len] at * <;> omega) | ((have hq := rep_step (by assumption) (by assumption) hp2.2 (by assumption); dsimp only at hq ⊢; omega)) | ((rw [cpy_len (by simp only [List.length_take] at *; omega)]; done)) | ((dsimp only; rw [cpy_len (by simp only [List.length_take, List.length_replicate, hM, hW] at *; omega)]; simp only [List.length_replicate, hM, hW]; omega)) | ((have hp := pre_len (xs := x1.1) (b := x1.2) (by omega); rw [cpy_len (by rw [List.length_take]; omega)]; done)) | ((simp only [hM, hW, List.length_replicate] at *; omega)) | ((rw [cpy_len (by simp only [List.length_take, List.length_replicate, hM, hW] at *; omega)])), by first | omega | assumption | (simp only [List.length_append, List.length_cons, List.length_nil, List.length_replicate, put_len] at * <;> omega) | ((have hq := rep_step (by assumption) (by assumption) hp2.2 (by assumption); dsimp only at hq ⊢; omega)) | ((rw [cpy_len (by simp only [List.length_take] at *; omega)]; done)) | ((dsimp only; rw [cpy_len (by simp only [List.length_take, List.length_replicate, hM, hW] at *; omega)]; simp only [List.length_replicate, hM, hW]; omega)) | ((have hp := pre_len (xs := x1.1) (b := x1.2) (by omega); rw [cpy_len (by rw [List.length_take]; omega)]; done)) | ((simp only [hM, hW, List.length_replicate] at *; omega)) | ((rw [cpy_len (by simp only [List.length_take, List.length_replicate, hM, hW] at *; omega)]))⟩ (sub_of [] ⟨rfl, trivial⟩ ⟨rfl, trivial⟩ rfl)

/-! ### impl_divUp -/
theorem c_impl_divUp (a : Int) (b : Int) (hp1 : ¬ b = 0) : Con Try.prog 123 [.int .i64 a, .int .i64 b] [] (.int .i64 (m_impl_divUp a b)) ([]) := by
  refine con_intro (out := fun r : Int => ((.int .i64 r : V), ([] : List (Nat × Option O)))) (r := (m_impl_divUp a b)) Try.func123 rfl Try.ntmps123 rfl ?_
  refine run_seq ?_
  refine run_region (q_assign .n (.c rfl) rfl <|
      Lex.nil) ?_
  refine run_seq ?_
  refine run_region (q_move .n (.t rfl) rfl <|
      q_move .n (.t rfl) rfl <|
      q_int .n (.t rfl) (.t rfl) rfl rfl <|
      q_int .n (.t rfl) (.c rfl) rfl rfl <|
      q_move .n (.t rfl) rfl <|
      q_quo .n (.t rfl) (.t rfl) (fun hg => by first | omega | assumption | (simp only [List.length_append, List.length_cons, List.length_nil, List.length_replicate, put_len] at * <;> omega)) rfl <|
      q_assign .n (.t rfl) rfl <|
      Lex.nil) ?_
  exact run_ret [] (.cons (.t rfl rfl) .nil) rfl trivial rfl

/-! ### impl_Mine_leaving -/
theorem c_impl_Mine_leaving (m_ : gMine) (flows : List Int) (f : gFire) (hp1 : MineIn m_) (hp2 : FlowsIn m_ flows) (hp3 : FireIn m_ f) : Con Try.prog 122 [.st [.int .i64 m_.Junctions, .sl 7 (m_.Airways.map gAirway.v)], .sl 1 (flows.map (V.int .i64)), .st [.int .i64 f.Airway, .int .i64 f.At, .int .i64 f.Start]] [] (.tup [.int .i64 (m_impl_Mine_leaving m_ flows f).1, .int .i64 (m_impl_Mine_leaving m_ flows f).2]) ([]) := by
  refine con_intro (out := fun r : Int × Int => ((.tup [.int .i64 r.1, .int .i64 r.2] : V), ([] : List (Nat × Option O)))) (r := (m_impl_Mine_leaving m_ flows f)) Try.func122 rfl Try.ntmps122 rfl ?_
  have hFi := hp3.1
  have hJ1 := hp1.1
  have hA1 := hp1.2.1
  have hF2 := hp2.1
  refine run_factS (t := 0) 1 rfl rfl fun hl => ?_
  have l1 := hl; clear hl; simp only [List.length_map] at l1
  refine run_fact (t := 1) rfl fun hl => ?_
  have l2 := hl; clear hl; simp only [List.length_map] at l2
  refine run_seq ?_
  refine run_region (q_box (l := 200) .n rfl (.t rfl) rfl rfl rfl rfl <|
      q_box (l := 201) .n rfl (.t rfl) rfl rfl rfl rfl <|
      q_assign .n (.c rfl) rfl <|
      q_assign .n (.c rfl) rfl <|
      Lex.nil) ?_
  refine run_seq ?_
  refine run_draw fmo (q_fld_ow .n (.t rfl) fo_33_1 rfl <|
      q_ld1_ow .n (.t rfl) rfl (.inr rfl) (fun _ => rfl) rfl ic_31 rfl <|
      q_fld_ow .n (.t rfl) fo_52_0 rfl <|
      q_ld1_ow .n (.t rfl) rfl (.inr rfl) (fun _ => rfl) rfl ic_2 rfl <|
      q_idx_rm .n (.t rfl) (.t rfl) sl_31 (fun _ => by first | omega | assumption | (simp only [List.length_append, List.length_cons, List.length_nil, List.length_replicate, put_len] at * <;> omega) | (exact abs_ne (hp2.at hp3.1) (by assumption))) rfl <|
      q_ldN_ro .n (.t rfl) ag_105 rfl rfl rfl <|
      q_move .n (.t rfl) rfl <|
      q_fld_ow .n (.t rfl) fo_52_0 rfl <|
      q_ld1_ow .n (.t rfl) rfl (.inr rfl) (fun _ => rfl) rfl ic_2 rfl <|
      q_idx_rm .n (.t rfl) (.t rfl) sl_25 (fun _ => by first | omega | assumption | (simp only [List.length_append, List.length_cons, List.length_nil, List.length_replicate, put_len] at * <;> omega) | (exact abs_ne (hp2.at hp3.1) (by assumption))) rfl <|
      q_ld1_ro .n (.t rfl) rfl ic_2 rfl <|
      q_alloc (l := 202) .n rfl zv_105 rfl rfl <|
      q_st_boxm [.str (at' m_.Airways f.Airway).Id, .int .i64 (at' m_.Airways f.Airway).From, .int .i64 (at' m_.Airways f.Airway).To, .int .i64 (at' m_.Airways f.Airway).Length, .int .i64 (at' m_.Airways f.Airway).Section, .int .i64 (at' m_.Airways f.Airway).Friction, .int .i64 (at' m_.Airways f.Airway).Shock] .n rfl (.t rfl) (.t rfl) rfl ts_105 rfl rfl <|
      q_assign .n (.t rfl) rfl <|
      Lex.nil) (by kernel_rfl) ?_
  refine run_seq ?_
  refine run_seq ?_
  refine run_region (q_move .n (.t rfl) rfl <|
      q_int .n (.t rfl) (.c rfl) rfl rfl <|
      Lex.nil) ?_
  refine run_cond (.t rfl) rfl (fun h3 => ?_) (fun h3 => ?_)
  · try simp only [Bool.and_eq_true, Bool.or_eq_true, Bool.not_eq_true', Bool.and_eq_false_iff, Bool.or_eq_false_iff, Bool.not_eq_false', decide_eq_true_eq, decide_eq_false_iff_not, beq_iff_eq, bne_iff_ne, beq_eq_false_iff_ne, bne_eq_false_iff_eq, Bool.true_and, ne_eq, Decidable.not_not, Int.not_lt, Int.not_le, Nat.not_lt, Nat.not_le, strB_nil, strB_nil', strB_nnil, strB_nnil'] at h3
    refine run_seq ?_
    refine run_region (q_assign .n (.c rfl) rfl <|
        q_assign .n (.c rfl) rfl <|
        Lex.nil) ?_
    exact run_ret [] (.cons (.t rfl rfl) (.cons (.t rfl rfl) .nil)) rfl trivial rfl
  · try simp only [Bool.and_eq_true, Bool.or_eq_true, Bool.not_eq_true', Bool.and_eq_false_iff, Bool.or_eq_false_iff, Bool.not_eq_false', decide_eq_true_eq, decide_eq_false_iff_not, beq_iff_eq, bne_iff_ne, beq_eq_false_iff_ne, bne_eq_false_iff_eq, Bool.true_and, ne_eq, Decidable.not_not, Int.not_lt, Int.not_le, Nat.not_lt, Nat.not_le, strB_nil, strB_nil', strB_nnil, strB_nnil'] at h3
    refine run_skip ?_
    refine run_seq ?_
    refine run_region (q_fld_ow .n (.t rfl) fo_105_3 rfl <|
        q_ld1_ow .n (.t rfl) rfl (.inr rfl) (fun _ => rfl) rfl ic_2 rfl <|
        q_fld_ow .n (.t rfl) fo_52_1 rfl <|
        q_ld1_ow .n (.t rfl) rfl (.inr rfl) (fun _ => rfl) rfl ic_2 rfl <|
        q_int .n (.t rfl) (.t rfl) rfl rfl <|
        q_assign .n (.t rfl) rfl <|
        Lex.nil) ?_
    refine run_seq ?_
    refine run_seq ?_
    refine run_region (q_move .n (.t rfl) rfl <|
        q_int .n (.t rfl) (.c rfl) rfl rfl <|
        Lex.nil) ?_
    refine run_join _ _ rfl (fun v4 : Int => True) (fun v4 => ⟨[(5, some (true, .op 201 0 0 0)), (8, some (true, .op 202 0 0 0)), (9, some (true, .int .i64 (at' flows f.Airway))), (10, some (true, .int .i64 v4))], [(201, some (.box 52 [.int .i64 f.Airway, .int .i64 f.At, .int .i64 f.Start])), (202, some (.box 105 [.str (at' m_.Airways f.Airway).Id, .int .i64 (at' m_.Airways f.Airway).From, .int .i64 (at' m_.Airways f.Airway).To, .int .i64 (at' m_.Airways f.Airway).Length, .int .i64 (at' m_.Airways f.Airway).Section, .int .i64 (at' m_.Airways f.Airway).Friction, .int .i64 (at' m_.Airways f.Airway).Shock]))]⟩) (fun v4 _ => ?_) (fun j5 hj6 => ?_)
    · refine run_seq ?_
      refine run_region (q_ldN_ow .n (.t rfl) rfl (.inr rfl) ag_105 (fun _ => rfl) rfl rfl <|
          q_move .n (.t rfl) rfl <|
          q_call0 (full := false) .n .f en_111 (.cons (.t rfl) (.cons (.t rfl) .nil)) (.cons (.sts rfl) (.cons (.b (.a (.same rfl))) .nil)) (fun hg => c_impl_Airway_ways (at' m_.Airways f.Airway) (at' flows f.Airway)) rfl (fun h => Bool.noConfusion h) rfl <|
          q_move .n (.t rfl) rfl <|
          q_ext .n (.t rfl) rfl rfl rfl <|
          q_ext .n (.t rfl) rfl rfl rfl <|
          q_assign .n (.t rfl) rfl <|
          q_assign .n (.t rfl) rfl <|
          Lex.nil) ?_
      refine run_seq ?_
      refine run_draw fmo (q_fld_ow .n (.t rfl) fo_52_2 rfl <|
          q_ld1_ow .n (.t rfl) rfl (.inr rfl) (fun _ => rfl) rfl ic_2 rfl <|
          q_move .n (.t rfl) rfl <|
          q_fld_ow .n (.t rfl) fo_105_4 rfl <|
          q_ld1_ow .n (.t rfl) rfl (.inr rfl) (fun _ => rfl) rfl ic_2 rfl <|
          q_int .n (.t rfl) (.t rfl) rfl rfl <|
          q_move .n (.t rfl) rfl <|
          q_call0 (full := false) .n .f en_95 (.cons (.t rfl) .nil) (.cons (.b (.a (.same rfl))) .nil) (fun hg => c_impl_abs (at' flows f.Airway)) rfl (fun h => Bool.noConfusion h) rfl <|
          q_call0 (full := false) .n .f en_123 (.cons (.t rfl) (.cons (.t rfl) .nil)) (.cons (.b (.a (.same rfl))) (.cons (.b (.a (.same rfl))) .nil)) (fun hg => c_impl_divUp (IntKind.wrap .i64 (v4 * (at' m_.Airways f.Airway).Section)) (m_impl_abs (at' flows f.Airway)) (by first | omega | assumption | (simp only [List.length_append, List.length_cons, List.length_nil, List.length_replicate, put_len] at * <;> omega) | (exact abs_ne (hp2.at hp3.1) (by assumption)))) rfl (fun h => Bool.noConfusion h) rfl <|
          q_int .n (.t rfl) (.t rfl) rfl rfl <|
          q_move .n (.t rfl) rfl <|
          q_assign .n (.t rfl) rfl <|
          q_assign .n (.t rfl) rfl <|
          Lex.nil) (by kernel_rfl) ?_
      exact run_ret [] (.cons (.t rfl rfl) (.cons (.t rfl rfl) .nil)) rfl trivial rfl
    · refine run_cond (.t rfl) rfl (fun h7 => ?_) (fun h7 => ?_)
      · try simp only [Bool.and_eq_true, Bool.or_eq_true, Bool.not_eq_true', Bool.and_eq_false_iff, Bool.or_eq_false_iff, Bool.not_eq_false', decide_eq_true_eq, decide_eq_false_iff_not, beq_iff_eq, bne_iff_ne, beq_eq_false_iff_ne, bne_eq_false_iff_eq, Bool.true_and, ne_eq, Decidable.not_not, Int.not_lt, Int.not_le, Nat.not_lt, Nat.not_le, strB_nil, strB_nil', strB_nnil, strB_nnil'] at h7
        refine run_region (q_fld_ow .n (.t rfl) fo_52_1 rfl <|
            q_ld1_ow .n (.t rfl) rfl (.inr rfl) (fun _ => rfl) rfl ic_2 rfl <|
            q_assign .n (.t rfl) rfl <|
            Lex.nil) ?_
        exact run_cont hj6 f.At trivial (sub_of [] ⟨rfl, rfl, rfl, rfl, trivial⟩ ⟨rfl, rfl, trivial⟩ rfl)
      · try simp only [Bool.and_eq_true, Bool.or_eq_true, Bool.not_eq_true', Bool.and_eq_false_iff, Bool.or_eq_false_iff, Bool.not_eq_false', decide_eq_true_eq, decide_eq_false_iff_not, beq_iff_eq, bne_iff_ne, beq_eq_false_iff_ne, bne_eq_false_iff_eq, Bool.true_and, ne_eq, Decidable.not_not, Int.not_lt, Int.not_le, Nat.not_lt, Nat.not_le, strB_nil, strB_nil', strB_nnil, strB_nnil'] at h7
        refine run_skip ?_
        exact run_cont hj6 (IntKind.wrap .i64 ((at' m_.Airways f.Airway).Length - f.At)) trivial (sub_of [] ⟨rfl, rfl, rfl, rfl, trivial⟩ ⟨rfl, rfl, trivial⟩ rfl)

/-! ### impl_Mine_arrivals -/
set_option maxHeartbeats 4000000 in
theorem c_impl_Mine_arrivals (m_ : gMine) (flows : List Int) (f : gFire) (hp1 : MineIn m_) (hp2 : FlowsIn m_ flows) (hp3 : FireIn m_ f) : Con Try.prog 78 [.st [.int .i64 m_.Junctions, .sl 7 (m_.Airways.map gAirway.v)], .sl 1 (flows.map (V.int .i64)), .st [.int .i64 f.Airway, .int .i64 f.At, .int .i64 f.Start]] [] (.os 100 (m_impl_Mine_arrivals m_ flows f).length) ([(100, some (.row 2 1 ((m_impl_Mine_arrivals m_ flows f).map (V.int .i64))))]) := by
  refine con_intro (out := fun r : (List Int) => ((.os 100 r.length : V), ([(100, some (.row 2 1 (r.map (V.int .i64))))] : List (Nat × Option O)))) (r := (m_impl_Mine_arrivals m_ flows f)) Try.func78 rfl Try.ntmps78 rfl ?_
  have hFi := hp3.1
  have hRl := rep_len hp1.1
  have hJ1 := hp1.1
  have hA1 := hp1.2.1
  have hF2 := hp2.1
  refine run_factS (t := 0) 1 rfl rfl fun hl => ?_
  have l1 := hl; clear hl; simp only [List.length_map] at l1
  refine run_fact (t := 1) rfl fun hl => ?_
  have l2 := hl; clear hl; simp only [List.length_map] at l2
  refine run_seq ?_
  refine run_region (q_box (l := 200) .n rfl (.t rfl) rfl rfl rfl rfl <|
      q_box (l := 201) .n rfl (.t rfl) rfl rfl rfl rfl <|
      q_assign .n (.c rfl) rfl <|
      Lex.nil) ?_
  refine run_seq ?_
  refine run_region (q_bslicem ([(-1)] : List Int) (f := V.int .i64) (l := 202) .n rfl rfl (.cons (.c rfl) .nil) rfl si_25 zv_2 rfl rfl rfl <|
      q_fld_ow .n (.t rfl) fo_33_0 rfl <|
      q_ld1_ow .n (.t rfl) rfl (.inr rfl) (fun _ => rfl) rfl ic_2 rfl <|
      q_callM (full := true) [] [(100, 203)] .n rfl .f en_121 (.cons (.t rfl) (.cons (.t rfl) .nil)) (.cons (.b (.a (.own rfl rfl rfl (take_all (by simp only [len_map, put_len])) (by simp only [len_map, put_len])))) (.cons (.b (.a (.same rfl))) .nil)) (c_slices_Repeat_int64 ([(-1)] : List Int) m_.Junctions (by first | omega | assumption | (simp only [List.length_append, List.length_cons, List.length_nil, List.length_replicate, put_len] at * <;> omega) | (exact (start_walk hp1 hp2 hp3 (by assumption)).1) | (exact (start_walk hp1 hp2 hp3 (by assumption)).2) | (exact SmI.refl (by assumption)) | (exact SmI.mu (by assumption) (by assumption)) | (exact And.left (by assumption)) | (exact abs_ne (hp2.at (by omega)) (And.left (by assumption))) | (exact smoke_put hp1 hp2 (by assumption) (by omega) (by assumption) (by assumption)) | ((have hw0 := leave_in (flows := flows) hp1 hp3 (by assumption); first | omega | (simp only [List.length_append, List.length_cons, List.length_nil, List.length_replicate, put_len] at * <;> omega))) | ((have hS : SmI m_.Junctions x1.1 x2.2.1 x2.2.2 := (by assumption); have hl := hS.1.1; have hw0 := ways_in (at' flows x2.1) (hp1.at (i := x2.1) (by omega)); omega))) (by first | omega | assumption | (simp only [List.length_append, List.length_cons, List.length_nil, List.length_replicate, put_len] at * <;> omega) | (exact (start_walk hp1 hp2 hp3 (by assumption)).1) | (exact (start_walk hp1 hp2 hp3 (by assumption)).2) | (exact SmI.refl (by assumption)) | (exact SmI.mu (by assumption) (by assumption)) | (exact And.left (by assumption)) | (exact abs_ne (hp2.at (by omega)) (And.left (by assumption))) | (exact smoke_put hp1 hp2 (by assumption) (by omega) (by assumption) (by assumption)) | ((have hw0 := leave_in (flows := flows) hp1 hp3 (by assumption); first | omega | (simp only [List.length_append, List.length_cons, List.length_nil, List.length_replicate, put_len] at * <;> omega))) | ((have hS : SmI m_.Junctions x1.1 x2.2.1 x2.2.2 := (by assumption); have hl := hS.1.1; have hw0 := ways_in (at' flows x2.1) (hp1.at (i := x2.1) (by omega)); omega)))) trivial rfl rfl (fun _ => rfl) (fun _ => (hr_row (fun _ => rfl) hr_nil)) rfl <|
      q_assign .n (.t rfl) rfl <|
      Lex.nil) ?_
  refine run_seq ?_
  refine run_seq ?_
  refine run_region (q_move .n (.t rfl) rfl <|
      q_fld_ow .n (.t rfl) fo_52_0 rfl <|
      q_ld1_ow .n (.t rfl) rfl (.inr rfl) (fun _ => rfl) rfl ic_2 rfl <|
      q_idx_rm .n (.t rfl) (.t rfl) sl_25 (fun _ => by first | omega | assumption | (simp only [List.length_append, List.length_cons, List.length_nil, List.length_replicate, put_len] at * <;> omega) | (exact (start_walk hp1 hp2 hp3 (by assumption)).1) | (exact (start_walk hp1 hp2 hp3 (by assumption)).2) | (exact SmI.refl (by assumption)) | (exact SmI.mu (by assumption) (by assumption)) | (exact And.left (by assumption)) | (exact abs_ne (hp2.at (by omega)) (And.left (by assumption))) | (exact smoke_put hp1 hp2 (by assumption) (by omega) (by assumption) (by assumption)) | ((have hw0 := leave_in (flows := flows) hp1 hp3 (by assumption); first | omega | (simp only [List.length_append, List.length_cons, List.length_nil, List.length_replicate, put_len] at * <;> omega))) | ((have hS : SmI m_.Junctions x1.1 x2.2.1 x2.2.2 := (by assumption); have hl := hS.1.1; have hw0 := ways_in (at' flows x2.1) (hp1.at (i := x2.1) (by omega)); omega))) rfl <|
      q_ld1_ro .n (.t rfl) rfl ic_2 rfl <|
      q_int .n (.t rfl) (.c rfl) rfl rfl <|
      Lex.nil) ?_
  refine run_cond (.t rfl) rfl (fun h3 => ?_) (fun h3 => ?_)
  · try simp only [Bool.and_eq_true, Bool.or_eq_true, Bool.not_eq_true', Bool.and_eq_false_iff, Bool.or_eq_false_iff, Bool.not_eq_false', decide_eq_true_eq, decide_eq_false_iff_not, beq_iff_eq, bne_iff_ne, beq_eq_false_iff_ne, bne_eq_false_iff_eq, Bool.true_and, ne_eq, Decidable.not_not, Int.not_lt, Int.not_le, Nat.not_lt, Nat.not_le, strB_nil, strB_nil', strB_nnil, strB_nnil'] at h3
    refine run_seq ?_
    refine run_region (q_move .n (.t rfl) rfl <|
        q_assign .n (.t rfl) rfl <|
        Lex.nil) ?_
    exact run_ret [(100, 203)] (.cons (.t rfl rfl) .nil) (by first | rfl | (simp only [put_len]; rfl)) ⟨rfl, trivial⟩ rfl
  · try simp only [Bool.and_eq_true, Bool.or_eq_true, Bool.not_eq_true', Bool.and_eq_false_iff, Bool.or_eq_false_iff, Bool.not_eq_false', decide_eq_true_eq, decide_eq_false_iff_not, beq_iff_eq, bne_iff_ne, beq_eq_false_iff_ne, bne_eq_false_iff_eq, Bool.true_and, ne_eq, Decidable.not_not, Int.not_lt, Int.not_le, Nat.not_lt, Nat.not_le, strB_nil, strB_nil', strB_nnil, strB_nnil'] at h3
    refine run_skip ?_
    refine run_seq ?_
    refine run_region (q_ldN_ow .n (.t rfl) rfl (.inr rfl) ag_33 (fun _ => rfl) rfl rfl <|
        q_move .n (.t rfl) rfl <|
        q_ldN_ow .n (.t rfl) rfl (.inr rfl) ag_52 (fun _ => rfl) rfl rfl <|
        q_call0 (full := false) .n .f en_122 (.cons (.t rfl) (.cons (.t rfl) (.cons (.t rfl) .nil))) (.cons (.sts rfl) (.cons (.b (.a (.same rfl))) (.cons (.sts rfl) .nil))) (fun hg => c_impl_Mine_leaving m_ flows f (by first | omega | assumption | (simp only [List.length_append, List.length_cons, List.length_nil, List.length_replicate, put_len] at * <;> omega) | (exact (start_walk hp1 hp2 hp3 (by assumption)).1) | (exact (start_walk hp1 hp2 hp3 (by assumption)).2) | (exact SmI.refl (by assumption)) | (exact SmI.mu (by assumption) (by assumption)) | (exact And.left (by assumption)) | (exact abs_ne (hp2.at (by omega)) (And.left (by assumption))) | (exact smoke_put hp1 hp2 (by assumption) (by omega) (by assumption) (by assumption)) | ((have hw0 := leave_in (flows := flows) hp1 hp3 (by assumption); first | omega | (simp only [List.length_append, List.length_cons, List.length_nil, List.length_replicate, put_len] at * <;> omega))) | ((have hS : SmI m_.Junctions x1.1 x2.2.1 x2.2.2 := (by assumption); have hl := hS.1.1; have hw0 := ways_in (at' flows x2.1) (hp1.at (i := x2.1) (by omega)); omega))) (by first | omega | assumption | (simp only [List.length_append, List.length_cons, List.length_nil, List.length_replicate, put_len] at * <;> omega) | (exact (start_walk hp1 hp2 hp3 (by assumption)).1) | (exact (start_walk hp1 hp2 hp3 (by assumption)).2) | (exact SmI.refl (by assumption)) | (exact SmI.mu (by assumption) (by assumption)) | (exact And.left (by assumption)) | (exact abs_ne (hp2.at (by omega)) (And.left (by assumption))) | (exact smoke_put hp1 hp2 (by assumption) (by omega) (by assumption) (by assumption)) | ((have hw0 := leave_in (flows := flows) hp1 hp3 (by assumption); first | omega | (simp only [List.length_append, List.length_cons, List.length_nil, List.length_replicate, put_len] at * <;> omega))) | ((have hS : SmI m_.Junctions x1.1 x2.2.1 x2.2.2 := (by assumption); have hl := hS.1.1; have hw0 := ways_in (at' flows x2.1) (hp1.at (i := x2.1) (by omega)); omega))) (by first | omega | assumption | (simp only [List.length_append, List.length_cons, List.length_nil, List.length_replicate, put_len] at * <;> omega) | (exact (start_walk hp1 hp2 hp3 (by assumption)).1) | (exact (start_walk hp1 hp2 hp3 (by assumption)).2) | (exact SmI.refl (by assumption)) | (exact SmI.mu (by assumption) (by assumption)) | (exact And.left (by assumption)) | (exact abs_ne (hp2.at (by omega)) (And.left (by assumption))) | (exact smoke_put hp1 hp2 (by assumption) (by omega) (by assumption) (by assumption)) | ((have hw0 := leave_in (flows := flows) hp1 hp3 (by assumption); first | omega | (simp only [List.length_append, List.length_cons, List.length_nil, List.length_replicate, put_len] at * <;> omega))) | ((have hS : SmI m_.Junctions x1.1 x2.2.1 x2.2.2 := (by assumption); have hl := hS.1.1; have hw0 := ways_in (at' flows x2.1) (hp1.at (i := x2.1) (by omega)); omega)))) rfl (fun h => Bool.noConfusion h) rfl <|
        q_move .n (.t rfl) rfl <|
        q_ext .n (.t rfl) rfl rfl rfl <|
        q_ext .n (.t rfl) rfl rfl rfl <|
        q_assign .n (.t rfl) rfl <|
        q_assign .n (.t rfl) rfl <|
        Lex.nil) ?_
    refine run_seq ?_
    refine run_region (q_move .n (.t rfl) rfl <|
        q_move .n (.t rfl) rfl <|
        q_move .n (.t rfl) rfl <|
        q_idx_ow .n (.t rfl) (.t rfl) sl_25 (fun _ => by first | omega | assumption | (simp only [List.length_append, List.length_cons, List.length_nil, List.length_replicate, put_len] at * <;> omega) | (exact (start_walk hp1 hp2 hp3 (by assumption)).1) | (exact (start_walk hp1 hp2 hp3 (by assumption)).2) | (exact SmI.refl (by assumption)) | (exact SmI.mu (by assumption) (by assumption)) | (exact And.left (by assumption)) | (exact abs_ne (hp2.at (by omega)) (And.left (by assumption))) | (exact smoke_put hp1 hp2 (by assumption) (by omega) (by assumption) (by assumption)) | ((have hw0 := leave_in (flows := flows) hp1 hp3 (by assumption); first | omega | (simp only [List.length_append, List.length_cons, List.length_nil, List.length_replicate, put_len] at * <;> omega))) | ((have hS : SmI m_.Junctions x1.1 x2.2.1 x2.2.2 := (by assumption); have hl := hS.1.1; have hw0 := ways_in (at' flows x2.1) (hp1.at (i := x2.1) (by omega)); omega))) rfl <|
        q_st_rowm (m_impl_Mine_leaving m_ flows f).1 .n rfl (.t rfl) (.t rfl) rfl ts_2 (by first | omega | assumption | (simp only [List.length_append, List.length_cons, List.length_nil, List.length_replicate, put_len] at * <;> omega) | (exact (start_walk hp1 hp2 hp3 (by assumption)).1) | (exact (start_walk hp1 hp2 hp3 (by assumption)).2) | (exact SmI.refl (by assumption)) | (exact SmI.mu (by assumption) (by assumption)) | (exact And.left (by assumption)) | (exact abs_ne (hp2.at (by omega)) (And.left (by assumption))) | (exact smoke_put hp1 hp2 (by assumption) (by omega) (by assumption) (by assumption)) | ((have hw0 := leave_in (flows := flows) hp1 hp3 (by assumption); first | omega | (simp only [List.length_append, List.length_cons, List.length_nil, List.length_replicate, put_len] at * <;> omega))) | ((have hS : SmI m_.Junctions x1.1 x2.2.1 x2.2.2 := (by assumption); have hl := hS.1.1; have hw0 := ways_in (at' flows x2.1) (hp1.at (i := x2.1) (by omega)); omega))) rfl rfl <|
        Lex.nil) ?_
    refine run_seq ?_
    refine run_seq ?_
    refine run_region (q_assign .n (.c rfl) rfl <|
        Lex.nil) ?_
    refine run_block ?_
    refine run_LOOP (m_impl_Mine_arrivals_b1 m_ flows f) _ _ _ rfl (fun (x1 : (List Int) × Bool) => SmB m_.Junctions x1.1) (fun x1 => SmB m_.Junctions x1.1) (fun x1 => pot x1.1 + (bif x1.2 then 1 else 0)) (fun x1 => ⟨[(1, some (true, .sl 1 (flows.map (V.int .i64)))), (3, some (true, .op 200 0 0 0)), (7, some (true, .os 203 x1.1.length)), (10, some (true, .bool x1.2))], [(200, some (.box 33 [.int .i64 m_.Junctions, .sl 7 (m_.Airways.map gAirway.v)])), (203, some (.row 2 1 (x1.1.map (V.int .i64))))]⟩) (fun x1 => ⟨[(7, some (true, .os 203 x1.1.length))], [(203, some (.row 2 1 (x1.1.map (V.int .i64))))]⟩) (by first | omega | assumption | (simp only [List.length_append, List.length_cons, List.length_nil, List.length_replicate, put_len] at * <;> omega) | (exact (start_walk hp1 hp2 hp3 (by assumption)).1) | (exact (start_walk hp1 hp2 hp3 (by assumption)).2) | (exact SmI.refl (by assumption)) | (exact SmI.mu (by assumption) (by assumption)) | (exact And.left (by assumption)) | (exact abs_ne (hp2.at (by omega)) (And.left (by assumption))) | (exact smoke_put hp1 hp2 (by assumption) (by omega) (by assumption) (by assumption)) | ((have hw0 := leave_in (flows := flows) hp1 hp3 (by assumption); first | omega | (simp only [List.length_append, List.length_cons, List.length_nil, List.length_replicate, put_len] at * <;> omega))) | ((have hS : SmI m_.Junctions x1.1 x2.2.1 x2.2.2 := (by assumption); have hl := hS.1.1; have hw0 := ways_in (at' flows x2.1) (hp1.at (i := x2.1) (by omega)); omega))) (by first | omega | assumption | (simp only [List.length_append, List.length_cons, List.length_nil, List.length_replicate, put_len] at * <;> omega) | (exact (start_walk hp1 hp2 hp3 (by assumption)).1) | (exact (start_walk hp1 hp2 hp3 (by assumption)).2) | (exact SmI.refl (by assumption)) | (exact SmI.mu (by assumption) (by assumption)) | (exact And.left (by assumption)) | (exact abs_ne (hp2.at (by omega)) (And.left (by assumption))) | (exact smoke_put hp1 hp2 (by assumption) (by omega) (by assumption) (by assumption)) | ((have hw0 := leave_in (flows := flows) hp1 hp3 (by assumption); first | omega | (simp only [List.length_append, List.length_cons, List.length_nil, List.length_replicate, put_len] at * <;> omega))) | ((have hS : SmI m_.Junctions x1.1 x2.2.1 x2.2.2 := (by assumption); have hl := hS.1.1; have hw0 := ways_in (at' flows x2.1) (hp1.at (i := x2.1) (by omega)); omega))) (sub_of [] ⟨rfl, rfl, os_len rfl (by first | (simp only [put_len]; done) | (first | omega | assumption | (simp only [List.length_append, List.length_cons, List.length_nil, List.length_replicate, put_len] at * <;> omega) | (exact (start_walk hp1 hp2 hp3 (by assumption)).1) | (exact (start_walk hp1 hp2 hp3 (by assumption)).2) | (exact SmI.refl (by assumption)) | (exact SmI.mu (by assumption) (by assumption)) | (exact And.left (by assumption)) | (exact abs_ne (hp2.at (by omega)) (And.left (by assumption))) | (exact smoke_put hp1 hp2 (by assumption) (by omega) (by assumption) (by assumption)) | ((have hw0 := leave_in (flows := flows) hp1 hp3 (by assumption); first | omega | (simp only [List.length_append, List.length_cons, List.length_nil, List.length_replicate, put_len] at * <;> omega))) | ((have hS : SmI m_.Junctions x1.1 x2.2.1 x2.2.2 := (by assumption); have hl := hS.1.1; have hw0 := ways_in (at' flows x2.1) (hp1.at (i := x2.1) (by omega)); omega)))), rfl, trivial⟩ ⟨rfl, rfl, trivial⟩ rfl) ?_ ?_
    · intro x1 i22
      have e23 := i22
      try dsimp only at *
      refine run_seq ?_
      refine run_region (q_move .n (.t rfl) rfl <|
          q_assign .n (.t rfl) rfl <|
          Lex.nil) ?_
      exact run_ret [(100, 203)] (.cons (.t rfl rfl) .nil) (by first | rfl | (simp only [put_len]; rfl)) ⟨rfl, trivial⟩ rfl
    · intro rec1 k1 hk4 x1 i5
      have e24 := i5
      try dsimp only at *
      refine run_seq ?_
      refine run_seq ?_
      refine run_region (q_move .n (.t rfl) rfl <|
          Lex.nil) ?_
      refine run_cond (.t rfl) rfl (fun h6 => ?_) (fun h6 => ?_)
      · try simp only [Bool.and_eq_true, Bool.or_eq_true, Bool.not_eq_true', Bool.and_eq_false_iff, Bool.or_eq_false_iff, Bool.not_eq_false', decide_eq_true_eq, decide_eq_false_iff_not, beq_iff_eq, bne_iff_ne, beq_eq_false_iff_ne, bne_eq_false_iff_eq, Bool.true_and, ne_eq, Decidable.not_not, Int.not_lt, Int.not_le, Nat.not_lt, Nat.not_le, strB_nil, strB_nil', strB_nnil, strB_nnil'] at h6
        refine run_skip ?_
        refine run_block ?_
        refine run_seq ?_
        refine run_region (q_assign .n (.c rfl) rfl <|
            Lex.nil) ?_
        refine run_seq ?_
        refine run_region (q_fld_ow .n (.t rfl) fo_33_1 rfl <|
            q_ld1_ow .n (.t rfl) rfl (.inr rfl) (fun _ => rfl) rfl ic_31 rfl <|
            q_len .n (.t rfl) rfl len_map ss_31 rfl <|
            q_move .n (.c rfl) rfl <|
            Lex.nil) ?_
        refine run_block ?_
        refine run_LOOP (m_impl_Mine_arrivals_b2 m_ flows f rec1 k1 x1) _ _ _ rfl (fun (x2 : Int × (List Int) × Bool) => 0 ≤ x2.1 ∧ x2.1 ≤ (m_.Airways.length : Int) ∧ x2.2.1.length = x1.1.length ∧ SmI m_.Junctions x1.1 x2.2.1 x2.2.2) (fun x2 => 0 ≤ x2.1 ∧ x2.1 ≤ (m_.Airways.length : Int) ∧ x2.2.1.length = x1.1.length ∧ SmI m_.Junctions x1.1 x2.2.1 x2.2.2 ∧ (m_.Airways.length : Int) ≤ x2.1) (fun x2 => ((m_.Airways.length : Int) - x2.1 : Int).toNat) (fun x2 => ⟨[(1, some (true, .sl 1 (flows.map (V.int .i64)))), (3, some (true, .op 200 0 0 0)), (7, some (true, .os 203 x2.2.1.length)), (10, some (true, .bool x2.2.2)), (40, some (true, .sl 7 (m_.Airways.map gAirway.v))), (41, some (true, .int .i64 (m_.Airways.length : Int))), (42, some (true, .int .i64 x2.1))], [(200, some (.box 33 [.int .i64 m_.Junctions, .sl 7 (m_.Airways.map gAirway.v)])), (203, some (.row 2 1 (x2.2.1.map (V.int .i64))))]⟩) (fun x2 => ⟨[(1, some (true, .sl 1 (flows.map (V.int .i64)))), (3, some (true, .op 200 0 0 0)), (7, some (true, .os 203 x2.2.1.length)), (10, some (true, .bool x2.2.2))], [(200, some (.box 33 [.int .i64 m_.Junctions, .sl 7 (m_.Airways.map gAirway.v)])), (203, some (.row 2 1 (x2.2.1.map (V.int .i64))))]⟩) ⟨by first | omega | assumption | (simp only [List.length_append, List.length_cons, List.length_nil, List.length_replicate, put_len] at * <;> omega) | (exact (start_walk hp1 hp2 hp3 (by assumption)).1) | (exact (start_walk hp1 hp2 hp3 (by assumption)).2) | (exact SmI.refl (by assumption)) | (exact SmI.mu (by assumption) (by assumption)) | (exact And.left (by assumption)) | (exact abs_ne (hp2.at (by omega)) (And.left (by assumption))) | (exact smoke_put hp1 hp2 (by assumption) (by omega) (by assumption) (by assumption)) | ((have hw0 := leave_in (flows := flows) hp1 hp3 (by assumption); first | omega | (simp only [List.length_append, List.length_cons, List.length_nil, List.length_replicate, put_len] at * <;> omega))) | ((have hS : SmI m_.Junctions x1.1 x2.2.1 x2.2.2 := (by assumption); have hl := hS.1.1; have hw0 := ways_in (at' flows x2.1) (hp1.at (i := x2.1) (by omega)); omega)), by first | omega | assumption | (simp only [List.length_append, List.length_cons, List.length_nil, List.length_replicate, put_len] at * <;> omega) | (exact (start_walk hp1 hp2 hp3 (by assumption)).1) | (exact (start_walk hp1 hp2 hp3 (by assumption)).2) | (exact SmI.refl (by assumption)) | (exact SmI.mu (by assumption) (by assumption)) | (exact And.left (by assumption)) | (exact abs_ne (hp2.at (by omega)) (And.left (by assumption))) | (exact smoke_put hp1 hp2 (by assumption) (by omega) (by assumption) (by assumption)) | ((have hw0 := leave_in (flows := flows) hp1 hp3 (by assumption); first | omega | (simp only [List.length_append, List.length_cons, List.length_nil, List.length_replicate, put_len] at * <;> omega))) | ((have hS : SmI m_.Junctions x1.1 x2.2.1 x2.2.2 := (by assumption); have hl := hS.1.1; have hw0 := ways_in (at' flows x2.1) (hp1.at (i := x2.1) (by omega)); omega)), by first | omega | assumption | (simp only [List.length_append, List.length_cons, List.length_nil, List.length_replicate, put_len] at * <;> omega) | (exact (start_walk hp1 hp2 hp3 (by assumption)).1) | (exact (start_walk hp1 hp2 hp3 (by assumption)).2) | (exact SmI.refl (by assumption)) | (exact SmI.mu (by assumption) (by assumption)) | (exact And.left (by assumption)) | (exact abs_ne (hp2.at (by omega)) (And.left (by assumption))) | (exact smoke_put hp1 hp2 (by assumption) (by omega) (by assumption) (by assumption)) | ((have hw0 := leave_in (flows := flows) hp1 hp3 (by assumption); first | omega | (simp only [List.length_append, List.length_cons, List.length_nil, List.length_replicate, put_len] at * <;> omega))) | ((have hS : SmI m_.Junctions x1.1 x2.2.1 x2.2.2 := (by assumption); have hl := hS.1.1; have hw0 := ways_in (at' flows x2.1) (hp1.at (i := x2.1) (by omega)); omega)), by first | omega | assumption | (simp only [List.length_append, List.length_cons, List.length_nil, List.length_replicate, put_len] at * <;> omega) | (exact (start_walk hp1 hp2 hp3 (by assumption)).1) | (exact (start_walk hp1 hp2 hp3 (by assumption)).2) | (exact SmI.refl (by assumption)) | (exact SmI.mu (by assumption) (by assumption)) | (exact And.left (by assumption)) | (exact abs_ne (hp2.at (by omega)) (And.left (by assumption))) | (exact smoke_put hp1 hp2 (by assumption) (by omega) (by assumption) (by assumption)) | ((have hw0 := leave_in (flows := flows) hp1 hp3 (by assumption); first | omega | (simp only [List.length_append, List.length_cons, List.length_nil, List.length_replicate, put_len] at * <;> omega))) | ((have hS : SmI m_.Junctions x1.1 x2.2.1 x2.2.2 := (by assumption); have hl := hS.1.1; have hw0 := ways_in (at' flows x2.1) (hp1.at (i := x2.1) (by omega)); omega))⟩ (by first | omega | assumption | (simp only [List.length_append, List.length_cons, List.length_nil, List.length_replicate, put_len] at * <;> omega) | (exact (start_walk hp1 hp2 hp3 (by assumption)).1) | (exact (start_walk hp1 hp2 hp3 (by assumption)).2) | (exact SmI.refl (by assumption)) | (exact SmI.mu (by assumption) (by assumption)) | (exact And.left (by assumption)) | (exact abs_ne (hp2.at (by omega)) (And.left (by assumption))) | (exact smoke_put hp1 hp2 (by assumption) (by omega) (by assumption) (by assumption)) | ((have hw0 := leave_in (flows := flows) hp1 hp3 (by assumption); first | omega | (simp only [List.length_append, List.length_cons, List.length_nil, List.length_replicate, put_len] at * <;> omega))) | ((have hS : SmI m_.Junctions x1.1 x2.2.1 x2.2.2 := (by assumption); have hl := hS.1.1; have hw0 := ways_in (at' flows x2.1) (hp1.at (i := x2.1) (by omega)); omega))) (sub_of [] ⟨rfl, rfl, rfl, rfl, rfl, rfl, rfl, trivial⟩ ⟨rfl, rfl, trivial⟩ rfl) ?_ ?_
        · intro x2 i12
          obtain ⟨e13, e14, e15, e16, e17⟩ := i12
          try dsimp only at *
          refine run_endB ?_
          exact run_again (x2.2.1, x2.2.2) (by first | omega | assumption | (simp only [List.length_append, List.length_cons, List.length_nil, List.length_replicate, put_len] at * <;> omega) | (exact (start_walk hp1 hp2 hp3 (by assumption)).1) | (exact (start_walk hp1 hp2 hp3 (by assumption)).2) | (exact SmI.refl (by assumption)) | (exact SmI.mu (by assumption) (by assumption)) | (exact And.left (by assumption)) | (exact abs_ne (hp2.at (by omega)) (And.left (by assumption))) | (exact smoke_put hp1 hp2 (by assumption) (by omega) (by assumption) (by assumption)) | ((have hw0 := leave_in (flows := flows) hp1 hp3 (by assumption); first | omega | (simp only [List.length_append, List.length_cons, List.length_nil, List.length_replicate, put_len] at * <;> omega))) | ((have hS : SmI m_.Junctions x1.1 x2.2.1 x2.2.2 := (by assumption); have hl := hS.1.1; have hw0 := ways_in (at' flows x2.1) (hp1.at (i := x2.1) (by omega)); omega))) (by first | omega | assumption | (simp only [List.length_append, List.length_cons, List.length_nil, List.length_replicate, put_len] at * <;> omega) | (exact (start_walk hp1 hp2 hp3 (by assumption)).1) | (exact (start_walk hp1 hp2 hp3 (by assumption)).2) | (exact SmI.refl (by assumption)) | (exact SmI.mu (by assumption) (by assumption)) | (exact And.left (by assumption)) | (exact abs_ne (hp2.at (by omega)) (And.left (by assumption))) | (exact smoke_put hp1 hp2 (by assumption) (by omega) (by assumption) (by assumption)) | ((have hw0 := leave_in (flows := flows) hp1 hp3 (by assumption); first | omega | (simp only [List.length_append, List.length_cons, List.length_nil, List.length_replicate, put_len] at * <;> omega))) | ((have hS : SmI m_.Junctions x1.1 x2.2.1 x2.2.2 := (by assumption); have hl := hS.1.1; have hw0 := ways_in (at' flows x2.1) (hp1.at (i := x2.1) (by omega)); omega))) (sub_of [] ⟨rfl, rfl, rfl, rfl, trivial⟩ ⟨rfl, rfl, trivial⟩ rfl)
        · intro rec2 k2 hk7 x2 i8
          obtain ⟨e18, e19, e20, e21⟩ := i8
          try dsimp only at *
          refine run_seq ?_
          refine run_region (q_int .n (.t rfl) (.t rfl) rfl rfl <|
              Lex.nil) ?_
          refine run_seq ?_
          refine run_cond (.t rfl) rfl (fun h9 => ?_) (fun h9 => ?_)
          · try simp only [Bool.and_eq_true, Bool.or_eq_true, Bool.not_eq_true', Bool.and_eq_false_iff, Bool.or_eq_false_iff, Bool.not_eq_false', decide_eq_true_eq, decide_eq_false_iff_not, beq_iff_eq, bne_iff_ne, beq_eq_false_iff_ne, bne_eq_false_iff_eq, Bool.true_and, ne_eq, Decidable.not_not, Int.not_lt, Int.not_le, Nat.not_lt, Nat.not_le, strB_nil, strB_nil', strB_nnil, strB_nnil'] at h9
            refine run_skip ?_
            refine run_seq ?_
            refine run_block ?_
            refine run_seq ?_
            refine run_region (q_move .n (.t rfl) rfl <|
                q_idx_rm .n (.t rfl) (.t rfl) sl_31 (fun _ => by first | omega | assumption | (simp only [List.length_append, List.length_cons, List.length_nil, List.length_replicate, put_len] at * <;> omega) | (exact (start_walk hp1 hp2 hp3 (by assumption)).1) | (exact (start_walk hp1 hp2 hp3 (by assumption)).2) | (exact SmI.refl (by assumption)) | (exact SmI.mu (by assumption) (by assumption)) | (exact And.left (by assumption)) | (exact abs_ne (hp2.at (by omega)) (And.left (by assumption))) | (exact smoke_put hp1 hp2 (by assumption) (by omega) (by assumption) (by assumption)) | ((have hw0 := leave_in (flows := flows) hp1 hp3 (by assumption); first | omega | (simp only [List.length_append, List.length_cons, List.length_nil, List.length_replicate, put_len] at * <;> omega))) | ((have hS : SmI m_.Junctions x1.1 x2.2.1 x2.2.2 := (by assumption); have hl := hS.1.1; have hw0 := ways_in (at' flows x2.1) (hp1.at (i := x2.1) (by omega)); omega))) rfl <|
                q_ldN_ro .n (.t rfl) ag_105 rfl rfl rfl <|
                q_alloc (l := 204) .n rfl zv_105 rfl rfl <|
                q_assign .n (.t rfl) rfl <|
                q_st_boxm [.str (at' m_.Airways x2.1).Id, .int .i64 (at' m_.Airways x2.1).From, .int .i64 (at' m_.Airways x2.1).To, .int .i64 (at' m_.Airways x2.1).Length, .int .i64 (at' m_.Airways x2.1).Section, .int .i64 (at' m_.Airways x2.1).Friction, .int .i64 (at' m_.Airways x2.1).Shock] .n rfl (.t rfl) (.t rfl) rfl ts_105 rfl rfl <|
                Lex.nil) ?_
            refine run_seq ?_
            refine run_draw fmo (q_ldN_ow .n (.t rfl) rfl (.inr rfl) ag_105 (fun _ => rfl) rfl rfl <|
                q_move .n (.t rfl) rfl <|
                q_move .n (.t rfl) rfl <|
                q_idx_rm .n (.t rfl) (.t rfl) sl_25 (fun _ => by first | omega | assumption | (simp only [List.length_append, List.length_cons, List.length_nil, List.length_replicate, put_len] at * <;> omega) | (exact (start_walk hp1 hp2 hp3 (by assumption)).1) | (exact (start_walk hp1 hp2 hp3 (by assumption)).2) | (exact SmI.refl (by assumption)) | (exact SmI.mu (by assumption) (by assumption)) | (exact And.left (by assumption)) | (exact abs_ne (hp2.at (by omega)) (And.left (by assumption))) | (exact smoke_put hp1 hp2 (by assumption) (by omega) (by assumption) (by assumption)) | ((have hw0 := leave_in (flows := flows) hp1 hp3 (by assumption); first | omega | (simp only [List.length_append, List.length_cons, List.length_nil, List.length_replicate, put_len] at * <;> omega))) | ((have hS : SmI m_.Junctions x1.1 x2.2.1 x2.2.2 := (by assumption); have hl := hS.1.1; have hw0 := ways_in (at' flows x2.1) (hp1.at (i := x2.1) (by omega)); omega))) rfl <|
                q_ld1_ro .n (.t rfl) rfl ic_2 rfl <|
                q_call0 (full := false) .n .f en_111 (.cons (.t rfl) (.cons (.t rfl) .nil)) (.cons (.sts rfl) (.cons (.b (.a (.same rfl))) .nil)) (fun hg => c_impl_Airway_ways (at' m_.Airways x2.1) (at' flows x2.1)) rfl (fun h => Bool.noConfusion h) rfl <|
                q_move .n (.t rfl) rfl <|
                q_ext .n (.t rfl) rfl rfl rfl <|
                q_ext .n (.t rfl) rfl rfl rfl <|
                q_assign .n (.t rfl) rfl <|
                q_assign .n (.t rfl) rfl <|
                Lex.nil) (by kernel_rfl) ?_
            refine run_seq ?_
            refine run_seq ?_
            refine run_region (q_move .n (.t rfl) rfl <|
                q_move .n (.t rfl) rfl <|
                q_idx_rm .n (.t rfl) (.t rfl) sl_25 (fun _ => by first | omega | assumption | (simp only [List.length_append, List.length_cons, List.length_nil, List.length_replicate, put_len] at * <;> omega) | (exact (start_walk hp1 hp2 hp3 (by assumption)).1) | (exact (start_walk hp1 hp2 hp3 (by assumption)).2) | (exact SmI.refl (by assumption)) | (exact SmI.mu (by assumption) (by assumption)) | (exact And.left (by assumption)) | (exact abs_ne (hp2.at (by omega)) (And.left (by assumption))) | (exact smoke_put hp1 hp2 (by assumption) (by omega) (by assumption) (by assumption)) | ((have hw0 := leave_in (flows := flows) hp1 hp3 (by assumption); first | omega | (simp only [List.length_append, List.length_cons, List.length_nil, List.length_replicate, put_len] at * <;> omega))) | ((have hS : SmI m_.Junctions x1.1 x2.2.1 x2.2.2 := (by assumption); have hl := hS.1.1; have hw0 := ways_in (at' flows x2.1) (hp1.at (i := x2.1) (by omega)); omega))) rfl <|
                q_ld1_ro .n (.t rfl) rfl ic_2 rfl <|
                q_int .n (.t rfl) (.c rfl) rfl rfl <|
                q_move .n (.t rfl) rfl <|
                q_move (.f rfl rfl) (.t rfl) rfl <|
                q_move (.f rfl rfl) (.t rfl) rfl <|
                q_idx_ow (.f rfl rfl) (.u rfl id) (.u rfl id) sl_25 (fun hg => by simp only [Bool.and_eq_true, Bool.or_eq_true, Bool.not_eq_true', Bool.and_eq_false_iff, Bool.or_eq_false_iff, Bool.not_eq_false', decide_eq_true_eq, decide_eq_false_iff_not, beq_iff_eq, bne_iff_ne, beq_eq_false_iff_ne, bne_eq_false_iff_eq, Bool.true_and, ne_eq, Decidable.not_not, Int.not_lt, Int.not_le, Nat.not_lt, Nat.not_le, strB_nil, strB_nil', strB_nnil, strB_nnil'] at hg; first | omega | assumption | (simp only [List.length_append, List.length_cons, List.length_nil, List.length_replicate, put_len] at * <;> omega) | (exact (start_walk hp1 hp2 hp3 (by assumption)).1) | (exact (start_walk hp1 hp2 hp3 (by assumption)).2) | (exact SmI.refl (by assumption)) | (exact SmI.mu (by assumption) (by assumption)) | (exact And.left (by assumption)) | (exact abs_ne (hp2.at (by omega)) (And.left (by assumption))) | (exact smoke_put hp1 hp2 (by assumption) (by omega) (by assumption) (by assumption)) | ((have hw0 := leave_in (flows := flows) hp1 hp3 (by assumption); first | omega | (simp only [List.length_append, List.length_cons, List.length_nil, List.length_replicate, put_len] at * <;> omega))) | ((have hS : SmI m_.Junctions x1.1 x2.2.1 x2.2.2 := (by assumption); have hl := hS.1.1; have hw0 := ways_in (at' flows x2.1) (hp1.at (i := x2.1) (by omega)); omega))) rfl <|
                q_ld1_row (.f rfl rfl) (.u rfl id) rfl (fun hg => by simp only [Bool.and_eq_true, Bool.or_eq_true, Bool.not_eq_true', Bool.and_eq_false_iff, Bool.or_eq_false_iff, Bool.not_eq_false', decide_eq_true_eq, decide_eq_false_iff_not, beq_iff_eq, bne_iff_ne, beq_eq_false_iff_ne, bne_eq_false_iff_eq, Bool.true_and, ne_eq, Decidable.not_not, Int.not_lt, Int.not_le, Nat.not_lt, Nat.not_le, strB_nil, strB_nil', strB_nnil, strB_nnil'] at hg; first | omega | assumption | (simp only [List.length_append, List.length_cons, List.length_nil, List.length_replicate, put_len] at * <;> omega) | (exact (start_walk hp1 hp2 hp3 (by assumption)).1) | (exact (start_walk hp1 hp2 hp3 (by assumption)).2) | (exact SmI.refl (by assumption)) | (exact SmI.mu (by assumption) (by assumption)) | (exact And.left (by assumption)) | (exact abs_ne (hp2.at (by omega)) (And.left (by assumption))) | (exact smoke_put hp1 hp2 (by assumption) (by omega) (by assumption) (by assumption)) | ((have hw0 := leave_in (flows := flows) hp1 hp3 (by assumption); first | omega | (simp only [List.length_append, List.length_cons, List.length_nil, List.length_replicate, put_len] at * <;> omega))) | ((have hS : SmI m_.Junctions x1.1 x2.2.1 x2.2.2 := (by assumption); have hl := hS.1.1; have hw0 := ways_in (at' flows x2.1) (hp1.at (i := x2.1) (by omega)); omega))) rfl rfl rfl ic_2 rfl <|
                q_int (.f rfl rfl) (.u rfl id) (.c rfl) rfl rfl <|
                q_or .n (.t rfl) (.u rfl id) rfl <|
                Lex.nil) ?_
            refine run_cond (.t rfl) rfl (fun h10 => ?_) (fun h10 => ?_)
            · try simp only [Bool.and_eq_true, Bool.or_eq_true, Bool.not_eq_true', Bool.and_eq_false_iff, Bool.or_eq_false_iff, Bool.not_eq_false', decide_eq_true_eq, decide_eq_false_iff_not, beq_iff_eq, bne_iff_ne, beq_eq_false_iff_ne, bne_eq_false_iff_eq, Bool.true_and, ne_eq, Decidable.not_not, Int.not_lt, Int.not_le, Nat.not_lt, Nat.not_le, strB_nil, strB_nil', strB_nnil, strB_nnil'] at h10
              refine run_exit rfl ?_
              refine run_region (q_add .n (.t rfl) (.c rfl) (fun _ => by first | omega | assumption | (simp only [List.length_append, List.length_cons, List.length_nil, List.length_replicate, put_len] at * <;> omega) | (exact (start_walk hp1 hp2 hp3 (by assumption)).1) | (exact (start_walk hp1 hp2 hp3 (by assumption)).2) | (exact SmI.refl (by assumption)) | (exact SmI.mu (by assumption) (by assumption)) | (exact And.left (by assumption)) | (exact abs_ne (hp2.at (by omega)) (And.left (by assumption))) | (exact smoke_put hp1 hp2 (by assumption) (by omega) (by assumption) (by assumption)) | ((have hw0 := leave_in (flows := flows) hp1 hp3 (by assumption); first | omega | (simp only [List.length_append, List.length_cons, List.length_nil, List.length_replicate, put_len] at * <;> omega))) | ((have hS : SmI m_.Junctions x1.1 x2.2.1 x2.2.2 := (by assumption); have hl := hS.1.1; have hw0 := ways_in (at' flows x2.1) (hp1.at (i := x2.1) (by omega)); omega))) rfl <|
                  q_move .n (.t rfl) rfl <|
                  Lex.nil) ?_
              exact run_again (x2.1 + 1, x2.2.1, x2.2.2) ⟨by first | omega | assumption | (simp only [List.length_append, List.length_cons, List.length_nil, List.length_replicate, put_len] at * <;> omega) | (exact (start_walk hp1 hp2 hp3 (by assumption)).1) | (exact (start_walk hp1 hp2 hp3 (by assumption)).2) | (exact SmI.refl (by assumption)) | (exact SmI.mu (by assumption) (by assumption)) | (exact And.left (by assumption)) | (exact abs_ne (hp2.at (by omega)) (And.left (by assumption))) | (exact smoke_put hp1 hp2 (by assumption) (by omega) (by assumption) (by assumption)) | ((have hw0 := leave_in (flows := flows) hp1 hp3 (by assumption); first | omega | (simp only [List.length_append, List.length_cons, List.length_nil, List.length_replicate, put_len] at * <;> omega))) | ((have hS : SmI m_.Junctions x1.1 x2.2.1 x2.2.2 := (by assumption); have hl := hS.1.1; have hw0 := ways_in (at' flows x2.1) (hp1.at (i := x2.1) (by omega)); omega)), by first | omega | assumption | (simp only [List.length_append, List.length_cons, List.length_nil, List.length_replicate, put_len] at * <;> omega) | (exact (start_walk hp1 hp2 hp3 (by assumption)).1) | (exact (start_walk hp1 hp2 hp3 (by assumption)).2) | (exact SmI.refl (by assumption)) | (exact SmI.mu (by assumption) (by assumption)) | (exact And.left (by assumption)) | (exact abs_ne (hp2.at (by omega)) (And.left (by assumption))) | (exact smoke_put hp1 hp2 (by assumption) (by omega) (by assumption) (by assumption)) | ((have hw0 := leave_in (flows := flows) hp1 hp3 (by assumption); first | omega | (simp only [List.length_append, List.length_cons, List.length_nil, List.length_replicate, put_len] at * <;> omega))) | ((have hS : SmI m_.Junctions x1.1 x2.2.1 x2.2.2 := (by assumption); have hl := hS.1.1; have hw0 := ways_in (at' flows x2.1) (hp1.at (i := x2.1) (by omega)); omega)), by first | omega | assumption | (simp only [List.length_append, List.length_cons, List.length_nil, List.length_replicate, put_len] at * <;> omega) | (exact (start_walk hp1 hp2 hp3 (by assumption)).1) | (exact (start_walk hp1 hp2 hp3 (by assumption)).2) | (exact SmI.refl (by assumption)) | (exact SmI.mu (by assumption) (by assumption)) | (exact And.left (by assumption)) | (exact abs_ne (hp2.at (by omega)) (And.left (by assumption))) | (exact smoke_put hp1 hp2 (by assumption) (by omega) (by assumption) (by assumption)) | ((have hw0 := leave_in (flows := flows) hp1 hp3 (by assumption); first | omega | (simp only [List.length_append, List.length_cons, List.length_nil, List.length_replicate, put_len] at * <;> omega))) | ((have hS : SmI m_.Junctions x1.1 x2.2.1 x2.2.2 := (by assumption); have hl := hS.1.1; have hw0 := ways_in (at' flows x2.1) (hp1.at (i := x2.1) (by omega)); omega)), by first | omega | assumption | (simp only [List.length_append, List.length_cons, List.length_nil, List.length_replicate, put_len] at * <;> omega) | (exact (start_walk hp1 hp2 hp3 (by assumption)).1) | (exact (start_walk hp1 hp2 hp3 (by assumption)).2) | (exact SmI.refl (by assumption)) | (exact SmI.mu (by assumption) (by assumption)) | (exact And.left (by assumption)) | (exact abs_ne (hp2.at (by omega)) (And.left (by assumption))) | (exact smoke_put hp1 hp2 (by assumption) (by omega) (by assumption) (by assumption)) | ((have hw0 := leave_in (flows := flows) hp1 hp3 (by assumption); first | omega | (simp only [List.length_append, List.length_cons, List.length_nil, List.length_replicate, put_len] at * <;> omega))) | ((have hS : SmI m_.Junctions x1.1 x2.2.1 x2.2.2 := (by assumption); have hl := hS.1.1; have hw0 := ways_in (at' flows x2.1) (hp1.at (i := x2.1) (by omega)); omega))⟩ (by first | omega | assumption | (simp only [List.length_append, List.length_cons, List.length_nil, List.length_replicate, put_len] at * <;> omega) | (exact (start_walk hp1 hp2 hp3 (by assumption)).1) | (exact (start_walk hp1 hp2 hp3 (by assumption)).2) | (exact SmI.refl (by assumption)) | (exact SmI.mu (by assumption) (by assumption)) | (exact And.left (by assumption)) | (exact abs_ne (hp2.at (by omega)) (And.left (by assumption))) | (exact smoke_put hp1 hp2 (by assumption) (by omega) (by assumption) (by assumption)) | ((have hw0 := leave_in (flows := flows) hp1 hp3 (by assumption); first | omega | (simp only [List.length_append, List.length_cons, List.length_nil, List.length_replicate, put_len] at * <;> omega))) | ((have hS : SmI m_.Junctions x1.1 x2.2.1 x2.2.2 := (by assumption); have hl := hS.1.1; have hw0 := ways_in (at' flows x2.1) (hp1.at (i := x2.1) (by omega)); omega))) (sub_of [] ⟨rfl, rfl, rfl, rfl, rfl, rfl, rfl, trivial⟩ ⟨rfl, rfl, trivial⟩ rfl)
            · try simp only [Bool.and_eq_true, Bool.or_eq_true, Bool.not_eq_true', Bool.and_eq_false_iff, Bool.or_eq_false_iff, Bool.not_eq_false', decide_eq_true_eq, decide_eq_false_iff_not, beq_iff_eq, bne_iff_ne, beq_eq_false_iff_ne, bne_eq_false_iff_eq, Bool.true_and, ne_eq, Decidable.not_not, Int.not_lt, Int.not_le, Nat.not_lt, Nat.not_le, strB_nil, strB_nil', strB_nnil, strB_nnil'] at h10
              refine run_skip ?_
              refine run_seq ?_
              refine run_draw fmo (q_move .n (.t rfl) rfl <|
                  q_move .n (.t rfl) rfl <|
                  q_idx_ow .n (.t rfl) (.t rfl) sl_25 (fun _ => by first | omega | assumption | (simp only [List.length_append, List.length_cons, List.length_nil, List.length_replicate, put_len] at * <;> omega) | (exact (start_walk hp1 hp2 hp3 (by assumption)).1) | (exact (start_walk hp1 hp2 hp3 (by assumption)).2) | (exact SmI.refl (by assumption)) | (exact SmI.mu (by assumption) (by assumption)) | (exact And.left (by assumption)) | (exact abs_ne (hp2.at (by omega)) (And.left (by assumption))) | (exact smoke_put hp1 hp2 (by assumption) (by omega) (by assumption) (by assumption)) | ((have hw0 := leave_in (flows := flows) hp1 hp3 (by assumption); first | omega | (simp only [List.length_append, List.length_cons, List.length_nil, List.length_replicate, put_len] at * <;> omega))) | ((have hS : SmI m_.Junctions x1.1 x2.2.1 x2.2.2 := (by assumption); have hl := hS.1.1; have hw0 := ways_in (at' flows x2.1) (hp1.at (i := x2.1) (by omega)); omega))) rfl <|
                  q_ld1_row .n (.t rfl) rfl (fun _ => by first | omega | assumption | (simp only [List.length_append, List.length_cons, List.length_nil, List.length_replicate, put_len] at * <;> omega) | (exact (start_walk hp1 hp2 hp3 (by assumption)).1) | (exact (start_walk hp1 hp2 hp3 (by assumption)).2) | (exact SmI.refl (by assumption)) | (exact SmI.mu (by assumption) (by assumption)) | (exact And.left (by assumption)) | (exact abs_ne (hp2.at (by omega)) (And.left (by assumption))) | (exact smoke_put hp1 hp2 (by assumption) (by omega) (by assumption) (by assumption)) | ((have hw0 := leave_in (flows := flows) hp1 hp3 (by assumption); first | omega | (simp only [List.length_append, List.length_cons, List.length_nil, List.length_replicate, put_len] at * <;> omega))) | ((have hS : SmI m_.Junctions x1.1 x2.2.1 x2.2.2 := (by assumption); have hl := hS.1.1; have hw0 := ways_in (at' flows x2.1) (hp1.at (i := x2.1) (by omega)); omega))) rfl rfl rfl ic_2 rfl <|
                  q_fld_ow .n (.t rfl) fo_105_3 rfl <|
                  q_ld1_ow .n (.t rfl) rfl (.inr rfl) (fun _ => rfl) rfl ic_2 rfl <|
                  q_fld_ow .n (.t rfl) fo_105_4 rfl <|
                  q_ld1_ow .n (.t rfl) rfl (.inr rfl) (fun _ => rfl) rfl ic_2 rfl <|
                  q_int .n (.t rfl) (.t rfl) rfl rfl <|
                  q_move .n (.t rfl) rfl <|
                  q_move .n (.t rfl) rfl <|
                  q_idx_rm .n (.t rfl) (.t rfl) sl_25 (fun _ => by first | omega | assumption | (simp only [List.length_append, List.length_cons, List.length_nil, List.length_replicate, put_len] at * <;> omega) | (exact (start_walk hp1 hp2 hp3 (by assumption)).1) | (exact (start_walk hp1 hp2 hp3 (by assumption)).2) | (exact SmI.refl (by assumption)) | (exact SmI.mu (by assumption) (by assumption)) | (exact And.left (by assumption)) | (exact abs_ne (hp2.at (by omega)) (And.left (by assumption))) | (exact smoke_put hp1 hp2 (by assumption) (by omega) (by assumption) (by assumption)) | ((have hw0 := leave_in (flows := flows) hp1 hp3 (by assumption); first | omega | (simp only [List.length_append, List.length_cons, List.length_nil, List.length_replicate, put_len] at * <;> omega))) | ((have hS : SmI m_.Junctions x1.1 x2.2.1 x2.2.2 := (by assumption); have hl := hS.1.1; have hw0 := ways_in (at' flows x2.1) (hp1.at (i := x2.1) (by omega)); omega))) rfl <|
                  q_ld1_ro .n (.t rfl) rfl ic_2 rfl <|
                  q_call0 (full := false) .n .f en_95 (.cons (.t rfl) .nil) (.cons (.b (.a (.same rfl))) .nil) (fun hg => c_impl_abs (at' flows x2.1)) rfl (fun h => Bool.noConfusion h) rfl <|
                  q_call0 (full := false) .n .f en_123 (.cons (.t rfl) (.cons (.t rfl) .nil)) (.cons (.b (.a (.same rfl))) (.cons (.b (.a (.same rfl))) .nil)) (fun hg => c_impl_divUp (IntKind.wrap .i64 ((at' m_.Airways x2.1).Length * (at' m_.Airways x2.1).Section)) (m_impl_abs (at' flows x2.1)) (by first | omega | assumption | (simp only [List.length_append, List.length_cons, List.length_nil, List.length_replicate, put_len] at * <;> omega) | (exact (start_walk hp1 hp2 hp3 (by assumption)).1) | (exact (start_walk hp1 hp2 hp3 (by assumption)).2) | (exact SmI.refl (by assumption)) | (exact SmI.mu (by assumption) (by assumption)) | (exact And.left (by assumption)) | (exact abs_ne (hp2.at (by omega)) (And.left (by assumption))) | (exact smoke_put hp1 hp2 (by assumption) (by omega) (by assumption) (by assumption)) | ((have hw0 := leave_in (flows := flows) hp1 hp3 (by assumption); first | omega | (simp only [List.length_append, List.length_cons, List.length_nil, List.length_replicate, put_len] at * <;> omega))) | ((have hS : SmI m_.Junctions x1.1 x2.2.1 x2.2.2 := (by assumption); have hl := hS.1.1; have hw0 := ways_in (at' flows x2.1) (hp1.at (i := x2.1) (by omega)); omega)))) rfl (fun h => Bool.noConfusion h) rfl <|
                  q_int .n (.t rfl) (.t rfl) rfl rfl <|
                  q_assign .n (.t rfl) rfl <|
                  Lex.nil) (by kernel_rfl) ?_
              refine run_seq ?_
              refine run_region (q_move .n (.t rfl) rfl <|
                  q_move .n (.t rfl) rfl <|
                  q_idx_ow .n (.t rfl) (.t rfl) sl_25 (fun _ => by first | omega | assumption | (simp only [List.length_append, List.length_cons, List.length_nil, List.length_replicate, put_len] at * <;> omega) | (exact (start_walk hp1 hp2 hp3 (by assumption)).1) | (exact (start_walk hp1 hp2 hp3 (by assumption)).2) | (exact SmI.refl (by assumption)) | (exact SmI.mu (by assumption) (by assumption)) | (exact And.left (by assumption)) | (exact abs_ne (hp2.at (by omega)) (And.left (by assumption))) | (exact smoke_put hp1 hp2 (by assumption) (by omega) (by assumption) (by assumption)) | ((have hw0 := leave_in (flows := flows) hp1 hp3 (by assumption); first | omega | (simp only [List.length_append, List.length_cons, List.length_nil, List.length_replicate, put_len] at * <;> omega))) | ((have hS : SmI m_.Junctions x1.1 x2.2.1 x2.2.2 := (by assumption); have hl := hS.1.1; have hw0 := ways_in (at' flows x2.1) (hp1.at (i := x2.1) (by omega)); omega))) rfl <|
                  q_ld1_row .n (.t rfl) rfl (fun _ => by first | omega | assumption | (simp only [List.length_append, List.length_cons, List.length_nil, List.length_replicate, put_len] at * <;> omega) | (exact (start_walk hp1 hp2 hp3 (by assumption)).1) | (exact (start_walk hp1 hp2 hp3 (by assumption)).2) | (exact SmI.refl (by assumption)) | (exact SmI.mu (by assumption) (by assumption)) | (exact And.left (by assumption)) | (exact abs_ne (hp2.at (by omega)) (And.left (by assumption))) | (exact smoke_put hp1 hp2 (by assumption) (by omega) (by assumption) (by assumption)) | ((have hw0 := leave_in (flows := flows) hp1 hp3 (by assumption); first | omega | (simp only [List.length_append, List.length_cons, List.length_nil, List.length_replicate, put_len] at * <;> omega))) | ((have hS : SmI m_.Junctions x1.1 x2.2.1 x2.2.2 := (by assumption); have hl := hS.1.1; have hw0 := ways_in (at' flows x2.1) (hp1.at (i := x2.1) (by omega)); omega))) rfl rfl rfl ic_2 rfl <|
                  q_int .n (.t rfl) (.c rfl) rfl rfl <|
                  q_move .n (.t rfl) rfl <|
                  q_move (.f rfl rfl) (.t rfl) rfl <|
                  q_move (.f rfl rfl) (.t rfl) rfl <|
                  q_move (.f rfl rfl) (.t rfl) rfl <|
                  q_idx_ow (.f rfl rfl) (.u rfl id) (.u rfl id) sl_25 (fun hg => by simp only [Bool.and_eq_true, Bool.or_eq_true, Bool.not_eq_true', Bool.and_eq_false_iff, Bool.or_eq_false_iff, Bool.not_eq_false', decide_eq_true_eq, decide_eq_false_iff_not, beq_iff_eq, bne_iff_ne, beq_eq_false_iff_ne, bne_eq_false_iff_eq, Bool.true_and, ne_eq, Decidable.not_not, Int.not_lt, Int.not_le, Nat.not_lt, Nat.not_le, strB_nil, strB_nil', strB_nnil, strB_nnil'] at hg; first | omega | assumption | (simp only [List.length_append, List.length_cons, List.length_nil, List.length_replicate, put_len] at * <;> omega) | (exact (start_walk hp1 hp2 hp3 (by assumption)).1) | (exact (start_walk hp1 hp2 hp3 (by assumption)).2) | (exact SmI.refl (by assumption)) | (exact SmI.mu (by assumption) (by assumption)) | (exact And.left (by assumption)) | (exact abs_ne (hp2.at (by omega)) (And.left (by assumption))) | (exact smoke_put hp1 hp2 (by assumption) (by omega) (by assumption) (by assumption)) | ((have hw0 := leave_in (flows := flows) hp1 hp3 (by assumption); first | omega | (simp only [List.length_append, List.length_cons, List.length_nil, List.length_replicate, put_len] at * <;> omega))) | ((have hS : SmI m_.Junctions x1.1 x2.2.1 x2.2.2 := (by assumption); have hl := hS.1.1; have hw0 := ways_in (at' flows x2.1) (hp1.at (i := x2.1) (by omega)); omega))) rfl <|
                  q_ld1_row (.f rfl rfl) (.u rfl id) rfl (fun hg => by simp only [Bool.and_eq_true, Bool.or_eq_true, Bool.not_eq_true', Bool.and_eq_false_iff, Bool.or_eq_false_iff, Bool.not_eq_false', decide_eq_true_eq, decide_eq_false_iff_not, beq_iff_eq, bne_iff_ne, beq_eq_false_iff_ne, bne_eq_false_iff_eq, Bool.true_and, ne_eq, Decidable.not_not, Int.not_lt, Int.not_le, Nat.not_lt, Nat.not_le, strB_nil, strB_nil', strB_nnil, strB_nnil'] at hg; first | omega | assumption | (simp only [List.length_append, List.length_cons, List.length_nil, List.length_replicate, put_len] at * <;> omega) | (exact (start_walk hp1 hp2 hp3 (by assumption)).1) | (exact (start_walk hp1 hp2 hp3 (by assumption)).2) | (exact SmI.refl (by assumption)) | (exact SmI.mu (by assumption) (by assumption)) | (exact And.left (by assumption)) | (exact abs_ne (hp2.at (by omega)) (And.left (by assumption))) | (exact smoke_put hp1 hp2 (by assumption) (by omega) (by assumption) (by assumption)) | ((have hw0 := leave_in (flows := flows) hp1 hp3 (by assumption); first | omega | (simp only [List.length_append, List.length_cons, List.length_nil, List.length_replicate, put_len] at * <;> omega))) | ((have hS : SmI m_.Junctions x1.1 x2.2.1 x2.2.2 := (by assumption); have hl := hS.1.1; have hw0 := ways_in (at' flows x2.1) (hp1.at (i := x2.1) (by omega)); omega))) rfl rfl rfl ic_2 rfl <|
                  q_int (.f rfl rfl) (.u rfl id) (.u rfl id) rfl rfl <|
                  q_or .n (.t rfl) (.u rfl id) rfl <|
                  Lex.nil) ?_
              refine run_cond (.t rfl) rfl (fun h11 => ?_) (fun h11 => ?_)
              · try simp only [Bool.and_eq_true, Bool.or_eq_true, Bool.not_eq_true', Bool.and_eq_false_iff, Bool.or_eq_false_iff, Bool.not_eq_false', decide_eq_true_eq, decide_eq_false_iff_not, beq_iff_eq, bne_iff_ne, beq_eq_false_iff_ne, bne_eq_false_iff_eq, Bool.true_and, ne_eq, Decidable.not_not, Int.not_lt, Int.not_le, Nat.not_lt, Nat.not_le, strB_nil, strB_nil', strB_nnil, strB_nnil'] at h11
                refine run_region (q_move .n (.t rfl) rfl <|
                    q_move .n (.t rfl) rfl <|
                    q_move .n (.t rfl) rfl <|
                    q_idx_ow .n (.t rfl) (.t rfl) sl_25 (fun _ => by first | omega | assumption | (simp only [List.length_append, List.length_cons, List.length_nil, List.length_replicate, put_len] at * <;> omega) | (exact (start_walk hp1 hp2 hp3 (by assumption)).1) | (exact (start_walk hp1 hp2 hp3 (by assumption)).2) | (exact SmI.refl (by assumption)) | (exact SmI.mu (by assumption) (by assumption)) | (exact And.left (by assumption)) | (exact abs_ne (hp2.at (by omega)) (And.left (by assumption))) | (exact smoke_put hp1 hp2 (by assumption) (by omega) (by assumption) (by assumption)) | ((have hw0 := leave_in (flows := flows) hp1 hp3 (by assumption); first | omega | (simp only [List.length_append, List.length_cons, List.length_nil, List.length_replicate, put_len] at * <;> omega))) | ((have hS : SmI m_.Junctions x1.1 x2.2.1 x2.2.2 := (by assumption); have hl := hS.1.1; have hw0 := ways_in (at' flows x2.1) (hp1.at (i := x2.1) (by omega)); omega))) rfl <|
                    q_st_rowm (IntKind.wrap .i64 ((at' x2.2.1 (m_impl_Airway_ways (at' m_.Airways x2.1) (at' flows x2.1)).1) + (m_impl_divUp (IntKind.wrap .i64 ((at' m_.Airways x2.1).Length * (at' m_.Airways x2.1).Section)) (m_impl_abs (at' flows x2.1))))) .n rfl (.t rfl) (.t rfl) rfl ts_2 (by first | omega | assumption | (simp only [List.length_append, List.length_cons, List.length_nil, List.length_replicate, put_len] at * <;> omega) | (exact (start_walk hp1 hp2 hp3 (by assumption)).1) | (exact (start_walk hp1 hp2 hp3 (by assumption)).2) | (exact SmI.refl (by assumption)) | (exact SmI.mu (by assumption) (by assumption)) | (exact And.left (by assumption)) | (exact abs_ne (hp2.at (by omega)) (And.left (by assumption))) | (exact smoke_put hp1 hp2 (by assumption) (by omega) (by assumption) (by assumption)) | ((have hw0 := leave_in (flows := flows) hp1 hp3 (by assumption); first | omega | (simp only [List.length_append, List.length_cons, List.length_nil, List.length_replicate, put_len] at * <;> omega))) | ((have hS : SmI m_.Junctions x1.1 x2.2.1 x2.2.2 := (by assumption); have hl := hS.1.1; have hw0 := ways_in (at' flows x2.1) (hp1.at (i := x2.1) (by omega)); omega))) rfl rfl <|
                    q_assign .n (.c rfl) rfl <|
                    Lex.nil) ?_
                refine run_endB ?_
                refine run_region (q_add .n (.t rfl) (.c rfl) (fun _ => by first | omega | assumption | (simp only [List.length_append, List.length_cons, List.length_nil, List.length_replicate, put_len] at * <;> omega) | (exact (start_walk hp1 hp2 hp3 (by assumption)).1) | (exact (start_walk hp1 hp2 hp3 (by assumption)).2) | (exact SmI.refl (by assumption)) | (exact SmI.mu (by assumption) (by assumption)) | (exact And.left (by assumption)) | (exact abs_ne (hp2.at (by omega)) (And.left (by assumption))) | (exact smoke_put hp1 hp2 (by assumption) (by omega) (by assumption) (by assumption)) | ((have hw0 := leave_in (flows := flows) hp1 hp3 (by assumption); first | omega | (simp only [List.length_append, List.length_cons, List.length_nil, List.length_replicate, put_len] at * <;> omega))) | ((have hS : SmI m_.Junctions x1.1 x2.2.1 x2.2.2 := (by assumption); have hl := hS.1.1; have hw0 := ways_in (at' flows x2.1) (hp1.at (i := x2.1) (by omega)); omega))) rfl <|
                    q_move .n (.t rfl) rfl <|
                    Lex.nil) ?_
                exact run_again (x2.1 + 1, put' x2.2.1 (m_impl_Airway_ways (at' m_.Airways x2.1) (at' flows x2.1)).2 (IntKind.wrap .i64 ((at' x2.2.1 (m_impl_Airway_ways (at' m_.Airways x2.1) (at' flows x2.1)).1) + (m_impl_divUp (IntKind.wrap .i64 ((at' m_.Airways x2.1).Length * (at' m_.Airways x2.1).Section)) (m_impl_abs (at' flows x2.1))))), true) ⟨by first | omega | assumption | (simp only [List.length_append, List.length_cons, List.length_nil, List.length_replicate, put_len] at * <;> omega) | (exact (start_walk hp1 hp2 hp3 (by assumption)).1) | (exact (start_walk hp1 hp2 hp3 (by assumption)).2) | (exact SmI.refl (by assumption)) | (exact SmI.mu (by assumption) (by assumption)) | (exact And.left (by assumption)) | (exact abs_ne (hp2.at (by omega)) (And.left (by assumption))) | (exact smoke_put hp1 hp2 (by assumption) (by omega) (by assumption) (by assumption)) | ((have hw0 := leave_in (flows := flows) hp1 hp3 (by assumption); first | omega | (simp only [List.length_append, List.length_cons, List.length_nil, List.length_replicate, put_len] at * <;> omega))) | ((have hS : SmI m_.Junctions x1.1 x2.2.1 x2.2.2 := (by assumption); have hl := hS.1.1; have hw0 := ways_in (at' flows x2.1) (hp1.at (i := x2.1) (by omega)); omega)), by first | omega | assumption | (simp only [List.length_append, List.length_cons, List.length_nil, List.length_replicate, put_len] at * <;> omega) | (exact (start_walk hp1 hp2 hp3 (by assumption)).1) | (exact (start_walk hp1 hp2 hp3 (by assumption)).2) | (exact SmI.refl (by assumption)) | (exact SmI.mu (by assumption) (by assumption)) | (exact And.left (by assumption)) | (exact abs_ne (hp2.at (by omega)) (And.left (by assumption))) | (exact smoke_put hp1 hp2 (by assumption) (by omega) (by assumption) (by assumption)) | ((have hw0 := leave_in (flows := flows) hp1 hp3 (by assumption); first | omega | (simp only [List.length_append, List.length_cons, List.length_nil, List.length_replicate, put_len] at * <;> omega))) | ((have hS : SmI m_.Junctions x1.1 x2.2.1 x2.2.2 := (by assumption); have hl := hS.1.1; have hw0 := ways_in (at' flows x2.1) (hp1.at (i := x2.1) (by omega)); omega)), by first | omega | assumption | (simp only [List.length_append, List.length_cons, List.length_nil, List.length_replicate, put_len] at * <;> omega) | (exact (start_walk hp1 hp2 hp3 (by assumption)).1) | (exact (start_walk hp1 hp2 hp3 (by assumption)).2) | (exact SmI.refl (by assumption)) | (exact SmI.mu (by assumption) (by assumption)) | (exact And.left (by assumption)) | (exact abs_ne (hp2.at (by omega)) (And.left (by assumption))) | (exact smoke_put hp1 hp2 (by assumption) (by omega) (by assumption) (by assumption)) | ((have hw0 := leave_in (flows := flows) hp1 hp3 (by assumption); first | omega | (simp only [List.length_append, List.length_cons, List.length_nil, List.length_replicate, put_len] at * <;> omega))) | ((have hS : SmI m_.Junctions x1.1 x2.2.1 x2.2.2 := (by assumption); have hl := hS.1.1; have hw0 := ways_in (at' flows x2.1) (hp1.at (i := x2.1) (by omega)); omega)), by first | omega | assumption | (simp only [List.length_append, List.length_cons, List.length_nil, List.length_replicate, put_len] at * <;> omega) | (exact (start_walk hp1 hp2 hp3 (by assumption)).1) | (exact (start_walk hp1 hp2 hp3 (by assumption)).2) | (exact SmI.refl (by assumption)) | (exact SmI.mu (by assumption) (by assumption)) | (exact And.left (by assumption)) | (exact abs_ne (hp2.at (by omega)) (And.left (by assumption))) | (exact smoke_put hp1 hp2 (by assumption) (by omega) (by assumption) (by assumption)) | ((have hw0 := leave_in (flows := flows) hp1 hp3 (by assumption); first | omega | (simp only [List.length_append, List.length_cons, List.length_nil, List.length_replicate, put_len] at * <;> omega))) | ((have hS : SmI m_.Junctions x1.1 x2.2.1 x2.2.2 := (by assumption); have hl := hS.1.1; have hw0 := ways_in (at' flows x2.1) (hp1.at (i := x2.1) (by omega)); omega))⟩ (by first | omega | assumption | (simp only [List.length_append, List.length_cons, List.length_nil, List.length_replicate, put_len] at * <;> omega) | (exact (start_walk hp1 hp2 hp3 (by assumption)).1) | (exact (start_walk hp1 hp2 hp3 (by assumption)).2) | (exact SmI.refl (by assumption)) | (exact SmI.mu (by assumption) (by assumption)) | (exact And.left (by assumption)) | (exact abs_ne (hp2.at (by omega)) (And.left (by assumption))) | (exact smoke_put hp1 hp2 (by assumption) (by omega) (by assumption) (by assumption)) | ((have hw0 := leave_in (flows := flows) hp1 hp3 (by assumption); first | omega | (simp only [List.length_append, List.length_cons, List.length_nil, List.length_replicate, put_len] at * <;> omega))) | ((have hS : SmI m_.Junctions x1.1 x2.2.1 x2.2.2 := (by assumption); have hl := hS.1.1; have hw0 := ways_in (at' flows x2.1) (hp1.at (i := x2.1) (by omega)); omega))) (sub_of [] ⟨rfl, rfl, os_len rfl (by first | (simp only [put_len]; done) | (first | omega | assumption | (simp only [List.length_append, List.length_cons, List.length_nil, List.length_replicate, put_len] at * <;> omega) | (exact (start_walk hp1 hp2 hp3 (by assumption)).1) | (exact (start_walk hp1 hp2 hp3 (by assumption)).2) | (exact SmI.refl (by assumption)) | (exact SmI.mu (by assumption) (by assumption)) | (exact And.left (by assumption)) | (exact abs_ne (hp2.at (by omega)) (And.left (by assumption))) | (exact smoke_put hp1 hp2 (by assumption) (by omega) (by assumption) (by assumption)) | ((have hw0 := leave_in (flows := flows) hp1 hp3 (by assumption); first | omega | (simp only [List.length_append, List.length_cons, List.length_nil, List.length_replicate, put_len] at * <;> omega))) | ((have hS : SmI m_.Junctions x1.1 x2.2.1 x2.2.2 := (by assumption); have hl := hS.1.1; have hw0 := ways_in (at' flows x2.1) (hp1.at (i := x2.1) (by omega)); omega)))), rfl, rfl, rfl, rfl, trivial⟩ ⟨rfl, rfl, trivial⟩ rfl)
              · try simp only [Bool.and_eq_true, Bool.or_eq_true, Bool.not_eq_true', Bool.and_eq_false_iff, Bool.or_eq_false_iff, Bool.not_eq_false', decide_eq_true_eq, decide_eq_false_iff_not, beq_iff_eq, bne_iff_ne, beq_eq_false_iff_ne, bne_eq_false_iff_eq, Bool.true_and, ne_eq, Decidable.not_not, Int.not_lt, Int.not_le, Nat.not_lt, Nat.not_le, strB_nil, strB_nil', strB_nnil, strB_nnil'] at h11
                refine run_skip ?_
                refine run_endB ?_
                refine run_region (q_add .n (.t rfl) (.c rfl) (fun _ => by first | omega | assumption | (simp only [List.length_append, List.length_cons, List.length_nil, List.length_replicate, put_len] at * <;> omega) | (exact (start_walk hp1 hp2 hp3 (by assumption)).1) | (exact (start_walk hp1 hp2 hp3 (by assumption)).2) | (exact SmI.refl (by assumption)) | (exact SmI.mu (by assumption) (by assumption)) | (exact And.left (by assumption)) | (exact abs_ne (hp2.at (by omega)) (And.left (by assumption))) | (exact smoke_put hp1 hp2 (by assumption) (by omega) (by assumption) (by assumption)) | ((have hw0 := leave_in (flows := flows) hp1 hp3 (by assumption); first | omega | (simp only [List.length_append, List.length_cons, List.length_nil, List.length_replicate, put_len] at * <;> omega))) | ((have hS : SmI m_.Junctions x1.1 x2.2.1 x2.2.2 := (by assumption); have hl := hS.1.1; have hw0 := ways_in (at' flows x2.1) (hp1.at (i := x2.1) (by omega)); omega))) rfl <|
                    q_move .n (.t rfl) rfl <|
                    Lex.nil) ?_
                exact run_again (x2.1 + 1, x2.2.1, x2.2.2) ⟨by first | omega | assumption | (simp only [List.length_append, List.length_cons, List.length_nil, List.length_replicate, put_len] at * <;> omega) | (exact (start_walk hp1 hp2 hp3 (by assumption)).1) | (exact (start_walk hp1 hp2 hp3 (by assumption)).2) | (exact SmI.refl (by assumption)) | (exact SmI.mu (by assumption) (by assumption)) | (exact And.left (by assumption)) | (exact abs_ne (hp2.at (by omega)) (And.left (by assumption))) | (exact smoke_put hp1 hp2 (by assumption) (by omega) (by assumption) (by assumption)) | ((have hw0 := leave_in (flows := flows) hp1 hp3 (by assumption); first | omega | (simp only [List.length_append, List.length_cons, List.length_nil, List.length_replicate, put_len] at * <;> omega))) | ((have hS : SmI m_.Junctions x1.1 x2.2.1 x2.2.2 := (by assumption); have hl := hS.1.1; have hw0 := ways_in (at' flows x2.1) (hp1.at (i := x2.1) (by omega)); omega)), by first | omega | assumption | (simp only [List.length_append, List.length_cons, List.length_nil, List.length_replicate, put_len] at * <;> omega) | (exact (start_walk hp1 hp2 hp3 (by assumption)).1) | (exact (start_walk hp1 hp2 hp3 (by assumption)).2) | (exact SmI.refl (by assumption)) | (exact SmI.mu (by assumption) (by assumption)) | (exact And.left (by assumption)) | (exact abs_ne (hp2.at (by omega)) (And.left (by assumption))) | (exact smoke_put hp1 hp2 (by assumption) (by omega) (by assumption) (by assumption)) | ((have hw0 := leave_in (flows := flows) hp1 hp3 (by assumption); first | omega | (simp only [List.length_append, List.length_cons, List.length_nil, List.length_replicate, put_len] at * <;> omega))) | ((have hS : SmI m_.Junctions x1.1 x2.2.1 x2.2.2 := (by assumption); have hl := hS.1.1; have hw0 := ways_in (at' flows x2.1) (hp1.at (i := x2.1) (by omega)); omega)), by first | omega | assumption | (simp only [List.length_append, List.length_cons, List.length_nil, List.length_replicate, put_len] at * <;> omega) | (exact (start_walk hp1 hp2 hp3 (by assumption)).1) | (exact (start_walk hp1 hp2 hp3 (by assumption)).2) | (exact SmI.refl (by assumption)) | (exact SmI.mu (by assumption) (by assumption)) | (exact And.left (by assumption)) | (exact abs_ne (hp2.at (by omega)) (And.left (by assumption))) | (exact smoke_put hp1 hp2 (by assumption) (by omega) (by assumption) (by assumption)) | ((have hw0 := leave_in (flows := flows) hp1 hp3 (by assumption); first | omega | (simp only [List.length_append, List.length_cons, List.length_nil, List.length_replicate, put_len] at * <;> omega))) | ((have hS : SmI m_.Junctions x1.1 x2.2.1 x2.2.2 := (by assumption); have hl := hS.1.1; have hw0 := ways_in (at' flows x2.1) (hp1.at (i := x2.1) (by omega)); omega)), by first | omega | assumption | (simp only [List.length_append, List.length_cons, List.length_nil, List.length_replicate, put_len] at * <;> omega) | (exact (start_walk hp1 hp2 hp3 (by assumption)).1) | (exact (start_walk hp1 hp2 hp3 (by assumption)).2) | (exact SmI.refl (by assumption)) | (exact SmI.mu (by assumption) (by assumption)) | (exact And.left (by assumption)) | (exact abs_ne (hp2.at (by omega)) (And.left (by assumption))) | (exact smoke_put hp1 hp2 (by assumption) (by omega) (by assumption) (by assumption)) | ((have hw0 := leave_in (flows := flows) hp1 hp3 (by assumption); first | omega | (simp only [List.length_append, List.length_cons, List.length_nil, List.length_replicate, put_len] at * <;> omega))) | ((have hS : SmI m_.Junctions x1.1 x2.2.1 x2.2.2 := (by assumption); have hl := hS.1.1; have hw0 := ways_in (at' flows x2.1) (hp1.at (i := x2.1) (by omega)); omega))⟩ (by first | omega | assumption | (simp only [List.length_append, List.length_cons, List.length_nil, List.length_replicate, put_len] at * <;> omega) | (exact (start_walk hp1 hp2 hp3 (by assumption)).1) | (exact (start_walk hp1 hp2 hp3 (by assumption)).2) | (exact SmI.refl (by assumption)) | (exact SmI.mu (by assumption) (by assumption)) | (exact And.left (by assumption)) | (exact abs_ne (hp2.at (by omega)) (And.left (by assumption))) | (exact smoke_put hp1 hp2 (by assumption) (by omega) (by assumption) (by assumption)) | ((have hw0 := leave_in (flows := flows) hp1 hp3 (by assumption); first | omega | (simp only [List.length_append, List.length_cons, List.length_nil, List.length_replicate, put_len] at * <;> omega))) | ((have hS : SmI m_.Junctions x1.1 x2.2.1 x2.2.2 := (by assumption); have hl := hS.1.1; have hw0 := ways_in (at' flows x2.1) (hp1.at (i := x2.1) (by omega)); omega))) (sub_of [] ⟨rfl, rfl, rfl, rfl, rfl, rfl, rfl, trivial⟩ ⟨rfl, rfl, trivial⟩ rfl)
          · try simp only [Bool.and_eq_true, Bool.or_eq_true, Bool.not_eq_true', Bool.and_eq_false_iff, Bool.or_eq_false_iff, Bool.not_eq_false', decide_eq_true_eq, decide_eq_false_iff_not, beq_iff_eq, bne_iff_ne, beq_eq_false_iff_ne, bne_eq_false_iff_eq, Bool.true_and, ne_eq, Decidable.not_not, Int.not_lt, Int.not_le, Nat.not_lt, Nat.not_le, strB_nil, strB_nil', strB_nnil, strB_nnil'] at h9
            refine run_exit rfl ?_
            exact run_cont hk7 (x2.1, x2.2.1, x2.2.2) ⟨by first | omega | assumption | (simp only [List.length_append, List.length_cons, List.length_nil, List.length_replicate, put_len] at * <;> omega) | (exact (start_walk hp1 hp2 hp3 (by assumption)).1) | (exact (start_walk hp1 hp2 hp3 (by assumption)).2) | (exact SmI.refl (by assumption)) | (exact SmI.mu (by assumption) (by assumption)) | (exact And.left (by assumption)) | (exact abs_ne (hp2.at (by omega)) (And.left (by assumption))) | (exact smoke_put hp1 hp2 (by assumption) (by omega) (by assumption) (by assumption)) | ((have hw0 := leave_in (flows := flows) hp1 hp3 (by assumption); first | omega | (simp only [List.length_append, List.length_cons, List.length_nil, List.length_replicate, put_len] at * <;> omega))) | ((have hS : SmI m_.Junctions x1.1 x2.2.1 x2.2.2 := (by assumption); have hl := hS.1.1; have hw0 := ways_in (at' flows x2.1) (hp1.at (i := x2.1) (by omega)); omega)), by first | omega | assumption | (simp only [List.length_append, List.length_cons, List.length_nil, List.length_replicate, put_len] at * <;> omega) | (exact (start_walk hp1 hp2 hp3 (by assumption)).1) | (exact (start_walk hp1 hp2 hp3 (by assumption)).2) | (exact SmI.refl (by assumption)) | (exact SmI.mu (by assumption) (by assumption)) | (exact And.left (by assumption)) | (exact abs_ne (hp2.at (by omega)) (And.left (by assumption))) | (exact smoke_put hp1 hp2 (by assumption) (by omega) (by assumption) (by assumption)) | ((have hw0 := leave_in (flows := flows) hp1 hp3 (by assumption); first | omega | (simp only [List.length_append, List.length_cons, List.length_nil, List.length_replicate, put_len] at * <;> omega))) | ((have hS : SmI m_.Junctions x1.1 x2.2.1 x2.2.2 := (by assumption); have hl := hS.1.1; have hw0 := ways_in (at' flows x2.1) (hp1.at (i := x2.1) (by omega)); omega)), by first | omega | assumption | (simp only [List.length_append, List.length_cons, List.length_nil, List.length_replicate, put_len] at * <;> omega) | (exact (start_walk hp1 hp2 hp3 (by assumption)).1) | (exact (start_walk hp1 hp2 hp3 (by assumption)).2) | (exact SmI.refl (by assumption)) | (exact SmI.mu (by assumption) (by assumption)) | (exact And.left (by assumption)) | (exact abs_ne (hp2.at (by omega)) (And.left (by assumption))) | (exact smoke_put hp1 hp2 (by assumption) (by omega) (by assumption) (by assumption)) | ((have hw0 := leave_in (flows := flows) hp1 hp3 (by assumption); first | omega | (simp only [List.length_append, List.length_cons, List.length_nil, List.length_replicate, put_len] at * <;> omega))) | ((have hS : SmI m_.Junctions x1.1 x2.2.1 x2.2.2 := (by assumption); have hl := hS.1.1; have hw0 := ways_in (at' flows x2.1) (hp1.at (i := x2.1) (by omega)); omega)), by first | omega | assumption | (simp only [List.length_append, List.length_cons, List.length_nil, List.length_replicate, put_len] at * <;> omega) | (exact (start_walk hp1 hp2 hp3 (by assumption)).1) | (exact (start_walk hp1 hp2 hp3 (by assumption)).2) | (exact SmI.refl (by assumption)) | (exact SmI.mu (by assumption) (by assumption)) | (exact And.left (by assumption)) | (exact abs_ne (hp2.at (by omega)) (And.left (by assumption))) | (exact smoke_put hp1 hp2 (by assumption) (by omega) (by assumption) (by assumption)) | ((have hw0 := leave_in (flows := flows) hp1 hp3 (by assumption); first | omega | (simp only [List.length_append, List.length_cons, List.length_nil, List.length_replicate, put_len] at * <;> omega))) | ((have hS : SmI m_.Junctions x1.1 x2.2.1 x2.2.2 := (by assumption); have hl := hS.1.1; have hw0 := ways_in (at' flows x2.1) (hp1.at (i := x2.1) (by omega)); omega)), by first | omega | assumption | (simp only [List.length_append, List.length_cons, List.length_nil, List.length_replicate, put_len] at * <;> omega) | (exact (start_walk hp1 hp2 hp3 (by assumption)).1) | (exact (start_walk hp1 hp2 hp3 (by assumption)).2) | (exact SmI.refl (by assumption)) | (exact SmI.mu (by assumption) (by assumption)) | (exact And.left (by assumption)) | (exact abs_ne (hp2.at (by omega)) (And.left (by assumption))) | (exact smoke_put hp1 hp2 (by assumption) (by omega) (by assumption) (by assumption)) | ((have hw0 := leave_in (flows := flows) hp1 hp3 (by assumption); first | omega | (simp only [List.length_append, List.length_cons, List.length_nil, List.length_replicate, put_len] at * <;> omega))) | ((have hS : SmI m_.Junctions x1.1 x2.2.1 x2.2.2 := (by assumption); have hl := hS.1.1; have hw0 := ways_in (at' flows x2.1) (hp1.at (i := x2.1) (by omega)); omega))⟩ (sub_of [] ⟨rfl, rfl, rfl, rfl, trivial⟩ ⟨rfl, rfl, trivial⟩ rfl)
      · try simp only [Bool.and_eq_true, Bool.or_eq_true, Bool.not_eq_true', Bool.and_eq_false_iff, Bool.or_eq_false_iff, Bool.not_eq_false', decide_eq_true_eq, decide_eq_false_iff_not, beq_iff_eq, bne_iff_ne, beq_eq_false_iff_ne, bne_eq_false_iff_eq, Bool.true_and, ne_eq, Decidable.not_not, Int.not_lt, Int.not_le, Nat.not_lt, Nat.not_le, strB_nil, strB_nil', strB_nnil, strB_nnil'] at h6
        refine run_exit rfl ?_
        exact run_cont hk4 (x1.1, x1.2) (by first | omega | assumption | (simp only [List.length_append, List.length_cons, List.length_nil, List.length_replicate, put_len] at * <;> omega) | (exact (start_walk hp1 hp2 hp3 (by assumption)).1) | (exact (start_walk hp1 hp2 hp3 (by assumption)).2) | (exact SmI.refl (by assumption)) | (exact SmI.mu (by assumption) (by assumption)) | (exact And.left (by assumption)) | (exact abs_ne (hp2.at (by omega)) (And.left (by assumption))) | (exact smoke_put hp1 hp2 (by assumption) (by omega) (by assumption) (by assumption)) | ((have hw0 := leave_in (flows := flows) hp1 hp3 (by assumption); first | omega | (simp only [List.length_append, List.length_cons, List.length_nil, List.length_replicate, put_len] at * <;> omega))) | ((have hS : SmI m_.Junctions x1.1 x2.2.1 x2.2.2 := (by assumption); have hl := hS.1.1; have hw0 := ways_in (at' flows x2.1) (hp1.at (i := x2.1) (by omega)); omega))) (sub_of [] ⟨rfl, trivial⟩ ⟨rfl, trivial⟩ rfl)


end Go.Proofs.Ytahohnhmdlndfaa
