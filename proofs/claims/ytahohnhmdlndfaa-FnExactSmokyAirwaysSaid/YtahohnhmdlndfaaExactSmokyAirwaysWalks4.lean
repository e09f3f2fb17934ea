/-
  THE WALKS: each Go function computes its model. Conditions: as each theorem states them (hp1, hp2 ..).
-/
import Derived.Test.YtahohnhmdlndfaaExactSmokyAirwaysWalks3
set_option linter.unusedVariables false
set_option linter.unusedSimpArgs false
set_option linter.unusedSectionVars false
set_option linter.unnecessarySimpa false
namespace Go.Proofs.Ytahohnhmdlndfaa
open Go Go.RowKit Go.Proofs Go.Proofs.Ytahohnhmdlndfaa.E
/-! ### impl_Mine_front -/
theorem c_impl_Mine_front (m_ : gMine) (flows : List Int) (arrivals : List Int) (airway : Int) (time : Int) (hp1 : MineIn m_) (hp2 : FlowsIn m_ flows) (hp3 : (arrivals.length : Int) = m_.Junctions) (hp4 : 0 ≤ airway ∧ airway < m_.Airways.length) : Con Try.prog 84 [.st [.int .i64 m_.Junctions, .sl 7 (m_.Airways.map gAirway.v)], .sl 1 (flows.map (V.int .i64)), .sl 1 (arrivals.map (V.int .i64)), .int .i64 airway, .int .i64 time] [] (.int .i64 (m_impl_Mine_front m_ flows arrivals airway time)) ([]) := by
  refine con_intro (out := fun r : Int => ((.int .i64 r : V), ([] : List (Nat × Option O)))) (r := (m_impl_Mine_front m_ flows arrivals airway time)) Try.func84 rfl Try.ntmps84 rfl ?_
  have hJ1 := hp1.1
  have hA1 := hp1.2.1
  have hF2 := hp2.1
  refine run_factS (t := 0) 1 rfl rfl fun hl => ?_
  have l1 := hl; clear hl; simp only [List.length_map] at l1
  refine run_fact (t := 1) rfl fun hl => ?_
  have l2 := hl; clear hl; simp only [List.length_map] at l2
  refine run_fact (t := 2) rfl fun hl => ?_
  have l3 := hl; clear hl; simp only [List.length_map] at l3
  refine run_seq ?_
  refine run_region (q_box (l := 200) .n rfl (.t rfl) rfl rfl rfl rfl <|
      q_assign .n (.c rfl) rfl <|
      Lex.nil) ?_
  refine run_seq ?_
  refine run_draw fmo (q_fld_ow .n (.t rfl) fo_33_1 rfl <|
      q_ld1_ow .n (.t rfl) rfl (.inr rfl) (fun _ => rfl) rfl ic_31 rfl <|
      q_move .n (.t rfl) rfl <|
      q_idx_rm .n (.t rfl) (.t rfl) sl_31 (fun _ => by first | omega | assumption | (simp only [List.length_append, List.length_cons, List.length_nil, List.length_replicate, put_len] at * <;> omega) | ((have hw0 := ways_in (at' flows airway) (hp1.at (i := airway) hp4); first | omega | (simp only [List.length_append, List.length_cons, List.length_nil, List.length_replicate, put_len] at * <;> omega))) | ((have hq := hp1.at hp4; unfold AirIn at hq; omega))) rfl <|
      q_ldN_ro .n (.t rfl) ag_105 rfl rfl rfl <|
      q_move .n (.t rfl) rfl <|
      q_move .n (.t rfl) rfl <|
      q_idx_rm .n (.t rfl) (.t rfl) sl_25 (fun _ => by first | omega | assumption | (simp only [List.length_append, List.length_cons, List.length_nil, List.length_replicate, put_len] at * <;> omega) | ((have hw0 := ways_in (at' flows airway) (hp1.at (i := airway) hp4); first | omega | (simp only [List.length_append, List.length_cons, List.length_nil, List.length_replicate, put_len] at * <;> omega))) | ((have hq := hp1.at hp4; unfold AirIn at hq; omega))) rfl <|
      q_ld1_ro .n (.t rfl) rfl ic_2 rfl <|
      q_alloc (l := 201) .n rfl zv_105 rfl rfl <|
      q_st_boxm [.str (at' m_.Airways airway).Id, .int .i64 (at' m_.Airways airway).From, .int .i64 (at' m_.Airways airway).To, .int .i64 (at' m_.Airways airway).Length, .int .i64 (at' m_.Airways airway).Section, .int .i64 (at' m_.Airways airway).Friction, .int .i64 (at' m_.Airways airway).Shock] .n rfl (.t rfl) (.t rfl) rfl ts_105 rfl rfl <|
      q_assign .n (.t rfl) rfl <|
      Lex.nil) (by kernel_rfl) ?_
  refine run_seq ?_
  refine run_region (q_ldN_ow .n (.t rfl) rfl (.inr rfl) ag_105 (fun _ => rfl) rfl rfl <|
      q_move .n (.t rfl) rfl <|
      q_call0 (full := false) .n .f en_111 (.cons (.t rfl) (.cons (.t rfl) .nil)) (.cons (.sts rfl) (.cons (.b (.a (.same rfl))) .nil)) (fun hg => c_impl_Airway_ways (at' m_.Airways airway) (at' flows airway)) rfl (fun h => Bool.noConfusion h) rfl <|
      q_move .n (.t rfl) rfl <|
      q_ext .n (.t rfl) rfl rfl rfl <|
      q_ext .n (.t rfl) rfl rfl rfl <|
      q_assign .n (.t rfl) rfl <|
      q_assign .n (.t rfl) rfl <|
      Lex.nil) ?_
  refine run_seq ?_
  refine run_seq ?_
  refine run_region (q_move .n (.t rfl) rfl <|
      q_int .n (.t rfl) (.c rfl) rfl rfl <|
      q_move .n (.t rfl) rfl <|
      q_move (.f rfl rfl) (.t rfl) rfl <|
      q_move (.f rfl rfl) (.t rfl) rfl <|
      q_idx_rm (.f rfl rfl) (.u rfl id) (.u rfl id) sl_25 (fun hg => by simp only [Bool.and_eq_true, Bool.or_eq_true, Bool.not_eq_true', Bool.and_eq_false_iff, Bool.or_eq_false_iff, Bool.not_eq_false', decide_eq_true_eq, decide_eq_false_iff_not, beq_iff_eq, bne_iff_ne, beq_eq_false_iff_ne, bne_eq_false_iff_eq, Bool.true_and, ne_eq, Decidable.not_not, Int.not_lt, Int.not_le, Nat.not_lt, Nat.not_le, strB_nil, strB_nil', strB_nnil, strB_nnil'] at hg; first | omega | assumption | (simp only [List.length_append, List.length_cons, List.length_nil, List.length_replicate, put_len] at * <;> omega) | ((have hw0 := ways_in (at' flows airway) (hp1.at (i := airway) hp4); first | omega | (simp only [List.length_append, List.length_cons, List.length_nil, List.length_replicate, put_len] at * <;> omega))) | ((have hq := hp1.at hp4; unfold AirIn at hq; omega))) rfl <|
      q_ld1_ro (.f rfl rfl) (.u rfl id) rfl ic_2 rfl <|
      q_int (.f rfl rfl) (.u rfl id) (.c rfl) rfl rfl <|
      q_or .n (.t rfl) (.u rfl id) rfl <|
      q_move .n (.t rfl) rfl <|
      q_move (.f rfl rfl) (.t rfl) rfl <|
      q_move (.f rfl rfl) (.t rfl) rfl <|
      q_idx_rm (.f rfl rfl) (.u rfl id) (.u rfl id) sl_25 (fun hg => by simp only [Bool.and_eq_true, Bool.or_eq_true, Bool.not_eq_true', Bool.and_eq_false_iff, Bool.or_eq_false_iff, Bool.not_eq_false', decide_eq_true_eq, decide_eq_false_iff_not, beq_iff_eq, bne_iff_ne, beq_eq_false_iff_ne, bne_eq_false_iff_eq, Bool.true_and, ne_eq, Decidable.not_not, Int.not_lt, Int.not_le, Nat.not_lt, Nat.not_le, strB_nil, strB_nil', strB_nnil, strB_nnil'] at hg; first | omega | assumption | (simp only [List.length_append, List.length_cons, List.length_nil, List.length_replicate, put_len] at * <;> omega) | ((have hw0 := ways_in (at' flows airway) (hp1.at (i := airway) hp4); first | omega | (simp only [List.length_append, List.length_cons, List.length_nil, List.length_replicate, put_len] at * <;> omega))) | ((have hq := hp1.at hp4; unfold AirIn at hq; omega))) rfl <|
      q_ld1_ro (.f rfl rfl) (.u rfl id) rfl ic_2 rfl <|
      q_move (.f rfl rfl) (.t rfl) rfl <|
      q_int (.f rfl rfl) (.u rfl id) (.u rfl id) rfl rfl <|
      q_or .n (.t rfl) (.u rfl id) rfl <|
      Lex.nil) ?_
  refine run_cond (.t rfl) rfl (fun h4 => ?_) (fun h4 => ?_)
  · try simp only [Bool.and_eq_true, Bool.or_eq_true, Bool.not_eq_true', Bool.and_eq_false_iff, Bool.or_eq_false_iff, Bool.not_eq_false', decide_eq_true_eq, decide_eq_false_iff_not, beq_iff_eq, bne_iff_ne, beq_eq_false_iff_ne, bne_eq_false_iff_eq, Bool.true_and, ne_eq, Decidable.not_not, Int.not_lt, Int.not_le, Nat.not_lt, Nat.not_le, strB_nil, strB_nil', strB_nnil, strB_nnil'] at h4
    refine run_seq ?_
    refine run_region (q_assign .n (.c rfl) rfl <|
        Lex.nil) ?_
    exact run_ret [] (.cons (.t rfl rfl) .nil) rfl trivial rfl
  · try simp only [Bool.and_eq_true, Bool.or_eq_true, Bool.not_eq_true', Bool.and_eq_false_iff, Bool.or_eq_false_iff, Bool.not_eq_false', decide_eq_true_eq, decide_eq_false_iff_not, beq_iff_eq, bne_iff_ne, beq_eq_false_iff_ne, bne_eq_false_iff_eq, Bool.true_and, ne_eq, Decidable.not_not, Int.not_lt, Int.not_le, Nat.not_lt, Nat.not_le, strB_nil, strB_nil', strB_nnil, strB_nnil'] at h4
    refine run_skip ?_
    refine run_seq ?_
    refine run_draw fmo (q_move .n (.t rfl) rfl <|
        q_move .n (.t rfl) rfl <|
        q_move .n (.t rfl) rfl <|
        q_idx_rm .n (.t rfl) (.t rfl) sl_25 (fun _ => by first | omega | assumption | (simp only [List.length_append, List.length_cons, List.length_nil, List.length_replicate, put_len] at * <;> omega) | ((have hw0 := ways_in (at' flows airway) (hp1.at (i := airway) hp4); first | omega | (simp only [List.length_append, List.length_cons, List.length_nil, List.length_replicate, put_len] at * <;> omega))) | ((have hq := hp1.at hp4; unfold AirIn at hq; omega))) rfl <|
        q_ld1_ro .n (.t rfl) rfl ic_2 rfl <|
        q_int .n (.t rfl) (.t rfl) rfl rfl <|
        q_move .n (.t rfl) rfl <|
        q_call0 (full := false) .n .f en_95 (.cons (.t rfl) .nil) (.cons (.b (.a (.same rfl))) .nil) (fun hg => c_impl_abs (at' flows airway)) rfl (fun h => Bool.noConfusion h) rfl <|
        q_int .n (.t rfl) (.t rfl) rfl rfl <|
        q_fld_ow .n (.t rfl) fo_105_4 rfl <|
        q_ld1_ow .n (.t rfl) rfl (.inr rfl) (fun _ => rfl) rfl ic_2 rfl <|
        q_quo .n (.t rfl) (.t rfl) (fun hg => by first | omega | assumption | (simp only [List.length_append, List.length_cons, List.length_nil, List.length_replicate, put_len] at * <;> omega) | ((have hw0 := ways_in (at' flows airway) (hp1.at (i := airway) hp4); first | omega | (simp only [List.length_append, List.length_cons, List.length_nil, List.length_replicate, put_len] at * <;> omega))) | ((have hq := hp1.at hp4; unfold AirIn at hq; omega))) rfl <|
        q_fld_ow .n (.t rfl) fo_105_3 rfl <|
        q_ld1_ow .n (.t rfl) rfl (.inr rfl) (fun _ => rfl) rfl ic_2 rfl <|
        q_min .n (.t rfl) (.t rfl) rfl <|
        q_assign .n (.t rfl) rfl <|
        Lex.nil) (by kernel_rfl) ?_
    exact run_ret [] (.cons (.t rfl rfl) .nil) rfl trivial rfl

/-! ### impl_SmokyAirways -/
theorem c_impl_SmokyAirways (m_ : gMine) (flows : List Int) (f : gFire) (time : Int) : Con Try.prog 43 [.st [.int .i64 m_.Junctions, .sl 7 (m_.Airways.map gAirway.v)], .sl 1 (flows.map (V.int .i64)), .st [.int .i64 f.Airway, .int .i64 f.At, .int .i64 f.Start], .int .i64 time] [] (.tup [.os 100 (m_impl_SmokyAirways m_ flows f time).1.length, .int .i64 (m_impl_SmokyAirways m_ flows f time).2]) ([(100, some (.row 2 1 ((m_impl_SmokyAirways m_ flows f time).1.map (V.int .i64))))]) := by
  refine con_intro (out := fun r : (List Int) × Int => ((.tup [.os 100 r.1.length, .int .i64 r.2] : V), ([(100, some (.row 2 1 (r.1.map (V.int .i64))))] : List (Nat × Option O)))) (r := (m_impl_SmokyAirways m_ flows f time)) Try.func43 rfl Try.ntmps43 rfl ?_
  refine run_factS (t := 0) 1 rfl rfl fun hl => ?_
  have l1 := hl; clear hl; simp only [List.length_map] at l1
  refine run_fact (t := 1) rfl fun hl => ?_
  have l2 := hl; clear hl; simp only [List.length_map] at l2
  refine run_seq ?_
  refine run_region (q_box (l := 200) .n rfl (.t rfl) rfl rfl rfl rfl <|
      q_box (l := 201) .n rfl (.t rfl) rfl rfl rfl rfl <|
      q_assign .n (.c rfl) rfl <|
      q_assign .n (.c rfl) rfl <|
      Lex.nil) ?_
  refine run_seq ?_
  refine run_seq ?_
  refine run_region (q_ldN_ow .n (.t rfl) rfl (.inr rfl) ag_33 (fun _ => rfl) rfl rfl <|
      q_move .n (.t rfl) rfl <|
      q_ldN_ow .n (.t rfl) rfl (.inr rfl) ag_52 (fun _ => rfl) rfl rfl <|
      q_move .n (.t rfl) rfl <|
      q_call0 (full := false) .n .f en_77 (.cons (.t rfl) (.cons (.t rfl) (.cons (.t rfl) (.cons (.t rfl) .nil)))) (.cons (.sts rfl) (.cons (.b (.a (.same rfl))) (.cons (.sts rfl) (.cons (.b (.a (.same rfl))) .nil)))) (fun hg => c_impl_fireCode m_ flows f time) rfl (fun h => Bool.noConfusion h) rfl <|
      q_assign .n (.t rfl) rfl <|
      Lex.nil) ?_
  refine run_seq ?_
  refine run_region (q_move .n (.t rfl) rfl <|
      q_int .n (.t rfl) (.c rfl) rfl rfl <|
      Lex.nil) ?_
  refine run_cond (.t rfl) rfl (fun h3 => ?_) (fun h3 => ?_)
  · try simp only [Bool.and_eq_true, Bool.or_eq_true, Bool.not_eq_true', Bool.and_eq_false_iff, Bool.or_eq_false_iff, Bool.not_eq_false', decide_eq_true_eq, decide_eq_false_iff_not, beq_iff_eq, bne_iff_ne, beq_eq_false_iff_ne, bne_eq_false_iff_eq, Bool.true_and, ne_eq, Decidable.not_not, Int.not_lt, Int.not_le, Nat.not_lt, Nat.not_le, strB_nil, strB_nil', strB_nnil, strB_nnil'] at h3
    try have hf0h3 := fireCode_impM h3
    try have hf1h3 := fireCode_impM h3.1
    try have hf2h3 := fireCode_impM h3.2
    try have hf3h3 := fireCode_impM h3.1.1
    try have hf4h3 := fireCode_impM h3.1.2
    try have hf5h3 := fireCode_impM h3.2.1
    try have hf6h3 := fireCode_impM h3.2.2
    try have hf7h3 := fireCode_impF h3
    try have hf8h3 := fireCode_impF h3.1
    try have hf9h3 := fireCode_impF h3.2
    try have hf10h3 := fireCode_impF h3.1.1
    try have hf11h3 := fireCode_impF h3.1.2
    try have hf12h3 := fireCode_impF h3.2.1
    try have hf13h3 := fireCode_impF h3.2.2
    try have hf14h3 := fireCode_impS h3
    try have hf15h3 := fireCode_impS h3.1
    try have hf16h3 := fireCode_impS h3.2
    try have hf17h3 := fireCode_impS h3.1.1
    try have hf18h3 := fireCode_impS h3.1.2
    try have hf19h3 := fireCode_impS h3.2.1
    try have hf20h3 := fireCode_impS h3.2.2
    try have hf21h3 := fireCode_impJ h3
    try have hf22h3 := fireCode_impJ h3.1
    try have hf23h3 := fireCode_impJ h3.2
    try have hf24h3 := fireCode_impJ h3.1.1
    try have hf25h3 := fireCode_impJ h3.1.2
    try have hf26h3 := fireCode_impJ h3.2.1
    try have hf27h3 := fireCode_impJ h3.2.2
    refine run_seq ?_
    refine run_region (q_move .n (.t rfl) rfl <|
        q_assign .n (.c rfl) rfl <|
        q_assign .n (.t rfl) rfl <|
        Lex.nil) ?_
    refine run_sub (sub_adopt (t := 8) (l := 202) (el := 2) (sz := 1) rfl rfl) ?_
    exact run_ret [(100, 202)] (.cons (.t rfl rfl) (.cons (.t rfl rfl) .nil)) (by first | rfl | (simp only [put_len]; rfl)) ⟨rfl, trivial⟩ rfl
  · try simp only [Bool.and_eq_true, Bool.or_eq_true, Bool.not_eq_true', Bool.and_eq_false_iff, Bool.or_eq_false_iff, Bool.not_eq_false', decide_eq_true_eq, decide_eq_false_iff_not, beq_iff_eq, bne_iff_ne, beq_eq_false_iff_ne, bne_eq_false_iff_eq, Bool.true_and, ne_eq, Decidable.not_not, Int.not_lt, Int.not_le, Nat.not_lt, Nat.not_le, strB_nil, strB_nil', strB_nnil, strB_nnil'] at h3
    try have hf0h3 := fireCode_impM h3
    try have hf1h3 := fireCode_impM h3.1
    try have hf2h3 := fireCode_impM h3.2
    try have hf3h3 := fireCode_impM h3.1.1
    try have hf4h3 := fireCode_impM h3.1.2
    try have hf5h3 := fireCode_impM h3.2.1
    try have hf6h3 := fireCode_impM h3.2.2
    try have hf7h3 := fireCode_impF h3
    try have hf8h3 := fireCode_impF h3.1
    try have hf9h3 := fireCode_impF h3.2
    try have hf10h3 := fireCode_impF h3.1.1
    try have hf11h3 := fireCode_impF h3.1.2
    try have hf12h3 := fireCode_impF h3.2.1
    try have hf13h3 := fireCode_impF h3.2.2
    try have hf14h3 := fireCode_impS h3
    try have hf15h3 := fireCode_impS h3.1
    try have hf16h3 := fireCode_impS h3.2
    try have hf17h3 := fireCode_impS h3.1.1
    try have hf18h3 := fireCode_impS h3.1.2
    try have hf19h3 := fireCode_impS h3.2.1
    try have hf20h3 := fireCode_impS h3.2.2
    try have hf21h3 := fireCode_impJ h3
    try have hf22h3 := fireCode_impJ h3.1
    try have hf23h3 := fireCode_impJ h3.2
    try have hf24h3 := fireCode_impJ h3.1.1
    try have hf25h3 := fireCode_impJ h3.1.2
    try have hf26h3 := fireCode_impJ h3.2.1
    try have hf27h3 := fireCode_impJ h3.2.2
    refine run_skip ?_
    refine run_seq ?_
    refine run_region (q_ldN_ow .n (.t rfl) rfl (.inr rfl) ag_33 (fun _ => rfl) rfl rfl <|
        q_move .n (.t rfl) rfl <|
        q_ldN_ow .n (.t rfl) rfl (.inr rfl) ag_52 (fun _ => rfl) rfl rfl <|
        q_callM (full := false) [] [(100, 203)] .n rfl .f en_78 (.cons (.t rfl) (.cons (.t rfl) (.cons (.t rfl) .nil))) (.cons (.sts rfl) (.cons (.b (.a (.same rfl))) (.cons (.sts rfl) .nil))) (c_impl_Mine_arrivals m_ flows f (by first | omega | assumption | (simp only [List.length_append, List.length_cons, List.length_nil, List.length_replicate, put_len] at * <;> omega) | (exact implArr_len (by assumption) (by assumption) (by assumption))) (by first | omega | assumption | (simp only [List.length_append, List.length_cons, List.length_nil, List.length_replicate, put_len] at * <;> omega) | (exact implArr_len (by assumption) (by assumption) (by assumption))) (by first | omega | assumption | (simp only [List.length_append, List.length_cons, List.length_nil, List.length_replicate, put_len] at * <;> omega) | (exact implArr_len (by assumption) (by assumption) (by assumption)))) trivial rfl rfl (fun h => Bool.noConfusion h) (fun h => Bool.noConfusion h) rfl <|
        q_assign .n (.t rfl) rfl <|
        Lex.nil) ?_
    refine run_seq ?_
    refine run_region (q_assign .n (.c rfl) rfl <|
        Lex.nil) ?_
    refine run_seq ?_
    refine run_seq ?_
    refine run_region (q_fld_ow .n (.t rfl) fo_33_1 rfl <|
        q_ld1_ow .n (.t rfl) rfl (.inr rfl) (fun _ => rfl) rfl ic_31 rfl <|
        q_len .n (.t rfl) rfl len_map ss_31 rfl <|
        q_move .n (.c rfl) rfl <|
        Lex.nil) ?_
    refine run_block ?_
    refine run_sub (sub_adopt (t := 12) (l := 204) (el := 2) (sz := 1) rfl rfl) ?_
    refine run_LOOP (m_impl_SmokyAirways_b1 m_ flows f time) _ _ _ rfl (fun (x1 : (List Int) × Int) => 0 ≤ x1.2 ∧ x1.2 ≤ (m_.Airways.length : Int) ∧ (x1.1.length : Int) + 0 ≤ x1.2 + (([] : List Int).length : Int)) (fun x1 => 0 ≤ x1.2 ∧ x1.2 ≤ (m_.Airways.length : Int) ∧ (x1.1.length : Int) + 0 ≤ x1.2 + (([] : List Int).length : Int) ∧ (m_.Airways.length : Int) ≤ x1.2) (fun x1 => ((m_.Airways.length : Int) - x1.2 : Int).toNat) (fun x1 => ⟨[(1, some (true, .sl 1 (flows.map (V.int .i64)))), (3, some (true, .int .i64 time)), (4, some (true, .op 200 0 0 0)), (6, some (true, .op 201 0 0 0)), (11, some (true, .os 203 (m_impl_Mine_arrivals m_ flows f).length)), (12, some (true, .os 204 x1.1.length)), (28, some (true, .int .i64 (m_.Airways.length : Int))), (29, some (true, .int .i64 x1.2))], [(200, some (.box 33 [.int .i64 m_.Junctions, .sl 7 (m_.Airways.map gAirway.v)])), (201, some (.box 52 [.int .i64 f.Airway, .int .i64 f.At, .int .i64 f.Start])), (203, some (.row 2 1 ((m_impl_Mine_arrivals m_ flows f).map (V.int .i64)))), (204, some (.row 2 1 (x1.1.map (V.int .i64))))]⟩) (fun x1 => ⟨[(12, some (true, .os 204 x1.1.length))], [(204, some (.row 2 1 (x1.1.map (V.int .i64))))]⟩) ⟨by first | omega | assumption | (simp only [List.length_append, List.length_cons, List.length_nil, List.length_replicate, put_len] at * <;> omega) | (exact implArr_len (by assumption) (by assumption) (by assumption)), by first | omega | assumption | (simp only [List.length_append, List.length_cons, List.length_nil, List.length_replicate, put_len] at * <;> omega) | (exact implArr_len (by assumption) (by assumption) (by assumption)), by first | omega | assumption | (simp only [List.length_append, List.length_cons, List.length_nil, List.length_replicate, put_len] at * <;> omega) | (exact implArr_len (by assumption) (by assumption) (by assumption))⟩ (by first | omega | assumption | (simp only [List.length_append, List.length_cons, List.length_nil, List.length_replicate, put_len] at * <;> omega) | (exact implArr_len (by assumption) (by assumption) (by assumption))) (sub_of [] ⟨rfl, rfl, rfl, rfl, rfl, rfl, rfl, rfl, trivial⟩ ⟨rfl, rfl, rfl, rfl, trivial⟩ rfl) ?_ ?_
    · intro x1 i8
      obtain ⟨e9, e10, e11, e12⟩ := i8
      try dsimp only at *
      refine run_seq ?_
      refine run_region (q_move .n (.t rfl) rfl <|
          q_assign .n (.t rfl) rfl <|
          q_assign .n (.c rfl) rfl <|
          Lex.nil) ?_
      exact run_ret [(100, 204)] (.cons (.t rfl rfl) (.cons (.t rfl rfl) .nil)) (by first | rfl | (simp only [put_len]; rfl)) ⟨rfl, trivial⟩ rfl
    · intro rec1 k1 hk4 x1 i5
      obtain ⟨e13, e14, e15⟩ := i5
      try dsimp only at *
      refine run_seq ?_
      refine run_region (q_int .n (.t rfl) (.t rfl) rfl rfl <|
          Lex.nil) ?_
      refine run_seq ?_
      refine run_cond (.t rfl) rfl (fun h6 => ?_) (fun h6 => ?_)
      · try simp only [Bool.and_eq_true, Bool.or_eq_true, Bool.not_eq_true', Bool.and_eq_false_iff, Bool.or_eq_false_iff, Bool.not_eq_false', decide_eq_true_eq, decide_eq_false_iff_not, beq_iff_eq, bne_iff_ne, beq_eq_false_iff_ne, bne_eq_false_iff_eq, Bool.true_and, ne_eq, Decidable.not_not, Int.not_lt, Int.not_le, Nat.not_lt, Nat.not_le, strB_nil, strB_nil', strB_nnil, strB_nnil'] at h6
        refine run_skip ?_
        refine run_seq ?_
        refine run_block ?_
        refine run_seq ?_
        refine run_region (q_move .n (.t rfl) rfl <|
            q_assign .n (.t rfl) rfl <|
            Lex.nil) ?_
        refine run_seq ?_
        refine run_region (q_ldN_ow .n (.t rfl) rfl (.inr rfl) ag_33 (fun _ => rfl) rfl rfl <|
            q_move .n (.t rfl) rfl <|
            q_move .n (.t rfl) rfl <|
            q_move .n (.t rfl) rfl <|
            q_move .n (.t rfl) rfl <|
            q_call0 (full := true) .n .f en_84 (.cons (.t rfl) (.cons (.t rfl) (.cons (.t rfl) (.cons (.t rfl) (.cons (.t rfl) .nil))))) (.cons (.sts rfl) (.cons (.b (.a (.same rfl))) (.cons (.b (.a (.own rfl rfl rfl (take_all (by simp only [len_map, put_len])) (by simp only [len_map, put_len])))) (.cons (.b (.a (.same rfl))) (.cons (.b (.a (.same rfl))) .nil))))) (fun hg => c_impl_Mine_front m_ flows (m_impl_Mine_arrivals m_ flows f) x1.2 time (by first | omega | assumption | (simp only [List.length_append, List.length_cons, List.length_nil, List.length_replicate, put_len] at * <;> omega) | (exact implArr_len (by assumption) (by assumption) (by assumption))) (by first | omega | assumption | (simp only [List.length_append, List.length_cons, List.length_nil, List.length_replicate, put_len] at * <;> omega) | (exact implArr_len (by assumption) (by assumption) (by assumption))) (by first | omega | assumption | (simp only [List.length_append, List.length_cons, List.length_nil, List.length_replicate, put_len] at * <;> omega) | (exact implArr_len (by assumption) (by assumption) (by assumption))) (by first | omega | assumption | (simp only [List.length_append, List.length_cons, List.length_nil, List.length_replicate, put_len] at * <;> omega) | (exact implArr_len (by assumption) (by assumption) (by assumption)))) rfl (fun _ => rfl) rfl <|
            q_int .n (.t rfl) (.c rfl) rfl rfl <|
            q_move .n (.t rfl) rfl <|
            q_move (.f rfl rfl) (.t rfl) rfl <|
            q_fld_ow (.f rfl rfl) (.t rfl) fo_52_0 rfl <|
            q_ld1_ow (.f rfl rfl) (.u rfl id) rfl (.inr rfl) (fun _ => rfl) rfl ic_2 rfl <|
            q_int (.f rfl rfl) (.u rfl id) (.u rfl id) rfl rfl <|
            q_move (.f rfl rfl) (.u rfl id) rfl <|
            q_move (.t rfl rfl) (.t rfl) rfl <|
            q_fld_ow (.t rfl rfl) (.t rfl) fo_52_2 rfl <|
            q_ld1_ow (.t rfl rfl) (.u rfl id) rfl (.inr rfl) (fun _ => rfl) rfl ic_2 rfl <|
            q_int (.t rfl rfl) (.u rfl id) (.u rfl id) rfl rfl <|
            q_and (.f rfl rfl) (.u rfl id) (.u rfl id) rfl <|
            q_or .n (.t rfl) (.u rfl id) rfl <|
            Lex.nil) ?_
        refine run_cond (.t rfl) rfl (fun h7 => ?_) (fun h7 => ?_)
        · try simp only [Bool.and_eq_true, Bool.or_eq_true, Bool.not_eq_true', Bool.and_eq_false_iff, Bool.or_eq_false_iff, Bool.not_eq_false', decide_eq_true_eq, decide_eq_false_iff_not, beq_iff_eq, bne_iff_ne, beq_eq_false_iff_ne, bne_eq_false_iff_eq, Bool.true_and, ne_eq, Decidable.not_not, Int.not_lt, Int.not_le, Nat.not_lt, Nat.not_le, strB_nil, strB_nil', strB_nnil, strB_nnil'] at h7
          refine run_region (q_move .n (.t rfl) rfl <|
              q_move .n (.t rfl) rfl <|
              q_bslicem ([x1.2] : List Int) (f := V.int .i64) (l := 205) .n rfl rfl (.cons (.t rfl) .nil) rfl si_25 zv_2 rfl rfl rfl <|
              q_appm (xs := x1.1) (ys := ([x1.2] : List Int)) (f := V.int .i64) (l := 206) .n rfl (.ow (.t rfl) rfl (take_all (by simp only [len_map, put_len])) (by simp only [len_map, put_len])) (.ow (.t rfl) rfl (take_all (by simp only [len_map, put_len])) (by simp only [len_map, put_len])) si_25 zv_2 rfl (by first | omega | assumption | (simp only [List.length_append, List.length_cons, List.length_nil, List.length_replicate, put_len] at * <;> omega) | (exact implArr_len (by assumption) (by assumption) (by assumption))) rfl rfl <|
              q_assign .n (.t rfl) rfl <|
              Lex.nil) ?_
          refine run_endB ?_
          refine run_region (q_add .n (.t rfl) (.c rfl) (fun _ => by first | omega | assumption | (simp only [List.length_append, List.length_cons, List.length_nil, List.length_replicate, put_len] at * <;> omega) | (exact implArr_len (by assumption) (by assumption) (by assumption))) rfl <|
              q_move .n (.t rfl) rfl <|
              Lex.nil) ?_
          exact run_again (x1.1 ++ ([x1.2] : List Int), x1.2 + 1) ⟨by first | omega | assumption | (simp only [List.length_append, List.length_cons, List.length_nil, List.length_replicate, put_len] at * <;> omega) | (exact implArr_len (by assumption) (by assumption) (by assumption)), by first | omega | assumption | (simp only [List.length_append, List.length_cons, List.length_nil, List.length_replicate, put_len] at * <;> omega) | (exact implArr_len (by assumption) (by assumption) (by assumption)), by first | omega | assumption | (simp only [List.length_append, List.length_cons, List.length_nil, List.length_replicate, put_len] at * <;> omega) | (exact implArr_len (by assumption) (by assumption) (by assumption))⟩ (by first | omega | assumption | (simp only [List.length_append, List.length_cons, List.length_nil, List.length_replicate, put_len] at * <;> omega) | (exact implArr_len (by assumption) (by assumption) (by assumption))) (sub_of [(204, 206)] ⟨rfl, rfl, rfl, rfl, rfl, rfl, rfl, rfl, trivial⟩ ⟨rfl, rfl, rfl, rfl, trivial⟩ rfl)
        · try simp only [Bool.and_eq_true, Bool.or_eq_true, Bool.not_eq_true', Bool.and_eq_false_iff, Bool.or_eq_false_iff, Bool.not_eq_false', decide_eq_true_eq, decide_eq_false_iff_not, beq_iff_eq, bne_iff_ne, beq_eq_false_iff_ne, bne_eq_false_iff_eq, Bool.true_and, ne_eq, Decidable.not_not, Int.not_lt, Int.not_le, Nat.not_lt, Nat.not_le, strB_nil, strB_nil', strB_nnil, strB_nnil'] at h7
          refine run_skip ?_
          refine run_endB ?_
          refine run_region (q_add .n (.t rfl) (.c rfl) (fun _ => by first | omega | assumption | (simp only [List.length_append, List.length_cons, List.length_nil, List.length_replicate, put_len] at * <;> omega) | (exact implArr_len (by assumption) (by assumption) (by assumption))) rfl <|
              q_move .n (.t rfl) rfl <|
              Lex.nil) ?_
          exact run_again (x1.1, x1.2 + 1) ⟨by first | omega | assumption | (simp only [List.length_append, List.length_cons, List.length_nil, List.length_replicate, put_len] at * <;> omega) | (exact implArr_len (by assumption) (by assumption) (by assumption)), by first | omega | assumption | (simp only [List.length_append, List.length_cons, List.length_nil, List.length_replicate, put_len] at * <;> omega) | (exact implArr_len (by assumption) (by assumption) (by assumption)), by first | omega | assumption | (simp only [List.length_append, List.length_cons, List.length_nil, List.length_replicate, put_len] at * <;> omega) | (exact implArr_len (by assumption) (by assumption) (by assumption))⟩ (by first | omega | assumption | (simp only [List.length_append, List.length_cons, List.length_nil, List.length_replicate, put_len] at * <;> omega) | (exact implArr_len (by assumption) (by assumption) (by assumption))) (sub_of [] ⟨rfl, rfl, rfl, rfl, rfl, rfl, rfl, rfl, trivial⟩ ⟨rfl, rfl, rfl, rfl, trivial⟩ rfl)
      · try simp only [Bool.and_eq_true, Bool.or_eq_true, Bool.not_eq_true', Bool.and_eq_false_iff, Bool.or_eq_false_iff, Bool.not_eq_false', decide_eq_true_eq, decide_eq_false_iff_not, beq_iff_eq, bne_iff_ne, beq_eq_false_iff_ne, bne_eq_false_iff_eq, Bool.true_and, ne_eq, Decidable.not_not, Int.not_lt, Int.not_le, Nat.not_lt, Nat.not_le, strB_nil, strB_nil', strB_nnil, strB_nnil'] at h6
        refine run_exit rfl ?_
        exact run_cont hk4 (x1.1, x1.2) ⟨by first | omega | assumption | (simp only [List.length_append, List.length_cons, List.length_nil, List.length_replicate, put_len] at * <;> omega) | (exact implArr_len (by assumption) (by assumption) (by assumption)), by first | omega | assumption | (simp only [List.length_append, List.length_cons, List.length_nil, List.length_replicate, put_len] at * <;> omega) | (exact implArr_len (by assumption) (by assumption) (by assumption)), by first | omega | assumption | (simp only [List.length_append, List.length_cons, List.length_nil, List.length_replicate, put_len] at * <;> omega) | (exact implArr_len (by assumption) (by assumption) (by assumption)), by first | omega | assumption | (simp only [List.length_append, List.length_cons, List.length_nil, List.length_replicate, put_len] at * <;> omega) | (exact implArr_len (by assumption) (by assumption) (by assumption))⟩ (sub_of [] ⟨rfl, trivial⟩ ⟨rfl, trivial⟩ rfl)

/-! ### laws_FnExactSmokyAirways -/
set_option maxHeartbeats 4000000 in
theorem c_laws_FnExactSmokyAirways (aM : gMine) (aFlows : List Int) (aF : gFire) (aTime : Int) (hp1 : gMine.ok aM) (hp2 : aFlows.length ≤ 9223372036854775807 ∧ ∀ y ∈ aFlows, -9223372036854775808 ≤ y ∧ y ≤ 9223372036854775807) (hp3 : gFire.ok aF) (hp4 : -9223372036854775808 ≤ aTime ∧ aTime ≤ 9223372036854775807) : Con Try.prog 10 [.st [.int .i64 aM.Junctions, .sl 7 (aM.Airways.map gAirway.v)], .sl 1 (aFlows.map (V.int .i64)), .st [.int .i64 aF.Airway, .int .i64 aF.At, .int .i64 aF.Start], .int .i64 aTime] [] (.bool (m_laws_FnExactSmokyAirways aM aFlows aF aTime)) ([]) := by
  refine con_intro (out := fun r : Bool => ((.bool r : V), ([] : List (Nat × Option O)))) (r := (m_laws_FnExactSmokyAirways aM aFlows aF aTime)) Try.func10 rfl Try.ntmps10 rfl ?_
  refine run_factS (t := 0) 1 rfl rfl fun hl => ?_
  have l1 := hl; clear hl; simp only [List.length_map] at l1
  refine run_fact (t := 1) rfl fun hl => ?_
  have l2 := hl; clear hl; simp only [List.length_map] at l2
  refine run_seq ?_
  refine run_region (q_box (l := 200) .n rfl (.t rfl) rfl rfl rfl rfl <|
      q_box (l := 201) .n rfl (.t rfl) rfl rfl rfl rfl <|
      q_assign .n (.c rfl) rfl <|
      Lex.nil) ?_
  refine run_seq ?_
  refine run_seq ?_
  refine run_region (q_move .n (.t rfl) rfl <|
      q_len .n (.t rfl) rfl len_map ss_25 rfl <|
      q_int .n (.t rfl) (.c rfl) rfl rfl <|
      Lex.nil) ?_
  refine run_cond (.t rfl) rfl (fun h3 => ?_) (fun h3 => ?_)
  · try simp only [Bool.and_eq_true, Bool.or_eq_true, Bool.not_eq_true', Bool.and_eq_false_iff, Bool.or_eq_false_iff, Bool.not_eq_false', decide_eq_true_eq, decide_eq_false_iff_not, beq_iff_eq, bne_iff_ne, beq_eq_false_iff_ne, bne_eq_false_iff_eq, Bool.true_and, ne_eq, Decidable.not_not, Int.not_lt, Int.not_le, Nat.not_lt, Nat.not_le, strB_nil, strB_nil', strB_nnil, strB_nnil'] at h3
    refine run_seq ?_
    refine run_region (q_assign .n (.c rfl) rfl <|
        Lex.nil) ?_
    exact run_ret [] (.cons (.t rfl rfl) .nil) rfl trivial rfl
  · try simp only [Bool.and_eq_true, Bool.or_eq_true, Bool.not_eq_true', Bool.and_eq_false_iff, Bool.or_eq_false_iff, Bool.not_eq_false', decide_eq_true_eq, decide_eq_false_iff_not, beq_iff_eq, bne_iff_ne, beq_eq_false_iff_ne, bne_eq_false_iff_eq, Bool.true_and, ne_eq, Decidable.not_not, Int.not_lt, Int.not_le, Nat.not_lt, Nat.not_le, strB_nil, strB_nil', strB_nnil, strB_nnil'] at h3
    refine run_skip ?_
    refine run_seq ?_
    refine run_region (q_assign .n (.c rfl) rfl <|
        Lex.nil) ?_
    refine run_seq ?_
    refine run_region (q_ldN_ow .n (.t rfl) rfl (.inr rfl) ag_24 (fun _ => rfl) rfl rfl <|
        q_move .n (.t rfl) rfl <|
        q_call0 (full := false) .n .f en_15 (.cons (.t rfl) (.cons (.t rfl) .nil)) (.cons (.sts rfl) (.cons (.b (.a (.same rfl))) .nil)) (fun hg => c_laws_szMine aM 1048576) rfl (fun h => Bool.noConfusion h) rfl <|
        q_assign .n (.t rfl) rfl <|
        Lex.nil) ?_
    refine run_seq ?_
    refine run_seq ?_
    refine run_region (q_move .n (.t rfl) rfl <|
        q_int .n (.t rfl) (.c rfl) rfl rfl <|
        Lex.nil) ?_
    refine run_cond (.t rfl) rfl (fun h4 => ?_) (fun h4 => ?_)
    · try simp only [Bool.and_eq_true, Bool.or_eq_true, Bool.not_eq_true', Bool.and_eq_false_iff, Bool.or_eq_false_iff, Bool.not_eq_false', decide_eq_true_eq, decide_eq_false_iff_not, beq_iff_eq, bne_iff_ne, beq_eq_false_iff_ne, bne_eq_false_iff_eq, Bool.true_and, ne_eq, Decidable.not_not, Int.not_lt, Int.not_le, Nat.not_lt, Nat.not_le, strB_nil, strB_nil', strB_nnil, strB_nnil'] at h4
      try have hf0h4 := szMine_impA (by assumption) (by omega) (by omega) h4
      try have hf1h4 := szMine_impA (by assumption) (by omega) (by omega) h4.1
      try have hf2h4 := szMine_impA (by assumption) (by omega) (by omega) h4.2
      try have hf3h4 := szMine_impA (by assumption) (by omega) (by omega) h4.1.1
      try have hf4h4 := szMine_impA (by assumption) (by omega) (by omega) h4.1.2
      try have hf5h4 := szMine_impA (by assumption) (by omega) (by omega) h4.2.1
      try have hf6h4 := szMine_impA (by assumption) (by omega) (by omega) h4.2.2
      try have hf7h4 := szMine_impB (by assumption) (by omega) (by omega) h4
      try have hf8h4 := szMine_impB (by assumption) (by omega) (by omega) h4.1
      try have hf9h4 := szMine_impB (by assumption) (by omega) (by omega) h4.2
      try have hf10h4 := szMine_impB (by assumption) (by omega) (by omega) h4.1.1
      try have hf11h4 := szMine_impB (by assumption) (by omega) (by omega) h4.1.2
      try have hf12h4 := szMine_impB (by assumption) (by omega) (by omega) h4.2.1
      try have hf13h4 := szMine_impB (by assumption) (by omega) (by omega) h4.2.2
      refine run_seq ?_
      refine run_region (q_assign .n (.c rfl) rfl <|
          Lex.nil) ?_
      exact run_ret [] (.cons (.t rfl rfl) .nil) rfl trivial rfl
    · try simp only [Bool.and_eq_true, Bool.or_eq_true, Bool.not_eq_true', Bool.and_eq_false_iff, Bool.or_eq_false_iff, Bool.not_eq_false', decide_eq_true_eq, decide_eq_false_iff_not, beq_iff_eq, bne_iff_ne, beq_eq_false_iff_ne, bne_eq_false_iff_eq, Bool.true_and, ne_eq, Decidable.not_not, Int.not_lt, Int.not_le, Nat.not_lt, Nat.not_le, strB_nil, strB_nil', strB_nnil, strB_nnil'] at h4
      try have hf0h4 := szMine_impA (by assumption) (by omega) (by omega) h4
      try have hf1h4 := szMine_impA (by assumption) (by omega) (by omega) h4.1
      try have hf2h4 := szMine_impA (by assumption) (by omega) (by omega) h4.2
      try have hf3h4 := szMine_impA (by assumption) (by omega) (by omega) h4.1.1
      try have hf4h4 := szMine_impA (by assumption) (by omega) (by omega) h4.1.2
      try have hf5h4 := szMine_impA (by assumption) (by omega) (by omega) h4.2.1
      try have hf6h4 := szMine_impA (by assumption) (by omega) (by omega) h4.2.2
      try have hf7h4 := szMine_impB (by assumption) (by omega) (by omega) h4
      try have hf8h4 := szMine_impB (by assumption) (by omega) (by omega) h4.1
      try have hf9h4 := szMine_impB (by assumption) (by omega) (by omega) h4.2
      try have hf10h4 := szMine_impB (by assumption) (by omega) (by omega) h4.1.1
      try have hf11h4 := szMine_impB (by assumption) (by omega) (by omega) h4.1.2
      try have hf12h4 := szMine_impB (by assumption) (by omega) (by omega) h4.2.1
      try have hf13h4 := szMine_impB (by assumption) (by omega) (by omega) h4.2.2
      refine run_skip ?_
      refine run_seq ?_
      refine run_draw fmo (q_ldN_ow .n (.t rfl) rfl (.inr rfl) ag_24 (fun _ => rfl) rfl rfl <|
          q_callM (full := false) [] [(100, 202)] .n rfl .f en_18 (.cons (.t rfl) .nil) (.cons (.sts rfl) .nil) (c_laws_toMine aM (by first | omega | assumption | (simp only [List.length_append, List.length_cons, List.length_nil, List.length_replicate, put_len] at * <;> omega) | (exact wr64_le) | ((simp only [toAirway_eq, toAirwayS_eq, toMine_eq, toInt64S_eq, toFire_eq] at *; omega)) | ((repeat (first | omega | refine markAirwayS_le ?_ | refine markMine_le ?_ | refine markInt64S_le ?_))))) trivial rfl rfl (fun h => Bool.noConfusion h) (fun h => Bool.noConfusion h) rfl <|
          q_move .n (.t rfl) rfl <|
          q_callM (full := false) [] [(100, 203)] .n rfl .f en_19 (.cons (.t rfl) .nil) (.cons (.b (.a (.same rfl))) .nil) (c_laws_toInt64S aFlows (by first | omega | assumption | (simp only [List.length_append, List.length_cons, List.length_nil, List.length_replicate, put_len] at * <;> omega) | (exact wr64_le) | ((simp only [toAirway_eq, toAirwayS_eq, toMine_eq, toInt64S_eq, toFire_eq] at *; omega)) | ((repeat (first | omega | refine markAirwayS_le ?_ | refine markMine_le ?_ | refine markInt64S_le ?_))))) trivial rfl rfl (fun h => Bool.noConfusion h) (fun h => Bool.noConfusion h) rfl <|
          q_ldN_ow .n (.t rfl) rfl (.inr rfl) ag_50 (fun _ => rfl) rfl rfl <|
          q_call0 (full := false) .n .f en_36 (.cons (.t rfl) .nil) (.cons (.sts rfl) .nil) (fun hg => c_laws_toFire aF) rfl (fun h => Bool.noConfusion h) rfl <|
          q_move .n (.t rfl) rfl <|
          q_callM (full := true) [] [(100, 204)] .n rfl .f en_42 (.cons (.t rfl) (.cons (.t rfl) (.cons (.t rfl) (.cons (.t rfl) .nil)))) (.cons (.st (.cons (.a (.same rfl)) (.cons (.a (.own rfl rfl rfl (take_all (by simp only [len_map, put_len, markAirwayS_len, markMine_len, markInt64S_len])) (by simp only [len_map, put_len, markAirwayS_len, markMine_len, markInt64S_len]))) .nil))) (.cons (.b (.a (.own rfl rfl rfl (take_all (by simp only [len_map, put_len, markAirwayS_len, markMine_len, markInt64S_len])) (by simp only [len_map, put_len, markAirwayS_len, markMine_len, markInt64S_len])))) (.cons (.sts rfl) (.cons (.b (.a (.same rfl))) .nil)))) (c_spec_SmokyAirways (m_laws_toMine aM) (m_laws_toInt64S aFlows) (m_laws_toFire aF) aTime) trivial rfl rfl (fun _ => rfl) (fun _ => (hr_row (fun _ => rfl) hr_nil)) rfl <|
          q_move .n (.t rfl) rfl <|
          q_ext .n (.t rfl) rfl rfl rfl <|
          q_ext .n (.t rfl) rfl rfl rfl <|
          q_assign .n (.t rfl) rfl <|
          q_assign .n (.t rfl) rfl <|
          Lex.nil) (by kernel_rfl) ?_
      refine run_seq ?_
      refine run_region (q_ldN_ow .n (.t rfl) rfl (.inr rfl) ag_24 (fun _ => rfl) rfl rfl <|
          q_callM (full := false) [] [(100, 205)] .n rfl .f en_18 (.cons (.t rfl) .nil) (.cons (.sts rfl) .nil) (c_laws_toMine aM (by first | omega | assumption | (simp only [List.length_append, List.length_cons, List.length_nil, List.length_replicate, put_len] at * <;> omega) | (exact wr64_le) | ((simp only [toAirway_eq, toAirwayS_eq, toMine_eq, toInt64S_eq, toFire_eq] at *; omega)) | ((repeat (first | omega | refine markAirwayS_le ?_ | refine markMine_le ?_ | refine markInt64S_le ?_))))) trivial rfl rfl (fun h => Bool.noConfusion h) (fun h => Bool.noConfusion h) rfl <|
          q_alloc (l := 206) .n rfl zv_33 rfl rfl <|
          q_st_boxm [.int .i64 (m_laws_toMine aM).Junctions, .os 205 (m_laws_toMine aM).Airways.length] .n rfl (.t rfl) (.t rfl) rfl ts_33 rfl rfl <|
          Lex.nil) ?_
      refine run_seq ?_
      refine run_region (q_move .n (.t rfl) rfl <|
          q_callM (full := false) [] [(100, 207)] .n rfl .f en_19 (.cons (.t rfl) .nil) (.cons (.b (.a (.same rfl))) .nil) (c_laws_toInt64S aFlows (by first | omega | assumption | (simp only [List.length_append, List.length_cons, List.length_nil, List.length_replicate, put_len] at * <;> omega) | (exact wr64_le) | ((simp only [toAirway_eq, toAirwayS_eq, toMine_eq, toInt64S_eq, toFire_eq] at *; omega)) | ((repeat (first | omega | refine markAirwayS_le ?_ | refine markMine_le ?_ | refine markInt64S_le ?_))))) trivial rfl rfl (fun h => Bool.noConfusion h) (fun h => Bool.noConfusion h) rfl <|
          q_assign .n (.t rfl) rfl <|
          Lex.nil) ?_
      refine run_seq ?_
      refine run_draw fmo (q_ldN_ow .n (.t rfl) rfl (.inr rfl) ag_33 (fun _ => rfl) rfl rfl <|
          q_move .n (.t rfl) rfl <|
          q_ldN_ow .n (.t rfl) rfl (.inr rfl) ag_50 (fun _ => rfl) rfl rfl <|
          q_call0 (full := false) .n .f en_36 (.cons (.t rfl) .nil) (.cons (.sts rfl) .nil) (fun hg => c_laws_toFire aF) rfl (fun h => Bool.noConfusion h) rfl <|
          q_move .n (.t rfl) rfl <|
          q_callM (full := true) [] [(100, 208)] .n rfl .f en_43 (.cons (.t rfl) (.cons (.t rfl) (.cons (.t rfl) (.cons (.t rfl) .nil)))) (.cons (.st (.cons (.a (.same rfl)) (.cons (.a (.own rfl rfl rfl (take_all (by simp only [len_map, put_len, markAirwayS_len, markMine_len, markInt64S_len])) (by simp only [len_map, put_len, markAirwayS_len, markMine_len, markInt64S_len]))) .nil))) (.cons (.b (.a (.own rfl rfl rfl (take_all (by simp only [len_map, put_len, markAirwayS_len, markMine_len, markInt64S_len])) (by simp only [len_map, put_len, markAirwayS_len, markMine_len, markInt64S_len])))) (.cons (.sts rfl) (.cons (.b (.a (.same rfl))) .nil)))) (c_impl_SmokyAirways (m_laws_toMine aM) (m_laws_toInt64S aFlows) (m_laws_toFire aF) aTime) trivial rfl rfl (fun _ => rfl) (fun _ => (hr_row (fun _ => rfl) hr_nil)) rfl <|
          q_move .n (.t rfl) rfl <|
          q_ext .n (.t rfl) rfl rfl rfl <|
          q_ext .n (.t rfl) rfl rfl rfl <|
          q_assign .n (.t rfl) rfl <|
          q_assign .n (.t rfl) rfl <|
          Lex.nil) (by kernel_rfl) ?_
      refine run_seq ?_
      refine run_seq ?_
      refine run_region (q_move .n (.t rfl) rfl <|
          q_move .n (.t rfl) rfl <|
          q_call0 (full := true) .n .f en_22 (.cons (.t rfl) (.cons (.t rfl) .nil)) (.cons (.b (.a (.own rfl rfl rfl (take_all (by simp only [len_map, put_len, markAirwayS_len, markMine_len, markInt64S_len])) (by simp only [len_map, put_len, markAirwayS_len, markMine_len, markInt64S_len])))) (.cons (.b (.a (.own rfl rfl rfl (take_all (by simp only [len_map, put_len, markAirwayS_len, markMine_len, markInt64S_len])) (by simp only [len_map, put_len, markAirwayS_len, markMine_len, markInt64S_len])))) .nil)) (fun hg => c_laws_eqInt64S (m_impl_SmokyAirways (m_laws_toMine aM) (m_laws_toInt64S aFlows) (m_laws_toFire aF) aTime).1 (m_spec_SmokyAirways (m_laws_toMine aM) (m_laws_toInt64S aFlows) (m_laws_toFire aF) aTime).1) rfl (fun _ => rfl) rfl <|
          q_not .n (.t rfl) rfl <|
          q_move .n (.t rfl) rfl <|
          q_move (.f rfl rfl) (.t rfl) rfl <|
          q_move (.f rfl rfl) (.t rfl) rfl <|
          q_int (.f rfl rfl) (.u rfl id) (.u rfl id) rfl rfl <|
          q_or .n (.t rfl) (.u rfl id) rfl <|
          Lex.nil) ?_
      refine run_cond (.t rfl) rfl (fun h5 => ?_) (fun h5 => ?_)
      · try simp only [Bool.and_eq_true, Bool.or_eq_true, Bool.not_eq_true', Bool.and_eq_false_iff, Bool.or_eq_false_iff, Bool.not_eq_false', decide_eq_true_eq, decide_eq_false_iff_not, beq_iff_eq, bne_iff_ne, beq_eq_false_iff_ne, bne_eq_false_iff_eq, Bool.true_and, ne_eq, Decidable.not_not, Int.not_lt, Int.not_le, Nat.not_lt, Nat.not_le, strB_nil, strB_nil', strB_nnil, strB_nnil'] at h5
        refine run_seq ?_
        refine run_region (q_assign .n (.c rfl) rfl <|
            Lex.nil) ?_
        exact run_ret [] (.cons (.t rfl rfl) .nil) rfl trivial rfl
      · try simp only [Bool.and_eq_true, Bool.or_eq_true, Bool.not_eq_true', Bool.and_eq_false_iff, Bool.or_eq_false_iff, Bool.not_eq_false', decide_eq_true_eq, decide_eq_false_iff_not, beq_iff_eq, bne_iff_ne, beq_eq_false_iff_ne, bne_eq_false_iff_eq, Bool.true_and, ne_eq, Decidable.not_not, Int.not_lt, Int.not_le, Nat.not_lt, Nat.not_le, strB_nil, strB_nil', strB_nnil, strB_nnil'] at h5
        refine run_skip ?_
        refine run_seq ?_
        refine run_seq ?_
        refine run_draw fmo (q_ldN_ow .n (.t rfl) rfl (.inr rfl) ag_33 (fun _ => rfl) rfl rfl <|
            q_ldN_ow .n (.t rfl) rfl (.inr rfl) ag_24 (fun _ => rfl) rfl rfl <|
            q_callM (full := false) [] [(100, 209)] .n rfl .f en_18 (.cons (.t rfl) .nil) (.cons (.sts rfl) .nil) (c_laws_toMine aM (by first | omega | assumption | (simp only [List.length_append, List.length_cons, List.length_nil, List.length_replicate, put_len] at * <;> omega) | (exact wr64_le) | ((simp only [toAirway_eq, toAirwayS_eq, toMine_eq, toInt64S_eq, toFire_eq] at *; omega)) | ((repeat (first | omega | refine markAirwayS_le ?_ | refine markMine_le ?_ | refine markInt64S_le ?_))))) trivial rfl rfl (fun h => Bool.noConfusion h) (fun h => Bool.noConfusion h) rfl <|
            q_call0 (full := true) .n .f en_23 (.cons (.t rfl) (.cons (.t rfl) .nil)) (.cons (.st (.cons (.a (.same rfl)) (.cons (.a (.own rfl rfl rfl (take_all (by simp only [len_map, put_len, markAirwayS_len, markMine_len, markInt64S_len])) (by simp only [len_map, put_len, markAirwayS_len, markMine_len, markInt64S_len]))) .nil))) (.cons (.st (.cons (.a (.same rfl)) (.cons (.a (.own rfl rfl rfl (take_all (by simp only [len_map, put_len, markAirwayS_len, markMine_len, markInt64S_len])) (by simp only [len_map, put_len, markAirwayS_len, markMine_len, markInt64S_len]))) .nil))) .nil)) (fun hg => c_laws_eqMine (m_laws_toMine aM) (m_laws_toMine aM)) rfl (fun _ => rfl) rfl <|
            q_not .n (.t rfl) rfl <|
            Lex.nil) (by kernel_rfl) ?_
        refine run_cond (.t rfl) rfl (fun h6 => ?_) (fun h6 => ?_)
        · try simp only [Bool.and_eq_true, Bool.or_eq_true, Bool.not_eq_true', Bool.and_eq_false_iff, Bool.or_eq_false_iff, Bool.not_eq_false', decide_eq_true_eq, decide_eq_false_iff_not, beq_iff_eq, bne_iff_ne, beq_eq_false_iff_ne, bne_eq_false_iff_eq, Bool.true_and, ne_eq, Decidable.not_not, Int.not_lt, Int.not_le, Nat.not_lt, Nat.not_le, strB_nil, strB_nil', strB_nnil, strB_nnil'] at h6
          refine run_seq ?_
          refine run_region (q_assign .n (.c rfl) rfl <|
              Lex.nil) ?_
          exact run_ret [] (.cons (.t rfl rfl) .nil) rfl trivial rfl
        · try simp only [Bool.and_eq_true, Bool.or_eq_true, Bool.not_eq_true', Bool.and_eq_false_iff, Bool.or_eq_false_iff, Bool.not_eq_false', decide_eq_true_eq, decide_eq_false_iff_not, beq_iff_eq, bne_iff_ne, beq_eq_false_iff_ne, bne_eq_false_iff_eq, Bool.true_and, ne_eq, Decidable.not_not, Int.not_lt, Int.not_le, Nat.not_lt, Nat.not_le, strB_nil, strB_nil', strB_nnil, strB_nnil'] at h6
          refine run_skip ?_
          refine run_seq ?_
          refine run_seq ?_
          refine run_region (q_move .n (.t rfl) rfl <|
              q_move .n (.t rfl) rfl <|
              q_callM (full := false) [] [(100, 210)] .n rfl .f en_19 (.cons (.t rfl) .nil) (.cons (.b (.a (.same rfl))) .nil) (c_laws_toInt64S aFlows (by first | omega | assumption | (simp only [List.length_append, List.length_cons, List.length_nil, List.length_replicate, put_len] at * <;> omega) | (exact wr64_le) | ((simp only [toAirway_eq, toAirwayS_eq, toMine_eq, toInt64S_eq, toFire_eq] at *; omega)) | ((repeat (first | omega | refine markAirwayS_le ?_ | refine markMine_le ?_ | refine markInt64S_le ?_))))) trivial rfl rfl (fun h => Bool.noConfusion h) (fun h => Bool.noConfusion h) rfl <|
              q_call0 (full := true) .n .f en_22 (.cons (.t rfl) (.cons (.t rfl) .nil)) (.cons (.b (.a (.own rfl rfl rfl (take_all (by simp only [len_map, put_len, markAirwayS_len, markMine_len, markInt64S_len])) (by simp only [len_map, put_len, markAirwayS_len, markMine_len, markInt64S_len])))) (.cons (.b (.a (.own rfl rfl rfl (take_all (by simp only [len_map, put_len, markAirwayS_len, markMine_len, markInt64S_len])) (by simp only [len_map, put_len, markAirwayS_len, markMine_len, markInt64S_len])))) .nil)) (fun hg => c_laws_eqInt64S (m_laws_toInt64S aFlows) (m_laws_toInt64S aFlows)) rfl (fun _ => rfl) rfl <|
              q_not .n (.t rfl) rfl <|
              Lex.nil) ?_
          refine run_cond (.t rfl) rfl (fun h7 => ?_) (fun h7 => ?_)
          · try simp only [Bool.and_eq_true, Bool.or_eq_true, Bool.not_eq_true', Bool.and_eq_false_iff, Bool.or_eq_false_iff, Bool.not_eq_false', decide_eq_true_eq, decide_eq_false_iff_not, beq_iff_eq, bne_iff_ne, beq_eq_false_iff_ne, bne_eq_false_iff_eq, Bool.true_and, ne_eq, Decidable.not_not, Int.not_lt, Int.not_le, Nat.not_lt, Nat.not_le, strB_nil, strB_nil', strB_nnil, strB_nnil'] at h7
            refine run_seq ?_
            refine run_region (q_assign .n (.c rfl) rfl <|
                Lex.nil) ?_
            exact run_ret [] (.cons (.t rfl rfl) .nil) rfl trivial rfl
          · try simp only [Bool.and_eq_true, Bool.or_eq_true, Bool.not_eq_true', Bool.and_eq_false_iff, Bool.or_eq_false_iff, Bool.not_eq_false', decide_eq_true_eq, decide_eq_false_iff_not, beq_iff_eq, bne_iff_ne, beq_eq_false_iff_ne, bne_eq_false_iff_eq, Bool.true_and, ne_eq, Decidable.not_not, Int.not_lt, Int.not_le, Nat.not_lt, Nat.not_le, strB_nil, strB_nil', strB_nnil, strB_nnil'] at h7
            refine run_skip ?_
            refine run_seq ?_
            refine run_region (q_assign .n (.c rfl) rfl <|
                Lex.nil) ?_
            refine run_seq ?_
            refine run_region (q_ldN_ow .n (.t rfl) rfl (.inr rfl) ag_33 (fun _ => rfl) rfl rfl <|
                q_move .n (.t rfl) rfl <|
                q_callM (full := false) [(11, 205)] [] .n rfl .f en_25 (.cons (.t rfl) (.cons (.t rfl) .nil)) (.cons (.st (.cons (.a (.same rfl)) (.cons (.muts rfl) .nil))) (.cons (.b (.a (.same rfl))) .nil)) (c_laws_markMine (m_laws_toMine aM) 1 (by first | omega | assumption | (simp only [List.length_append, List.length_cons, List.length_nil, List.length_replicate, put_len] at * <;> omega) | (exact wr64_le) | ((simp only [toAirway_eq, toAirwayS_eq, toMine_eq, toInt64S_eq, toFire_eq] at *; omega)) | ((repeat (first | omega | refine markAirwayS_le ?_ | refine markMine_le ?_ | refine markInt64S_le ?_))))) ⟨rfl, trivial⟩ rfl rfl (fun h => Bool.noConfusion h) (fun h => Bool.noConfusion h) rfl <|
                q_assign .n (.t rfl) rfl <|
                Lex.nil) ?_
            refine run_seq ?_
            refine run_region (q_move .n (.t rfl) rfl <|
                q_move .n (.t rfl) rfl <|
                q_callM (full := false) [(0, 207)] [] .n rfl .f en_26 (.cons (.t rfl) (.cons (.t rfl) .nil)) (.cons (.b (.muts rfl)) (.cons (.b (.a (.same rfl))) .nil)) (c_laws_markInt64S (m_laws_toInt64S aFlows) (m_laws_markMine (m_laws_toMine aM) 1).1) ⟨rfl, trivial⟩ rfl rfl (fun h => Bool.noConfusion h) (fun h => Bool.noConfusion h) rfl <|
                q_assign .n (.t rfl) rfl <|
                Lex.nil) ?_
            refine run_seq ?_
            refine run_seq ?_
            refine run_region (q_move .n (.t rfl) rfl <|
                q_int .n (.t rfl) (.c rfl) rfl rfl <|
                q_move .n (.t rfl) rfl <|
                q_move (.f rfl rfl) (.t rfl) rfl <|
                q_move (.f rfl rfl) (.t rfl) rfl <|
                q_call0 (full := true) (.f rfl rfl) .f en_22 (.cons (.u rfl id) (.cons (.u rfl id) .nil)) (.cons (.b (.a (.own rfl rfl rfl (take_all (by simp only [len_map, put_len, markAirwayS_len, markMine_len, markInt64S_len])) (by simp only [len_map, put_len, markAirwayS_len, markMine_len, markInt64S_len])))) (.cons (.b (.a (.own rfl rfl rfl (take_all (by simp only [len_map, put_len, markAirwayS_len, markMine_len, markInt64S_len])) (by simp only [len_map, put_len, markAirwayS_len, markMine_len, markInt64S_len])))) .nil)) (fun hg => c_laws_eqInt64S (m_impl_SmokyAirways (m_laws_toMine aM) (m_laws_toInt64S aFlows) (m_laws_toFire aF) aTime).1 (m_spec_SmokyAirways (m_laws_toMine aM) (m_laws_toInt64S aFlows) (m_laws_toFire aF) aTime).1) rfl (fun _ => rfl) rfl <|
                q_not (.f rfl rfl) (.u rfl id) rfl <|
                q_or .n (.t rfl) (.u rfl id) rfl <|
                q_move .n (.t rfl) rfl <|
                q_move (.f rfl rfl) (.t rfl) rfl <|
                q_move (.f rfl rfl) (.t rfl) rfl <|
                q_int (.f rfl rfl) (.u rfl id) (.u rfl id) rfl rfl <|
                q_or .n (.t rfl) (.u rfl id) rfl <|
                Lex.nil) ?_
            refine run_cond (.t rfl) rfl (fun h8 => ?_) (fun h8 => ?_)
            · try simp only [Bool.and_eq_true, Bool.or_eq_true, Bool.not_eq_true', Bool.and_eq_false_iff, Bool.or_eq_false_iff, Bool.not_eq_false', decide_eq_true_eq, decide_eq_false_iff_not, beq_iff_eq, bne_iff_ne, beq_eq_false_iff_ne, bne_eq_false_iff_eq, Bool.true_and, ne_eq, Decidable.not_not, Int.not_lt, Int.not_le, Nat.not_lt, Nat.not_le, strB_nil, strB_nil', strB_nnil, strB_nnil'] at h8
              refine run_seq ?_
              refine run_region (q_assign .n (.c rfl) rfl <|
                  Lex.nil) ?_
              exact run_ret [] (.cons (.t rfl rfl) .nil) rfl trivial rfl
            · try simp only [Bool.and_eq_true, Bool.or_eq_true, Bool.not_eq_true', Bool.and_eq_false_iff, Bool.or_eq_false_iff, Bool.not_eq_false', decide_eq_true_eq, decide_eq_false_iff_not, beq_iff_eq, bne_iff_ne, beq_eq_false_iff_ne, bne_eq_false_iff_eq, Bool.true_and, ne_eq, Decidable.not_not, Int.not_lt, Int.not_le, Nat.not_lt, Nat.not_le, strB_nil, strB_nil', strB_nnil, strB_nnil'] at h8
              refine run_skip ?_
              refine run_seq ?_
              refine run_region (q_assign .n (.c rfl) rfl <|
                  Lex.nil) ?_
              refine run_seq ?_
              refine run_region (q_move .n (.t rfl) rfl <|
                  q_move .n (.t rfl) rfl <|
                  q_callM (full := false) [(0, 208)] [] .n rfl .f en_26 (.cons (.t rfl) (.cons (.t rfl) .nil)) (.cons (.b (.muts rfl)) (.cons (.b (.a (.same rfl))) .nil)) (c_laws_markInt64S (m_impl_SmokyAirways (m_laws_toMine aM) (m_laws_toInt64S aFlows) (m_laws_toFire aF) aTime).1 1) ⟨rfl, trivial⟩ rfl rfl (fun h => Bool.noConfusion h) (fun h => Bool.noConfusion h) rfl <|
                  q_assign .n (.t rfl) rfl <|
                  Lex.nil) ?_
              refine run_seq ?_
              refine run_region (q_assign .n (.c rfl) rfl <|
                  Lex.nil) ?_
              refine run_seq ?_
              refine run_region (q_move .n (.t rfl) rfl <|
                  q_move .n (.t rfl) rfl <|
                  q_call0 (full := true) .n .f en_28 (.cons (.t rfl) (.cons (.t rfl) .nil)) (.cons (.b (.a (.own rfl rfl rfl (take_all (by simp only [len_map, put_len, markAirwayS_len, markMine_len, markInt64S_len])) (by simp only [len_map, put_len, markAirwayS_len, markMine_len, markInt64S_len])))) (.cons (.b (.a (.same rfl))) .nil)) (fun hg => c_laws_heldInt64S (m_laws_markInt64S (m_impl_SmokyAirways (m_laws_toMine aM) (m_laws_toInt64S aFlows) (m_laws_toFire aF) aTime).1 1).2 1) rfl (fun _ => rfl) rfl <|
                  q_assign .n (.t rfl) rfl <|
                  Lex.nil) ?_
              refine run_seq ?_
              refine run_seq ?_
              refine run_region (q_move .n (.t rfl) rfl <|
                  q_int .n (.t rfl) (.c rfl) rfl rfl <|
                  Lex.nil) ?_
              refine run_cond (.t rfl) rfl (fun h9 => ?_) (fun h9 => ?_)
              · try simp only [Bool.and_eq_true, Bool.or_eq_true, Bool.not_eq_true', Bool.and_eq_false_iff, Bool.or_eq_false_iff, Bool.not_eq_false', decide_eq_true_eq, decide_eq_false_iff_not, beq_iff_eq, bne_iff_ne, beq_eq_false_iff_ne, bne_eq_false_iff_eq, Bool.true_and, ne_eq, Decidable.not_not, Int.not_lt, Int.not_le, Nat.not_lt, Nat.not_le, strB_nil, strB_nil', strB_nnil, strB_nnil'] at h9
                refine run_seq ?_
                refine run_region (q_assign .n (.c rfl) rfl <|
                    Lex.nil) ?_
                exact run_ret [] (.cons (.t rfl rfl) .nil) rfl trivial rfl
              · try simp only [Bool.and_eq_true, Bool.or_eq_true, Bool.not_eq_true', Bool.and_eq_false_iff, Bool.or_eq_false_iff, Bool.not_eq_false', decide_eq_true_eq, decide_eq_false_iff_not, beq_iff_eq, bne_iff_ne, beq_eq_false_iff_ne, bne_eq_false_iff_eq, Bool.true_and, ne_eq, Decidable.not_not, Int.not_lt, Int.not_le, Nat.not_lt, Nat.not_le, strB_nil, strB_nil', strB_nnil, strB_nnil'] at h9
                refine run_skip ?_
                refine run_seq ?_
                refine run_seq ?_
                refine run_region (q_move .n (.t rfl) rfl <|
                    q_move .n (.t rfl) rfl <|
                    q_int .n (.t rfl) (.t rfl) rfl rfl <|
                    Lex.nil) ?_
                refine run_cond (.t rfl) rfl (fun h10 => ?_) (fun h10 => ?_)
                · try simp only [Bool.and_eq_true, Bool.or_eq_true, Bool.not_eq_true', Bool.and_eq_false_iff, Bool.or_eq_false_iff, Bool.not_eq_false', decide_eq_true_eq, decide_eq_false_iff_not, beq_iff_eq, bne_iff_ne, beq_eq_false_iff_ne, bne_eq_false_iff_eq, Bool.true_and, ne_eq, Decidable.not_not, Int.not_lt, Int.not_le, Nat.not_lt, Nat.not_le, strB_nil, strB_nil', strB_nnil, strB_nnil'] at h10
                  refine run_seq ?_
                  refine run_region (q_assign .n (.c rfl) rfl <|
                      Lex.nil) ?_
                  exact run_ret [] (.cons (.t rfl rfl) .nil) rfl trivial rfl
                · try simp only [Bool.and_eq_true, Bool.or_eq_true, Bool.not_eq_true', Bool.and_eq_false_iff, Bool.or_eq_false_iff, Bool.not_eq_false', decide_eq_true_eq, decide_eq_false_iff_not, beq_iff_eq, bne_iff_ne, beq_eq_false_iff_ne, bne_eq_false_iff_eq, Bool.true_and, ne_eq, Decidable.not_not, Int.not_lt, Int.not_le, Nat.not_lt, Nat.not_le, strB_nil, strB_nil', strB_nnil, strB_nnil'] at h10
                  refine run_skip ?_
                  refine run_seq ?_
                  refine run_draw fmo (q_ldN_ow .n (.t rfl) rfl (.inr rfl) ag_24 (fun _ => rfl) rfl rfl <|
                      q_callM (full := false) [] [(100, 211)] .n rfl .f en_18 (.cons (.t rfl) .nil) (.cons (.sts rfl) .nil) (c_laws_toMine aM (by first | omega | assumption | (simp only [List.length_append, List.length_cons, List.length_nil, List.length_replicate, put_len] at * <;> omega) | (exact wr64_le) | ((simp only [toAirway_eq, toAirwayS_eq, toMine_eq, toInt64S_eq, toFire_eq] at *; omega)) | ((repeat (first | omega | refine markAirwayS_le ?_ | refine markMine_le ?_ | refine markInt64S_le ?_))))) trivial rfl rfl (fun h => Bool.noConfusion h) (fun h => Bool.noConfusion h) rfl <|
                      q_move .n (.t rfl) rfl <|
                      q_callM (full := false) [] [(100, 212)] .n rfl .f en_19 (.cons (.t rfl) .nil) (.cons (.b (.a (.same rfl))) .nil) (c_laws_toInt64S aFlows (by first | omega | assumption | (simp only [List.length_append, List.length_cons, List.length_nil, List.length_replicate, put_len] at * <;> omega) | (exact wr64_le) | ((simp only [toAirway_eq, toAirwayS_eq, toMine_eq, toInt64S_eq, toFire_eq] at *; omega)) | ((repeat (first | omega | refine markAirwayS_le ?_ | refine markMine_le ?_ | refine markInt64S_le ?_))))) trivial rfl rfl (fun h => Bool.noConfusion h) (fun h => Bool.noConfusion h) rfl <|
                      q_ldN_ow .n (.t rfl) rfl (.inr rfl) ag_50 (fun _ => rfl) rfl rfl <|
                      q_call0 (full := false) .n .f en_36 (.cons (.t rfl) .nil) (.cons (.sts rfl) .nil) (fun hg => c_laws_toFire aF) rfl (fun h => Bool.noConfusion h) rfl <|
                      q_move .n (.t rfl) rfl <|
                      q_callM (full := true) [] [(100, 213)] .n rfl .f en_43 (.cons (.t rfl) (.cons (.t rfl) (.cons (.t rfl) (.cons (.t rfl) .nil)))) (.cons (.st (.cons (.a (.same rfl)) (.cons (.a (.own rfl rfl rfl (take_all (by simp only [len_map, put_len, markAirwayS_len, markMine_len, markInt64S_len])) (by simp only [len_map, put_len, markAirwayS_len, markMine_len, markInt64S_len]))) .nil))) (.cons (.b (.a (.own rfl rfl rfl (take_all (by simp only [len_map, put_len, markAirwayS_len, markMine_len, markInt64S_len])) (by simp only [len_map, put_len, markAirwayS_len, markMine_len, markInt64S_len])))) (.cons (.sts rfl) (.cons (.b (.a (.same rfl))) .nil)))) (c_impl_SmokyAirways (m_laws_toMine aM) (m_laws_toInt64S aFlows) (m_laws_toFire aF) aTime) trivial rfl rfl (fun _ => rfl) (fun _ => (hr_row (fun _ => rfl) hr_nil)) rfl <|
                      q_move .n (.t rfl) rfl <|
                      q_ext .n (.t rfl) rfl rfl rfl <|
                      q_ext .n (.t rfl) rfl rfl rfl <|
                      q_assign .n (.t rfl) rfl <|
                      q_assign .n (.t rfl) rfl <|
                      Lex.nil) (by kernel_rfl) ?_
                  refine run_seq ?_
                  refine run_seq ?_
                  refine run_region (q_move .n (.t rfl) rfl <|
                      q_move .n (.t rfl) rfl <|
                      q_call0 (full := true) .n .f en_22 (.cons (.t rfl) (.cons (.t rfl) .nil)) (.cons (.b (.a (.own rfl rfl rfl (take_all (by simp only [len_map, put_len, markAirwayS_len, markMine_len, markInt64S_len])) (by simp only [len_map, put_len, markAirwayS_len, markMine_len, markInt64S_len])))) (.cons (.b (.a (.own rfl rfl rfl (take_all (by simp only [len_map, put_len, markAirwayS_len, markMine_len, markInt64S_len])) (by simp only [len_map, put_len, markAirwayS_len, markMine_len, markInt64S_len])))) .nil)) (fun hg => c_laws_eqInt64S (m_impl_SmokyAirways (m_laws_toMine aM) (m_laws_toInt64S aFlows) (m_laws_toFire aF) aTime).1 (m_spec_SmokyAirways (m_laws_toMine aM) (m_laws_toInt64S aFlows) (m_laws_toFire aF) aTime).1) rfl (fun _ => rfl) rfl <|
                      q_not .n (.t rfl) rfl <|
                      q_move .n (.t rfl) rfl <|
                      q_move (.f rfl rfl) (.t rfl) rfl <|
                      q_move (.f rfl rfl) (.t rfl) rfl <|
                      q_int (.f rfl rfl) (.u rfl id) (.u rfl id) rfl rfl <|
                      q_or .n (.t rfl) (.u rfl id) rfl <|
                      Lex.nil) ?_
                  refine run_cond (.t rfl) rfl (fun h11 => ?_) (fun h11 => ?_)
                  · try simp only [Bool.and_eq_true, Bool.or_eq_true, Bool.not_eq_true', Bool.and_eq_false_iff, Bool.or_eq_false_iff, Bool.not_eq_false', decide_eq_true_eq, decide_eq_false_iff_not, beq_iff_eq, bne_iff_ne, beq_eq_false_iff_ne, bne_eq_false_iff_eq, Bool.true_and, ne_eq, Decidable.not_not, Int.not_lt, Int.not_le, Nat.not_lt, Nat.not_le, strB_nil, strB_nil', strB_nnil, strB_nnil'] at h11
                    refine run_seq ?_
                    refine run_region (q_assign .n (.c rfl) rfl <|
                        Lex.nil) ?_
                    exact run_ret [] (.cons (.t rfl rfl) .nil) rfl trivial rfl
                  · try simp only [Bool.and_eq_true, Bool.or_eq_true, Bool.not_eq_true', Bool.and_eq_false_iff, Bool.or_eq_false_iff, Bool.not_eq_false', decide_eq_true_eq, decide_eq_false_iff_not, beq_iff_eq, bne_iff_ne, beq_eq_false_iff_ne, bne_eq_false_iff_eq, Bool.true_and, ne_eq, Decidable.not_not, Int.not_lt, Int.not_le, Nat.not_lt, Nat.not_le, strB_nil, strB_nil', strB_nnil, strB_nnil'] at h11
                    refine run_skip ?_
                    refine run_seq ?_
                    refine run_region (q_assign .n (.c rfl) rfl <|
                        Lex.nil) ?_
                    refine run_seq ?_
                    refine run_region (q_move .n (.t rfl) rfl <|
                        q_move .n (.t rfl) rfl <|
                        q_call0 (full := true) .n .f en_28 (.cons (.t rfl) (.cons (.t rfl) .nil)) (.cons (.b (.a (.own rfl rfl rfl (take_all (by simp only [len_map, put_len, markAirwayS_len, markMine_len, markInt64S_len])) (by simp only [len_map, put_len, markAirwayS_len, markMine_len, markInt64S_len])))) (.cons (.b (.a (.same rfl))) .nil)) (fun hg => c_laws_heldInt64S (m_laws_markInt64S (m_impl_SmokyAirways (m_laws_toMine aM) (m_laws_toInt64S aFlows) (m_laws_toFire aF) aTime).1 1).2 1) rfl (fun _ => rfl) rfl <|
                        q_assign .n (.t rfl) rfl <|
                        Lex.nil) ?_
                    refine run_seq ?_
                    refine run_seq ?_
                    refine run_region (q_move .n (.t rfl) rfl <|
                        q_int .n (.t rfl) (.c rfl) rfl rfl <|
                        Lex.nil) ?_
                    refine run_cond (.t rfl) rfl (fun h12 => ?_) (fun h12 => ?_)
                    · try simp only [Bool.and_eq_true, Bool.or_eq_true, Bool.not_eq_true', Bool.and_eq_false_iff, Bool.or_eq_false_iff, Bool.not_eq_false', decide_eq_true_eq, decide_eq_false_iff_not, beq_iff_eq, bne_iff_ne, beq_eq_false_iff_ne, bne_eq_false_iff_eq, Bool.true_and, ne_eq, Decidable.not_not, Int.not_lt, Int.not_le, Nat.not_lt, Nat.not_le, strB_nil, strB_nil', strB_nnil, strB_nnil'] at h12
                      refine run_seq ?_
                      refine run_region (q_assign .n (.c rfl) rfl <|
                          Lex.nil) ?_
                      exact run_ret [] (.cons (.t rfl rfl) .nil) rfl trivial rfl
                    · try simp only [Bool.and_eq_true, Bool.or_eq_true, Bool.not_eq_true', Bool.and_eq_false_iff, Bool.or_eq_false_iff, Bool.not_eq_false', decide_eq_true_eq, decide_eq_false_iff_not, beq_iff_eq, bne_iff_ne, beq_eq_false_iff_ne, bne_eq_false_iff_eq, Bool.true_and, ne_eq, Decidable.not_not, Int.not_lt, Int.not_le, Nat.not_lt, Nat.not_le, strB_nil, strB_nil', strB_nnil, strB_nnil'] at h12
                      refine run_skip ?_
                      refine run_seq ?_
                      refine run_seq ?_
                      refine run_region (q_move .n (.t rfl) rfl <|
                          q_move .n (.t rfl) rfl <|
                          q_int .n (.t rfl) (.t rfl) rfl rfl <|
                          Lex.nil) ?_
                      refine run_cond (.t rfl) rfl (fun h13 => ?_) (fun h13 => ?_)
                      · try simp only [Bool.and_eq_true, Bool.or_eq_true, Bool.not_eq_true', Bool.and_eq_false_iff, Bool.or_eq_false_iff, Bool.not_eq_false', decide_eq_true_eq, decide_eq_false_iff_not, beq_iff_eq, bne_iff_ne, beq_eq_false_iff_ne, bne_eq_false_iff_eq, Bool.true_and, ne_eq, Decidable.not_not, Int.not_lt, Int.not_le, Nat.not_lt, Nat.not_le, strB_nil, strB_nil', strB_nnil, strB_nnil'] at h13
                        refine run_seq ?_
                        refine run_region (q_assign .n (.c rfl) rfl <|
                            Lex.nil) ?_
                        exact run_ret [] (.cons (.t rfl rfl) .nil) rfl trivial rfl
                      · try simp only [Bool.and_eq_true, Bool.or_eq_true, Bool.not_eq_true', Bool.and_eq_false_iff, Bool.or_eq_false_iff, Bool.not_eq_false', decide_eq_true_eq, decide_eq_false_iff_not, beq_iff_eq, bne_iff_ne, beq_eq_false_iff_ne, bne_eq_false_iff_eq, Bool.true_and, ne_eq, Decidable.not_not, Int.not_lt, Int.not_le, Nat.not_lt, Nat.not_le, strB_nil, strB_nil', strB_nnil, strB_nnil'] at h13
                        refine run_skip ?_
                        refine run_seq ?_
                        refine run_region (q_assign .n (.c rfl) rfl <|
                            Lex.nil) ?_
                        exact run_ret [] (.cons (.t rfl rfl) .nil) rfl trivial rfl

end Go.Proofs.Ytahohnhmdlndfaa
