/-
  THE WALKS: each Go function computes its model. Conditions: as each theorem states them (hp1, hp2 ..).
-/
import Derived.Test.YtchjibndocnnhaaExactFewestShiftsWalks1
set_option linter.unusedVariables false
set_option linter.unusedSimpArgs false
set_option linter.unusedSectionVars false
set_option linter.unnecessarySimpa false
namespace Go.Proofs.Ytchjibndocnnhaa
open Go Go.RowKit Go.Proofs Go.Proofs.Ytchjibndocnnhaa.E
/-! ### spec_l23Begin -/
theorem c_spec_l23Begin (m_ : gMine) (flows : List Int) (list : List gJob) (budget : Int) : Con Try.prog 42 [.rp [.int .i64 m_.Junctions, .sl 7 (m_.Airways.map gAirway.v)], .sl 1 (flows.map (V.int .i64)), .sl 4 (list.map gJob.v), .int .i64 budget] [] (.int .i64 (m_spec_l23Begin m_ flows list budget)) ([]) := by
  refine con_intro (out := fun r : Int => ((.int .i64 r : V), ([] : List (Nat × Option O)))) (r := (m_spec_l23Begin m_ flows list budget)) Try.func42 rfl Try.ntmps42 rfl ?_
  refine run_factP (t := 0) 1 rfl rfl fun hl => ?_
  have l1 := hl; clear hl; simp only [List.length_map] at l1
  refine run_fact (t := 1) rfl fun hl => ?_
  have l2 := hl; clear hl; simp only [List.length_map] at l2
  refine run_fact (t := 2) rfl fun hl => ?_
  have l3 := hl; clear hl; simp only [List.length_map] at l3
  refine run_seq ?_
  refine run_region (q_assign .n (.c rfl) rfl <|
      Lex.nil) ?_
  refine run_seq ?_
  refine run_region (q_move .n (.t rfl) rfl <|
      q_move .n (.t rfl) rfl <|
      q_move .n (.t rfl) rfl <|
      q_call0 (full := false) .n .f en_76 (.cons (.t rfl) (.cons (.t rfl) (.cons (.t rfl) .nil))) (.cons (.b (.a (.same rfl))) (.cons (.b (.a (.same rfl))) (.cons (.b (.a (.same rfl))) .nil))) (fun hg => c_spec_l23Ask m_ flows list) rfl (fun h => Bool.noConfusion h) rfl <|
      q_assign .n (.t rfl) rfl <|
      Lex.nil) ?_
  refine run_seq ?_
  refine run_seq ?_
  refine run_region (q_move .n (.t rfl) rfl <|
      q_int .n (.t rfl) (.c rfl) rfl rfl <|
      Lex.nil) ?_
  refine run_cond (.t rfl) rfl (fun h4 => ?_) (fun h4 => ?_)
  · try simp only [Bool.and_eq_true, Bool.or_eq_true, Bool.not_eq_true', Bool.and_eq_false_iff, Bool.or_eq_false_iff, Bool.not_eq_false', decide_eq_true_eq, decide_eq_false_iff_not, beq_iff_eq, bne_iff_ne, beq_eq_false_iff_ne, bne_eq_false_iff_eq, Bool.true_and, ne_eq, Decidable.not_not, Int.not_lt, Int.not_le, Nat.not_lt, Nat.not_le, strB_nil, strB_nil', strB_nnil, strB_nnil'] at h4
    try have hf0h4 := l23Ask_impM h4
    try have hf1h4 := l23Ask_impM h4.1
    try have hf2h4 := l23Ask_impM h4.2
    try have hf3h4 := l23Ask_impM h4.1.1
    try have hf4h4 := l23Ask_impM h4.1.2
    try have hf5h4 := l23Ask_impM h4.2.1
    try have hf6h4 := l23Ask_impM h4.2.2
    try have hf7h4 := l23Ask_impF h4
    try have hf8h4 := l23Ask_impF h4.1
    try have hf9h4 := l23Ask_impF h4.2
    try have hf10h4 := l23Ask_impF h4.1.1
    try have hf11h4 := l23Ask_impF h4.1.2
    try have hf12h4 := l23Ask_impF h4.2.1
    try have hf13h4 := l23Ask_impF h4.2.2
    try have hf14h4 := l23Ask_impS h4
    try have hf15h4 := l23Ask_impS h4.1
    try have hf16h4 := l23Ask_impS h4.2
    try have hf17h4 := l23Ask_impS h4.1.1
    try have hf18h4 := l23Ask_impS h4.1.2
    try have hf19h4 := l23Ask_impS h4.2.1
    try have hf20h4 := l23Ask_impS h4.2.2
    try have hf21h4 := l23Ask_impJ h4
    try have hf22h4 := l23Ask_impJ h4.1
    try have hf23h4 := l23Ask_impJ h4.2
    try have hf24h4 := l23Ask_impJ h4.1.1
    try have hf25h4 := l23Ask_impJ h4.1.2
    try have hf26h4 := l23Ask_impJ h4.2.1
    try have hf27h4 := l23Ask_impJ h4.2.2
    refine run_seq ?_
    refine run_region (q_move .n (.t rfl) rfl <|
        q_assign .n (.t rfl) rfl <|
        Lex.nil) ?_
    exact run_ret [] (.cons (.t rfl rfl) .nil) rfl trivial rfl
  · try simp only [Bool.and_eq_true, Bool.or_eq_true, Bool.not_eq_true', Bool.and_eq_false_iff, Bool.or_eq_false_iff, Bool.not_eq_false', decide_eq_true_eq, decide_eq_false_iff_not, beq_iff_eq, bne_iff_ne, beq_eq_false_iff_ne, bne_eq_false_iff_eq, Bool.true_and, ne_eq, Decidable.not_not, Int.not_lt, Int.not_le, Nat.not_lt, Nat.not_le, strB_nil, strB_nil', strB_nnil, strB_nnil'] at h4
    try have hf0h4 := l23Ask_impM h4
    try have hf1h4 := l23Ask_impM h4.1
    try have hf2h4 := l23Ask_impM h4.2
    try have hf3h4 := l23Ask_impM h4.1.1
    try have hf4h4 := l23Ask_impM h4.1.2
    try have hf5h4 := l23Ask_impM h4.2.1
    try have hf6h4 := l23Ask_impM h4.2.2
    try have hf7h4 := l23Ask_impF h4
    try have hf8h4 := l23Ask_impF h4.1
    try have hf9h4 := l23Ask_impF h4.2
    try have hf10h4 := l23Ask_impF h4.1.1
    try have hf11h4 := l23Ask_impF h4.1.2
    try have hf12h4 := l23Ask_impF h4.2.1
    try have hf13h4 := l23Ask_impF h4.2.2
    try have hf14h4 := l23Ask_impS h4
    try have hf15h4 := l23Ask_impS h4.1
    try have hf16h4 := l23Ask_impS h4.2
    try have hf17h4 := l23Ask_impS h4.1.1
    try have hf18h4 := l23Ask_impS h4.1.2
    try have hf19h4 := l23Ask_impS h4.2.1
    try have hf20h4 := l23Ask_impS h4.2.2
    try have hf21h4 := l23Ask_impJ h4
    try have hf22h4 := l23Ask_impJ h4.1
    try have hf23h4 := l23Ask_impJ h4.2
    try have hf24h4 := l23Ask_impJ h4.1.1
    try have hf25h4 := l23Ask_impJ h4.1.2
    try have hf26h4 := l23Ask_impJ h4.2.1
    try have hf27h4 := l23Ask_impJ h4.2.2
    refine run_skip ?_
    refine run_seq ?_
    refine run_seq ?_
    refine run_region (q_move .n (.t rfl) rfl <|
        q_call0 (full := false) .n .f en_62 (.cons (.t rfl) (.cons (.c rfl) (.cons (.c rfl) .nil))) (.cons (.b (.a (.same rfl))) (.cons (.b (.a (.same rfl))) (.cons (.b (.a (.same rfl))) .nil))) (fun hg => c_spec_l00In budget 1 20000) rfl (fun h => Bool.noConfusion h) rfl <|
        q_not .n (.t rfl) rfl <|
        Lex.nil) ?_
    refine run_cond (.t rfl) rfl (fun h5 => ?_) (fun h5 => ?_)
    · try simp only [Bool.and_eq_true, Bool.or_eq_true, Bool.not_eq_true', Bool.and_eq_false_iff, Bool.or_eq_false_iff, Bool.not_eq_false', decide_eq_true_eq, decide_eq_false_iff_not, beq_iff_eq, bne_iff_ne, beq_eq_false_iff_ne, bne_eq_false_iff_eq, Bool.true_and, ne_eq, Decidable.not_not, Int.not_lt, Int.not_le, Nat.not_lt, Nat.not_le, strB_nil, strB_nil', strB_nnil, strB_nnil'] at h5
      try have hf0h5 := l00In_imp h5
      try have hf1h5 := l00In_imp h5.1
      try have hf2h5 := l00In_imp h5.2
      try have hf3h5 := l00In_imp h5.1.1
      try have hf4h5 := l00In_imp h5.1.2
      try have hf5h5 := l00In_imp h5.2.1
      try have hf6h5 := l00In_imp h5.2.2
      refine run_seq ?_
      refine run_region (q_assign .n (.c rfl) rfl <|
          Lex.nil) ?_
      exact run_ret [] (.cons (.t rfl rfl) .nil) rfl trivial rfl
    · try simp only [Bool.and_eq_true, Bool.or_eq_true, Bool.not_eq_true', Bool.and_eq_false_iff, Bool.or_eq_false_iff, Bool.not_eq_false', decide_eq_true_eq, decide_eq_false_iff_not, beq_iff_eq, bne_iff_ne, beq_eq_false_iff_ne, bne_eq_false_iff_eq, Bool.true_and, ne_eq, Decidable.not_not, Int.not_lt, Int.not_le, Nat.not_lt, Nat.not_le, strB_nil, strB_nil', strB_nnil, strB_nnil'] at h5
      try have hf0h5 := l00In_imp h5
      try have hf1h5 := l00In_imp h5.1
      try have hf2h5 := l00In_imp h5.2
      try have hf3h5 := l00In_imp h5.1.1
      try have hf4h5 := l00In_imp h5.1.2
      try have hf5h5 := l00In_imp h5.2.1
      try have hf6h5 := l00In_imp h5.2.2
      refine run_skip ?_
      refine run_seq ?_
      refine run_region (q_move .n (.t rfl) rfl <|
          q_assign .n (.t rfl) rfl <|
          Lex.nil) ?_
      exact run_ret [] (.cons (.t rfl rfl) .nil) rfl trivial rfl

/-! ### spec_l00Own -/
theorem c_spec_l00Own (list : List Int) (hp1 : list.length ≤ 1000000) : Con Try.prog 44 [.sl 1 (list.map (V.int .i64))] [] (.os 100 (m_spec_l00Own list).length) ([(100, some (.row 2 1 ((m_spec_l00Own list).map (V.int .i64))))]) := by
  refine con_intro (out := fun r : (List Int) => ((.os 100 r.length : V), ([(100, some (.row 2 1 (r.map (V.int .i64))))] : List (Nat × Option O)))) (r := (m_spec_l00Own list)) Try.func44 rfl Try.ntmps44 rfl ?_
  refine run_fact (t := 0) rfl fun hl => ?_
  have l1 := hl; clear hl; simp only [List.length_map] at l1
  refine run_seq ?_
  refine run_region (q_assign .n (.c rfl) rfl <|
      Lex.nil) ?_
  refine run_seq ?_
  refine run_region (q_bslicem ([] : List Int) (f := V.int .i64) (l := 200) .n rfl rfl .nil rfl si_25 zv_2 rfl rfl rfl <|
      q_move .n (.t rfl) rfl <|
      q_appm (xs := ([] : List Int)) (ys := list) (f := V.int .i64) (l := 201) .n rfl (.ow (.t rfl) rfl (take_all (by simp only [len_map, put_len] <;> rfl)) (by simp only [len_map, put_len] <;> rfl)) (.ro (.t rfl)) si_25 zv_2 rfl (by (simp only [List.length_append, List.length_cons, List.length_nil, List.length_replicate, put_len] at * <;> omega)) rfl rfl <|
      q_assign .n (.t rfl) rfl <|
      Lex.nil) ?_
  exact run_ret [(100, 201)] (.cons (.t rfl rfl) .nil) (by first | rfl | (simp only [put_len]; rfl)) ⟨rfl, trivial⟩ rfl

/-! ### spec_l23Need -/
theorem c_spec_l23Need (t : gJob) : Con Try.prog 113 [.rp [.str t.Id, .int .i64 t.Airway, .int .i64 t.People, .int .i64 t.Power]] [] (.int .i64 (m_spec_l23Need t)) ([]) := by
  refine con_intro (out := fun r : Int => ((.int .i64 r : V), ([] : List (Nat × Option O)))) (r := (m_spec_l23Need t)) Try.func113 rfl Try.ntmps113 rfl ?_
  refine run_seq ?_
  refine run_region (q_assign .n (.c rfl) rfl <|
      Lex.nil) ?_
  refine run_seq ?_
  refine run_draw fmo (q_move .n (.t rfl) rfl <|
      q_nilc_ro .n (.t rfl) rfl <|
      q_fld_ro .n (.t rfl) fo_66_2 rfl <|
      q_ld1_ro .n (.t rfl) rfl ic_2 rfl <|
      q_int .n (.c rfl) (.t rfl) rfl rfl <|
      q_move .n (.t rfl) rfl <|
      q_nilc_ro .n (.t rfl) rfl <|
      q_fld_ro .n (.t rfl) fo_66_3 rfl <|
      q_ld1_ro .n (.t rfl) rfl ic_2 rfl <|
      q_int .n (.c rfl) (.t rfl) rfl rfl <|
      q_int .n (.t rfl) (.t rfl) rfl rfl <|
      q_assign .n (.t rfl) rfl <|
      Lex.nil) (by kernel_rfl) ?_
  exact run_ret [] (.cons (.t rfl rfl) .nil) rfl trivial rfl

/-! ### spec_l23Needs -/
theorem c_spec_l23Needs (m_ : gMine) (list : List gJob) (some_ : List Int) (hp1 : MineIn m_) (hp2 : ∀ t ∈ list, 0 ≤ t.Airway ∧ t.Airway < m_.Airways.length) (hp3 : ∀ y ∈ some_, 0 ≤ y ∧ y < list.length) : Con Try.prog 88 [.rp [.int .i64 m_.Junctions, .sl 7 (m_.Airways.map gAirway.v)], .sl 4 (list.map gJob.v), .sl 1 (some_.map (V.int .i64))] [] (.os 100 (m_spec_l23Needs m_ list some_).length) ([(100, some (.row 2 1 ((m_spec_l23Needs m_ list some_).map (V.int .i64))))]) := by
  refine con_intro (out := fun r : (List Int) => ((.os 100 r.length : V), ([(100, some (.row 2 1 (r.map (V.int .i64))))] : List (Nat × Option O)))) (r := (m_spec_l23Needs m_ list some_)) Try.func88 rfl Try.ntmps88 rfl ?_
  have hJ1 := hp1.1
  have hA1 := hp1.2.1
  refine run_factP (t := 0) 1 rfl rfl fun hl => ?_
  have l1 := hl; clear hl; simp only [List.length_map] at l1
  refine run_fact (t := 1) rfl fun hl => ?_
  have l2 := hl; clear hl; simp only [List.length_map] at l2
  refine run_fact (t := 2) rfl fun hl => ?_
  have l3 := hl; clear hl; simp only [List.length_map] at l3
  refine run_seq ?_
  refine run_region (q_assign .n (.c rfl) rfl <|
      Lex.nil) ?_
  refine run_seq ?_
  refine run_region (q_move .n (.t rfl) rfl <|
      q_nilc_ro .n (.t rfl) rfl <|
      q_fld_ro .n (.t rfl) fo_33_1 rfl <|
      q_ld1_ro .n (.t rfl) rfl ic_31 rfl <|
      q_len .n (.t rfl) rfl len_map ss_31 rfl <|
      q_makem (f := V.int .i64) (l := 200) (0 : Int) .n rfl (.t rfl) (.t rfl) si_25 zv_2 (by omega) rfl rfl rfl <|
      q_assign .n (.t rfl) rfl <|
      Lex.nil) ?_
  refine run_seq ?_
  refine run_seq ?_
  refine run_region (q_assign .n (.c rfl) rfl <|
      Lex.nil) ?_
  refine run_block ?_
  refine run_LOOP (m_spec_l23Needs_b1 m_ list some_) _ _ _ rfl (fun (x1 : (List Int) × Int) => 0 ≤ x1.2 ∧ x1.2 ≤ (some_.length : Int) ∧ x1.1.length = (List.replicate ((m_.Airways.length : Int) : Int).toNat (0 : Int)).length) (fun x1 => 0 ≤ x1.2 ∧ x1.2 ≤ (some_.length : Int) ∧ x1.1.length = (List.replicate ((m_.Airways.length : Int) : Int).toNat (0 : Int)).length ∧ (some_.length : Int) ≤ x1.2) (fun x1 => ((some_.length : Int) - x1.2 : Int).toNat) (fun x1 => ⟨[(1, some (true, .sl 4 (list.map gJob.v))), (2, some (true, .sl 1 (some_.map (V.int .i64)))), (7, some (true, .os 200 x1.1.length)), (8, some (true, .int .i64 x1.2))], [(200, some (.row 2 1 (x1.1.map (V.int .i64))))]⟩) (fun x1 => ⟨[(7, some (true, .os 200 x1.1.length))], [(200, some (.row 2 1 (x1.1.map (V.int .i64))))]⟩) ⟨by omega, by omega, by (simp only [List.length_append, List.length_cons, List.length_nil, List.length_replicate, put_len] at * <;> omega)⟩ (by omega) (sub_of [] ⟨rfl, rfl, rfl, rfl, trivial⟩ ⟨rfl, trivial⟩ rfl) ?_ ?_
  · intro x1 i7
    obtain ⟨e8, e9, e10, e11⟩ := i7
    try dsimp only at *
    refine run_seq ?_
    refine run_region (q_move .n (.t rfl) rfl <|
        q_assign .n (.t rfl) rfl <|
        Lex.nil) ?_
    exact run_ret [(100, 200)] (.cons (.t rfl rfl) .nil) (by first | rfl | (simp only [put_len]; rfl)) ⟨rfl, trivial⟩ rfl
  · intro rec1 k1 hk4 x1 i5
    obtain ⟨e12, e13, e14⟩ := i5
    try dsimp only at *
    refine run_seq ?_
    refine run_seq ?_
    refine run_region (q_move .n (.t rfl) rfl <|
        q_move .n (.t rfl) rfl <|
        q_len .n (.t rfl) rfl len_map ss_25 rfl <|
        q_int .n (.t rfl) (.t rfl) rfl rfl <|
        Lex.nil) ?_
    refine run_cond (.t rfl) rfl (fun h6 => ?_) (fun h6 => ?_)
    · try simp only [Bool.and_eq_true, Bool.or_eq_true, Bool.not_eq_true', Bool.and_eq_false_iff, Bool.or_eq_false_iff, Bool.not_eq_false', decide_eq_true_eq, decide_eq_false_iff_not, beq_iff_eq, bne_iff_ne, beq_eq_false_iff_ne, bne_eq_false_iff_eq, Bool.true_and, ne_eq, Decidable.not_not, Int.not_lt, Int.not_le, Nat.not_lt, Nat.not_le, strB_nil, strB_nil', strB_nnil, strB_nnil'] at h6
      refine run_skip ?_
      refine run_seq ?_
      refine run_block ?_
      refine run_seq ?_
      refine run_region (q_move .n (.t rfl) rfl <|
          q_move .n (.t rfl) rfl <|
          q_move .n (.t rfl) rfl <|
          q_idx_rm .n (.t rfl) (.t rfl) sl_25 (fun _ => by omega) rfl <|
          q_ld1_ro .n (.t rfl) rfl ic_2 rfl <|
          q_idx_rm .n (.t rfl) (.t rfl) sl_36 (fun _ => by ((have hw0 := at_all (i := x1.2) hp3 (by omega); first | omega | (simp only [List.length_append, List.length_cons, List.length_nil, List.length_replicate, put_len] at * <;> omega)))) rfl <|
          q_assign .n (.t rfl) rfl <|
          Lex.nil) ?_
      refine run_draw fmo (q_move .n (.t rfl) rfl <|
          q_move .n (.t rfl) rfl <|
          q_nilc_ro .n (.t rfl) rfl <|
          q_fld_ro .n (.t rfl) fo_66_1 rfl <|
          q_ld1_ro .n (.t rfl) rfl ic_2 rfl <|
          q_idx_ow .n (.t rfl) (.t rfl) sl_25 (fun _ => by ((have hw0 := at_all (i := x1.2) hp3 (by omega); have hw1 := at_all (i := at' some_ x1.2) hp2 (by omega); first | omega | (simp only [List.length_append, List.length_cons, List.length_nil, List.length_replicate, put_len] at * <;> omega)))) rfl <|
          q_ld1_row .n (.t rfl) rfl (fun _ => by ((have hw0 := at_all (i := x1.2) hp3 (by omega); have hw1 := at_all (i := at' some_ x1.2) hp2 (by omega); first | omega | (simp only [List.length_append, List.length_cons, List.length_nil, List.length_replicate, put_len] at * <;> omega)))) rfl rfl rfl ic_2 rfl <|
          q_move .n (.t rfl) rfl <|
          q_call0 (full := false) .n .f en_113 (.cons (.t rfl) .nil) (.cons (.b (.a (.same rfl))) .nil) (fun hg => c_spec_l23Need (at' list (at' some_ x1.2))) rfl (fun h => Bool.noConfusion h) rfl <|
          q_int .n (.t rfl) (.t rfl) rfl rfl <|
          q_idx_ow .n (.t rfl) (.t rfl) sl_25 (fun _ => by ((have hw0 := at_all (i := x1.2) hp3 (by omega); have hw1 := at_all (i := at' some_ x1.2) hp2 (by omega); first | omega | (simp only [List.length_append, List.length_cons, List.length_nil, List.length_replicate, put_len] at * <;> omega)))) rfl <|
          q_st_rowm (IntKind.wrap .i64 ((at' x1.1 (at' list (at' some_ x1.2)).Airway) + (m_spec_l23Need (at' list (at' some_ x1.2))))) .n rfl (.t rfl) (.t rfl) rfl ts_2 (by ((have hw0 := at_all (i := x1.2) hp3 (by omega); have hw1 := at_all (i := at' some_ x1.2) hp2 (by omega); first | omega | (simp only [List.length_append, List.length_cons, List.length_nil, List.length_replicate, put_len] at * <;> omega)))) rfl rfl <|
          Lex.nil) (by kernel_rfl) ?_
      refine run_endB ?_
      refine run_region (q_move .n (.t rfl) rfl <|
          q_add .n (.t rfl) (.c rfl) (fun _ => by omega) rfl <|
          q_assign .n (.t rfl) rfl <|
          Lex.nil) ?_
      exact run_again (put' x1.1 (at' list (at' some_ x1.2)).Airway (IntKind.wrap .i64 ((at' x1.1 (at' list (at' some_ x1.2)).Airway) + (m_spec_l23Need (at' list (at' some_ x1.2))))), x1.2 + 1) ⟨by omega, by omega, by (simp only [List.length_append, List.length_cons, List.length_nil, List.length_replicate, put_len] at * <;> omega)⟩ (by omega) (sub_of [] ⟨rfl, rfl, os_len rfl (by first | (simp only [put_len]; done) | (first | omega | assumption | (simp only [List.length_append, List.length_cons, List.length_nil, List.length_replicate, put_len] at * <;> omega) | (((have hw0 := at_all (i := x1.2) hp3 (by omega); first | omega | (simp only [List.length_append, List.length_cons, List.length_nil, List.length_replicate, put_len] at * <;> omega))); done) | (((have hw0 := at_all (i := x1.2) hp3 (by omega); have hw1 := at_all (i := at' some_ x1.2) hp2 (by omega); first | omega | (simp only [List.length_append, List.length_cons, List.length_nil, List.length_replicate, put_len] at * <;> omega))); done))), rfl, trivial⟩ ⟨rfl, trivial⟩ rfl)
    · try simp only [Bool.and_eq_true, Bool.or_eq_true, Bool.not_eq_true', Bool.and_eq_false_iff, Bool.or_eq_false_iff, Bool.not_eq_false', decide_eq_true_eq, decide_eq_false_iff_not, beq_iff_eq, bne_iff_ne, beq_eq_false_iff_ne, bne_eq_false_iff_eq, Bool.true_and, ne_eq, Decidable.not_not, Int.not_lt, Int.not_le, Nat.not_lt, Nat.not_le, strB_nil, strB_nil', strB_nnil, strB_nnil'] at h6
      refine run_exit rfl ?_
      exact run_cont hk4 (x1.1, x1.2) ⟨by omega, by omega, by omega, by omega⟩ (sub_of [] ⟨rfl, trivial⟩ ⟨rfl, trivial⟩ rfl)

/-! ### spec_l00Max -/
theorem c_spec_l00Max (a : Int) (b : Int) : Con Try.prog 90 [.int .i64 a, .int .i64 b] [] (.int .i64 (m_spec_l00Max a b)) ([]) := by
  refine con_intro (out := fun r : Int => ((.int .i64 r : V), ([] : List (Nat × Option O)))) (r := (m_spec_l00Max a b)) Try.func90 rfl Try.ntmps90 rfl ?_
  refine run_seq ?_
  refine run_region (q_assign .n (.c rfl) rfl <|
      Lex.nil) ?_
  refine run_seq ?_
  refine run_seq ?_
  refine run_region (q_move .n (.t rfl) rfl <|
      q_move .n (.t rfl) rfl <|
      q_int .n (.t rfl) (.t rfl) rfl rfl <|
      Lex.nil) ?_
  refine run_cond (.t rfl) rfl (fun h1 => ?_) (fun h1 => ?_)
  · try simp only [Bool.and_eq_true, Bool.or_eq_true, Bool.not_eq_true', Bool.and_eq_false_iff, Bool.or_eq_false_iff, Bool.not_eq_false', decide_eq_true_eq, decide_eq_false_iff_not, beq_iff_eq, bne_iff_ne, beq_eq_false_iff_ne, bne_eq_false_iff_eq, Bool.true_and, ne_eq, Decidable.not_not, Int.not_lt, Int.not_le, Nat.not_lt, Nat.not_le, strB_nil, strB_nil', strB_nnil, strB_nnil'] at h1
    refine run_seq ?_
    refine run_region (q_move .n (.t rfl) rfl <|
        q_assign .n (.t rfl) rfl <|
        Lex.nil) ?_
    exact run_ret [] (.cons (.t rfl rfl) .nil) rfl trivial rfl
  · try simp only [Bool.and_eq_true, Bool.or_eq_true, Bool.not_eq_true', Bool.and_eq_false_iff, Bool.or_eq_false_iff, Bool.not_eq_false', decide_eq_true_eq, decide_eq_false_iff_not, beq_iff_eq, bne_iff_ne, beq_eq_false_iff_ne, bne_eq_false_iff_eq, Bool.true_and, ne_eq, Decidable.not_not, Int.not_lt, Int.not_le, Nat.not_lt, Nat.not_le, strB_nil, strB_nil', strB_nnil, strB_nnil'] at h1
    refine run_skip ?_
    refine run_seq ?_
    refine run_region (q_move .n (.t rfl) rfl <|
        q_assign .n (.t rfl) rfl <|
        Lex.nil) ?_
    exact run_ret [] (.cons (.t rfl rfl) .nil) rfl trivial rfl

/-! ### spec_l03Abs -/
theorem c_spec_l03Abs (n_ : Int) : Con Try.prog 89 [.int .i64 n_] [] (.int .i64 (m_spec_l03Abs n_)) ([]) := by
  refine con_intro (out := fun r : Int => ((.int .i64 r : V), ([] : List (Nat × Option O)))) (r := (m_spec_l03Abs n_)) Try.func89 rfl Try.ntmps89 rfl ?_
  refine run_seq ?_
  refine run_region (q_assign .n (.c rfl) rfl <|
      Lex.nil) ?_
  refine run_seq ?_
  refine run_region (q_move .n (.t rfl) rfl <|
      q_move .n (.t rfl) rfl <|
      q_neg .n (.t rfl) rfl <|
      q_call0 (full := false) .n .f en_90 (.cons (.t rfl) (.cons (.t rfl) .nil)) (.cons (.b (.a (.same rfl))) (.cons (.b (.a (.same rfl))) .nil)) (fun hg => c_spec_l00Max n_ (IntKind.wrap .i64 (0 - n_))) rfl (fun h => Bool.noConfusion h) rfl <|
      q_assign .n (.t rfl) rfl <|
      Lex.nil) ?_
  exact run_ret [] (.cons (.t rfl rfl) .nil) rfl trivial rfl

/-! ### spec_l23Fits -/
theorem c_spec_l23Fits (m_ : gMine) (flows : List Int) (list : List gJob) (some_ : List Int) (hp1 : MineIn m_) (hp2 : FlowsIn m_ flows) (hp3 : ∀ t ∈ list, 0 ≤ t.Airway ∧ t.Airway < m_.Airways.length) (hp4 : ∀ y ∈ some_, 0 ≤ y ∧ y < list.length) : Con Try.prog 54 [.rp [.int .i64 m_.Junctions, .sl 7 (m_.Airways.map gAirway.v)], .sl 1 (flows.map (V.int .i64)), .sl 4 (list.map gJob.v), .sl 1 (some_.map (V.int .i64))] [] (.bool (m_spec_l23Fits m_ flows list some_)) ([]) := by
  refine con_intro (out := fun r : Bool => ((.bool r : V), ([] : List (Nat × Option O)))) (r := (m_spec_l23Fits m_ flows list some_)) Try.func54 rfl Try.ntmps54 rfl ?_
  have hJ1 := hp1.1
  have hA1 := hp1.2.1
  have hF2 := hp2.1
  refine run_factP (t := 0) 1 rfl rfl fun hl => ?_
  have l1 := hl; clear hl; simp only [List.length_map] at l1
  refine run_fact (t := 1) rfl fun hl => ?_
  have l2 := hl; clear hl; simp only [List.length_map] at l2
  refine run_fact (t := 2) rfl fun hl => ?_
  have l3 := hl; clear hl; simp only [List.length_map] at l3
  refine run_fact (t := 3) rfl fun hl => ?_
  have l4 := hl; clear hl; simp only [List.length_map] at l4
  refine run_seq ?_
  refine run_region (q_assign .n (.c rfl) rfl <|
      Lex.nil) ?_
  refine run_seq ?_
  refine run_region (q_move .n (.t rfl) rfl <|
      q_move .n (.t rfl) rfl <|
      q_move .n (.t rfl) rfl <|
      q_callM (full := false) [] [(100, 200)] .n rfl .f en_88 (.cons (.t rfl) (.cons (.t rfl) (.cons (.t rfl) .nil))) (.cons (.b (.a (.same rfl))) (.cons (.b (.a (.same rfl))) (.cons (.b (.a (.same rfl))) .nil))) (c_spec_l23Needs m_ list some_ (by omega) (by omega) (by omega)) trivial rfl rfl (fun h => Bool.noConfusion h) (fun h => Bool.noConfusion h) rfl <|
      q_assign .n (.t rfl) rfl <|
      Lex.nil) ?_
  refine run_seq ?_
  refine run_seq ?_
  refine run_region (q_assign .n (.c rfl) rfl <|
      Lex.nil) ?_
  refine run_block ?_
  refine run_LOOP (m_spec_l23Fits_b1 m_ flows list some_) _ _ _ rfl (fun (x1 : Int) => 0 ≤ x1 ∧ x1 ≤ (flows.length : Int)) (fun x1 => 0 ≤ x1 ∧ x1 ≤ (flows.length : Int) ∧ (flows.length : Int) ≤ x1) (fun x1 => ((flows.length : Int) - x1 : Int).toNat) (fun x1 => ⟨[(1, some (true, .sl 1 (flows.map (V.int .i64)))), (9, some (true, .os 200 (m_spec_l23Needs m_ list some_).length)), (10, some (true, .int .i64 x1))], [(200, some (.row 2 1 ((m_spec_l23Needs m_ list some_).map (V.int .i64))))]⟩) (fun x1 => ⟨[], []⟩) ⟨by omega, by omega⟩ (by omega) (sub_of [] ⟨rfl, rfl, rfl, trivial⟩ ⟨rfl, trivial⟩ rfl) ?_ ?_
  · intro x1 i9
    obtain ⟨e10, e11, e12⟩ := i9
    try dsimp only at *
    refine run_seq ?_
    refine run_region (q_assign .n (.c rfl) rfl <|
        Lex.nil) ?_
    exact run_ret [] (.cons (.t rfl rfl) .nil) rfl trivial rfl
  · intro rec1 k1 hk5 x1 i6
    obtain ⟨e13, e14⟩ := i6
    try dsimp only at *
    refine run_seq ?_
    refine run_seq ?_
    refine run_region (q_move .n (.t rfl) rfl <|
        q_move .n (.t rfl) rfl <|
        q_len .n (.t rfl) rfl len_map ss_25 rfl <|
        q_int .n (.t rfl) (.t rfl) rfl rfl <|
        Lex.nil) ?_
    refine run_cond (.t rfl) rfl (fun h7 => ?_) (fun h7 => ?_)
    · try simp only [Bool.and_eq_true, Bool.or_eq_true, Bool.not_eq_true', Bool.and_eq_false_iff, Bool.or_eq_false_iff, Bool.not_eq_false', decide_eq_true_eq, decide_eq_false_iff_not, beq_iff_eq, bne_iff_ne, beq_eq_false_iff_ne, bne_eq_false_iff_eq, Bool.true_and, ne_eq, Decidable.not_not, Int.not_lt, Int.not_le, Nat.not_lt, Nat.not_le, strB_nil, strB_nil', strB_nnil, strB_nnil'] at h7
      refine run_skip ?_
      refine run_seq ?_
      refine run_block ?_
      refine run_seq ?_
      refine run_draw fmo (q_move .n (.t rfl) rfl <|
          q_move .n (.t rfl) rfl <|
          q_idx_ow .n (.t rfl) (.t rfl) sl_25 (fun _ => by ((rw [needs_map, needs_len]; omega))) rfl <|
          q_ld1_row .n (.t rfl) rfl (fun _ => by ((rw [needs_map, needs_len]; omega))) rfl rfl rfl ic_2 rfl <|
          q_move .n (.t rfl) rfl <|
          q_move .n (.t rfl) rfl <|
          q_idx_rm .n (.t rfl) (.t rfl) sl_25 (fun _ => by omega) rfl <|
          q_ld1_ro .n (.t rfl) rfl ic_2 rfl <|
          q_call0 (full := false) .n .f en_89 (.cons (.t rfl) .nil) (.cons (.b (.a (.same rfl))) .nil) (fun hg => c_spec_l03Abs (at' flows x1)) rfl (fun h => Bool.noConfusion h) rfl <|
          q_int .n (.t rfl) (.t rfl) rfl rfl <|
          Lex.nil) (by kernel_rfl) ?_
      refine run_cond (.t rfl) rfl (fun h8 => ?_) (fun h8 => ?_)
      · try simp only [Bool.and_eq_true, Bool.or_eq_true, Bool.not_eq_true', Bool.and_eq_false_iff, Bool.or_eq_false_iff, Bool.not_eq_false', decide_eq_true_eq, decide_eq_false_iff_not, beq_iff_eq, bne_iff_ne, beq_eq_false_iff_ne, bne_eq_false_iff_eq, Bool.true_and, ne_eq, Decidable.not_not, Int.not_lt, Int.not_le, Nat.not_lt, Nat.not_le, strB_nil, strB_nil', strB_nnil, strB_nnil'] at h8
        refine run_seq ?_
        refine run_region (q_assign .n (.c rfl) rfl <|
            Lex.nil) ?_
        exact run_ret [] (.cons (.t rfl rfl) .nil) rfl trivial rfl
      · try simp only [Bool.and_eq_true, Bool.or_eq_true, Bool.not_eq_true', Bool.and_eq_false_iff, Bool.or_eq_false_iff, Bool.not_eq_false', decide_eq_true_eq, decide_eq_false_iff_not, beq_iff_eq, bne_iff_ne, beq_eq_false_iff_ne, bne_eq_false_iff_eq, Bool.true_and, ne_eq, Decidable.not_not, Int.not_lt, Int.not_le, Nat.not_lt, Nat.not_le, strB_nil, strB_nil', strB_nnil, strB_nnil'] at h8
        refine run_skip ?_
        refine run_endB ?_
        refine run_region (q_move .n (.t rfl) rfl <|
            q_add .n (.t rfl) (.c rfl) (fun _ => by omega) rfl <|
            q_assign .n (.t rfl) rfl <|
            Lex.nil) ?_
        exact run_again (x1 + 1) ⟨by omega, by omega⟩ (by omega) (sub_of [] ⟨rfl, rfl, rfl, trivial⟩ ⟨rfl, trivial⟩ rfl)
    · try simp only [Bool.and_eq_true, Bool.or_eq_true, Bool.not_eq_true', Bool.and_eq_false_iff, Bool.or_eq_false_iff, Bool.not_eq_false', decide_eq_true_eq, decide_eq_false_iff_not, beq_iff_eq, bne_iff_ne, beq_eq_false_iff_ne, bne_eq_false_iff_eq, Bool.true_and, ne_eq, Decidable.not_not, Int.not_lt, Int.not_le, Nat.not_lt, Nat.not_le, strB_nil, strB_nil', strB_nnil, strB_nnil'] at h7
      refine run_exit rfl ?_
      exact run_cont hk5 x1 ⟨by omega, by omega, by omega⟩ (sub_of [] trivial trivial rfl)

/-! ### spec_l23Search_with -/
theorem c_spec_l23Search_with (x_ : gl23Search) (shift : Int) (job : Int) (hp1 : x_.shifts.length ≤ 1000) : Con Try.prog 91 [.rp [.rp [.int .i64 x_.m_.Junctions, .sl 7 (x_.m_.Airways.map gAirway.v)], .sl 1 (x_.flows.map (V.int .i64)), .sl 4 (x_.list.map gJob.v), .sl 1 (x_.some_.map (V.int .i64)), .sl 1 (x_.best.map (V.int .i64)), .sl 1 (x_.shifts.map (V.int .i64)), .int .i64 x_.count, .int .i64 x_.nodes, .int .i64 x_.budget], .int .i64 shift, .int .i64 job] [] (.os 100 (m_spec_l23Search_with x_ shift job).length) ([(100, some (.row 2 1 ((m_spec_l23Search_with x_ shift job).map (V.int .i64))))]) := by
  refine con_intro (out := fun r : (List Int) => ((.os 100 r.length : V), ([(100, some (.row 2 1 (r.map (V.int .i64))))] : List (Nat × Option O)))) (r := (m_spec_l23Search_with x_ shift job)) Try.func91 rfl Try.ntmps91 rfl ?_
  refine run_factP (t := 0) 1 rfl rfl fun hl => ?_
  have l1 := hl; clear hl; simp only [List.length_map] at l1
  refine run_factP (t := 0) 2 rfl rfl fun hl => ?_
  have l2 := hl; clear hl; simp only [List.length_map] at l2
  refine run_factP (t := 0) 3 rfl rfl fun hl => ?_
  have l3 := hl; clear hl; simp only [List.length_map] at l3
  refine run_factP (t := 0) 4 rfl rfl fun hl => ?_
  have l4 := hl; clear hl; simp only [List.length_map] at l4
  refine run_factP (t := 0) 5 rfl rfl fun hl => ?_
  have l5 := hl; clear hl; simp only [List.length_map] at l5
  refine run_seq ?_
  refine run_region (q_assign .n (.c rfl) rfl <|
      Lex.nil) ?_
  refine run_seq ?_
  refine run_region (q_bslicem ([] : List Int) (f := V.int .i64) (l := 200) .n rfl rfl .nil rfl si_25 zv_2 rfl rfl rfl <|
      q_assign .n (.t rfl) rfl <|
      Lex.nil) ?_
  refine run_seq ?_
  refine run_seq ?_
  refine run_region (q_assign .n (.c rfl) rfl <|
      Lex.nil) ?_
  refine run_block ?_
  refine run_LOOP (m_spec_l23Search_with_b1 x_ shift job) _ _ _ rfl (fun (x1 : (List Int) × Int) => 0 ≤ x1.2 ∧ x1.2 ≤ (x_.shifts.length : Int) ∧ (x1.1.length : Int) + 0 ≤ x1.2 + (([] : List Int).length : Int)) (fun x1 => 0 ≤ x1.2 ∧ x1.2 ≤ (x_.shifts.length : Int) ∧ (x1.1.length : Int) + 0 ≤ x1.2 + (([] : List Int).length : Int) ∧ (x_.shifts.length : Int) ≤ x1.2) (fun x1 => ((x_.shifts.length : Int) - x1.2 : Int).toNat) (fun x1 => ⟨[(0, some (true, .rp [.rp [.int .i64 x_.m_.Junctions, .sl 7 (x_.m_.Airways.map gAirway.v)], .sl 1 (x_.flows.map (V.int .i64)), .sl 4 (x_.list.map gJob.v), .sl 1 (x_.some_.map (V.int .i64)), .sl 1 (x_.best.map (V.int .i64)), .sl 1 (x_.shifts.map (V.int .i64)), .int .i64 x_.count, .int .i64 x_.nodes, .int .i64 x_.budget])), (1, some (true, .int .i64 shift)), (2, some (true, .int .i64 job)), (7, some (true, .os 200 x1.1.length)), (8, some (true, .int .i64 x1.2))], [(200, some (.row 2 1 (x1.1.map (V.int .i64))))]⟩) (fun x1 => ⟨[(2, some (true, .int .i64 job)), (7, some (true, .os 200 x1.1.length))], [(200, some (.row 2 1 (x1.1.map (V.int .i64))))]⟩) ⟨by omega, by omega, by (simp only [List.length_append, List.length_cons, List.length_nil, List.length_replicate, put_len] at * <;> omega)⟩ (by omega) (sub_of [] ⟨rfl, rfl, rfl, rfl, rfl, trivial⟩ ⟨rfl, trivial⟩ rfl) ?_ ?_
  · intro x1 i10
    obtain ⟨e11, e12, e13, e14⟩ := i10
    try dsimp only at *
    refine run_seq ?_
    refine run_region (q_move .n (.t rfl) rfl <|
        q_move .n (.t rfl) rfl <|
        q_bslicem ([job] : List Int) (f := V.int .i64) (l := 203) .n rfl rfl (.cons (.t rfl) .nil) rfl si_25 zv_2 rfl rfl rfl <|
        q_appm (xs := x1.1) (ys := ([job] : List Int)) (f := V.int .i64) (l := 204) .n rfl (.ow (.t rfl) rfl (take_all (by simp only [len_map, put_len] <;> rfl)) (by simp only [len_map, put_len] <;> rfl)) (.ow (.t rfl) rfl (take_all (by simp only [len_map, put_len] <;> rfl)) (by simp only [len_map, put_len] <;> rfl)) si_25 zv_2 rfl (by (simp only [List.length_append, List.length_cons, List.length_nil, List.length_replicate, put_len] at * <;> omega)) rfl rfl <|
        q_assign .n (.t rfl) rfl <|
        Lex.nil) ?_
    exact run_ret [(100, 204)] (.cons (.t rfl rfl) .nil) (by first | rfl | (simp only [put_len]; rfl)) ⟨rfl, trivial⟩ rfl
  · intro rec1 k1 hk6 x1 i7
    obtain ⟨e15, e16, e17⟩ := i7
    try dsimp only at *
    refine run_seq ?_
    refine run_seq ?_
    refine run_region (q_move .n (.t rfl) rfl <|
        q_move .n (.t rfl) rfl <|
        q_nilc_ro .n (.t rfl) rfl <|
        q_fld_ro .n (.t rfl) fo_76_5 rfl <|
        q_ld1_ro .n (.t rfl) rfl ic_25 rfl <|
        q_len .n (.t rfl) rfl len_map ss_25 rfl <|
        q_int .n (.t rfl) (.t rfl) rfl rfl <|
        Lex.nil) ?_
    refine run_cond (.t rfl) rfl (fun h8 => ?_) (fun h8 => ?_)
    · try simp only [Bool.and_eq_true, Bool.or_eq_true, Bool.not_eq_true', Bool.and_eq_false_iff, Bool.or_eq_false_iff, Bool.not_eq_false', decide_eq_true_eq, decide_eq_false_iff_not, beq_iff_eq, bne_iff_ne, beq_eq_false_iff_ne, bne_eq_false_iff_eq, Bool.true_and, ne_eq, Decidable.not_not, Int.not_lt, Int.not_le, Nat.not_lt, Nat.not_le, strB_nil, strB_nil', strB_nnil, strB_nnil'] at h8
      refine run_skip ?_
      refine run_seq ?_
      refine run_block ?_
      refine run_seq ?_
      refine run_region (q_move .n (.t rfl) rfl <|
          q_nilc_ro .n (.t rfl) rfl <|
          q_fld_ro .n (.t rfl) fo_76_5 rfl <|
          q_ld1_ro .n (.t rfl) rfl ic_25 rfl <|
          q_move .n (.t rfl) rfl <|
          q_idx_rm .n (.t rfl) (.t rfl) sl_25 (fun _ => by omega) rfl <|
          q_ld1_ro .n (.t rfl) rfl ic_2 rfl <|
          q_move .n (.t rfl) rfl <|
          q_int .n (.t rfl) (.t rfl) rfl rfl <|
          Lex.nil) ?_
      refine run_cond (.t rfl) rfl (fun h9 => ?_) (fun h9 => ?_)
      · try simp only [Bool.and_eq_true, Bool.or_eq_true, Bool.not_eq_true', Bool.and_eq_false_iff, Bool.or_eq_false_iff, Bool.not_eq_false', decide_eq_true_eq, decide_eq_false_iff_not, beq_iff_eq, bne_iff_ne, beq_eq_false_iff_ne, bne_eq_false_iff_eq, Bool.true_and, ne_eq, Decidable.not_not, Int.not_lt, Int.not_le, Nat.not_lt, Nat.not_le, strB_nil, strB_nil', strB_nnil, strB_nnil'] at h9
        refine run_region (q_move .n (.t rfl) rfl <|
            q_move .n (.t rfl) rfl <|
            q_bslicem ([x1.2] : List Int) (f := V.int .i64) (l := 201) .n rfl rfl (.cons (.t rfl) .nil) rfl si_25 zv_2 rfl rfl rfl <|
            q_appm (xs := x1.1) (ys := ([x1.2] : List Int)) (f := V.int .i64) (l := 202) .n rfl (.ow (.t rfl) rfl (take_all (by simp only [len_map, put_len] <;> rfl)) (by simp only [len_map, put_len] <;> rfl)) (.ow (.t rfl) rfl (take_all (by simp only [len_map, put_len] <;> rfl)) (by simp only [len_map, put_len] <;> rfl)) si_25 zv_2 rfl (by (simp only [List.length_append, List.length_cons, List.length_nil, List.length_replicate, put_len] at * <;> omega)) rfl rfl <|
            q_assign .n (.t rfl) rfl <|
            Lex.nil) ?_
        refine run_endB ?_
        refine run_region (q_move .n (.t rfl) rfl <|
            q_add .n (.t rfl) (.c rfl) (fun _ => by omega) rfl <|
            q_assign .n (.t rfl) rfl <|
            Lex.nil) ?_
        exact run_again (x1.1 ++ ([x1.2] : List Int), x1.2 + 1) ⟨by omega, by omega, by (simp only [List.length_append, List.length_cons, List.length_nil, List.length_replicate, put_len] at * <;> omega)⟩ (by omega) (sub_of [(200, 202)] ⟨rfl, rfl, rfl, rfl, rfl, trivial⟩ ⟨rfl, trivial⟩ rfl)
      · try simp only [Bool.and_eq_true, Bool.or_eq_true, Bool.not_eq_true', Bool.and_eq_false_iff, Bool.or_eq_false_iff, Bool.not_eq_false', decide_eq_true_eq, decide_eq_false_iff_not, beq_iff_eq, bne_iff_ne, beq_eq_false_iff_ne, bne_eq_false_iff_eq, Bool.true_and, ne_eq, Decidable.not_not, Int.not_lt, Int.not_le, Nat.not_lt, Nat.not_le, strB_nil, strB_nil', strB_nnil, strB_nnil'] at h9
        refine run_skip ?_
        refine run_endB ?_
        refine run_region (q_move .n (.t rfl) rfl <|
            q_add .n (.t rfl) (.c rfl) (fun _ => by omega) rfl <|
            q_assign .n (.t rfl) rfl <|
            Lex.nil) ?_
        exact run_again (x1.1, x1.2 + 1) ⟨by omega, by omega, by (simp only [List.length_append, List.length_cons, List.length_nil, List.length_replicate, put_len] at * <;> omega)⟩ (by omega) (sub_of [] ⟨rfl, rfl, rfl, rfl, rfl, trivial⟩ ⟨rfl, trivial⟩ rfl)
    · try simp only [Bool.and_eq_true, Bool.or_eq_true, Bool.not_eq_true', Bool.and_eq_false_iff, Bool.or_eq_false_iff, Bool.not_eq_false', decide_eq_true_eq, decide_eq_false_iff_not, beq_iff_eq, bne_iff_ne, beq_eq_false_iff_ne, bne_eq_false_iff_eq, Bool.true_and, ne_eq, Decidable.not_not, Int.not_lt, Int.not_le, Nat.not_lt, Nat.not_le, strB_nil, strB_nil', strB_nnil, strB_nnil'] at h8
      refine run_exit rfl ?_
      exact run_cont hk6 (x1.1, x1.2) ⟨by omega, by omega, by omega, by omega⟩ (sub_of [] ⟨rfl, rfl, trivial⟩ ⟨rfl, trivial⟩ rfl)

/-! ### spec_l23Search_place -/
set_option maxRecDepth 100000 in
theorem c_spec_l23Search_place_n : ∀ (fuel : Nat) (x_ : gl23Search) (hp1 : MineIn x_.m_) (hp2 : FlowsIn x_.m_ x_.flows) (hp3 : JobsIn x_.m_ x_.list) (hp4 : (x_.shifts.length : Int) ≤ x_.list.length) (hp5 : 0 ≤ x_.count ∧ x_.count ≤ 100000) (hmu : ((x_.list.length : Int) - x_.shifts.length).toNat < fuel), Con Try.prog 55 [.op 0 0 0 0] [(0, some (.box 76 [.rp [.int .i64 x_.m_.Junctions, .sl 7 (x_.m_.Airways.map gAirway.v)], .sl 1 (x_.flows.map (V.int .i64)), .sl 4 (x_.list.map gJob.v), .sl 1 (x_.some_.map (V.int .i64)), .sl 1 (x_.best.map (V.int .i64)), .os 15 x_.shifts.length, .int .i64 x_.count, .int .i64 x_.nodes, .int .i64 x_.budget])), (15, some (.row 2 1 (x_.shifts.map (V.int .i64))))] (.bool (m_spec_l23Search_place_n fuel x_).1) ([(100, some (.row 2 1 ((m_spec_l23Search_place_n fuel x_).2.shifts.map (V.int .i64)))), (0, some (.box 76 [.rp [.int .i64 x_.m_.Junctions, .sl 7 (x_.m_.Airways.map gAirway.v)], .sl 1 (x_.flows.map (V.int .i64)), .sl 4 (x_.list.map gJob.v), .sl 1 (x_.some_.map (V.int .i64)), .sl 1 (x_.best.map (V.int .i64)), .os 100 (m_spec_l23Search_place_n fuel x_).2.shifts.length, .int .i64 x_.count, .int .i64 (m_spec_l23Search_place_n fuel x_).2.nodes, .int .i64 x_.budget]))]) := by
  intro fuel
  induction fuel with
  | zero => intro x_ hp1 hp2 hp3 hp4 hp5 hmu; exact absurd hmu (Nat.not_lt_zero _)
  | succ fuel ih =>
  intro x_ hp1 hp2 hp3 hp4 hp5 hmu
  simp only [m_spec_l23Search_place_n]
  have hself := post_spec_l23Search_place fuel
  generalize m_spec_l23Search_place_n fuel = self_ at ih hself ⊢
  refine con_intro (out := fun r : Bool × gl23Search => ((.bool r.1 : V), ([(100, some (.row 2 1 (r.2.shifts.map (V.int .i64)))), (0, some (.box 76 [.rp [.int .i64 x_.m_.Junctions, .sl 7 (x_.m_.Airways.map gAirway.v)], .sl 1 (x_.flows.map (V.int .i64)), .sl 4 (x_.list.map gJob.v), .sl 1 (x_.some_.map (V.int .i64)), .sl 1 (x_.best.map (V.int .i64)), .os 100 r.2.shifts.length, .int .i64 x_.count, .int .i64 r.2.nodes, .int .i64 x_.budget]))] : List (Nat × Option O)))) (r := (m_spec_l23Search_place_body self_ x_)) Try.func55 rfl Try.ntmps55 rfl ?_
  have hL := hp3.1
  have hJ1 := hp1.1
  have hA1 := hp1.2.1
  have hF2 := hp2.1
  refine run_sub (s' := ⟨[(0, some (true, .op 0 0 0 0))], [(0, some (.box 76 [.rp [.int .i64 x_.m_.Junctions, .sl 7 (x_.m_.Airways.map gAirway.v)], .sl 1 (x_.flows.map (V.int .i64)), .sl 4 (x_.list.map gJob.v), .sl 1 (x_.some_.map (V.int .i64)), .sl 1 (x_.best.map (V.int .i64)), .os 200 x_.shifts.length, .int .i64 x_.count, .int .i64 x_.nodes, .int .i64 x_.budget])), (200, some (.row 2 1 (x_.shifts.map (V.int .i64))))]⟩) (sub_of [(200, 15)] ⟨rfl, trivial⟩ ⟨rfl, rfl, trivial⟩ rfl) ?_
  refine run_factH (l := 200) rfl fun hl => ?_
  have l1 := hl; clear hl; simp only [List.length_map] at l1
  refine run_seq ?_
  refine run_region (q_assign .n (.c rfl) rfl <|
      Lex.nil) ?_
  refine run_seq ?_
  refine run_region (q_move .n (.t rfl) rfl <|
      q_nilc_ow .n (.t rfl) rfl <|
      q_fld_ow .n (.t rfl) fo_76_5 rfl <|
      q_ld1_ow .n (.t rfl) rfl (.inr rfl) (fun _ => rfl) rfl ic_25 rfl <|
      q_len .n (.t rfl) rfl rfl ss_25 rfl <|
      q_assign .n (.t rfl) rfl <|
      Lex.nil) ?_
  refine run_seq ?_
  refine run_seq ?_
  refine run_region (q_move .n (.t rfl) rfl <|
      q_move .n (.t rfl) rfl <|
      q_nilc_ow .n (.t rfl) rfl <|
      q_fld_ow .n (.t rfl) fo_76_2 rfl <|
      q_ld1_ow .n (.t rfl) rfl (.inr rfl) (fun _ => rfl) rfl ic_36 rfl <|
      q_len .n (.t rfl) rfl len_map ss_36 rfl <|
      q_int .n (.t rfl) (.t rfl) rfl rfl <|
      Lex.nil) ?_
  refine run_fact (t := 16) rfl fun hl => ?_
  have l2 := hl; clear hl; simp only [List.length_map] at l2
  refine run_cond (.t rfl) rfl (fun h3 => ?_) (fun h3 => ?_)
  · try simp only [Bool.and_eq_true, Bool.or_eq_true, Bool.not_eq_true', Bool.and_eq_false_iff, Bool.or_eq_false_iff, Bool.not_eq_false', decide_eq_true_eq, decide_eq_false_iff_not, beq_iff_eq, bne_iff_ne, beq_eq_false_iff_ne, bne_eq_false_iff_eq, Bool.true_and, ne_eq, Decidable.not_not, Int.not_lt, Int.not_le, Nat.not_lt, Nat.not_le, strB_nil, strB_nil', strB_nnil, strB_nnil'] at h3
    refine run_seq ?_
    refine run_region (q_assign .n (.c rfl) rfl <|
        Lex.nil) ?_
    exact run_ret [(100, 200)] (.cons (.t rfl rfl) .nil) rfl ⟨rfl, rfl, trivial⟩ rfl
  · try simp only [Bool.and_eq_true, Bool.or_eq_true, Bool.not_eq_true', Bool.and_eq_false_iff, Bool.or_eq_false_iff, Bool.not_eq_false', decide_eq_true_eq, decide_eq_false_iff_not, beq_iff_eq, bne_iff_ne, beq_eq_false_iff_ne, bne_eq_false_iff_eq, Bool.true_and, ne_eq, Decidable.not_not, Int.not_lt, Int.not_le, Nat.not_lt, Nat.not_le, strB_nil, strB_nil', strB_nnil, strB_nnil'] at h3
    refine run_skip ?_
    refine run_seq ?_
    refine run_region (q_assign .n (.c rfl) rfl <|
        Lex.nil) ?_
    refine run_seq ?_
    refine run_seq ?_
    refine run_region (q_assign .n (.c rfl) rfl <|
        Lex.nil) ?_
    refine run_block ?_
    refine run_LOOP (m_spec_l23Search_place_b1 self_ x_) _ _ _ rfl (fun (x1 : Int × Int) => 0 ≤ x1.2 ∧ x1.2 ≤ (x_.shifts.length : Int)) (fun x1 => 0 ≤ x1.2 ∧ x1.2 ≤ (x_.shifts.length : Int) ∧ (x_.shifts.length : Int) ≤ x1.2) (fun x1 => ((x_.shifts.length : Int) - x1.2 : Int).toNat) (fun x1 => ⟨[(0, some (true, .op 0 0 0 0)), (3, some (true, .int .i64 (x_.shifts.length : Int))), (4, some (true, .int .i64 x1.1)), (5, some (true, .int .i64 x1.2))], [(0, some (.box 76 [.rp [.int .i64 x_.m_.Junctions, .sl 7 (x_.m_.Airways.map gAirway.v)], .sl 1 (x_.flows.map (V.int .i64)), .sl 4 (x_.list.map gJob.v), .sl 1 (x_.some_.map (V.int .i64)), .sl 1 (x_.best.map (V.int .i64)), .os 200 x_.shifts.length, .int .i64 x_.count, .int .i64 x_.nodes, .int .i64 x_.budget])), (200, some (.row 2 1 (x_.shifts.map (V.int .i64))))]⟩) (fun x1 => ⟨[(0, some (true, .op 0 0 0 0)), (3, some (true, .int .i64 (x_.shifts.length : Int))), (4, some (true, .int .i64 x1.1))], [(0, some (.box 76 [.rp [.int .i64 x_.m_.Junctions, .sl 7 (x_.m_.Airways.map gAirway.v)], .sl 1 (x_.flows.map (V.int .i64)), .sl 4 (x_.list.map gJob.v), .sl 1 (x_.some_.map (V.int .i64)), .sl 1 (x_.best.map (V.int .i64)), .os 200 x_.shifts.length, .int .i64 x_.count, .int .i64 x_.nodes, .int .i64 x_.budget])), (200, some (.row 2 1 (x_.shifts.map (V.int .i64))))]⟩) ⟨by omega, by omega⟩ (by omega) (sub_of [] ⟨rfl, rfl, rfl, rfl, trivial⟩ ⟨rfl, rfl, trivial⟩ rfl) ?_ ?_
    · intro x1 i7
      obtain ⟨e19, e20, e21⟩ := i7
      try dsimp only at *
      refine run_seq ?_
      refine run_seq ?_
      refine run_region (q_assign .n (.c rfl) rfl <|
          Lex.nil) ?_
      refine run_block ?_
      refine run_LOOP (m_spec_l23Search_place_b2 self_ x_ x1) _ _ _ rfl (fun (x2 : Int × (List Int) × Int) => 0 ≤ x2.1 ∧ x2.2.1 = x_.shifts) (fun x2 => 0 ≤ x2.1 ∧ x2.2.1 = x_.shifts) (fun x2 => (x_.count - x2.1).toNat) (fun x2 => ⟨[(0, some (true, .op 0 0 0 0)), (3, some (true, .int .i64 (x_.shifts.length : Int))), (4, some (true, .int .i64 x1.1)), (6, some (true, .int .i64 x2.1))], [(0, some (.box 76 [.rp [.int .i64 x_.m_.Junctions, .sl 7 (x_.m_.Airways.map gAirway.v)], .sl 1 (x_.flows.map (V.int .i64)), .sl 4 (x_.list.map gJob.v), .sl 1 (x_.some_.map (V.int .i64)), .sl 1 (x_.best.map (V.int .i64)), .os 200 x2.2.1.length, .int .i64 x_.count, .int .i64 x2.2.2, .int .i64 x_.budget])), (200, some (.row 2 1 (x2.2.1.map (V.int .i64))))]⟩) (fun x2 => ⟨[], [(0, some (.box 76 [.rp [.int .i64 x_.m_.Junctions, .sl 7 (x_.m_.Airways.map gAirway.v)], .sl 1 (x_.flows.map (V.int .i64)), .sl 4 (x_.list.map gJob.v), .sl 1 (x_.some_.map (V.int .i64)), .sl 1 (x_.best.map (V.int .i64)), .os 200 x2.2.1.length, .int .i64 x_.count, .int .i64 x2.2.2, .int .i64 x_.budget])), (200, some (.row 2 1 (x2.2.1.map (V.int .i64))))]⟩) ⟨by omega, by (simp only [List.length_append, List.length_cons, List.length_nil, List.length_replicate, put_len] at * <;> omega)⟩ (by omega) (sub_of [] ⟨rfl, rfl, rfl, rfl, trivial⟩ ⟨rfl, rfl, trivial⟩ rfl) ?_ ?_
      · intro x2 i14
        obtain ⟨e15, e16⟩ := i14
        try dsimp only at *
        refine run_seq ?_
        refine run_region (q_assign .n (.c rfl) rfl <|
            Lex.nil) ?_
        exact run_ret [(100, 200)] (.cons (.t rfl rfl) .nil) rfl ⟨rfl, rfl, trivial⟩ rfl
      · intro rec2 k2 hk8 x2 i9
        obtain ⟨e17, e18⟩ := i9
        try dsimp only at *
        refine run_seq ?_
        refine run_seq ?_
        refine run_region (q_move .n (.t rfl) rfl <|
            q_move .n (.t rfl) rfl <|
            q_int .n (.t rfl) (.t rfl) rfl rfl <|
            q_move .n (.t rfl) rfl <|
            q_move (.t rfl rfl) (.t rfl) rfl <|
            q_move (.t rfl rfl) (.t rfl) rfl <|
            q_nilc_ow (.t rfl rfl) (.u rfl id) rfl <|
            q_fld_ow (.t rfl rfl) (.u rfl id) fo_76_6 rfl <|
            q_ld1_ow (.t rfl rfl) (.u rfl id) rfl (.inr rfl) (fun _ => rfl) rfl ic_2 rfl <|
            q_int (.t rfl rfl) (.u rfl id) (.u rfl id) rfl rfl <|
            q_and .n (.t rfl) (.u rfl id) rfl <|
            Lex.nil) ?_
        refine run_cond (.t rfl) rfl (fun h10 => ?_) (fun h10 => ?_)
        · try simp only [Bool.and_eq_true, Bool.or_eq_true, Bool.not_eq_true', Bool.and_eq_false_iff, Bool.or_eq_false_iff, Bool.not_eq_false', decide_eq_true_eq, decide_eq_false_iff_not, beq_iff_eq, bne_iff_ne, beq_eq_false_iff_ne, bne_eq_false_iff_eq, Bool.true_and, ne_eq, Decidable.not_not, Int.not_lt, Int.not_le, Nat.not_lt, Nat.not_le, strB_nil, strB_nil', strB_nnil, strB_nnil'] at h10
          refine run_skip ?_
          refine run_seq ?_
          refine run_block ?_
          refine run_seq ?_
          refine run_seq ?_
          refine run_draw fmo (q_move .n (.t rfl) rfl <|
              q_nilc_ow .n (.t rfl) rfl <|
              q_fld_ow .n (.t rfl) fo_76_0 rfl <|
              q_ld1_ow .n (.t rfl) rfl (.inr rfl) (fun _ => rfl) rfl ic_73 rfl <|
              q_move .n (.t rfl) rfl <|
              q_nilc_ow .n (.t rfl) rfl <|
              q_fld_ow .n (.t rfl) fo_76_1 rfl <|
              q_ld1_ow .n (.t rfl) rfl (.inr rfl) (fun _ => rfl) rfl ic_25 rfl <|
              q_move .n (.t rfl) rfl <|
              q_nilc_ow .n (.t rfl) rfl <|
              q_fld_ow .n (.t rfl) fo_76_2 rfl <|
              q_ld1_ow .n (.t rfl) rfl (.inr rfl) (fun _ => rfl) rfl ic_36 rfl <|
              q_move .n (.t rfl) rfl <|
              q_move .n (.t rfl) rfl <|
              q_move .n (.t rfl) rfl <|
              q_callM (full := true) [] [(100, 201)] .n rfl .f en_91 (.cons (.t rfl) (.cons (.t rfl) (.cons (.t rfl) .nil))) (.cons (.b (.ptr rfl rfl (.inr rfl) rfl rfl (.cons (.same rfl) (.cons (.same rfl) (.cons (.same rfl) (.cons (.same rfl) (.cons (.same rfl) (.cons (.own rfl rfl rfl (take_all (by simp only [len_map, put_len] <;> rfl)) (by simp only [len_map, put_len] <;> rfl)) (.cons (.same rfl) (.cons (.same rfl) (.cons (.same rfl) .nil))))))))))) (.cons (.b (.a (.same rfl))) (.cons (.b (.a (.same rfl))) .nil))) (c_spec_l23Search_with (gl23Search.mk x_.m_ x_.flows x_.list x_.some_ x_.best x2.2.1 x_.count x2.2.2 x_.budget) x2.1 (x_.shifts.length : Int) (by ((have he := (show x2.2.1 = x_.shifts by assumption); (try dsimp only); rw [he]; omega)))) trivial rfl rfl (fun _ => rfl) (fun _ => (hr_row (fun _ => rfl) hr_nil)) rfl <|
              q_call0 (full := true) .n .f en_54 (.cons (.t rfl) (.cons (.t rfl) (.cons (.t rfl) (.cons (.t rfl) .nil)))) (.cons (.b (.a (.same rfl))) (.cons (.b (.a (.same rfl))) (.cons (.b (.a (.same rfl))) (.cons (.b (.a (.own rfl rfl rfl (take_all (by simp only [len_map, put_len] <;> rfl)) (by simp only [len_map, put_len] <;> rfl)))) .nil)))) (fun hg => c_spec_l23Fits x_.m_ x_.flows x_.list (m_spec_l23Search_with (gl23Search.mk x_.m_ x_.flows x_.list x_.some_ x_.best x2.2.1 x_.count x2.2.2 x_.budget) x2.1 (x_.shifts.length : Int)) (by omega) (by omega) (by (exact JobsIn.air hp3)) (by ((have he := (show x2.2.1 = x_.shifts by assumption); simp only [he]; rw [with_is]; intro y hy; simp only [List.mem_append, List.mem_singleton] at hy; rcases hy with hy | hy; have hq := idxS_rng y hy; (try dsimp only at hq); omega; omega)))) rfl (fun _ => rfl) rfl <|
              q_not .n (.t rfl) rfl <|
              Lex.nil) (by kernel_rfl) ?_
          refine run_cond (.t rfl) rfl (fun h11 => ?_) (fun h11 => ?_)
          · try simp only [Bool.and_eq_true, Bool.or_eq_true, Bool.not_eq_true', Bool.and_eq_false_iff, Bool.or_eq_false_iff, Bool.not_eq_false', decide_eq_true_eq, decide_eq_false_iff_not, beq_iff_eq, bne_iff_ne, beq_eq_false_iff_ne, bne_eq_false_iff_eq, Bool.true_and, ne_eq, Decidable.not_not, Int.not_lt, Int.not_le, Nat.not_lt, Nat.not_le, strB_nil, strB_nil', strB_nnil, strB_nnil'] at h11
            refine run_exit rfl ?_
            refine run_region (q_move .n (.t rfl) rfl <|
                q_add .n (.t rfl) (.c rfl) (fun _ => by omega) rfl <|
                q_assign .n (.t rfl) rfl <|
                Lex.nil) ?_
            exact run_again (x2.1 + 1, x2.2.1, x2.2.2) ⟨by omega, by omega⟩ (by omega) (sub_of [] ⟨rfl, rfl, rfl, rfl, trivial⟩ ⟨rfl, rfl, trivial⟩ rfl)
          · try simp only [Bool.and_eq_true, Bool.or_eq_true, Bool.not_eq_true', Bool.and_eq_false_iff, Bool.or_eq_false_iff, Bool.not_eq_false', decide_eq_true_eq, decide_eq_false_iff_not, beq_iff_eq, bne_iff_ne, beq_eq_false_iff_ne, bne_eq_false_iff_eq, Bool.true_and, ne_eq, Decidable.not_not, Int.not_lt, Int.not_le, Nat.not_lt, Nat.not_le, strB_nil, strB_nil', strB_nnil, strB_nnil'] at h11
            refine run_skip ?_
            refine run_seq ?_
            refine run_region (q_move .n (.t rfl) rfl <|
                q_nilc_ow .n (.t rfl) rfl <|
                q_fld_ow .n (.t rfl) fo_76_7 rfl <|
                q_ld1_ow .n (.t rfl) rfl (.inr rfl) (fun _ => rfl) rfl ic_2 rfl <|
                q_int .n (.t rfl) (.c rfl) rfl rfl <|
                q_nilc_ow .n (.t rfl) rfl <|
                q_fld_ow .n (.t rfl) fo_76_7 rfl <|
                q_st_boxm [.rp [.int .i64 x_.m_.Junctions, .sl 7 (x_.m_.Airways.map gAirway.v)], .sl 1 (x_.flows.map (V.int .i64)), .sl 4 (x_.list.map gJob.v), .sl 1 (x_.some_.map (V.int .i64)), .sl 1 (x_.best.map (V.int .i64)), .os 200 x2.2.1.length, .int .i64 x_.count, .int .i64 (IntKind.wrap .i64 (x2.2.2 + 1)), .int .i64 x_.budget] .n rfl (.t rfl) (.t rfl) rfl ts_2 rfl rfl <|
                Lex.nil) ?_
            refine run_seq ?_
            refine run_seq ?_
            refine run_draw fmo (q_move .n (.t rfl) rfl <|
                q_nilc_ow .n (.t rfl) rfl <|
                q_fld_ow .n (.t rfl) fo_76_7 rfl <|
                q_ld1_ow .n (.t rfl) rfl (.inr rfl) (fun _ => rfl) rfl ic_2 rfl <|
                q_move .n (.t rfl) rfl <|
                q_nilc_ow .n (.t rfl) rfl <|
                q_fld_ow .n (.t rfl) fo_76_8 rfl <|
                q_ld1_ow .n (.t rfl) rfl (.inr rfl) (fun _ => rfl) rfl ic_2 rfl <|
                q_int .n (.t rfl) (.t rfl) rfl rfl <|
                Lex.nil) (by kernel_rfl) ?_
            refine run_cond (.t rfl) rfl (fun h12 => ?_) (fun h12 => ?_)
            · try simp only [Bool.and_eq_true, Bool.or_eq_true, Bool.not_eq_true', Bool.and_eq_false_iff, Bool.or_eq_false_iff, Bool.not_eq_false', decide_eq_true_eq, decide_eq_false_iff_not, beq_iff_eq, bne_iff_ne, beq_eq_false_iff_ne, bne_eq_false_iff_eq, Bool.true_and, ne_eq, Decidable.not_not, Int.not_lt, Int.not_le, Nat.not_lt, Nat.not_le, strB_nil, strB_nil', strB_nnil, strB_nnil'] at h12
              refine run_seq ?_
              refine run_region (q_assign .n (.c rfl) rfl <|
                  Lex.nil) ?_
              exact run_ret [(100, 200)] (.cons (.t rfl rfl) .nil) rfl ⟨rfl, rfl, trivial⟩ rfl
            · try simp only [Bool.and_eq_true, Bool.or_eq_true, Bool.not_eq_true', Bool.and_eq_false_iff, Bool.or_eq_false_iff, Bool.not_eq_false', decide_eq_true_eq, decide_eq_false_iff_not, beq_iff_eq, bne_iff_ne, beq_eq_false_iff_ne, bne_eq_false_iff_eq, Bool.true_and, ne_eq, Decidable.not_not, Int.not_lt, Int.not_le, Nat.not_lt, Nat.not_le, strB_nil, strB_nil', strB_nnil, strB_nnil'] at h12
              refine run_skip ?_
              refine run_seq ?_
              refine run_region (q_move .n (.t rfl) rfl <|
                  q_move .n (.t rfl) rfl <|
                  q_nilc_ow .n (.t rfl) rfl <|
                  q_fld_ow .n (.t rfl) fo_76_5 rfl <|
                  q_ld1_ow .n (.t rfl) rfl (.inr rfl) (fun _ => rfl) rfl ic_25 rfl <|
                  q_move .n (.t rfl) rfl <|
                  q_bslicem ([x2.1] : List Int) (f := V.int .i64) (l := 202) .n rfl rfl (.cons (.t rfl) .nil) rfl si_25 zv_2 rfl rfl rfl <|
                  q_appm (xs := x2.2.1) (ys := ([x2.1] : List Int)) (f := V.int .i64) (l := 203) .n rfl (.ow (.t rfl) rfl (take_all (by simp only [len_map, put_len] <;> rfl)) (by simp only [len_map, put_len] <;> rfl)) (.ow (.t rfl) rfl (take_all (by simp only [len_map, put_len] <;> rfl)) (by simp only [len_map, put_len] <;> rfl)) si_25 zv_2 rfl (by ((have he := congrArg List.length (show x2.2.1 = x_.shifts by assumption); (try dsimp only); simp only [List.length_append, List.length_cons, List.length_nil] at *; omega))) rfl rfl <|
                  q_nilc_ow .n (.t rfl) rfl <|
                  q_fld_ow .n (.t rfl) fo_76_5 rfl <|
                  q_st_boxm [.rp [.int .i64 x_.m_.Junctions, .sl 7 (x_.m_.Airways.map gAirway.v)], .sl 1 (x_.flows.map (V.int .i64)), .sl 4 (x_.list.map gJob.v), .sl 1 (x_.some_.map (V.int .i64)), .sl 1 (x_.best.map (V.int .i64)), .os 203 (x2.2.1 ++ ([x2.1] : List Int)).length, .int .i64 x_.count, .int .i64 (IntKind.wrap .i64 (x2.2.2 + 1)), .int .i64 x_.budget] .n rfl (.t rfl) (.t rfl) rfl ts_25 rfl rfl <|
                  Lex.nil) ?_
              refine run_seq ?_
              refine run_seq ?_
              refine run_region (q_move .n (.t rfl) rfl <|
                  q_callM (full := false) [(0, 0), (15, 203)] [(100, 204)] .n rfl .f en_55 (.cons (.t rfl) .nil) (.cons (.b (.mutp rfl)) .nil) (ih (gl23Search.mk x_.m_ x_.flows x_.list x_.some_ x_.best (x2.2.1 ++ ([x2.1] : List Int)) x_.count (IntKind.wrap .i64 (x2.2.2 + 1)) x_.budget) (by omega) (by omega) (by omega) (by ((have he := congrArg List.length (show x2.2.1 = x_.shifts by assumption); (try dsimp only); simp only [List.length_append, List.length_cons, List.length_nil] at *; omega))) (by omega) (by ((have he := congrArg List.length (show x2.2.1 = x_.shifts by assumption); (try dsimp only); simp only [List.length_append, List.length_cons, List.length_nil] at *; omega)))) ⟨rfl, rfl, trivial⟩ rfl rfl (fun h => Bool.noConfusion h) (fun h => Bool.noConfusion h) rfl <|
                  Lex.nil) ?_
              refine run_cond (.t rfl) rfl (fun h13 => ?_) (fun h13 => ?_)
              · try simp only [Bool.and_eq_true, Bool.or_eq_true, Bool.not_eq_true', Bool.and_eq_false_iff, Bool.or_eq_false_iff, Bool.not_eq_false', decide_eq_true_eq, decide_eq_false_iff_not, beq_iff_eq, bne_iff_ne, beq_eq_false_iff_ne, bne_eq_false_iff_eq, Bool.true_and, ne_eq, Decidable.not_not, Int.not_lt, Int.not_le, Nat.not_lt, Nat.not_le, strB_nil, strB_nil', strB_nnil, strB_nnil'] at h13
                refine run_seq ?_
                refine run_region (q_assign .n (.c rfl) rfl <|
                    Lex.nil) ?_
                exact run_ret [(100, 204)] (.cons (.t rfl rfl) .nil) rfl ⟨rfl, rfl, trivial⟩ rfl
              · try simp only [Bool.and_eq_true, Bool.or_eq_true, Bool.not_eq_true', Bool.and_eq_false_iff, Bool.or_eq_false_iff, Bool.not_eq_false', decide_eq_true_eq, decide_eq_false_iff_not, beq_iff_eq, bne_iff_ne, beq_eq_false_iff_ne, bne_eq_false_iff_eq, Bool.true_and, ne_eq, Decidable.not_not, Int.not_lt, Int.not_le, Nat.not_lt, Nat.not_le, strB_nil, strB_nil', strB_nnil, strB_nnil'] at h13
                refine run_skip ?_
                refine run_draw fmo (q_move .n (.t rfl) rfl <|
                    q_move .n (.t rfl) rfl <|
                    q_nilc_ow .n (.t rfl) rfl <|
                    q_fld_ow .n (.t rfl) fo_76_5 rfl <|
                    q_ld1_ow .n (.t rfl) rfl (.inr rfl) (fun _ => rfl) rfl ic_25 rfl <|
                    q_move .n (.t rfl) rfl <|
                    q_nilc_ow .n (.t rfl) rfl <|
                    q_fld_ow .n (.t rfl) fo_76_5 rfl <|
                    q_ld1_ow .n (.t rfl) rfl (.inr rfl) (fun _ => rfl) rfl ic_25 rfl <|
                    q_len .n (.t rfl) rfl rfl ss_25 rfl <|
                    q_int .n (.t rfl) (.c rfl) rfl rfl <|
                    q_cut_owm (xs := (self_ (gl23Search.mk x_.m_ x_.flows x_.list x_.some_ x_.best (x2.2.1 ++ ([x2.1] : List Int)) x_.count (IntKind.wrap .i64 (x2.2.2 + 1)) x_.budget)).2.shifts) (b := (IntKind.wrap .i64 (((self_ (gl23Search.mk x_.m_ x_.flows x_.list x_.some_ x_.best (x2.2.1 ++ ([x2.1] : List Int)) x_.count (IntKind.wrap .i64 (x2.2.2 + 1)) x_.budget)).2.shifts.length : Int) - 1))) .n (.t rfl) (.s (.t rfl)) sl_25 (fun _ => by ((have he := (show x2.2.1 = x_.shifts by assumption); simp only [he] at *; have hq := hself (gl23Search.mk x_.m_ x_.flows x_.list x_.some_ x_.best (x_.shifts ++ ([x2.1] : List Int)) x_.count (IntKind.wrap .i64 (x2.2.2 + 1)) x_.budget) (by (try dsimp only); (try simp only [List.length_append, List.length_cons, List.length_nil]); omega) (by (try dsimp only); omega) (by (try dsimp only); (try simp only [List.length_append, List.length_cons, List.length_nil]); omega) (by assumption); (try dsimp only at hq); rw [hq]; simp only [List.length_append, List.length_cons, List.length_nil]; rw [wr64 (by omega)]; omega))) rfl <|
                    q_nilc_ow .n (.t rfl) rfl <|
                    q_fld_ow .n (.t rfl) fo_76_5 rfl <|
                    q_st_boxm [.rp [.int .i64 x_.m_.Junctions, .sl 7 (x_.m_.Airways.map gAirway.v)], .sl 1 (x_.flows.map (V.int .i64)), .sl 4 (x_.list.map gJob.v), .sl 1 (x_.some_.map (V.int .i64)), .sl 1 (x_.best.map (V.int .i64)), .os 204 (pre' (self_ (gl23Search.mk x_.m_ x_.flows x_.list x_.some_ x_.best (x2.2.1 ++ ([x2.1] : List Int)) x_.count (IntKind.wrap .i64 (x2.2.2 + 1)) x_.budget)).2.shifts (IntKind.wrap .i64 (((self_ (gl23Search.mk x_.m_ x_.flows x_.list x_.some_ x_.best (x2.2.1 ++ ([x2.1] : List Int)) x_.count (IntKind.wrap .i64 (x2.2.2 + 1)) x_.budget)).2.shifts.length : Int) - 1))).length, .int .i64 x_.count, .int .i64 (self_ (gl23Search.mk x_.m_ x_.flows x_.list x_.some_ x_.best (x2.2.1 ++ ([x2.1] : List Int)) x_.count (IntKind.wrap .i64 (x2.2.2 + 1)) x_.budget)).2.nodes, .int .i64 x_.budget] .n rfl (.t rfl) (.t rfl) rfl ts_25 rfl rfl <|
                    Lex.nil) (by kernel_rfl) ?_
                refine run_shrink (f := V.int .i64) (xs := (self_ (gl23Search.mk x_.m_ x_.flows x_.list x_.some_ x_.best (x2.2.1 ++ ([x2.1] : List Int)) x_.count (IntKind.wrap .i64 (x2.2.2 + 1)) x_.budget)).2.shifts) (l := 204) (IntKind.wrap .i64 (((self_ (gl23Search.mk x_.m_ x_.flows x_.list x_.some_ x_.best (x2.2.1 ++ ([x2.1] : List Int)) x_.count (IntKind.wrap .i64 (x2.2.2 + 1)) x_.budget)).2.shifts.length : Int) - 1)) rfl ?_
                refine run_endB ?_
                refine run_region (q_move .n (.t rfl) rfl <|
                    q_add .n (.t rfl) (.c rfl) (fun _ => by omega) rfl <|
                    q_assign .n (.t rfl) rfl <|
                    Lex.nil) ?_
                exact run_again (x2.1 + 1, pre' (self_ (gl23Search.mk x_.m_ x_.flows x_.list x_.some_ x_.best (x2.2.1 ++ ([x2.1] : List Int)) x_.count (IntKind.wrap .i64 (x2.2.2 + 1)) x_.budget)).2.shifts (IntKind.wrap .i64 (((self_ (gl23Search.mk x_.m_ x_.flows x_.list x_.some_ x_.best (x2.2.1 ++ ([x2.1] : List Int)) x_.count (IntKind.wrap .i64 (x2.2.2 + 1)) x_.budget)).2.shifts.length : Int) - 1)), (self_ (gl23Search.mk x_.m_ x_.flows x_.list x_.some_ x_.best (x2.2.1 ++ ([x2.1] : List Int)) x_.count (IntKind.wrap .i64 (x2.2.2 + 1)) x_.budget)).2.nodes) ⟨by omega, by ((have he := (show x2.2.1 = x_.shifts by assumption); simp only [he] at *; have hq := hself (gl23Search.mk x_.m_ x_.flows x_.list x_.some_ x_.best (x_.shifts ++ ([x2.1] : List Int)) x_.count (IntKind.wrap .i64 (x2.2.2 + 1)) x_.budget) (by (try dsimp only); (try simp only [List.length_append, List.length_cons, List.length_nil]); omega) (by (try dsimp only); omega) (by (try dsimp only); (try simp only [List.length_append, List.length_cons, List.length_nil]); omega) (by assumption); (try dsimp only at hq); rw [hq, app_cut (by omega)]))⟩ (by omega) (sub_of [(200, 204)] ⟨rfl, rfl, rfl, rfl, trivial⟩ ⟨rfl, rfl, trivial⟩ rfl)
        · try simp only [Bool.and_eq_true, Bool.or_eq_true, Bool.not_eq_true', Bool.and_eq_false_iff, Bool.or_eq_false_iff, Bool.not_eq_false', decide_eq_true_eq, decide_eq_false_iff_not, beq_iff_eq, bne_iff_ne, beq_eq_false_iff_ne, bne_eq_false_iff_eq, Bool.true_and, ne_eq, Decidable.not_not, Int.not_lt, Int.not_le, Nat.not_lt, Nat.not_le, strB_nil, strB_nil', strB_nnil, strB_nnil'] at h10
          refine run_exit rfl ?_
          exact run_cont hk8 (x2.1, x2.2.1, x2.2.2) ⟨by omega, by omega⟩ (sub_of [] trivial ⟨rfl, rfl, trivial⟩ rfl)
    · intro rec1 k1 hk4 x1 i5
      obtain ⟨e22, e23⟩ := i5
      try dsimp only at *
      refine run_seq ?_
      refine run_seq ?_
      refine run_region (q_move .n (.t rfl) rfl <|
          q_move .n (.t rfl) rfl <|
          q_nilc_ow .n (.t rfl) rfl <|
          q_fld_ow .n (.t rfl) fo_76_5 rfl <|
          q_ld1_ow .n (.t rfl) rfl (.inr rfl) (fun _ => rfl) rfl ic_25 rfl <|
          q_len .n (.t rfl) rfl rfl ss_25 rfl <|
          q_int .n (.t rfl) (.t rfl) rfl rfl <|
          Lex.nil) ?_
      refine run_cond (.t rfl) rfl (fun h6 => ?_) (fun h6 => ?_)
      · try simp only [Bool.and_eq_true, Bool.or_eq_true, Bool.not_eq_true', Bool.and_eq_false_iff, Bool.or_eq_false_iff, Bool.not_eq_false', decide_eq_true_eq, decide_eq_false_iff_not, beq_iff_eq, bne_iff_ne, beq_eq_false_iff_ne, bne_eq_false_iff_eq, Bool.true_and, ne_eq, Decidable.not_not, Int.not_lt, Int.not_le, Nat.not_lt, Nat.not_le, strB_nil, strB_nil', strB_nnil, strB_nnil'] at h6
        refine run_skip ?_
        refine run_seq ?_
        refine run_block ?_
        refine run_region (q_move .n (.t rfl) rfl <|
            q_move .n (.t rfl) rfl <|
            q_nilc_ow .n (.t rfl) rfl <|
            q_fld_ow .n (.t rfl) fo_76_5 rfl <|
            q_ld1_ow .n (.t rfl) rfl (.inr rfl) (fun _ => rfl) rfl ic_25 rfl <|
            q_move .n (.t rfl) rfl <|
            q_idx_ow .n (.t rfl) (.t rfl) sl_25 (fun _ => by omega) rfl <|
            q_ld1_row .n (.t rfl) rfl (fun _ => by omega) rfl rfl rfl ic_2 rfl <|
            q_int .n (.t rfl) (.c rfl) rfl rfl <|
            q_call0 (full := false) .n .f en_90 (.cons (.t rfl) (.cons (.t rfl) .nil)) (.cons (.b (.a (.same rfl))) (.cons (.b (.a (.same rfl))) .nil)) (fun hg => c_spec_l00Max x1.1 (IntKind.wrap .i64 ((at' x_.shifts x1.2) + 1))) rfl (fun h => Bool.noConfusion h) rfl <|
            q_assign .n (.t rfl) rfl <|
            Lex.nil) ?_
        refine run_endB ?_
        refine run_region (q_move .n (.t rfl) rfl <|
            q_add .n (.t rfl) (.c rfl) (fun _ => by omega) rfl <|
            q_assign .n (.t rfl) rfl <|
            Lex.nil) ?_
        exact run_again (m_spec_l00Max x1.1 (IntKind.wrap .i64 ((at' x_.shifts x1.2) + 1)), x1.2 + 1) ⟨by omega, by omega⟩ (by omega) (sub_of [] ⟨rfl, rfl, rfl, rfl, trivial⟩ ⟨rfl, rfl, trivial⟩ rfl)
      · try simp only [Bool.and_eq_true, Bool.or_eq_true, Bool.not_eq_true', Bool.and_eq_false_iff, Bool.or_eq_false_iff, Bool.not_eq_false', decide_eq_true_eq, decide_eq_false_iff_not, beq_iff_eq, bne_iff_ne, beq_eq_false_iff_ne, bne_eq_false_iff_eq, Bool.true_and, ne_eq, Decidable.not_not, Int.not_lt, Int.not_le, Nat.not_lt, Nat.not_le, strB_nil, strB_nil', strB_nnil, strB_nnil'] at h6
        refine run_exit rfl ?_
        exact run_cont hk4 (x1.1, x1.2) ⟨by omega, by omega, by omega⟩ (sub_of [] ⟨rfl, rfl, rfl, trivial⟩ ⟨rfl, rfl, trivial⟩ rfl)
theorem c_spec_l23Search_place (x_ : gl23Search) (hp1 : MineIn x_.m_) (hp2 : FlowsIn x_.m_ x_.flows) (hp3 : JobsIn x_.m_ x_.list) (hp4 : (x_.shifts.length : Int) ≤ x_.list.length) (hp5 : 0 ≤ x_.count ∧ x_.count ≤ 100000) : Con Try.prog 55 [.op 0 0 0 0] [(0, some (.box 76 [.rp [.int .i64 x_.m_.Junctions, .sl 7 (x_.m_.Airways.map gAirway.v)], .sl 1 (x_.flows.map (V.int .i64)), .sl 4 (x_.list.map gJob.v), .sl 1 (x_.some_.map (V.int .i64)), .sl 1 (x_.best.map (V.int .i64)), .os 15 x_.shifts.length, .int .i64 x_.count, .int .i64 x_.nodes, .int .i64 x_.budget])), (15, some (.row 2 1 (x_.shifts.map (V.int .i64))))] (.bool (m_spec_l23Search_place x_).1) ([(100, some (.row 2 1 ((m_spec_l23Search_place x_).2.shifts.map (V.int .i64)))), (0, some (.box 76 [.rp [.int .i64 x_.m_.Junctions, .sl 7 (x_.m_.Airways.map gAirway.v)], .sl 1 (x_.flows.map (V.int .i64)), .sl 4 (x_.list.map gJob.v), .sl 1 (x_.some_.map (V.int .i64)), .sl 1 (x_.best.map (V.int .i64)), .os 100 (m_spec_l23Search_place x_).2.shifts.length, .int .i64 x_.count, .int .i64 (m_spec_l23Search_place x_).2.nodes, .int .i64 x_.budget]))]) := by
  exact c_spec_l23Search_place_n (((x_.list.length : Int) - x_.shifts.length).toNat + 1) x_ hp1 hp2 hp3 hp4 hp5 (by omega)


/-! ### spec_FewestShifts -/
set_option maxRecDepth 100000 in
theorem c_spec_FewestShifts (m_ : gMine) (flows : List Int) (list : List gJob) (budget : Int) : Con Try.prog 21 [.st [.int .i64 m_.Junctions, .sl 7 (m_.Airways.map gAirway.v)], .sl 1 (flows.map (V.int .i64)), .sl 4 (list.map gJob.v), .int .i64 budget] [] (.tup [.os 100 (m_spec_FewestShifts m_ flows list budget).1.length, .int .i64 (m_spec_FewestShifts m_ flows list budget).2.1, .int .i64 (m_spec_FewestShifts m_ flows list budget).2.2]) ([(100, some (.row 2 1 ((m_spec_FewestShifts m_ flows list budget).1.map (V.int .i64))))]) := by
  refine ConG.con ?_ rfl (hr_row (fun _ => rfl) hr_nil)
  refine con_introG (out := fun r : (List Int) × Int × Int => ((.tup [.os 100 r.1.length, .int .i64 r.2.1, .int .i64 r.2.2] : V), ([(100, some (.row 2 1 (r.1.map (V.int .i64))))] : List (Nat × Option O)))) (r := (m_spec_FewestShifts m_ flows list budget)) Try.func21 rfl Try.ntmps21 rfl ?_
  refine run_factS (t := 0) 1 rfl rfl fun hl => ?_
  have l1 := hl; clear hl; simp only [List.length_map] at l1
  refine run_fact (t := 1) rfl fun hl => ?_
  have l2 := hl; clear hl; simp only [List.length_map] at l2
  refine run_fact (t := 2) rfl fun hl => ?_
  have l3 := hl; clear hl; simp only [List.length_map] at l3
  refine run_seq ?_
  refine run_region (q_box (l := 200) .n rfl (.t rfl) rfl rfl rfl rfl <|
      q_assign .n (.c rfl) rfl <|
      q_assign .n (.c rfl) rfl <|
      q_assign .n (.c rfl) rfl <|
      Lex.nil) ?_
  refine run_seq ?_
  refine run_region (q_move .n (.t rfl) rfl <|
      q_move .n (.t rfl) rfl <|
      q_move .n (.t rfl) rfl <|
      q_call0 (full := true) .n .f en_42 (.cons (.t rfl) (.cons (.t rfl) (.cons (.t rfl) (.cons (.t rfl) .nil)))) (.cons (.b (.ptr rfl rfl (.inr rfl) rfl rfl (.cons (.same rfl) (.cons (.same rfl) .nil)))) (.cons (.b (.a (.same rfl))) (.cons (.b (.a (.same rfl))) (.cons (.b (.a (.same rfl))) .nil)))) (fun hg => c_spec_l23Begin m_ flows list budget) rfl (fun _ => rfl) rfl <|
      q_assign .n (.t rfl) rfl <|
      Lex.nil) ?_
  refine run_seq ?_
  refine run_seq ?_
  refine run_region (q_move .n (.t rfl) rfl <|
      q_int .n (.t rfl) (.c rfl) rfl rfl <|
      Lex.nil) ?_
  refine run_cond (.t rfl) rfl (fun h4 => ?_) (fun h4 => ?_)
  · try simp only [Bool.and_eq_true, Bool.or_eq_true, Bool.not_eq_true', Bool.and_eq_false_iff, Bool.or_eq_false_iff, Bool.not_eq_false', decide_eq_true_eq, decide_eq_false_iff_not, beq_iff_eq, bne_iff_ne, beq_eq_false_iff_ne, bne_eq_false_iff_eq, Bool.true_and, ne_eq, Decidable.not_not, Int.not_lt, Int.not_le, Nat.not_lt, Nat.not_le, strB_nil, strB_nil', strB_nnil, strB_nnil'] at h4
    try have hf0h4 := l23Begin_impM h4
    try have hf1h4 := l23Begin_impM h4.1
    try have hf2h4 := l23Begin_impM h4.2
    try have hf3h4 := l23Begin_impM h4.1.1
    try have hf4h4 := l23Begin_impM h4.1.2
    try have hf5h4 := l23Begin_impM h4.2.1
    try have hf6h4 := l23Begin_impM h4.2.2
    try have hf7h4 := l23Begin_impF h4
    try have hf8h4 := l23Begin_impF h4.1
    try have hf9h4 := l23Begin_impF h4.2
    try have hf10h4 := l23Begin_impF h4.1.1
    try have hf11h4 := l23Begin_impF h4.1.2
    try have hf12h4 := l23Begin_impF h4.2.1
    try have hf13h4 := l23Begin_impF h4.2.2
    try have hf14h4 := l23Begin_impS h4
    try have hf15h4 := l23Begin_impS h4.1
    try have hf16h4 := l23Begin_impS h4.2
    try have hf17h4 := l23Begin_impS h4.1.1
    try have hf18h4 := l23Begin_impS h4.1.2
    try have hf19h4 := l23Begin_impS h4.2.1
    try have hf20h4 := l23Begin_impS h4.2.2
    try have hf21h4 := l23Begin_impJ h4
    try have hf22h4 := l23Begin_impJ h4.1
    try have hf23h4 := l23Begin_impJ h4.2
    try have hf24h4 := l23Begin_impJ h4.1.1
    try have hf25h4 := l23Begin_impJ h4.1.2
    try have hf26h4 := l23Begin_impJ h4.2.1
    try have hf27h4 := l23Begin_impJ h4.2.2
    try have hf28h4 := l23Begin_impB h4
    try have hf29h4 := l23Begin_impB h4.1
    try have hf30h4 := l23Begin_impB h4.2
    try have hf31h4 := l23Begin_impB h4.1.1
    try have hf32h4 := l23Begin_impB h4.1.2
    try have hf33h4 := l23Begin_impB h4.2.1
    try have hf34h4 := l23Begin_impB h4.2.2
    refine run_seq ?_
    refine run_region (q_move .n (.t rfl) rfl <|
        q_assign .n (.c rfl) rfl <|
        q_assign .n (.c rfl) rfl <|
        q_assign .n (.t rfl) rfl <|
        Lex.nil) ?_
    refine run_sub (sub_adopt (t := 8) (l := 201) (el := 2) (sz := 1) rfl rfl) ?_
    exact run_ret [(100, 201)] (.cons (.t rfl rfl) (.cons (.t rfl rfl) (.cons (.t rfl rfl) .nil))) (by first | rfl | (simp only [put_len]; rfl)) ⟨rfl, trivial⟩ rfl
  · try simp only [Bool.and_eq_true, Bool.or_eq_true, Bool.not_eq_true', Bool.and_eq_false_iff, Bool.or_eq_false_iff, Bool.not_eq_false', decide_eq_true_eq, decide_eq_false_iff_not, beq_iff_eq, bne_iff_ne, beq_eq_false_iff_ne, bne_eq_false_iff_eq, Bool.true_and, ne_eq, Decidable.not_not, Int.not_lt, Int.not_le, Nat.not_lt, Nat.not_le, strB_nil, strB_nil', strB_nnil, strB_nnil'] at h4
    try have hf0h4 := l23Begin_impM h4
    try have hf1h4 := l23Begin_impM h4.1
    try have hf2h4 := l23Begin_impM h4.2
    try have hf3h4 := l23Begin_impM h4.1.1
    try have hf4h4 := l23Begin_impM h4.1.2
    try have hf5h4 := l23Begin_impM h4.2.1
    try have hf6h4 := l23Begin_impM h4.2.2
    try have hf7h4 := l23Begin_impF h4
    try have hf8h4 := l23Begin_impF h4.1
    try have hf9h4 := l23Begin_impF h4.2
    try have hf10h4 := l23Begin_impF h4.1.1
    try have hf11h4 := l23Begin_impF h4.1.2
    try have hf12h4 := l23Begin_impF h4.2.1
    try have hf13h4 := l23Begin_impF h4.2.2
    try have hf14h4 := l23Begin_impS h4
    try have hf15h4 := l23Begin_impS h4.1
    try have hf16h4 := l23Begin_impS h4.2
    try have hf17h4 := l23Begin_impS h4.1.1
    try have hf18h4 := l23Begin_impS h4.1.2
    try have hf19h4 := l23Begin_impS h4.2.1
    try have hf20h4 := l23Begin_impS h4.2.2
    try have hf21h4 := l23Begin_impJ h4
    try have hf22h4 := l23Begin_impJ h4.1
    try have hf23h4 := l23Begin_impJ h4.2
    try have hf24h4 := l23Begin_impJ h4.1.1
    try have hf25h4 := l23Begin_impJ h4.1.2
    try have hf26h4 := l23Begin_impJ h4.2.1
    try have hf27h4 := l23Begin_impJ h4.2.2
    try have hf28h4 := l23Begin_impB h4
    try have hf29h4 := l23Begin_impB h4.1
    try have hf30h4 := l23Begin_impB h4.2
    try have hf31h4 := l23Begin_impB h4.1.1
    try have hf32h4 := l23Begin_impB h4.1.2
    try have hf33h4 := l23Begin_impB h4.2.1
    try have hf34h4 := l23Begin_impB h4.2.2
    refine run_skip ?_
    refine run_seq ?_
    refine run_seq ?_
    refine run_region (q_assign .n (.c rfl) rfl <|
        Lex.nil) ?_
    refine run_block ?_
    refine run_LOOPG (m_spec_FewestShifts_b1 m_ flows list budget) _ _ _ rfl (fun (x1 : Int) => 0 ≤ x1 ∧ x1 ≤ (list.length : Int) ∧ FitTo m_ flows list x1) (fun x1 => 0 ≤ x1 ∧ x1 ≤ (list.length : Int) ∧ FitTo m_ flows list x1 ∧ (list.length : Int) ≤ x1) (fun x1 => ((list.length : Int) - x1 : Int).toNat) (fun x1 => ⟨[(1, some (true, .sl 1 (flows.map (V.int .i64)))), (2, some (true, .sl 4 (list.map gJob.v))), (3, some (true, .int .i64 budget)), (4, some (true, .op 200 0 0 0)), (12, some (true, .int .i64 x1))], [(200, some (.box 33 [.int .i64 m_.Junctions, .sl 7 (m_.Airways.map gAirway.v)]))]⟩) (fun x1 => ⟨[(1, some (true, .sl 1 (flows.map (V.int .i64)))), (2, some (true, .sl 4 (list.map gJob.v))), (3, some (true, .int .i64 budget)), (4, some (true, .op 200 0 0 0))], [(200, some (.box 33 [.int .i64 m_.Junctions, .sl 7 (m_.Airways.map gAirway.v)]))]⟩) ⟨by omega, by omega, by (exact FitTo.nil)⟩ (by omega) (sub_of [] ⟨rfl, rfl, rfl, rfl, rfl, trivial⟩ ⟨rfl, trivial⟩ rfl) rfl ?_ ?_
    · intro x1 i9
      obtain ⟨e19, e20, e21, e22⟩ := i9
      try dsimp only at *
      refine run_seq ?_
      refine run_ro <| ro_lex (l1 := [_, _, _]) (l2 := [_, _, _]) rfl (q_move .n (.t rfl) rfl <|
          q_move .n (.t rfl) rfl <|
          q_move .n (.t rfl) rfl <|
          Lex.nil) <|
          ro_freezeBL (l := 200) [4] ⟨rfl, trivial⟩ rfl rfl rfl <|
          ro_lex (l1 := [_, _, _]) (l2 := []) rfl (q_build (us := [.rp [.int .i64 m_.Junctions, .sl 7 (m_.Airways.map gAirway.v)], .sl 1 (flows.map (V.int .i64)), .sl 4 (list.map gJob.v), .nls, .nls, .nls, .int .i64 0, .int .i64 0, .int .i64 budget]) .n (.cons (.t rfl) (.cons (.t rfl) (.cons (.t rfl) (.cons (.t rfl) .nil)))) zv_76 pl_76 rfl rfl rfl <|
          q_box (l := 204) .n rfl (.t rfl) rfl rfl rfl rfl <|
          q_assign .n (.t rfl) rfl <|
          Lex.nil) <|
          ro_end ?_
      refine run_seq ?_
      refine run_block ?_
      refine run_sub (sub_nlsB (b := 204) [.rp [.int .i64 m_.Junctions, .sl 7 (m_.Airways.map gAirway.v)], .sl 1 (flows.map (V.int .i64)), .sl 4 (list.map gJob.v), .sl 1 (([] : List Int).map (V.int .i64)), .nls, .nls, .int .i64 0, .int .i64 0, .int .i64 budget] rfl ⟨.inl rfl, .inl rfl, .inl rfl, .inr ⟨rfl, _, rfl⟩, .inl rfl, .inl rfl, .inl rfl, .inl rfl, .inl rfl, trivial⟩) ?_
      refine run_sub (sub_nlsB (b := 204) [.rp [.int .i64 m_.Junctions, .sl 7 (m_.Airways.map gAirway.v)], .sl 1 (flows.map (V.int .i64)), .sl 4 (list.map gJob.v), .sl 1 (([] : List Int).map (V.int .i64)), .sl 1 (([] : List Int).map (V.int .i64)), .nls, .int .i64 0, .int .i64 0, .int .i64 budget] rfl ⟨.inl rfl, .inl rfl, .inl rfl, .inl rfl, .inr ⟨rfl, _, rfl⟩, .inl rfl, .inl rfl, .inl rfl, .inl rfl, trivial⟩) ?_
      refine run_sub (sub_adoptb (b := 204) (l := 207) (el := 2) (sz := 1) 5 rfl rfl rfl rfl) ?_
      refine run_LOOPG (m_spec_FewestShifts_b2 m_ flows list budget x1) _ _ _ rfl (fun (x2 : Int × Int × (List Int)) => x2.2.2 = [] ∧ (0 ≤ x2.2.1 ∧ x2.2.1 ≤ budget) ∧ (0 ≤ x2.1 ∧ x2.1 ≤ x2.2.1 + 1)) (fun x2 => x2.2.2.length ≤ 1000) (fun x2 => (2 * (budget - x2.2.1) + (if x2.1 = 0 then 1 else 0)).toNat) (fun x2 => ⟨[(3, some (true, .int .i64 budget)), (13, some (true, .op 204 0 0 0))], [(204, some (.box 76 [.rp [.int .i64 m_.Junctions, .sl 7 (m_.Airways.map gAirway.v)], .sl 1 (flows.map (V.int .i64)), .sl 4 (list.map gJob.v), .sl 1 (([] : List Int).map (V.int .i64)), .sl 1 (([] : List Int).map (V.int .i64)), .os 207 x2.2.2.length, .int .i64 x2.1, .int .i64 x2.2.1, .int .i64 budget])), (207, some (.row 2 1 (x2.2.2.map (V.int .i64))))]⟩) (fun x2 => ⟨[(3, some (true, .int .i64 budget)), (13, some (true, .op 204 0 0 0))], [(204, some (.box 76 [.rp [.int .i64 m_.Junctions, .sl 7 (m_.Airways.map gAirway.v)], .sl 1 (flows.map (V.int .i64)), .sl 4 (list.map gJob.v), .sl 1 (([] : List Int).map (V.int .i64)), .sl 1 (([] : List Int).map (V.int .i64)), .os 207 x2.2.2.length, .int .i64 x2.1, .int .i64 x2.2.1, .int .i64 budget])), (207, some (.row 2 1 (x2.2.2.map (V.int .i64))))]⟩) ⟨by (simp only [List.length_append, List.length_cons, List.length_nil, List.length_replicate, put_len] at * <;> omega), by (simp only [List.length_append, List.length_cons, List.length_nil, List.length_replicate, put_len] at * <;> omega), by (simp only [List.length_append, List.length_cons, List.length_nil, List.length_replicate, put_len] at * <;> omega)⟩ (by (simp only [List.length_append, List.length_cons, List.length_nil, List.length_replicate, put_len] at * <;> omega)) (sub_of [] ⟨rfl, rfl, trivial⟩ ⟨rfl, rfl, trivial⟩ rfl) rfl ?_ ?_
      · intro x2 i13
        have e15 := i13
        try dsimp only at *
        refine run_seq ?_
        refine run_seq ?_
        refine run_region (q_move .n (.t rfl) rfl <|
            q_nilc_ow .n (.t rfl) rfl <|
            q_fld_ow .n (.t rfl) fo_76_7 rfl <|
            q_ld1_ow .n (.t rfl) rfl (.inr rfl) (fun _ => rfl) rfl ic_2 rfl <|
            q_move .n (.t rfl) rfl <|
            q_int .n (.t rfl) (.t rfl) rfl rfl <|
            Lex.nil) ?_
        refine run_cond (.t rfl) rfl (fun h14 => ?_) (fun h14 => ?_)
        · try simp only [Bool.and_eq_true, Bool.or_eq_true, Bool.not_eq_true', Bool.and_eq_false_iff, Bool.or_eq_false_iff, Bool.not_eq_false', decide_eq_true_eq, decide_eq_false_iff_not, beq_iff_eq, bne_iff_ne, beq_eq_false_iff_ne, bne_eq_false_iff_eq, Bool.true_and, ne_eq, Decidable.not_not, Int.not_lt, Int.not_le, Nat.not_lt, Nat.not_le, strB_nil, strB_nil', strB_nnil, strB_nnil'] at h14
          refine run_seq ?_
          refine run_region (q_assign .n (.c rfl) rfl <|
              q_assign .n (.c rfl) rfl <|
              q_assign .n (.c rfl) rfl <|
              Lex.nil) ?_
          refine run_sub (sub_adopt (t := 8) (l := 210) (el := 2) (sz := 1) rfl rfl) ?_
          exact run_ret [(100, 210)] (.cons (.t rfl rfl) (.cons (.t rfl rfl) (.cons (.t rfl rfl) .nil))) (by first | rfl | (simp only [put_len]; rfl)) ⟨rfl, trivial⟩ rfl
        · try simp only [Bool.and_eq_true, Bool.or_eq_true, Bool.not_eq_true', Bool.and_eq_false_iff, Bool.or_eq_false_iff, Bool.not_eq_false', decide_eq_true_eq, decide_eq_false_iff_not, beq_iff_eq, bne_iff_ne, beq_eq_false_iff_ne, bne_eq_false_iff_eq, Bool.true_and, ne_eq, Decidable.not_not, Int.not_lt, Int.not_le, Nat.not_lt, Nat.not_le, strB_nil, strB_nil', strB_nnil, strB_nnil'] at h14
          refine run_skip ?_
          refine run_seq ?_
          refine run_draw fmo (q_move .n (.t rfl) rfl <|
              q_nilc_ow .n (.t rfl) rfl <|
              q_fld_ow .n (.t rfl) fo_76_5 rfl <|
              q_ld1_ow .n (.t rfl) rfl (.inr rfl) (fun _ => rfl) rfl ic_25 rfl <|
              q_callM (full := true) [] [(100, 211)] .n rfl .f en_44 (.cons (.t rfl) .nil) (.cons (.b (.a (.own rfl rfl rfl (take_all (by simp only [len_map, put_len] <;> rfl)) (by simp only [len_map, put_len] <;> rfl)))) .nil) (c_spec_l00Own x2.2.2 (by omega)) trivial rfl rfl (fun _ => rfl) (fun _ => (hr_row (fun _ => rfl) hr_nil)) rfl <|
              q_move .n (.t rfl) rfl <|
              q_nilc_ow .n (.t rfl) rfl <|
              q_fld_ow .n (.t rfl) fo_76_6 rfl <|
              q_ld1_ow .n (.t rfl) rfl (.inr rfl) (fun _ => rfl) rfl ic_2 rfl <|
              q_assign .n (.t rfl) rfl <|
              q_assign .n (.t rfl) rfl <|
              q_assign .n (.c rfl) rfl <|
              Lex.nil) (by kernel_rfl) ?_
          exact run_ret [(100, 211)] (.cons (.t rfl rfl) (.cons (.t rfl rfl) (.cons (.t rfl rfl) .nil))) (by first | rfl | (simp only [put_len]; rfl)) ⟨rfl, trivial⟩ rfl
      · intro rec2 k2 hk10 x2 i11
        obtain ⟨e16, e17, e18⟩ := i11
        try dsimp only at *
        refine run_seq ?_
        refine run_seq ?_
        refine run_region (q_move .n (.t rfl) rfl <|
            q_callM (full := false) [(0, 204), (15, 207)] [(100, 208)] .n rfl .f en_55 (.cons (.t rfl) .nil) (.cons (.b (.mutp rfl)) .nil) (c_spec_l23Search_place (gl23Search.mk m_ flows list ([] : List Int) ([] : List Int) x2.2.2 x2.1 x2.2.1 budget) (by omega) (by omega) (by omega) (by ((have he := (show x2.2.2 = [] by assumption); (try dsimp only); rw [he]; simp only [List.length_nil]; omega))) (by (simp only [List.length_append, List.length_cons, List.length_nil, List.length_replicate, put_len] at * <;> omega))) ⟨rfl, rfl, trivial⟩ rfl rfl (fun h => Bool.noConfusion h) (fun h => Bool.noConfusion h) rfl <|
            q_not .n (.t rfl) rfl <|
            Lex.nil) ?_
        refine run_cond (.t rfl) rfl (fun h12 => ?_) (fun h12 => ?_)
        · try simp only [Bool.and_eq_true, Bool.or_eq_true, Bool.not_eq_true', Bool.and_eq_false_iff, Bool.or_eq_false_iff, Bool.not_eq_false', decide_eq_true_eq, decide_eq_false_iff_not, beq_iff_eq, bne_iff_ne, beq_eq_false_iff_ne, bne_eq_false_iff_eq, Bool.true_and, ne_eq, Decidable.not_not, Int.not_lt, Int.not_le, Nat.not_lt, Nat.not_le, strB_nil, strB_nil', strB_nnil, strB_nnil'] at h12
          refine run_skip ?_
          refine run_block ?_
          refine run_seq ?_
          refine run_region (q_move .n (.t rfl) rfl <|
              q_nilc_ow .n (.t rfl) rfl <|
              q_fld_ow .n (.t rfl) fo_76_6 rfl <|
              q_ld1_ow .n (.t rfl) rfl (.inr rfl) (fun _ => rfl) rfl ic_2 rfl <|
              q_int .n (.t rfl) (.c rfl) rfl rfl <|
              q_nilc_ow .n (.t rfl) rfl <|
              q_fld_ow .n (.t rfl) fo_76_6 rfl <|
              q_st_boxm [.rp [.int .i64 m_.Junctions, .sl 7 (m_.Airways.map gAirway.v)], .sl 1 (flows.map (V.int .i64)), .sl 4 (list.map gJob.v), .sl 1 (([] : List Int).map (V.int .i64)), .sl 1 (([] : List Int).map (V.int .i64)), .os 208 (m_spec_l23Search_place (gl23Search.mk m_ flows list ([] : List Int) ([] : List Int) x2.2.2 x2.1 x2.2.1 budget)).2.shifts.length, .int .i64 (IntKind.wrap .i64 (x2.1 + 1)), .int .i64 (m_spec_l23Search_place (gl23Search.mk m_ flows list ([] : List Int) ([] : List Int) x2.2.2 x2.1 x2.2.1 budget)).2.nodes, .int .i64 budget] .n rfl (.t rfl) (.t rfl) rfl ts_2 rfl rfl <|
              Lex.nil) ?_
          refine run_region (q_move .n (.t rfl) rfl <|
              q_bslicem ([] : List Int) (f := V.int .i64) (l := 209) .n rfl rfl .nil rfl si_25 zv_2 rfl rfl rfl <|
              q_nilc_ow .n (.t rfl) rfl <|
              q_fld_ow .n (.t rfl) fo_76_5 rfl <|
              q_st_boxm [.rp [.int .i64 m_.Junctions, .sl 7 (m_.Airways.map gAirway.v)], .sl 1 (flows.map (V.int .i64)), .sl 4 (list.map gJob.v), .sl 1 (([] : List Int).map (V.int .i64)), .sl 1 (([] : List Int).map (V.int .i64)), .os 209 ([] : List Int).length, .int .i64 (IntKind.wrap .i64 (x2.1 + 1)), .int .i64 (m_spec_l23Search_place (gl23Search.mk m_ flows list ([] : List Int) ([] : List Int) x2.2.2 x2.1 x2.2.1 budget)).2.nodes, .int .i64 budget] .n rfl (.t rfl) (.t rfl) rfl ts_25 rfl rfl <|
              Lex.nil) ?_
          refine run_endB ?_
          exact run_againG (IntKind.wrap .i64 (x2.1 + 1), (m_spec_l23Search_place (gl23Search.mk m_ flows list ([] : List Int) ([] : List Int) x2.2.2 x2.1 x2.2.1 budget)).2.nodes, ([] : List Int)) ⟨by (simp only [List.length_append, List.length_cons, List.length_nil, List.length_replicate, put_len] at * <;> omega), by ((have he := (show x2.2.2 = [] by assumption); (try simp only [he] at *); have hW := wr64 (n := x2.1 + 1) (by omega); have hq := place_bd (B := budget) (nd := x2.2.1) (n := x2.1) (by assumption : FlowsIn m_ flows) (by assumption : JobsIn m_ list) (by omega) (by omega) (by assumption) (by omega) (by assumption); omega)), by ((have he := (show x2.2.2 = [] by assumption); (try simp only [he] at *); have hW := wr64 (n := x2.1 + 1) (by omega); have hq := place_bd (B := budget) (nd := x2.2.1) (n := x2.1) (by assumption : FlowsIn m_ flows) (by assumption : JobsIn m_ list) (by omega) (by omega) (by assumption) (by omega) (by assumption); omega))⟩ (by ((have he := (show x2.2.2 = [] by assumption); (try simp only [he] at *); have hW := wr64 (n := x2.1 + 1) (by omega); have hq := place_bd (B := budget) (nd := x2.2.1) (n := x2.1) (by assumption : FlowsIn m_ flows) (by assumption : JobsIn m_ list) (by omega) (by omega) (by assumption) (by omega) (by assumption); omega))) (sub_of [(207, 209)] ⟨rfl, rfl, trivial⟩ ⟨rfl, rfl, trivial⟩ rfl)
        · try simp only [Bool.and_eq_true, Bool.or_eq_true, Bool.not_eq_true', Bool.and_eq_false_iff, Bool.or_eq_false_iff, Bool.not_eq_false', decide_eq_true_eq, decide_eq_false_iff_not, beq_iff_eq, bne_iff_ne, beq_eq_false_iff_ne, bne_eq_false_iff_eq, Bool.true_and, ne_eq, Decidable.not_not, Int.not_lt, Int.not_le, Nat.not_lt, Nat.not_le, strB_nil, strB_nil', strB_nnil, strB_nnil'] at h12
          refine run_exit rfl ?_
          exact run_cont hk10 (x2.1, (m_spec_l23Search_place (gl23Search.mk m_ flows list ([] : List Int) ([] : List Int) x2.2.2 x2.1 x2.2.1 budget)).2.nodes, (m_spec_l23Search_place (gl23Search.mk m_ flows list ([] : List Int) ([] : List Int) x2.2.2 x2.1 x2.2.1 budget)).2.shifts) (by ((have he := (show x2.2.2 = [] by assumption); (try simp only [he] at *); exact place_len0 (by assumption : JobsIn m_ list)))) (sub_of [(207, 208)] ⟨rfl, rfl, trivial⟩ ⟨rfl, rfl, trivial⟩ rfl)
    · intro rec1 k1 hk5 x1 i6
      obtain ⟨e23, e24, e25⟩ := i6
      try dsimp only at *
      refine run_seq ?_
      refine run_seq ?_
      refine run_region (q_move .n (.t rfl) rfl <|
          q_move .n (.t rfl) rfl <|
          q_len .n (.t rfl) rfl len_map ss_36 rfl <|
          q_int .n (.t rfl) (.t rfl) rfl rfl <|
          Lex.nil) ?_
      refine run_cond (.t rfl) rfl (fun h7 => ?_) (fun h7 => ?_)
      · try simp only [Bool.and_eq_true, Bool.or_eq_true, Bool.not_eq_true', Bool.and_eq_false_iff, Bool.or_eq_false_iff, Bool.not_eq_false', decide_eq_true_eq, decide_eq_false_iff_not, beq_iff_eq, bne_iff_ne, beq_eq_false_iff_ne, bne_eq_false_iff_eq, Bool.true_and, ne_eq, Decidable.not_not, Int.not_lt, Int.not_le, Nat.not_lt, Nat.not_le, strB_nil, strB_nil', strB_nnil, strB_nnil'] at h7
        refine run_skip ?_
        refine run_seq ?_
        refine run_block ?_
        refine run_seq ?_
        refine run_region (q_move .n (.t rfl) rfl <|
            q_move .n (.t rfl) rfl <|
            q_move .n (.t rfl) rfl <|
            q_bslicem ([x1] : List Int) (f := V.int .i64) (l := 202) .n rfl rfl (.cons (.t rfl) .nil) rfl si_25 zv_2 rfl rfl rfl <|
            q_call0 (full := true) .n .f en_54 (.cons (.t rfl) (.cons (.t rfl) (.cons (.t rfl) (.cons (.t rfl) .nil)))) (.cons (.b (.ptr rfl rfl (.inr rfl) rfl rfl (.cons (.same rfl) (.cons (.same rfl) .nil)))) (.cons (.b (.a (.same rfl))) (.cons (.b (.a (.same rfl))) (.cons (.b (.a (.own rfl rfl rfl (take_all (by simp only [len_map, put_len] <;> rfl)) (by simp only [len_map, put_len] <;> rfl)))) .nil)))) (fun hg => c_spec_l23Fits m_ flows list ([x1] : List Int) (by omega) (by omega) (by (exact JobsIn.air (by assumption))) (by ((intro y hy; rw [List.mem_singleton] at hy; rw [hy]; omega)))) rfl (fun _ => rfl) rfl <|
            q_not .n (.t rfl) rfl <|
            Lex.nil) ?_
        refine run_cond (.t rfl) rfl (fun h8 => ?_) (fun h8 => ?_)
        · try simp only [Bool.and_eq_true, Bool.or_eq_true, Bool.not_eq_true', Bool.and_eq_false_iff, Bool.or_eq_false_iff, Bool.not_eq_false', decide_eq_true_eq, decide_eq_false_iff_not, beq_iff_eq, bne_iff_ne, beq_eq_false_iff_ne, bne_eq_false_iff_eq, Bool.true_and, ne_eq, Decidable.not_not, Int.not_lt, Int.not_le, Nat.not_lt, Nat.not_le, strB_nil, strB_nil', strB_nnil, strB_nnil'] at h8
          refine run_seq ?_
          refine run_region (q_assign .n (.c rfl) rfl <|
              q_assign .n (.c rfl) rfl <|
              q_assign .n (.c rfl) rfl <|
              Lex.nil) ?_
          refine run_sub (sub_adopt (t := 8) (l := 203) (el := 2) (sz := 1) rfl rfl) ?_
          exact run_ret [(100, 203)] (.cons (.t rfl rfl) (.cons (.t rfl rfl) (.cons (.t rfl rfl) .nil))) (by first | rfl | (simp only [put_len]; rfl)) ⟨rfl, trivial⟩ rfl
        · try simp only [Bool.and_eq_true, Bool.or_eq_true, Bool.not_eq_true', Bool.and_eq_false_iff, Bool.or_eq_false_iff, Bool.not_eq_false', decide_eq_true_eq, decide_eq_false_iff_not, beq_iff_eq, bne_iff_ne, beq_eq_false_iff_ne, bne_eq_false_iff_eq, Bool.true_and, ne_eq, Decidable.not_not, Int.not_lt, Int.not_le, Nat.not_lt, Nat.not_le, strB_nil, strB_nil', strB_nnil, strB_nnil'] at h8
          refine run_skip ?_
          refine run_endB ?_
          refine run_region (q_move .n (.t rfl) rfl <|
              q_add .n (.t rfl) (.c rfl) (fun _ => by omega) rfl <|
              q_assign .n (.t rfl) rfl <|
              Lex.nil) ?_
          exact run_againG (x1 + 1) ⟨by omega, by omega, by (exact FitTo.add (by assumption) (by assumption) (by assumption))⟩ (by omega) (sub_of [] ⟨rfl, rfl, rfl, rfl, rfl, trivial⟩ ⟨rfl, trivial⟩ rfl)
      · try simp only [Bool.and_eq_true, Bool.or_eq_true, Bool.not_eq_true', Bool.and_eq_false_iff, Bool.or_eq_false_iff, Bool.not_eq_false', decide_eq_true_eq, decide_eq_false_iff_not, beq_iff_eq, bne_iff_ne, beq_eq_false_iff_ne, bne_eq_false_iff_eq, Bool.true_and, ne_eq, Decidable.not_not, Int.not_lt, Int.not_le, Nat.not_lt, Nat.not_le, strB_nil, strB_nil', strB_nnil, strB_nnil'] at h7
        refine run_exit rfl ?_
        exact run_cont hk5 x1 ⟨by omega, by omega, by omega, by omega⟩ (sub_of [] ⟨rfl, rfl, rfl, rfl, trivial⟩ ⟨rfl, trivial⟩ rfl)

/-! ### impl_within -/
theorem c_impl_within (n_ : Int) (low : Int) (high : Int) : Con Try.prog 85 [.int .i64 n_, .int .i64 low, .int .i64 high] [] (.bool (m_impl_within n_ low high)) ([]) := by
  refine con_intro (out := fun r : Bool => ((.bool r : V), ([] : List (Nat × Option O)))) (r := (m_impl_within n_ low high)) Try.func85 rfl Try.ntmps85 rfl ?_
  refine run_seq ?_
  refine run_region (q_assign .n (.c rfl) rfl <|
      Lex.nil) ?_
  refine run_seq ?_
  refine run_region (q_move .n (.t rfl) rfl <|
      q_move .n (.t rfl) rfl <|
      q_int .n (.t rfl) (.t rfl) rfl rfl <|
      q_move .n (.t rfl) rfl <|
      q_move (.t rfl rfl) (.t rfl) rfl <|
      q_move (.t rfl rfl) (.t rfl) rfl <|
      q_int (.t rfl rfl) (.u rfl id) (.u rfl id) rfl rfl <|
      q_and .n (.t rfl) (.u rfl id) rfl <|
      q_assign .n (.t rfl) rfl <|
      Lex.nil) ?_
  exact run_ret [] (.cons (.t rfl rfl) .nil) rfl trivial rfl

/-! ### impl_onlyNameBytes -/
theorem c_impl_onlyNameBytes (s_ : List UInt8) (hp1 : s_.length ≤ 10) : Con Try.prog 130 [.str s_] [] (.bool (m_impl_onlyNameBytes s_)) ([]) := by
  refine con_intro (out := fun r : Bool => ((.bool r : V), ([] : List (Nat × Option O)))) (r := (m_impl_onlyNameBytes s_)) Try.func130 rfl Try.ntmps130 rfl ?_
  refine run_seq ?_
  refine run_region (q_assign .n (.c rfl) rfl <|
      Lex.nil) ?_
  refine run_seq ?_
  refine run_seq ?_
  refine run_region (q_move .n (.t rfl) rfl <|
      q_len .n (.t rfl) rfl rfl st_9 rfl <|
      q_move .n (.c rfl) rfl <|
      Lex.nil) ?_
  refine run_block ?_
  refine run_LOOP (m_impl_onlyNameBytes_b1 s_) _ _ _ rfl (fun (x1 : Int) => 0 ≤ x1 ∧ x1 ≤ (s_.length : Int)) (fun x1 => 0 ≤ x1 ∧ x1 ≤ (s_.length : Int) ∧ (s_.length : Int) ≤ x1) (fun x1 => ((s_.length : Int) - x1 : Int).toNat) (fun x1 => ⟨[(0, some (true, .str s_)), (6, some (true, .int .i64 (s_.length : Int))), (7, some (true, .int .i64 x1))], []⟩) (fun x1 => ⟨[], []⟩) ⟨by omega, by omega⟩ (by omega) (sub_of [] ⟨rfl, rfl, rfl, trivial⟩ trivial rfl) ?_ ?_
  · intro x1 i5
    obtain ⟨e6, e7, e8⟩ := i5
    try dsimp only at *
    refine run_seq ?_
    refine run_region (q_assign .n (.c rfl) rfl <|
        Lex.nil) ?_
    exact run_ret [] (.cons (.t rfl rfl) .nil) rfl trivial rfl
  · intro rec1 k1 hk1 x1 i2
    obtain ⟨e9, e10⟩ := i2
    try dsimp only at *
    refine run_seq ?_
    refine run_region (q_int .n (.t rfl) (.t rfl) rfl rfl <|
        Lex.nil) ?_
    refine run_seq ?_
    refine run_cond (.t rfl) rfl (fun h3 => ?_) (fun h3 => ?_)
    · try simp only [Bool.and_eq_true, Bool.or_eq_true, Bool.not_eq_true', Bool.and_eq_false_iff, Bool.or_eq_false_iff, Bool.not_eq_false', decide_eq_true_eq, decide_eq_false_iff_not, beq_iff_eq, bne_iff_ne, beq_eq_false_iff_ne, bne_eq_false_iff_eq, Bool.true_and, ne_eq, Decidable.not_not, Int.not_lt, Int.not_le, Nat.not_lt, Nat.not_le, strB_nil, strB_nil', strB_nnil, strB_nnil'] at h3
      refine run_skip ?_
      refine run_seq ?_
      refine run_block ?_
      refine run_seq ?_
      refine run_region (q_move .n (.t rfl) rfl <|
          q_assign .n (.t rfl) rfl <|
          Lex.nil) ?_
      refine run_seq ?_
      refine run_region (q_move .n (.t rfl) rfl <|
          q_move .n (.t rfl) rfl <|
          q_strat .n (.t rfl) (.t rfl) st_9 (fun _ => by omega) rfl <|
          q_assign .n (.t rfl) rfl <|
          Lex.nil) ?_
      refine run_seq ?_
      refine run_region (q_move .n (.t rfl) rfl <|
          q_int .n (.t rfl) (.c rfl) rfl rfl <|
          q_move .n (.t rfl) rfl <|
          q_move (.f rfl rfl) (.t rfl) rfl <|
          q_int (.f rfl rfl) (.u rfl id) (.c rfl) rfl rfl <|
          q_or .n (.t rfl) (.u rfl id) rfl <|
          q_move .n (.t rfl) rfl <|
          q_move (.t rfl rfl) (.t rfl) rfl <|
          q_int (.t rfl rfl) (.u rfl id) (.c rfl) rfl rfl <|
          q_move (.t rfl rfl) (.u rfl id) rfl <|
          q_move (.f rfl rfl) (.t rfl) rfl <|
          q_int (.f rfl rfl) (.u rfl id) (.c rfl) rfl rfl <|
          q_or (.t rfl rfl) (.u rfl id) (.u rfl id) rfl <|
          q_and .n (.t rfl) (.u rfl id) rfl <|
          Lex.nil) ?_
      refine run_cond (.t rfl) rfl (fun h4 => ?_) (fun h4 => ?_)
      · try simp only [Bool.and_eq_true, Bool.or_eq_true, Bool.not_eq_true', Bool.and_eq_false_iff, Bool.or_eq_false_iff, Bool.not_eq_false', decide_eq_true_eq, decide_eq_false_iff_not, beq_iff_eq, bne_iff_ne, beq_eq_false_iff_ne, bne_eq_false_iff_eq, Bool.true_and, ne_eq, Decidable.not_not, Int.not_lt, Int.not_le, Nat.not_lt, Nat.not_le, strB_nil, strB_nil', strB_nnil, strB_nnil'] at h4
        refine run_seq ?_
        refine run_region (q_assign .n (.c rfl) rfl <|
            Lex.nil) ?_
        exact run_ret [] (.cons (.t rfl rfl) .nil) rfl trivial rfl
      · try simp only [Bool.and_eq_true, Bool.or_eq_true, Bool.not_eq_true', Bool.and_eq_false_iff, Bool.or_eq_false_iff, Bool.not_eq_false', decide_eq_true_eq, decide_eq_false_iff_not, beq_iff_eq, bne_iff_ne, beq_eq_false_iff_ne, bne_eq_false_iff_eq, Bool.true_and, ne_eq, Decidable.not_not, Int.not_lt, Int.not_le, Nat.not_lt, Nat.not_le, strB_nil, strB_nil', strB_nnil, strB_nnil'] at h4
        refine run_skip ?_
        refine run_endB ?_
        refine run_region (q_add .n (.t rfl) (.c rfl) (fun _ => by omega) rfl <|
            q_move .n (.t rfl) rfl <|
            Lex.nil) ?_
        exact run_again (x1 + 1) ⟨by omega, by omega⟩ (by omega) (sub_of [] ⟨rfl, rfl, rfl, trivial⟩ trivial rfl)
    · try simp only [Bool.and_eq_true, Bool.or_eq_true, Bool.not_eq_true', Bool.and_eq_false_iff, Bool.or_eq_false_iff, Bool.not_eq_false', decide_eq_true_eq, decide_eq_false_iff_not, beq_iff_eq, bne_iff_ne, beq_eq_false_iff_ne, bne_eq_false_iff_eq, Bool.true_and, ne_eq, Decidable.not_not, Int.not_lt, Int.not_le, Nat.not_lt, Nat.not_le, strB_nil, strB_nil', strB_nnil, strB_nnil'] at h3
      refine run_exit rfl ?_
      exact run_cont hk1 x1 ⟨by omega, by omega, by omega⟩ (sub_of [] trivial trivial rfl)

/-! ### impl_IsName -/
theorem c_impl_IsName (s_ : List UInt8) : Con Try.prog 109 [.str s_] [] (.bool (m_impl_IsName s_)) ([]) := by
  refine con_intro (out := fun r : Bool => ((.bool r : V), ([] : List (Nat × Option O)))) (r := (m_impl_IsName s_)) Try.func109 rfl Try.ntmps109 rfl ?_
  refine run_seq ?_
  refine run_region (q_assign .n (.c rfl) rfl <|
      Lex.nil) ?_
  refine run_seq ?_
  refine run_seq ?_
  refine run_region (q_move .n (.t rfl) rfl <|
      q_len .n (.t rfl) rfl rfl st_9 rfl <|
      q_int .n (.t rfl) (.c rfl) rfl rfl <|
      q_move .n (.t rfl) rfl <|
      q_move (.f rfl rfl) (.t rfl) rfl <|
      q_len (.f rfl rfl) (.u rfl id) rfl rfl st_9 rfl <|
      q_int (.f rfl rfl) (.u rfl id) (.c rfl) rfl rfl <|
      q_or .n (.t rfl) (.u rfl id) rfl <|
      q_move .n (.t rfl) rfl <|
      q_move (.f rfl rfl) (.t rfl) rfl <|
      q_strat (.f rfl rfl) (.u rfl id) (.c rfl) st_9 (fun hg => by simp only [Bool.and_eq_true, Bool.or_eq_true, Bool.not_eq_true', Bool.and_eq_false_iff, Bool.or_eq_false_iff, Bool.not_eq_false', decide_eq_true_eq, decide_eq_false_iff_not, beq_iff_eq, bne_iff_ne, beq_eq_false_iff_ne, bne_eq_false_iff_eq, Bool.true_and, ne_eq, Decidable.not_not, Int.not_lt, Int.not_le, Nat.not_lt, Nat.not_le, strB_nil, strB_nil', strB_nnil, strB_nnil'] at hg; omega) rfl <|
      q_int (.f rfl rfl) (.u rfl id) (.c rfl) rfl rfl <|
      q_or .n (.t rfl) (.u rfl id) rfl <|
      q_move .n (.t rfl) rfl <|
      q_move (.f rfl rfl) (.t rfl) rfl <|
      q_strat (.f rfl rfl) (.u rfl id) (.c rfl) st_9 (fun hg => by simp only [Bool.and_eq_true, Bool.or_eq_true, Bool.not_eq_true', Bool.and_eq_false_iff, Bool.or_eq_false_iff, Bool.not_eq_false', decide_eq_true_eq, decide_eq_false_iff_not, beq_iff_eq, bne_iff_ne, beq_eq_false_iff_ne, bne_eq_false_iff_eq, Bool.true_and, ne_eq, Decidable.not_not, Int.not_lt, Int.not_le, Nat.not_lt, Nat.not_le, strB_nil, strB_nil', strB_nnil, strB_nnil'] at hg; omega) rfl <|
      q_int (.f rfl rfl) (.u rfl id) (.c rfl) rfl rfl <|
      q_or .n (.t rfl) (.u rfl id) rfl <|
      Lex.nil) ?_
  refine run_cond (.t rfl) rfl (fun h1 => ?_) (fun h1 => ?_)
  · try simp only [Bool.and_eq_true, Bool.or_eq_true, Bool.not_eq_true', Bool.and_eq_false_iff, Bool.or_eq_false_iff, Bool.not_eq_false', decide_eq_true_eq, decide_eq_false_iff_not, beq_iff_eq, bne_iff_ne, beq_eq_false_iff_ne, bne_eq_false_iff_eq, Bool.true_and, ne_eq, Decidable.not_not, Int.not_lt, Int.not_le, Nat.not_lt, Nat.not_le, strB_nil, strB_nil', strB_nnil, strB_nnil'] at h1
    refine run_seq ?_
    refine run_region (q_assign .n (.c rfl) rfl <|
        Lex.nil) ?_
    exact run_ret [] (.cons (.t rfl rfl) .nil) rfl trivial rfl
  · try simp only [Bool.and_eq_true, Bool.or_eq_true, Bool.not_eq_true', Bool.and_eq_false_iff, Bool.or_eq_false_iff, Bool.not_eq_false', decide_eq_true_eq, decide_eq_false_iff_not, beq_iff_eq, bne_iff_ne, beq_eq_false_iff_ne, bne_eq_false_iff_eq, Bool.true_and, ne_eq, Decidable.not_not, Int.not_lt, Int.not_le, Nat.not_lt, Nat.not_le, strB_nil, strB_nil', strB_nnil, strB_nnil'] at h1
    refine run_skip ?_
    refine run_seq ?_
    refine run_region (q_move .n (.t rfl) rfl <|
        q_call0 (full := false) .n .f en_130 (.cons (.t rfl) .nil) (.cons (.b (.a (.same rfl))) .nil) (fun hg => c_impl_onlyNameBytes s_ (by omega)) rfl (fun h => Bool.noConfusion h) rfl <|
        q_assign .n (.t rfl) rfl <|
        Lex.nil) ?_
    exact run_ret [] (.cons (.t rfl rfl) .nil) rfl trivial rfl

/-! ### impl_Job_valid -/
theorem c_impl_Job_valid (t : gJob) : Con Try.prog 78 [.st [.str t.Id, .int .i64 t.Airway, .int .i64 t.People, .int .i64 t.Power]] [] (.bool (m_impl_Job_valid t)) ([]) := by
  refine con_intro (out := fun r : Bool => ((.bool r : V), ([] : List (Nat × Option O)))) (r := (m_impl_Job_valid t)) Try.func78 rfl Try.ntmps78 rfl ?_
  refine run_seq ?_
  refine run_region (q_box (l := 200) .n rfl (.t rfl) rfl rfl rfl rfl <|
      q_assign .n (.c rfl) rfl <|
      Lex.nil) ?_
  refine run_seq ?_
  refine run_region (q_fld_ow .n (.t rfl) fo_66_0 rfl <|
      q_ld1_ow .n (.t rfl) rfl (.inr rfl) (fun _ => rfl) rfl ic_9 rfl <|
      q_call0 (full := false) .n .f en_109 (.cons (.t rfl) .nil) (.cons (.b (.a (.same rfl))) .nil) (fun hg => c_impl_IsName t.Id) rfl (fun h => Bool.noConfusion h) rfl <|
      q_move .n (.t rfl) rfl <|
      q_fld_ow (.t rfl rfl) (.t rfl) fo_66_1 rfl <|
      q_ld1_ow (.t rfl rfl) (.u rfl id) rfl (.inr rfl) (fun _ => rfl) rfl ic_2 rfl <|
      q_call0 (full := false) (.t rfl rfl) .f en_85 (.cons (.u rfl id) (.cons (.c rfl) (.cons (.c rfl) .nil))) (.cons (.b (.a (.same rfl))) (.cons (.b (.a (.same rfl))) (.cons (.b (.a (.same rfl))) .nil))) (fun hg => c_impl_within t.Airway 0 23) rfl (fun h => Bool.noConfusion h) rfl <|
      q_and .n (.t rfl) (.u rfl id) rfl <|
      q_move .n (.t rfl) rfl <|
      q_fld_ow (.t rfl rfl) (.t rfl) fo_66_2 rfl <|
      q_ld1_ow (.t rfl rfl) (.u rfl id) rfl (.inr rfl) (fun _ => rfl) rfl ic_2 rfl <|
      q_call0 (full := false) (.t rfl rfl) .f en_85 (.cons (.u rfl id) (.cons (.c rfl) (.cons (.c rfl) .nil))) (.cons (.b (.a (.same rfl))) (.cons (.b (.a (.same rfl))) (.cons (.b (.a (.same rfl))) .nil))) (fun hg => c_impl_within t.People 1 40) rfl (fun h => Bool.noConfusion h) rfl <|
      q_and .n (.t rfl) (.u rfl id) rfl <|
      q_move .n (.t rfl) rfl <|
      q_fld_ow (.t rfl rfl) (.t rfl) fo_66_3 rfl <|
      q_ld1_ow (.t rfl rfl) (.u rfl id) rfl (.inr rfl) (fun _ => rfl) rfl ic_2 rfl <|
      q_call0 (full := false) (.t rfl rfl) .f en_85 (.cons (.u rfl id) (.cons (.c rfl) (.cons (.c rfl) .nil))) (.cons (.b (.a (.same rfl))) (.cons (.b (.a (.same rfl))) (.cons (.b (.a (.same rfl))) .nil))) (fun hg => c_impl_within t.Power 0 500) rfl (fun h => Bool.noConfusion h) rfl <|
      q_and .n (.t rfl) (.u rfl id) rfl <|
      q_assign .n (.t rfl) rfl <|
      Lex.nil) ?_
  exact run_ret [] (.cons (.t rfl rfl) .nil) rfl trivial rfl

/-! ### impl_junctionOk -/
theorem c_impl_junctionOk (n_ : Int) : Con Try.prog 134 [.int .i64 n_] [] (.bool (m_impl_junctionOk n_)) ([]) := by
  refine con_intro (out := fun r : Bool => ((.bool r : V), ([] : List (Nat × Option O)))) (r := (m_impl_junctionOk n_)) Try.func134 rfl Try.ntmps134 rfl ?_
  refine run_seq ?_
  refine run_region (q_assign .n (.c rfl) rfl <|
      Lex.nil) ?_
  refine run_seq ?_
  refine run_region (q_move .n (.t rfl) rfl <|
      q_call0 (full := false) .n .f en_85 (.cons (.t rfl) (.cons (.c rfl) (.cons (.c rfl) .nil))) (.cons (.b (.a (.same rfl))) (.cons (.b (.a (.same rfl))) (.cons (.b (.a (.same rfl))) .nil))) (fun hg => c_impl_within n_ 0 15) rfl (fun h => Bool.noConfusion h) rfl <|
      q_assign .n (.t rfl) rfl <|
      Lex.nil) ?_
  exact run_ret [] (.cons (.t rfl rfl) .nil) rfl trivial rfl

/-! ### impl_ValidAirway -/
theorem c_impl_ValidAirway (a : gAirway) : Con Try.prog 121 [.st [.str a.Id, .int .i64 a.From, .int .i64 a.To, .int .i64 a.Length, .int .i64 a.Section, .int .i64 a.Friction, .int .i64 a.Shock]] [] (.bool (m_impl_ValidAirway a)) ([]) := by
  refine con_intro (out := fun r : Bool => ((.bool r : V), ([] : List (Nat × Option O)))) (r := (m_impl_ValidAirway a)) Try.func121 rfl Try.ntmps121 rfl ?_
  refine run_seq ?_
  refine run_region (q_box (l := 200) .n rfl (.t rfl) rfl rfl rfl rfl <|
      q_assign .n (.c rfl) rfl <|
      Lex.nil) ?_
  refine run_seq ?_
  refine run_region (q_fld_ow .n (.t rfl) fo_127_0 rfl <|
      q_ld1_ow .n (.t rfl) rfl (.inr rfl) (fun _ => rfl) rfl ic_9 rfl <|
      q_call0 (full := false) .n .f en_109 (.cons (.t rfl) .nil) (.cons (.b (.a (.same rfl))) .nil) (fun hg => c_impl_IsName a.Id) rfl (fun h => Bool.noConfusion h) rfl <|
      q_move .n (.t rfl) rfl <|
      q_fld_ow (.t rfl rfl) (.t rfl) fo_127_1 rfl <|
      q_ld1_ow (.t rfl rfl) (.u rfl id) rfl (.inr rfl) (fun _ => rfl) rfl ic_2 rfl <|
      q_call0 (full := false) (.t rfl rfl) .f en_134 (.cons (.u rfl id) .nil) (.cons (.b (.a (.same rfl))) .nil) (fun hg => c_impl_junctionOk a.From) rfl (fun h => Bool.noConfusion h) rfl <|
      q_and .n (.t rfl) (.u rfl id) rfl <|
      q_move .n (.t rfl) rfl <|
      q_fld_ow (.t rfl rfl) (.t rfl) fo_127_2 rfl <|
      q_ld1_ow (.t rfl rfl) (.u rfl id) rfl (.inr rfl) (fun _ => rfl) rfl ic_2 rfl <|
      q_call0 (full := false) (.t rfl rfl) .f en_134 (.cons (.u rfl id) .nil) (.cons (.b (.a (.same rfl))) .nil) (fun hg => c_impl_junctionOk a.To) rfl (fun h => Bool.noConfusion h) rfl <|
      q_and .n (.t rfl) (.u rfl id) rfl <|
      q_move .n (.t rfl) rfl <|
      q_fld_ow (.t rfl rfl) (.t rfl) fo_127_1 rfl <|
      q_ld1_ow (.t rfl rfl) (.u rfl id) rfl (.inr rfl) (fun _ => rfl) rfl ic_2 rfl <|
      q_fld_ow (.t rfl rfl) (.t rfl) fo_127_2 rfl <|
      q_ld1_ow (.t rfl rfl) (.u rfl id) rfl (.inr rfl) (fun _ => rfl) rfl ic_2 rfl <|
      q_int (.t rfl rfl) (.u rfl id) (.u rfl id) rfl rfl <|
      q_and .n (.t rfl) (.u rfl id) rfl <|
      q_move .n (.t rfl) rfl <|
      q_fld_ow (.t rfl rfl) (.t rfl) fo_127_3 rfl <|
      q_ld1_ow (.t rfl rfl) (.u rfl id) rfl (.inr rfl) (fun _ => rfl) rfl ic_2 rfl <|
      q_call0 (full := false) (.t rfl rfl) .f en_85 (.cons (.u rfl id) (.cons (.c rfl) (.cons (.c rfl) .nil))) (.cons (.b (.a (.same rfl))) (.cons (.b (.a (.same rfl))) (.cons (.b (.a (.same rfl))) .nil))) (fun hg => c_impl_within a.Length 1 10000) rfl (fun h => Bool.noConfusion h) rfl <|
      q_and .n (.t rfl) (.u rfl id) rfl <|
      q_move .n (.t rfl) rfl <|
      q_fld_ow (.t rfl rfl) (.t rfl) fo_127_4 rfl <|
      q_ld1_ow (.t rfl rfl) (.u rfl id) rfl (.inr rfl) (fun _ => rfl) rfl ic_2 rfl <|
      q_call0 (full := false) (.t rfl rfl) .f en_85 (.cons (.u rfl id) (.cons (.c rfl) (.cons (.c rfl) .nil))) (.cons (.b (.a (.same rfl))) (.cons (.b (.a (.same rfl))) (.cons (.b (.a (.same rfl))) .nil))) (fun hg => c_impl_within a.Section 50 5000) rfl (fun h => Bool.noConfusion h) rfl <|
      q_and .n (.t rfl) (.u rfl id) rfl <|
      q_move .n (.t rfl) rfl <|
      q_fld_ow (.t rfl rfl) (.t rfl) fo_127_5 rfl <|
      q_ld1_ow (.t rfl rfl) (.u rfl id) rfl (.inr rfl) (fun _ => rfl) rfl ic_2 rfl <|
      q_call0 (full := false) (.t rfl rfl) .f en_85 (.cons (.u rfl id) (.cons (.c rfl) (.cons (.c rfl) .nil))) (.cons (.b (.a (.same rfl))) (.cons (.b (.a (.same rfl))) (.cons (.b (.a (.same rfl))) .nil))) (fun hg => c_impl_within a.Friction 1 1000) rfl (fun h => Bool.noConfusion h) rfl <|
      q_and .n (.t rfl) (.u rfl id) rfl <|
      q_move .n (.t rfl) rfl <|
      q_fld_ow (.t rfl rfl) (.t rfl) fo_127_6 rfl <|
      q_ld1_ow (.t rfl rfl) (.u rfl id) rfl (.inr rfl) (fun _ => rfl) rfl ic_2 rfl <|
      q_call0 (full := false) (.t rfl rfl) .f en_85 (.cons (.u rfl id) (.cons (.c rfl) (.cons (.c rfl) .nil))) (.cons (.b (.a (.same rfl))) (.cons (.b (.a (.same rfl))) (.cons (.b (.a (.same rfl))) .nil))) (fun hg => c_impl_within a.Shock 0 1000) rfl (fun h => Bool.noConfusion h) rfl <|
      q_and .n (.t rfl) (.u rfl id) rfl <|
      q_assign .n (.t rfl) rfl <|
      Lex.nil) ?_
  exact run_ret [] (.cons (.t rfl rfl) .nil) rfl trivial rfl

/-! ### impl_Mine_hasJunction -/
theorem c_impl_Mine_hasJunction (m_ : gMine) (n_ : Int) : Con Try.prog 135 [.st [.int .i64 m_.Junctions, .sl 7 (m_.Airways.map gAirway.v)], .int .i64 n_] [] (.bool (m_impl_Mine_hasJunction m_ n_)) ([]) := by
  refine con_intro (out := fun r : Bool => ((.bool r : V), ([] : List (Nat × Option O)))) (r := (m_impl_Mine_hasJunction m_ n_)) Try.func135 rfl Try.ntmps135 rfl ?_
  refine run_factS (t := 0) 1 rfl rfl fun hl => ?_
  have l1 := hl; clear hl; simp only [List.length_map] at l1
  refine run_seq ?_
  refine run_region (q_box (l := 200) .n rfl (.t rfl) rfl rfl rfl rfl <|
      q_assign .n (.c rfl) rfl <|
      Lex.nil) ?_
  refine run_seq ?_
  refine run_region (q_move .n (.t rfl) rfl <|
      q_fld_ow .n (.t rfl) fo_33_0 rfl <|
      q_ld1_ow .n (.t rfl) rfl (.inr rfl) (fun _ => rfl) rfl ic_2 rfl <|
      q_int .n (.t rfl) (.c rfl) rfl rfl <|
      q_call0 (full := false) .n .f en_85 (.cons (.t rfl) (.cons (.c rfl) (.cons (.t rfl) .nil))) (.cons (.b (.a (.same rfl))) (.cons (.b (.a (.same rfl))) (.cons (.b (.a (.same rfl))) .nil))) (fun hg => c_impl_within n_ 0 (IntKind.wrap .i64 (m_.Junctions - 1))) rfl (fun h => Bool.noConfusion h) rfl <|
      q_assign .n (.t rfl) rfl <|
      Lex.nil) ?_
  exact run_ret [] (.cons (.t rfl rfl) .nil) rfl trivial rfl

/-! ### impl_Mine_hasEnds -/
theorem c_impl_Mine_hasEnds (m_ : gMine) (a : gAirway) : Con Try.prog 122 [.st [.int .i64 m_.Junctions, .sl 7 (m_.Airways.map gAirway.v)], .st [.str a.Id, .int .i64 a.From, .int .i64 a.To, .int .i64 a.Length, .int .i64 a.Section, .int .i64 a.Friction, .int .i64 a.Shock]] [] (.bool (m_impl_Mine_hasEnds m_ a)) ([]) := by
  refine con_intro (out := fun r : Bool => ((.bool r : V), ([] : List (Nat × Option O)))) (r := (m_impl_Mine_hasEnds m_ a)) Try.func122 rfl Try.ntmps122 rfl ?_
  refine run_factS (t := 0) 1 rfl rfl fun hl => ?_
  have l1 := hl; clear hl; simp only [List.length_map] at l1
  refine run_seq ?_
  refine run_region (q_box (l := 200) .n rfl (.t rfl) rfl rfl rfl rfl <|
      q_box (l := 201) .n rfl (.t rfl) rfl rfl rfl rfl <|
      q_assign .n (.c rfl) rfl <|
      Lex.nil) ?_
  refine run_seq ?_
  refine run_region (q_ldN_ow .n (.t rfl) rfl (.inr rfl) ag_33 (fun _ => rfl) rfl rfl <|
      q_fld_ow .n (.t rfl) fo_127_1 rfl <|
      q_ld1_ow .n (.t rfl) rfl (.inr rfl) (fun _ => rfl) rfl ic_2 rfl <|
      q_call0 (full := false) .n .f en_135 (.cons (.t rfl) (.cons (.t rfl) .nil)) (.cons (.sts rfl) (.cons (.b (.a (.same rfl))) .nil)) (fun hg => c_impl_Mine_hasJunction m_ a.From) rfl (fun h => Bool.noConfusion h) rfl <|
      q_move .n (.t rfl) rfl <|
      q_ldN_ow (.t rfl rfl) (.t rfl) rfl (.inr rfl) ag_33 (fun _ => rfl) rfl rfl <|
      q_fld_ow (.t rfl rfl) (.t rfl) fo_127_2 rfl <|
      q_ld1_ow (.t rfl rfl) (.u rfl id) rfl (.inr rfl) (fun _ => rfl) rfl ic_2 rfl <|
      q_call0 (full := false) (.t rfl rfl) .f en_135 (.cons (.u rfl id) (.cons (.u rfl id) .nil)) (.cons (.sts rfl) (.cons (.b (.a (.same rfl))) .nil)) (fun hg => c_impl_Mine_hasJunction m_ a.To) rfl (fun h => Bool.noConfusion h) rfl <|
      q_and .n (.t rfl) (.u rfl id) rfl <|
      q_assign .n (.t rfl) rfl <|
      Lex.nil) ?_
  exact run_ret [] (.cons (.t rfl rfl) .nil) rfl trivial rfl

/-! ### impl_ValidMine -/
theorem c_impl_ValidMine (m_ : gMine) : Con Try.prog 97 [.st [.int .i64 m_.Junctions, .sl 7 (m_.Airways.map gAirway.v)]] [] (.bool (m_impl_ValidMine m_)) ([]) := by
  refine con_intro (out := fun r : Bool => ((.bool r : V), ([] : List (Nat × Option O)))) (r := (m_impl_ValidMine m_)) Try.func97 rfl Try.ntmps97 rfl ?_
  refine run_factS (t := 0) 1 rfl rfl fun hl => ?_
  have l1 := hl; clear hl; simp only [List.length_map] at l1
  refine run_seq ?_
  refine run_region (q_box (l := 200) .n rfl (.t rfl) rfl rfl rfl rfl <|
      q_assign .n (.c rfl) rfl <|
      Lex.nil) ?_
  refine run_seq ?_
  refine run_seq ?_
  refine run_region (q_fld_ow .n (.t rfl) fo_33_0 rfl <|
      q_ld1_ow .n (.t rfl) rfl (.inr rfl) (fun _ => rfl) rfl ic_2 rfl <|
      q_call0 (full := false) .n .f en_85 (.cons (.t rfl) (.cons (.c rfl) (.cons (.c rfl) .nil))) (.cons (.b (.a (.same rfl))) (.cons (.b (.a (.same rfl))) (.cons (.b (.a (.same rfl))) .nil))) (fun hg => c_impl_within m_.Junctions 1 16) rfl (fun h => Bool.noConfusion h) rfl <|
      q_not .n (.t rfl) rfl <|
      q_move .n (.t rfl) rfl <|
      q_fld_ow (.f rfl rfl) (.t rfl) fo_33_1 rfl <|
      q_ld1_ow (.f rfl rfl) (.u rfl id) rfl (.inr rfl) (fun _ => rfl) rfl ic_31 rfl <|
      q_len (.f rfl rfl) (.u rfl id) rfl len_map ss_31 rfl <|
      q_int (.f rfl rfl) (.u rfl id) (.c rfl) rfl rfl <|
      q_or .n (.t rfl) (.u rfl id) rfl <|
      Lex.nil) ?_
  refine run_cond (.t rfl) rfl (fun h2 => ?_) (fun h2 => ?_)
  · try simp only [Bool.and_eq_true, Bool.or_eq_true, Bool.not_eq_true', Bool.and_eq_false_iff, Bool.or_eq_false_iff, Bool.not_eq_false', decide_eq_true_eq, decide_eq_false_iff_not, beq_iff_eq, bne_iff_ne, beq_eq_false_iff_ne, bne_eq_false_iff_eq, Bool.true_and, ne_eq, Decidable.not_not, Int.not_lt, Int.not_le, Nat.not_lt, Nat.not_le, strB_nil, strB_nil', strB_nnil, strB_nnil'] at h2
    try have hf0h2 := within_imp h2
    try have hf1h2 := within_imp h2.1
    try have hf2h2 := within_imp h2.2
    try have hf3h2 := within_imp h2.1.1
    try have hf4h2 := within_imp h2.1.2
    try have hf5h2 := within_imp h2.2.1
    try have hf6h2 := within_imp h2.2.2
    refine run_seq ?_
    refine run_region (q_assign .n (.c rfl) rfl <|
        Lex.nil) ?_
    exact run_ret [] (.cons (.t rfl rfl) .nil) rfl trivial rfl
  · try simp only [Bool.and_eq_true, Bool.or_eq_true, Bool.not_eq_true', Bool.and_eq_false_iff, Bool.or_eq_false_iff, Bool.not_eq_false', decide_eq_true_eq, decide_eq_false_iff_not, beq_iff_eq, bne_iff_ne, beq_eq_false_iff_ne, bne_eq_false_iff_eq, Bool.true_and, ne_eq, Decidable.not_not, Int.not_lt, Int.not_le, Nat.not_lt, Nat.not_le, strB_nil, strB_nil', strB_nnil, strB_nnil'] at h2
    try have hf0h2 := within_imp h2
    try have hf1h2 := within_imp h2.1
    try have hf2h2 := within_imp h2.2
    try have hf3h2 := within_imp h2.1.1
    try have hf4h2 := within_imp h2.1.2
    try have hf5h2 := within_imp h2.2.1
    try have hf6h2 := within_imp h2.2.2
    refine run_skip ?_
    refine run_seq ?_
    refine run_seq ?_
    refine run_region (q_fld_ow .n (.t rfl) fo_33_1 rfl <|
        q_ld1_ow .n (.t rfl) rfl (.inr rfl) (fun _ => rfl) rfl ic_31 rfl <|
        q_len .n (.t rfl) rfl len_map ss_31 rfl <|
        q_move .n (.c rfl) rfl <|
        Lex.nil) ?_
    refine run_block ?_
    refine run_LOOP (m_impl_ValidMine_b1 m_) _ _ _ rfl (fun (x1 : Int) => 0 ≤ x1 ∧ x1 ≤ (m_.Airways.length : Int)) (fun x1 => 0 ≤ x1 ∧ x1 ≤ (m_.Airways.length : Int) ∧ (m_.Airways.length : Int) ≤ x1) (fun x1 => ((m_.Airways.length : Int) - x1 : Int).toNat) (fun x1 => ⟨[(1, some (true, .op 200 0 0 0)), (16, some (true, .sl 7 (m_.Airways.map gAirway.v))), (17, some (true, .int .i64 (m_.Airways.length : Int))), (18, some (true, .int .i64 x1))], [(200, some (.box 33 [.int .i64 m_.Junctions, .sl 7 (m_.Airways.map gAirway.v)]))]⟩) (fun x1 => ⟨[], []⟩) ⟨by omega, by omega⟩ (by omega) (sub_of [] ⟨rfl, rfl, rfl, rfl, trivial⟩ ⟨rfl, trivial⟩ rfl) ?_ ?_
    · intro x1 i7
      obtain ⟨e8, e9, e10⟩ := i7
      try dsimp only at *
      refine run_seq ?_
      refine run_region (q_assign .n (.c rfl) rfl <|
          Lex.nil) ?_
      exact run_ret [] (.cons (.t rfl rfl) .nil) rfl trivial rfl
    · intro rec1 k1 hk3 x1 i4
      obtain ⟨e11, e12⟩ := i4
      try dsimp only at *
      refine run_seq ?_
      refine run_region (q_int .n (.t rfl) (.t rfl) rfl rfl <|
          Lex.nil) ?_
      refine run_seq ?_
      refine run_cond (.t rfl) rfl (fun h5 => ?_) (fun h5 => ?_)
      · try simp only [Bool.and_eq_true, Bool.or_eq_true, Bool.not_eq_true', Bool.and_eq_false_iff, Bool.or_eq_false_iff, Bool.not_eq_false', decide_eq_true_eq, decide_eq_false_iff_not, beq_iff_eq, bne_iff_ne, beq_eq_false_iff_ne, bne_eq_false_iff_eq, Bool.true_and, ne_eq, Decidable.not_not, Int.not_lt, Int.not_le, Nat.not_lt, Nat.not_le, strB_nil, strB_nil', strB_nnil, strB_nnil'] at h5
        refine run_skip ?_
        refine run_seq ?_
        refine run_block ?_
        refine run_seq ?_
        refine run_region (q_move .n (.t rfl) rfl <|
            q_idx_rm .n (.t rfl) (.t rfl) sl_31 (fun _ => by omega) rfl <|
            q_ldN_ro .n (.t rfl) ag_127 rfl rfl rfl <|
            q_alloc (l := 201) .n rfl zv_127 rfl rfl <|
            q_assign .n (.t rfl) rfl <|
            q_st_boxm [.str (at' m_.Airways x1).Id, .int .i64 (at' m_.Airways x1).From, .int .i64 (at' m_.Airways x1).To, .int .i64 (at' m_.Airways x1).Length, .int .i64 (at' m_.Airways x1).Section, .int .i64 (at' m_.Airways x1).Friction, .int .i64 (at' m_.Airways x1).Shock] .n rfl (.t rfl) (.t rfl) rfl ts_127 rfl rfl <|
            Lex.nil) ?_
        refine run_seq ?_
        refine run_draw fmo (q_ldN_ow .n (.t rfl) rfl (.inr rfl) ag_127 (fun _ => rfl) rfl rfl <|
            q_call0 (full := false) .n .f en_121 (.cons (.t rfl) .nil) (.cons (.sts rfl) .nil) (fun hg => c_impl_ValidAirway (at' m_.Airways x1)) rfl (fun h => Bool.noConfusion h) rfl <|
            q_not .n (.t rfl) rfl <|
            q_move .n (.t rfl) rfl <|
            q_ldN_ow (.f rfl rfl) (.t rfl) rfl (.inr rfl) ag_33 (fun _ => rfl) rfl rfl <|
            q_ldN_ow (.f rfl rfl) (.t rfl) rfl (.inr rfl) ag_127 (fun _ => rfl) rfl rfl <|
            q_call0 (full := false) (.f rfl rfl) .f en_122 (.cons (.u rfl id) (.cons (.u rfl id) .nil)) (.cons (.sts rfl) (.cons (.sts rfl) .nil)) (fun hg => c_impl_Mine_hasEnds m_ (at' m_.Airways x1)) rfl (fun h => Bool.noConfusion h) rfl <|
            q_not (.f rfl rfl) (.u rfl id) rfl <|
            q_or .n (.t rfl) (.u rfl id) rfl <|
            q_move .n (.t rfl) rfl <|
            q_move (.f rfl rfl) (.t rfl) rfl <|
            q_int (.f rfl rfl) (.u rfl id) (.c rfl) rfl rfl <|
            q_move (.f rfl rfl) (.u rfl id) rfl <|
            q_fld_ow (.t rfl rfl) (.t rfl) fo_127_0 rfl <|
            q_ld1_ow (.t rfl rfl) (.u rfl id) rfl (.inr rfl) (fun _ => rfl) rfl ic_9 rfl <|
            q_fld_ow (.t rfl rfl) (.t rfl) fo_33_1 rfl <|
            q_ld1_ow (.t rfl rfl) (.u rfl id) rfl (.inr rfl) (fun _ => rfl) rfl ic_31 rfl <|
            q_move (.t rfl rfl) (.t rfl) rfl <|
            q_sub (.t rfl rfl) (.u rfl id) (.c rfl) (fun hg => by simp only [Bool.and_eq_true, Bool.or_eq_true, Bool.not_eq_true', Bool.and_eq_false_iff, Bool.or_eq_false_iff, Bool.not_eq_false', decide_eq_true_eq, decide_eq_false_iff_not, beq_iff_eq, bne_iff_ne, beq_eq_false_iff_ne, bne_eq_false_iff_eq, Bool.true_and, ne_eq, Decidable.not_not, Int.not_lt, Int.not_le, Nat.not_lt, Nat.not_le, strB_nil, strB_nil', strB_nnil, strB_nnil'] at hg; omega) rfl <|
            q_idx_rm (.t rfl rfl) (.u rfl id) (.u rfl id) sl_31 (fun hg => by simp only [Bool.and_eq_true, Bool.or_eq_true, Bool.not_eq_true', Bool.and_eq_false_iff, Bool.or_eq_false_iff, Bool.not_eq_false', decide_eq_true_eq, decide_eq_false_iff_not, beq_iff_eq, bne_iff_ne, beq_eq_false_iff_ne, bne_eq_false_iff_eq, Bool.true_and, ne_eq, Decidable.not_not, Int.not_lt, Int.not_le, Nat.not_lt, Nat.not_le, strB_nil, strB_nil', strB_nnil, strB_nnil'] at hg; omega) rfl <|
            q_fld_ro (.t rfl rfl) (.u rfl id) fo_127_0 rfl <|
            q_ld1_ro (.t rfl rfl) (.u rfl id) rfl ic_9 rfl <|
            q_strcmp (.t rfl rfl) (.u rfl id) (.u rfl id) rfl rfl <|
            q_and (.f rfl rfl) (.u rfl id) (.u rfl id) rfl <|
            q_or .n (.t rfl) (.u rfl id) rfl <|
            Lex.nil) (by kernel_rfl) ?_
        refine run_cond (.t rfl) rfl (fun h6 => ?_) (fun h6 => ?_)
        · try simp only [Bool.and_eq_true, Bool.or_eq_true, Bool.not_eq_true', Bool.and_eq_false_iff, Bool.or_eq_false_iff, Bool.not_eq_false', decide_eq_true_eq, decide_eq_false_iff_not, beq_iff_eq, bne_iff_ne, beq_eq_false_iff_ne, bne_eq_false_iff_eq, Bool.true_and, ne_eq, Decidable.not_not, Int.not_lt, Int.not_le, Nat.not_lt, Nat.not_le, strB_nil, strB_nil', strB_nnil, strB_nnil'] at h6
          refine run_seq ?_
          refine run_region (q_assign .n (.c rfl) rfl <|
              Lex.nil) ?_
          exact run_ret [] (.cons (.t rfl rfl) .nil) rfl trivial rfl
        · try simp only [Bool.and_eq_true, Bool.or_eq_true, Bool.not_eq_true', Bool.and_eq_false_iff, Bool.or_eq_false_iff, Bool.not_eq_false', decide_eq_true_eq, decide_eq_false_iff_not, beq_iff_eq, bne_iff_ne, beq_eq_false_iff_ne, bne_eq_false_iff_eq, Bool.true_and, ne_eq, Decidable.not_not, Int.not_lt, Int.not_le, Nat.not_lt, Nat.not_le, strB_nil, strB_nil', strB_nnil, strB_nnil'] at h6
          refine run_skip ?_
          refine run_endB ?_
          refine run_region (q_add .n (.t rfl) (.c rfl) (fun _ => by omega) rfl <|
              q_move .n (.t rfl) rfl <|
              Lex.nil) ?_
          exact run_again (x1 + 1) ⟨by omega, by omega⟩ (by omega) (sub_of [] ⟨rfl, rfl, rfl, rfl, trivial⟩ ⟨rfl, trivial⟩ rfl)
      · try simp only [Bool.and_eq_true, Bool.or_eq_true, Bool.not_eq_true', Bool.and_eq_false_iff, Bool.or_eq_false_iff, Bool.not_eq_false', decide_eq_true_eq, decide_eq_false_iff_not, beq_iff_eq, bne_iff_ne, beq_eq_false_iff_ne, bne_eq_false_iff_eq, Bool.true_and, ne_eq, Decidable.not_not, Int.not_lt, Int.not_le, Nat.not_lt, Nat.not_le, strB_nil, strB_nil', strB_nnil, strB_nnil'] at h5
        refine run_exit rfl ?_
        exact run_cont hk3 x1 ⟨by omega, by omega, by omega⟩ (sub_of [] trivial trivial rfl)

/-! ### impl_indexValid_impl_Airway -/
theorem c_impl_indexValid_impl_Airway (list : List gAirway) (k_ : Int) : Con Try.prog 99 [.sl 7 (list.map gAirway.v), .int .i64 k_] [] (.bool (m_impl_indexValid_impl_Airway list k_)) ([]) := by
  refine con_intro (out := fun r : Bool => ((.bool r : V), ([] : List (Nat × Option O)))) (r := (m_impl_indexValid_impl_Airway list k_)) Try.func99 rfl Try.ntmps99 rfl ?_
  refine run_fact (t := 0) rfl fun hl => ?_
  have l1 := hl; clear hl; simp only [List.length_map] at l1
  refine run_seq ?_
  refine run_region (q_assign .n (.c rfl) rfl <|
      Lex.nil) ?_
  refine run_seq ?_
  refine run_region (q_move .n (.t rfl) rfl <|
      q_move .n (.t rfl) rfl <|
      q_len .n (.t rfl) rfl len_map ss_31 rfl <|
      q_sub .n (.t rfl) (.c rfl) (fun _ => by omega) rfl <|
      q_call0 (full := false) .n .f en_85 (.cons (.t rfl) (.cons (.c rfl) (.cons (.t rfl) .nil))) (.cons (.b (.a (.same rfl))) (.cons (.b (.a (.same rfl))) (.cons (.b (.a (.same rfl))) .nil))) (fun hg => c_impl_within k_ 0 ((list.length : Int) - 1)) rfl (fun h => Bool.noConfusion h) rfl <|
      q_assign .n (.t rfl) rfl <|
      Lex.nil) ?_
  exact run_ret [] (.cons (.t rfl rfl) .nil) rfl trivial rfl

/-! ### impl_ValidJobs -/
theorem c_impl_ValidJobs (m_ : gMine) (list : List gJob) : Con Try.prog 73 [.st [.int .i64 m_.Junctions, .sl 7 (m_.Airways.map gAirway.v)], .sl 4 (list.map gJob.v)] [] (.bool (m_impl_ValidJobs m_ list)) ([]) := by
  refine con_intro (out := fun r : Bool => ((.bool r : V), ([] : List (Nat × Option O)))) (r := (m_impl_ValidJobs m_ list)) Try.func73 rfl Try.ntmps73 rfl ?_
  refine run_factS (t := 0) 1 rfl rfl fun hl => ?_
  have l1 := hl; clear hl; simp only [List.length_map] at l1
  refine run_fact (t := 1) rfl fun hl => ?_
  have l2 := hl; clear hl; simp only [List.length_map] at l2
  refine run_seq ?_
  refine run_region (q_box (l := 200) .n rfl (.t rfl) rfl rfl rfl rfl <|
      q_assign .n (.c rfl) rfl <|
      Lex.nil) ?_
  refine run_seq ?_
  refine run_seq ?_
  refine run_region (q_ldN_ow .n (.t rfl) rfl (.inr rfl) ag_33 (fun _ => rfl) rfl rfl <|
      q_call0 (full := false) .n .f en_97 (.cons (.t rfl) .nil) (.cons (.sts rfl) .nil) (fun hg => c_impl_ValidMine m_) rfl (fun h => Bool.noConfusion h) rfl <|
      q_not .n (.t rfl) rfl <|
      q_move .n (.t rfl) rfl <|
      q_move (.f rfl rfl) (.t rfl) rfl <|
      q_len (.f rfl rfl) (.u rfl id) rfl len_map ss_36 rfl <|
      q_int (.f rfl rfl) (.u rfl id) (.c rfl) rfl rfl <|
      q_or .n (.t rfl) (.u rfl id) rfl <|
      Lex.nil) ?_
  refine run_cond (.t rfl) rfl (fun h3 => ?_) (fun h3 => ?_)
  · try simp only [Bool.and_eq_true, Bool.or_eq_true, Bool.not_eq_true', Bool.and_eq_false_iff, Bool.or_eq_false_iff, Bool.not_eq_false', decide_eq_true_eq, decide_eq_false_iff_not, beq_iff_eq, bne_iff_ne, beq_eq_false_iff_ne, bne_eq_false_iff_eq, Bool.true_and, ne_eq, Decidable.not_not, Int.not_lt, Int.not_le, Nat.not_lt, Nat.not_le, strB_nil, strB_nil', strB_nnil, strB_nnil'] at h3
    try have hf0h3 := ValidMine_imp h3
    try have hf1h3 := ValidMine_imp h3.1
    try have hf2h3 := ValidMine_imp h3.2
    try have hf3h3 := ValidMine_imp h3.1.1
    try have hf4h3 := ValidMine_imp h3.1.2
    try have hf5h3 := ValidMine_imp h3.2.1
    try have hf6h3 := ValidMine_imp h3.2.2
    refine run_seq ?_
    refine run_region (q_assign .n (.c rfl) rfl <|
        Lex.nil) ?_
    exact run_ret [] (.cons (.t rfl rfl) .nil) rfl trivial rfl
  · try simp only [Bool.and_eq_true, Bool.or_eq_true, Bool.not_eq_true', Bool.and_eq_false_iff, Bool.or_eq_false_iff, Bool.not_eq_false', decide_eq_true_eq, decide_eq_false_iff_not, beq_iff_eq, bne_iff_ne, beq_eq_false_iff_ne, bne_eq_false_iff_eq, Bool.true_and, ne_eq, Decidable.not_not, Int.not_lt, Int.not_le, Nat.not_lt, Nat.not_le, strB_nil, strB_nil', strB_nnil, strB_nnil'] at h3
    try have hf0h3 := ValidMine_imp h3
    try have hf1h3 := ValidMine_imp h3.1
    try have hf2h3 := ValidMine_imp h3.2
    try have hf3h3 := ValidMine_imp h3.1.1
    try have hf4h3 := ValidMine_imp h3.1.2
    try have hf5h3 := ValidMine_imp h3.2.1
    try have hf6h3 := ValidMine_imp h3.2.2
    refine run_skip ?_
    refine run_seq ?_
    refine run_seq ?_
    refine run_region (q_move .n (.t rfl) rfl <|
        q_len .n (.t rfl) rfl len_map ss_36 rfl <|
        q_move .n (.c rfl) rfl <|
        Lex.nil) ?_
    refine run_block ?_
    refine run_LOOP (m_impl_ValidJobs_b1 m_ list) _ _ _ rfl (fun (x1 : Int) => 0 ≤ x1 ∧ x1 ≤ (list.length : Int)) (fun x1 => 0 ≤ x1 ∧ x1 ≤ (list.length : Int) ∧ (list.length : Int) ≤ x1) (fun x1 => ((list.length : Int) - x1 : Int).toNat) (fun x1 => ⟨[(1, some (true, .sl 4 (list.map gJob.v))), (2, some (true, .op 200 0 0 0)), (15, some (true, .sl 4 (list.map gJob.v))), (16, some (true, .int .i64 (list.length : Int))), (17, some (true, .int .i64 x1))], [(200, some (.box 33 [.int .i64 m_.Junctions, .sl 7 (m_.Airways.map gAirway.v)]))]⟩) (fun x1 => ⟨[], []⟩) ⟨by omega, by omega⟩ (by omega) (sub_of [] ⟨rfl, rfl, rfl, rfl, rfl, trivial⟩ ⟨rfl, trivial⟩ rfl) ?_ ?_
    · intro x1 i8
      obtain ⟨e9, e10, e11⟩ := i8
      try dsimp only at *
      refine run_seq ?_
      refine run_region (q_assign .n (.c rfl) rfl <|
          Lex.nil) ?_
      exact run_ret [] (.cons (.t rfl rfl) .nil) rfl trivial rfl
    · intro rec1 k1 hk4 x1 i5
      obtain ⟨e12, e13⟩ := i5
      try dsimp only at *
      refine run_seq ?_
      refine run_region (q_int .n (.t rfl) (.t rfl) rfl rfl <|
          Lex.nil) ?_
      refine run_seq ?_
      refine run_cond (.t rfl) rfl (fun h6 => ?_) (fun h6 => ?_)
      · try simp only [Bool.and_eq_true, Bool.or_eq_true, Bool.not_eq_true', Bool.and_eq_false_iff, Bool.or_eq_false_iff, Bool.not_eq_false', decide_eq_true_eq, decide_eq_false_iff_not, beq_iff_eq, bne_iff_ne, beq_eq_false_iff_ne, bne_eq_false_iff_eq, Bool.true_and, ne_eq, Decidable.not_not, Int.not_lt, Int.not_le, Nat.not_lt, Nat.not_le, strB_nil, strB_nil', strB_nnil, strB_nnil'] at h6
        refine run_skip ?_
        refine run_seq ?_
        refine run_block ?_
        refine run_seq ?_
        refine run_region (q_move .n (.t rfl) rfl <|
            q_idx_rm .n (.t rfl) (.t rfl) sl_36 (fun _ => by omega) rfl <|
            q_ldN_ro .n (.t rfl) ag_66 rfl rfl rfl <|
            q_alloc (l := 201) .n rfl zv_66 rfl rfl <|
            q_assign .n (.t rfl) rfl <|
            q_st_boxm [.str (at' list x1).Id, .int .i64 (at' list x1).Airway, .int .i64 (at' list x1).People, .int .i64 (at' list x1).Power] .n rfl (.t rfl) (.t rfl) rfl ts_66 rfl rfl <|
            Lex.nil) ?_
        refine run_seq ?_
        refine run_draw fmo (q_ldN_ow .n (.t rfl) rfl (.inr rfl) ag_66 (fun _ => rfl) rfl rfl <|
            q_call0 (full := false) .n .f en_78 (.cons (.t rfl) .nil) (.cons (.sts rfl) .nil) (fun hg => c_impl_Job_valid (at' list x1)) rfl (fun h => Bool.noConfusion h) rfl <|
            q_not .n (.t rfl) rfl <|
            q_move .n (.t rfl) rfl <|
            q_fld_ow (.f rfl rfl) (.t rfl) fo_33_1 rfl <|
            q_ld1_ow (.f rfl rfl) (.u rfl id) rfl (.inr rfl) (fun _ => rfl) rfl ic_31 rfl <|
            q_fld_ow (.f rfl rfl) (.t rfl) fo_66_1 rfl <|
            q_ld1_ow (.f rfl rfl) (.u rfl id) rfl (.inr rfl) (fun _ => rfl) rfl ic_2 rfl <|
            q_call0 (full := false) (.f rfl rfl) .f en_99 (.cons (.u rfl id) (.cons (.u rfl id) .nil)) (.cons (.b (.a (.same rfl))) (.cons (.b (.a (.same rfl))) .nil)) (fun hg => c_impl_indexValid_impl_Airway m_.Airways (at' list x1).Airway) rfl (fun h => Bool.noConfusion h) rfl <|
            q_not (.f rfl rfl) (.u rfl id) rfl <|
            q_or .n (.t rfl) (.u rfl id) rfl <|
            q_move .n (.t rfl) rfl <|
            q_move (.f rfl rfl) (.t rfl) rfl <|
            q_int (.f rfl rfl) (.u rfl id) (.c rfl) rfl rfl <|
            q_move (.f rfl rfl) (.u rfl id) rfl <|
            q_fld_ow (.t rfl rfl) (.t rfl) fo_66_0 rfl <|
            q_ld1_ow (.t rfl rfl) (.u rfl id) rfl (.inr rfl) (fun _ => rfl) rfl ic_9 rfl <|
            q_move (.t rfl rfl) (.t rfl) rfl <|
            q_move (.t rfl rfl) (.t rfl) rfl <|
            q_sub (.t rfl rfl) (.u rfl id) (.c rfl) (fun hg => by simp only [Bool.and_eq_true, Bool.or_eq_true, Bool.not_eq_true', Bool.and_eq_false_iff, Bool.or_eq_false_iff, Bool.not_eq_false', decide_eq_true_eq, decide_eq_false_iff_not, beq_iff_eq, bne_iff_ne, beq_eq_false_iff_ne, bne_eq_false_iff_eq, Bool.true_and, ne_eq, Decidable.not_not, Int.not_lt, Int.not_le, Nat.not_lt, Nat.not_le, strB_nil, strB_nil', strB_nnil, strB_nnil'] at hg; omega) rfl <|
            q_idx_rm (.t rfl rfl) (.u rfl id) (.u rfl id) sl_36 (fun hg => by simp only [Bool.and_eq_true, Bool.or_eq_true, Bool.not_eq_true', Bool.and_eq_false_iff, Bool.or_eq_false_iff, Bool.not_eq_false', decide_eq_true_eq, decide_eq_false_iff_not, beq_iff_eq, bne_iff_ne, beq_eq_false_iff_ne, bne_eq_false_iff_eq, Bool.true_and, ne_eq, Decidable.not_not, Int.not_lt, Int.not_le, Nat.not_lt, Nat.not_le, strB_nil, strB_nil', strB_nnil, strB_nnil'] at hg; omega) rfl <|
            q_fld_ro (.t rfl rfl) (.u rfl id) fo_66_0 rfl <|
            q_ld1_ro (.t rfl rfl) (.u rfl id) rfl ic_9 rfl <|
            q_strcmp (.t rfl rfl) (.u rfl id) (.u rfl id) rfl rfl <|
            q_and (.f rfl rfl) (.u rfl id) (.u rfl id) rfl <|
            q_or .n (.t rfl) (.u rfl id) rfl <|
            Lex.nil) (by kernel_rfl) ?_
        refine run_cond (.t rfl) rfl (fun h7 => ?_) (fun h7 => ?_)
        · try simp only [Bool.and_eq_true, Bool.or_eq_true, Bool.not_eq_true', Bool.and_eq_false_iff, Bool.or_eq_false_iff, Bool.not_eq_false', decide_eq_true_eq, decide_eq_false_iff_not, beq_iff_eq, bne_iff_ne, beq_eq_false_iff_ne, bne_eq_false_iff_eq, Bool.true_and, ne_eq, Decidable.not_not, Int.not_lt, Int.not_le, Nat.not_lt, Nat.not_le, strB_nil, strB_nil', strB_nnil, strB_nnil'] at h7
          try have hf0h7 := indexValid_imp h7
          try have hf1h7 := indexValid_imp h7.1
          try have hf2h7 := indexValid_imp h7.2
          try have hf3h7 := indexValid_imp h7.1.1
          try have hf4h7 := indexValid_imp h7.1.2
          try have hf5h7 := indexValid_imp h7.2.1
          try have hf6h7 := indexValid_imp h7.2.2
          try have hf7h7 := indexValid_imp h7.1.1.1
          try have hf8h7 := indexValid_imp h7.1.1.2
          refine run_seq ?_
          refine run_region (q_assign .n (.c rfl) rfl <|
              Lex.nil) ?_
          exact run_ret [] (.cons (.t rfl rfl) .nil) rfl trivial rfl
        · try simp only [Bool.and_eq_true, Bool.or_eq_true, Bool.not_eq_true', Bool.and_eq_false_iff, Bool.or_eq_false_iff, Bool.not_eq_false', decide_eq_true_eq, decide_eq_false_iff_not, beq_iff_eq, bne_iff_ne, beq_eq_false_iff_ne, bne_eq_false_iff_eq, Bool.true_and, ne_eq, Decidable.not_not, Int.not_lt, Int.not_le, Nat.not_lt, Nat.not_le, strB_nil, strB_nil', strB_nnil, strB_nnil'] at h7
          try have hf0h7 := indexValid_imp h7
          try have hf1h7 := indexValid_imp h7.1
          try have hf2h7 := indexValid_imp h7.2
          try have hf3h7 := indexValid_imp h7.1.1
          try have hf4h7 := indexValid_imp h7.1.2
          try have hf5h7 := indexValid_imp h7.2.1
          try have hf6h7 := indexValid_imp h7.2.2
          try have hf7h7 := indexValid_imp h7.1.1.1
          try have hf8h7 := indexValid_imp h7.1.1.2
          refine run_skip ?_
          refine run_endB ?_
          refine run_region (q_add .n (.t rfl) (.c rfl) (fun _ => by omega) rfl <|
              q_move .n (.t rfl) rfl <|
              Lex.nil) ?_
          exact run_again (x1 + 1) ⟨by omega, by omega⟩ (by omega) (sub_of [] ⟨rfl, rfl, rfl, rfl, rfl, trivial⟩ ⟨rfl, trivial⟩ rfl)
      · try simp only [Bool.and_eq_true, Bool.or_eq_true, Bool.not_eq_true', Bool.and_eq_false_iff, Bool.or_eq_false_iff, Bool.not_eq_false', decide_eq_true_eq, decide_eq_false_iff_not, beq_iff_eq, bne_iff_ne, beq_eq_false_iff_ne, bne_eq_false_iff_eq, Bool.true_and, ne_eq, Decidable.not_not, Int.not_lt, Int.not_le, Nat.not_lt, Nat.not_le, strB_nil, strB_nil', strB_nnil, strB_nnil'] at h6
        refine run_exit rfl ?_
        exact run_cont hk4 x1 ⟨by omega, by omega, by omega⟩ (sub_of [] trivial trivial rfl)

/-! ### slices_IndexFunc_int64 -/
theorem c_slices_IndexFunc_int64 (s_ : List Int) (f : Int → Bool) (F_f : FuncId) (C_f : List V) (he_f : entB Try.prog F_f = true) (hr_f : C_f.all V.ro = true) (hc_f : ∀ (a0 : Int), Con Try.prog F_f ([.int .i64 a0] ++ C_f) [] (.bool (f a0)) []) : Con Try.prog 124 [.sl 1 (s_.map (V.int .i64)), .clo F_f C_f] [] (.int .i64 (m_slices_IndexFunc_int64 s_ f)) ([]) := by
  refine con_intro (out := fun r : Int => ((.int .i64 r : V), ([] : List (Nat × Option O)))) (r := (m_slices_IndexFunc_int64 s_ f)) Try.func124 rfl Try.ntmps124 rfl ?_
  refine run_fact (t := 0) rfl fun hl => ?_
  have l1 := hl; clear hl; simp only [List.length_map] at l1
  refine run_seq ?_
  refine run_region (q_assign .n (.c rfl) rfl <|
      Lex.nil) ?_
  refine run_seq ?_
  refine run_seq ?_
  refine run_region (q_move .n (.t rfl) rfl <|
      q_len .n (.t rfl) rfl len_map ss_25 rfl <|
      q_move .n (.c rfl) rfl <|
      Lex.nil) ?_
  refine run_block ?_
  refine run_LOOP (m_slices_IndexFunc_int64_b1 s_ f) _ _ _ rfl (fun (x1 : Int) => 0 ≤ x1 ∧ x1 ≤ (s_.length : Int)) (fun x1 => 0 ≤ x1 ∧ x1 ≤ (s_.length : Int) ∧ (s_.length : Int) ≤ x1) (fun x1 => ((s_.length : Int) - x1 : Int).toNat) (fun x1 => ⟨[(0, some (true, .sl 1 (s_.map (V.int .i64)))), (1, some (true, .clo F_f C_f)), (7, some (true, .int .i64 (s_.length : Int))), (8, some (true, .int .i64 x1))], []⟩) (fun x1 => ⟨[], []⟩) ⟨by omega, by omega⟩ (by omega) (sub_of [] ⟨rfl, clo_ren hr_f rfl, rfl, rfl, trivial⟩ trivial rfl) ?_ ?_
  · intro x1 i6
    obtain ⟨e7, e8, e9⟩ := i6
    try dsimp only at *
    refine run_seq ?_
    refine run_region (q_assign .n (.c rfl) rfl <|
        Lex.nil) ?_
    exact run_ret [] (.cons (.t rfl rfl) .nil) rfl trivial rfl
  · intro rec1 k1 hk2 x1 i3
    obtain ⟨e10, e11⟩ := i3
    try dsimp only at *
    refine run_seq ?_
    refine run_region (q_int .n (.t rfl) (.t rfl) rfl rfl <|
        Lex.nil) ?_
    refine run_seq ?_
    refine run_cond (.t rfl) rfl (fun h4 => ?_) (fun h4 => ?_)
    · try simp only [Bool.and_eq_true, Bool.or_eq_true, Bool.not_eq_true', Bool.and_eq_false_iff, Bool.or_eq_false_iff, Bool.not_eq_false', decide_eq_true_eq, decide_eq_false_iff_not, beq_iff_eq, bne_iff_ne, beq_eq_false_iff_ne, bne_eq_false_iff_eq, Bool.true_and, ne_eq, Decidable.not_not, Int.not_lt, Int.not_le, Nat.not_lt, Nat.not_le, strB_nil, strB_nil', strB_nnil, strB_nnil'] at h4
      refine run_skip ?_
      refine run_seq ?_
      refine run_block ?_
      refine run_seq ?_
      refine run_region (q_move .n (.t rfl) rfl <|
          q_assign .n (.t rfl) rfl <|
          Lex.nil) ?_
      refine run_seq ?_
      refine run_region (q_move .n (.t rfl) rfl <|
          q_move .n (.t rfl) rfl <|
          q_move .n (.t rfl) rfl <|
          q_idx_rm .n (.t rfl) (.t rfl) sl_25 (fun _ => by omega) rfl <|
          q_ld1_ro .n (.t rfl) rfl ic_2 rfl <|
          q_call0 (full := false) .n (.c (.t rfl)) he_f (.cons (.t rfl) .nil) (passes_app hr_f (.cons (.b (.a (.same rfl))) .nil)) (fun hg => hc_f (at' s_ x1)) rfl (fun h => Bool.noConfusion h) rfl <|
          Lex.nil) ?_
      refine run_cond (.t rfl) rfl (fun h5 => ?_) (fun h5 => ?_)
      · try simp only [Bool.and_eq_true, Bool.or_eq_true, Bool.not_eq_true', Bool.and_eq_false_iff, Bool.or_eq_false_iff, Bool.not_eq_false', decide_eq_true_eq, decide_eq_false_iff_not, beq_iff_eq, bne_iff_ne, beq_eq_false_iff_ne, bne_eq_false_iff_eq, Bool.true_and, ne_eq, Decidable.not_not, Int.not_lt, Int.not_le, Nat.not_lt, Nat.not_le, strB_nil, strB_nil', strB_nnil, strB_nnil'] at h5
        refine run_seq ?_
        refine run_region (q_move .n (.t rfl) rfl <|
            q_assign .n (.t rfl) rfl <|
            Lex.nil) ?_
        exact run_ret [] (.cons (.t rfl rfl) .nil) rfl trivial rfl
      · try simp only [Bool.and_eq_true, Bool.or_eq_true, Bool.not_eq_true', Bool.and_eq_false_iff, Bool.or_eq_false_iff, Bool.not_eq_false', decide_eq_true_eq, decide_eq_false_iff_not, beq_iff_eq, bne_iff_ne, beq_eq_false_iff_ne, bne_eq_false_iff_eq, Bool.true_and, ne_eq, Decidable.not_not, Int.not_lt, Int.not_le, Nat.not_lt, Nat.not_le, strB_nil, strB_nil', strB_nnil, strB_nnil'] at h5
        refine run_skip ?_
        refine run_endB ?_
        refine run_region (q_add .n (.t rfl) (.c rfl) (fun _ => by omega) rfl <|
            q_move .n (.t rfl) rfl <|
            Lex.nil) ?_
        exact run_again (x1 + 1) ⟨by omega, by omega⟩ (by omega) (sub_of [] ⟨rfl, clo_ren hr_f rfl, rfl, rfl, trivial⟩ trivial rfl)
    · try simp only [Bool.and_eq_true, Bool.or_eq_true, Bool.not_eq_true', Bool.and_eq_false_iff, Bool.or_eq_false_iff, Bool.not_eq_false', decide_eq_true_eq, decide_eq_false_iff_not, beq_iff_eq, bne_iff_ne, beq_eq_false_iff_ne, bne_eq_false_iff_eq, Bool.true_and, ne_eq, Decidable.not_not, Int.not_lt, Int.not_le, Nat.not_lt, Nat.not_le, strB_nil, strB_nil', strB_nnil, strB_nnil'] at h4
      refine run_exit rfl ?_
      exact run_cont hk2 x1 ⟨by omega, by omega, by omega⟩ (sub_of [] trivial trivial rfl)

/-! ### slices_ContainsFunc_int64 -/
theorem c_slices_ContainsFunc_int64 (s_ : List Int) (f : Int → Bool) (F_f : FuncId) (C_f : List V) (he_f : entB Try.prog F_f = true) (hr_f : C_f.all V.ro = true) (hc_f : ∀ (a0 : Int), Con Try.prog F_f ([.int .i64 a0] ++ C_f) [] (.bool (f a0)) []) : Con Try.prog 100 [.sl 1 (s_.map (V.int .i64)), .clo F_f C_f] [] (.bool (m_slices_ContainsFunc_int64 s_ f)) ([]) := by
  refine con_intro (out := fun r : Bool => ((.bool r : V), ([] : List (Nat × Option O)))) (r := (m_slices_ContainsFunc_int64 s_ f)) Try.func100 rfl Try.ntmps100 rfl ?_
  refine run_fact (t := 0) rfl fun hl => ?_
  have l1 := hl; clear hl; simp only [List.length_map] at l1
  refine run_seq ?_
  refine run_region (q_assign .n (.c rfl) rfl <|
      Lex.nil) ?_
  refine run_seq ?_
  refine run_region (q_move .n (.t rfl) rfl <|
      q_move .n (.t rfl) rfl <|
      q_call0 (full := false) .n .f en_124 (.cons (.t rfl) (.cons (.t rfl) .nil)) (.cons (.b (.a (.same rfl))) (.cons (.clo (passBs_ro hr_f)) .nil)) (fun hg => c_slices_IndexFunc_int64 s_ f F_f C_f he_f hr_f hc_f) rfl (fun h => Bool.noConfusion h) rfl <|
      q_int .n (.t rfl) (.c rfl) rfl rfl <|
      q_assign .n (.t rfl) rfl <|
      Lex.nil) ?_
  exact run_ret [] (.cons (.t rfl rfl) .nil) rfl trivial rfl

/-! ### impl_allWithin_1 -/
theorem c_impl_allWithin_1 (n_ : Int) (p1 : Int) (p2 : Int) : Con Try.prog 131 [.int .i64 n_, .rp [.int .i64 p1], .rp [.int .i64 p2]] [] (.bool (m_impl_allWithin_1 n_ p1 p2)) ([]) := by
  refine con_intro (out := fun r : Bool => ((.bool r : V), ([] : List (Nat × Option O)))) (r := (m_impl_allWithin_1 n_ p1 p2)) Try.func131 rfl Try.ntmps131 rfl ?_
  refine run_seq ?_
  refine run_region (q_assign .n (.c rfl) rfl <|
      Lex.nil) ?_
  refine run_seq ?_
  refine run_region (q_move .n (.t rfl) rfl <|
      q_ld1_ro .n (.t rfl) rfl ic_2 rfl <|
      q_ld1_ro .n (.t rfl) rfl ic_2 rfl <|
      q_call0 (full := false) .n .f en_85 (.cons (.t rfl) (.cons (.t rfl) (.cons (.t rfl) .nil))) (.cons (.b (.a (.same rfl))) (.cons (.b (.a (.same rfl))) (.cons (.b (.a (.same rfl))) .nil))) (fun hg => c_impl_within n_ p1 p2) rfl (fun h => Bool.noConfusion h) rfl <|
      q_not .n (.t rfl) rfl <|
      q_assign .n (.t rfl) rfl <|
      Lex.nil) ?_
  exact run_ret [] (.cons (.t rfl rfl) .nil) rfl trivial rfl

/-! ### impl_allWithin -/
theorem c_impl_allWithin (list : List Int) (low : Int) (high : Int) : Con Try.prog 111 [.sl 1 (list.map (V.int .i64)), .int .i64 low, .int .i64 high] [] (.bool (m_impl_allWithin list low high)) ([]) := by
  refine con_intro (out := fun r : Bool => ((.bool r : V), ([] : List (Nat × Option O)))) (r := (m_impl_allWithin list low high)) Try.func111 rfl Try.ntmps111 rfl ?_
  refine run_fact (t := 0) rfl fun hl => ?_
  have l1 := hl; clear hl; simp only [List.length_map] at l1
  refine run_seq ?_
  refine run_region (q_box (l := 200) .n rfl (.t rfl) rfl rfl rfl rfl <|
      q_box (l := 201) .n rfl (.t rfl) rfl rfl rfl rfl <|
      q_assign .n (.c rfl) rfl <|
      Lex.nil) ?_
  refine run_seq ?_
  refine run_region (q_move .n (.t rfl) rfl <|
      q_clo .n (.cons (.t rfl) (.cons (.t rfl) .nil)) rfl rfl <|
      q_call0 (full := true) .n .f en_100 (.cons (.t rfl) (.cons (.t rfl) .nil)) (.cons (.b (.a (.same rfl))) (.cons (.clo (.cons (.ptr rfl rfl (.inr rfl) rfl rfl (.cons (.same rfl) .nil)) (.cons (.ptr rfl rfl (.inr rfl) rfl rfl (.cons (.same rfl) .nil)) .nil))) .nil)) (fun hg => c_slices_ContainsFunc_int64 list (fun (a0 : Int) => m_impl_allWithin_1 a0 low high) 131 [.rp [.int .i64 low], .rp [.int .i64 high]] en_131 rfl (fun a0 => c_impl_allWithin_1 a0 low high)) rfl (fun _ => rfl) rfl <|
      q_not .n (.t rfl) rfl <|
      q_assign .n (.t rfl) rfl <|
      Lex.nil) ?_
  exact run_ret [] (.cons (.t rfl rfl) .nil) rfl trivial rfl

/-! ### impl_Mine_hasList -/
theorem c_impl_Mine_hasList (m_ : gMine) (list : List Int) (low : Int) (high : Int) : Con Try.prog 112 [.st [.int .i64 m_.Junctions, .sl 7 (m_.Airways.map gAirway.v)], .sl 1 (list.map (V.int .i64)), .int .i64 low, .int .i64 high] [] (.bool (m_impl_Mine_hasList m_ list low high)) ([]) := by
  refine con_intro (out := fun r : Bool => ((.bool r : V), ([] : List (Nat × Option O)))) (r := (m_impl_Mine_hasList m_ list low high)) Try.func112 rfl Try.ntmps112 rfl ?_
  refine run_factS (t := 0) 1 rfl rfl fun hl => ?_
  have l1 := hl; clear hl; simp only [List.length_map] at l1
  refine run_fact (t := 1) rfl fun hl => ?_
  have l2 := hl; clear hl; simp only [List.length_map] at l2
  refine run_seq ?_
  refine run_region (q_box (l := 200) .n rfl (.t rfl) rfl rfl rfl rfl <|
      q_assign .n (.c rfl) rfl <|
      Lex.nil) ?_
  refine run_seq ?_
  refine run_region (q_move .n (.t rfl) rfl <|
      q_len .n (.t rfl) rfl len_map ss_25 rfl <|
      q_fld_ow .n (.t rfl) fo_33_1 rfl <|
      q_ld1_ow .n (.t rfl) rfl (.inr rfl) (fun _ => rfl) rfl ic_31 rfl <|
      q_len .n (.t rfl) rfl len_map ss_31 rfl <|
      q_int .n (.t rfl) (.t rfl) rfl rfl <|
      q_move .n (.t rfl) rfl <|
      q_move (.t rfl rfl) (.t rfl) rfl <|
      q_move (.t rfl rfl) (.t rfl) rfl <|
      q_move (.t rfl rfl) (.t rfl) rfl <|
      q_call0 (full := false) (.t rfl rfl) .f en_111 (.cons (.u rfl id) (.cons (.u rfl id) (.cons (.u rfl id) .nil))) (.cons (.b (.a (.same rfl))) (.cons (.b (.a (.same rfl))) (.cons (.b (.a (.same rfl))) .nil))) (fun hg => c_impl_allWithin list low high) rfl (fun h => Bool.noConfusion h) rfl <|
      q_and .n (.t rfl) (.u rfl id) rfl <|
      q_assign .n (.t rfl) rfl <|
      Lex.nil) ?_
  exact run_ret [] (.cons (.t rfl rfl) .nil) rfl trivial rfl

/-! ### impl_Mine_hasFlows -/
theorem c_impl_Mine_hasFlows (m_ : gMine) (flows : List Int) : Con Try.prog 84 [.st [.int .i64 m_.Junctions, .sl 7 (m_.Airways.map gAirway.v)], .sl 1 (flows.map (V.int .i64))] [] (.bool (m_impl_Mine_hasFlows m_ flows)) ([]) := by
  refine con_intro (out := fun r : Bool => ((.bool r : V), ([] : List (Nat × Option O)))) (r := (m_impl_Mine_hasFlows m_ flows)) Try.func84 rfl Try.ntmps84 rfl ?_
  refine run_factS (t := 0) 1 rfl rfl fun hl => ?_
  have l1 := hl; clear hl; simp only [List.length_map] at l1
  refine run_fact (t := 1) rfl fun hl => ?_
  have l2 := hl; clear hl; simp only [List.length_map] at l2
  refine run_seq ?_
  refine run_region (q_box (l := 200) .n rfl (.t rfl) rfl rfl rfl rfl <|
      q_assign .n (.c rfl) rfl <|
      Lex.nil) ?_
  refine run_seq ?_
  refine run_region (q_ldN_ow .n (.t rfl) rfl (.inr rfl) ag_33 (fun _ => rfl) rfl rfl <|
      q_move .n (.t rfl) rfl <|
      q_call0 (full := false) .n .f en_112 (.cons (.t rfl) (.cons (.t rfl) (.cons (.c rfl) (.cons (.c rfl) .nil)))) (.cons (.sts rfl) (.cons (.b (.a (.same rfl))) (.cons (.b (.a (.same rfl))) (.cons (.b (.a (.same rfl))) .nil)))) (fun hg => c_impl_Mine_hasList m_ flows (-100000) 100000) rfl (fun h => Bool.noConfusion h) rfl <|
      q_assign .n (.t rfl) rfl <|
      Lex.nil) ?_
  exact run_ret [] (.cons (.t rfl rfl) .nil) rfl trivial rfl

/-! ### impl_jobsCode -/
theorem c_impl_jobsCode (m_ : gMine) (flows : List Int) (list : List gJob) : Con Try.prog 47 [.st [.int .i64 m_.Junctions, .sl 7 (m_.Airways.map gAirway.v)], .sl 1 (flows.map (V.int .i64)), .sl 4 (list.map gJob.v)] [] (.int .i64 (m_impl_jobsCode m_ flows list)) ([]) := by
  refine con_intro (out := fun r : Int => ((.int .i64 r : V), ([] : List (Nat × Option O)))) (r := (m_impl_jobsCode m_ flows list)) Try.func47 rfl Try.ntmps47 rfl ?_
  refine run_factS (t := 0) 1 rfl rfl fun hl => ?_
  have l1 := hl; clear hl; simp only [List.length_map] at l1
  refine run_fact (t := 1) rfl fun hl => ?_
  have l2 := hl; clear hl; simp only [List.length_map] at l2
  refine run_fact (t := 2) rfl fun hl => ?_
  have l3 := hl; clear hl; simp only [List.length_map] at l3
  refine run_seq ?_
  refine run_region (q_box (l := 200) .n rfl (.t rfl) rfl rfl rfl rfl <|
      q_assign .n (.c rfl) rfl <|
      Lex.nil) ?_
  refine run_seq ?_
  refine run_block ?_
  refine run_seq ?_
  refine run_region (q_ldN_ow .n (.t rfl) rfl (.inr rfl) ag_33 (fun _ => rfl) rfl rfl <|
      q_move .n (.t rfl) rfl <|
      q_call0 (full := false) .n .f en_73 (.cons (.t rfl) (.cons (.t rfl) .nil)) (.cons (.sts rfl) (.cons (.b (.a (.same rfl))) .nil)) (fun hg => c_impl_ValidJobs m_ list) rfl (fun h => Bool.noConfusion h) rfl <|
      q_not .n (.t rfl) rfl <|
      q_assign .n (.t rfl) rfl <|
      Lex.nil) ?_
  refine run_cond (.t rfl) rfl (fun h4 => ?_) (fun h4 => ?_)
  · try simp only [Bool.and_eq_true, Bool.or_eq_true, Bool.not_eq_true', Bool.and_eq_false_iff, Bool.or_eq_false_iff, Bool.not_eq_false', decide_eq_true_eq, decide_eq_false_iff_not, beq_iff_eq, bne_iff_ne, beq_eq_false_iff_ne, bne_eq_false_iff_eq, Bool.true_and, ne_eq, Decidable.not_not, Int.not_lt, Int.not_le, Nat.not_lt, Nat.not_le, strB_nil, strB_nil', strB_nnil, strB_nnil'] at h4
    refine run_seq ?_
    refine run_region (q_assign .n (.c rfl) rfl <|
        Lex.nil) ?_
    exact run_ret [] (.cons (.t rfl rfl) .nil) rfl trivial rfl
  · try simp only [Bool.and_eq_true, Bool.or_eq_true, Bool.not_eq_true', Bool.and_eq_false_iff, Bool.or_eq_false_iff, Bool.not_eq_false', decide_eq_true_eq, decide_eq_false_iff_not, beq_iff_eq, bne_iff_ne, beq_eq_false_iff_ne, bne_eq_false_iff_eq, Bool.true_and, ne_eq, Decidable.not_not, Int.not_lt, Int.not_le, Nat.not_lt, Nat.not_le, strB_nil, strB_nil', strB_nnil, strB_nnil'] at h4
    refine run_seq ?_
    refine run_region (q_ldN_ow .n (.t rfl) rfl (.inr rfl) ag_33 (fun _ => rfl) rfl rfl <|
        q_move .n (.t rfl) rfl <|
        q_call0 (full := false) .n .f en_84 (.cons (.t rfl) (.cons (.t rfl) .nil)) (.cons (.sts rfl) (.cons (.b (.a (.same rfl))) .nil)) (fun hg => c_impl_Mine_hasFlows m_ flows) rfl (fun h => Bool.noConfusion h) rfl <|
        q_not .n (.t rfl) rfl <|
        q_assign .n (.t rfl) rfl <|
        Lex.nil) ?_
    refine run_cond (.t rfl) rfl (fun h5 => ?_) (fun h5 => ?_)
    · try simp only [Bool.and_eq_true, Bool.or_eq_true, Bool.not_eq_true', Bool.and_eq_false_iff, Bool.or_eq_false_iff, Bool.not_eq_false', decide_eq_true_eq, decide_eq_false_iff_not, beq_iff_eq, bne_iff_ne, beq_eq_false_iff_ne, bne_eq_false_iff_eq, Bool.true_and, ne_eq, Decidable.not_not, Int.not_lt, Int.not_le, Nat.not_lt, Nat.not_le, strB_nil, strB_nil', strB_nnil, strB_nnil'] at h5
      refine run_seq ?_
      refine run_region (q_assign .n (.c rfl) rfl <|
          Lex.nil) ?_
      exact run_ret [] (.cons (.t rfl rfl) .nil) rfl trivial rfl
    · try simp only [Bool.and_eq_true, Bool.or_eq_true, Bool.not_eq_true', Bool.and_eq_false_iff, Bool.or_eq_false_iff, Bool.not_eq_false', decide_eq_true_eq, decide_eq_false_iff_not, beq_iff_eq, bne_iff_ne, beq_eq_false_iff_ne, bne_eq_false_iff_eq, Bool.true_and, ne_eq, Decidable.not_not, Int.not_lt, Int.not_le, Nat.not_lt, Nat.not_le, strB_nil, strB_nil', strB_nnil, strB_nnil'] at h5
      refine run_skip ?_
      refine run_endB ?_
      refine run_seq ?_
      refine run_region (q_assign .n (.c rfl) rfl <|
          Lex.nil) ?_
      exact run_ret [] (.cons (.t rfl rfl) .nil) rfl trivial rfl

/-! ### impl_budgetValid -/
theorem c_impl_budgetValid (budget : Int) : Con Try.prog 48 [.int .i64 budget] [] (.bool (m_impl_budgetValid budget)) ([]) := by
  refine con_intro (out := fun r : Bool => ((.bool r : V), ([] : List (Nat × Option O)))) (r := (m_impl_budgetValid budget)) Try.func48 rfl Try.ntmps48 rfl ?_
  refine run_seq ?_
  refine run_region (q_assign .n (.c rfl) rfl <|
      Lex.nil) ?_
  refine run_seq ?_
  refine run_region (q_move .n (.t rfl) rfl <|
      q_call0 (full := false) .n .f en_85 (.cons (.t rfl) (.cons (.c rfl) (.cons (.c rfl) .nil))) (.cons (.b (.a (.same rfl))) (.cons (.b (.a (.same rfl))) (.cons (.b (.a (.same rfl))) .nil))) (fun hg => c_impl_within budget 1 20000) rfl (fun h => Bool.noConfusion h) rfl <|
      q_assign .n (.t rfl) rfl <|
      Lex.nil) ?_
  exact run_ret [] (.cons (.t rfl rfl) .nil) rfl trivial rfl

/-! ### slices_IndexFunc_impl_Job -/
theorem c_slices_IndexFunc_impl_Job (s_ : List gJob) (f : gJob → Bool) (F_f : FuncId) (C_f : List V) (he_f : entB Try.prog F_f = true) (hr_f : C_f.all V.ro = true) (Q_f : gJob → Prop) (hc_f : ∀ (a0 : gJob), Q_f a0 → Con Try.prog F_f ([.st [.str a0.Id, .int .i64 a0.Airway, .int .i64 a0.People, .int .i64 a0.Power]] ++ C_f) [] (.bool (f a0)) []) (hp1 : ∀ x ∈ s_, Q_f x) : Con Try.prog 92 [.sl 4 (s_.map gJob.v), .clo F_f C_f] [] (.int .i64 (m_slices_IndexFunc_impl_Job s_ f)) ([]) := by
  refine con_intro (out := fun r : Int => ((.int .i64 r : V), ([] : List (Nat × Option O)))) (r := (m_slices_IndexFunc_impl_Job s_ f)) Try.func92 rfl Try.ntmps92 rfl ?_
  refine run_fact (t := 0) rfl fun hl => ?_
  have l1 := hl; clear hl; simp only [List.length_map] at l1
  refine run_seq ?_
  refine run_region (q_assign .n (.c rfl) rfl <|
      Lex.nil) ?_
  refine run_seq ?_
  refine run_seq ?_
  refine run_region (q_move .n (.t rfl) rfl <|
      q_len .n (.t rfl) rfl len_map ss_36 rfl <|
      q_move .n (.c rfl) rfl <|
      Lex.nil) ?_
  refine run_block ?_
  refine run_LOOP (m_slices_IndexFunc_impl_Job_b1 s_ f) _ _ _ rfl (fun (x1 : Int) => 0 ≤ x1 ∧ x1 ≤ (s_.length : Int)) (fun x1 => 0 ≤ x1 ∧ x1 ≤ (s_.length : Int) ∧ (s_.length : Int) ≤ x1) (fun x1 => ((s_.length : Int) - x1 : Int).toNat) (fun x1 => ⟨[(0, some (true, .sl 4 (s_.map gJob.v))), (1, some (true, .clo F_f C_f)), (7, some (true, .int .i64 (s_.length : Int))), (8, some (true, .int .i64 x1))], []⟩) (fun x1 => ⟨[], []⟩) ⟨by omega, by omega⟩ (by omega) (sub_of [] ⟨rfl, clo_ren hr_f rfl, rfl, rfl, trivial⟩ trivial rfl) ?_ ?_
  · intro x1 i6
    obtain ⟨e7, e8, e9⟩ := i6
    try dsimp only at *
    refine run_seq ?_
    refine run_region (q_assign .n (.c rfl) rfl <|
        Lex.nil) ?_
    exact run_ret [] (.cons (.t rfl rfl) .nil) rfl trivial rfl
  · intro rec1 k1 hk2 x1 i3
    obtain ⟨e10, e11⟩ := i3
    try dsimp only at *
    refine run_seq ?_
    refine run_region (q_int .n (.t rfl) (.t rfl) rfl rfl <|
        Lex.nil) ?_
    refine run_seq ?_
    refine run_cond (.t rfl) rfl (fun h4 => ?_) (fun h4 => ?_)
    · try simp only [Bool.and_eq_true, Bool.or_eq_true, Bool.not_eq_true', Bool.and_eq_false_iff, Bool.or_eq_false_iff, Bool.not_eq_false', decide_eq_true_eq, decide_eq_false_iff_not, beq_iff_eq, bne_iff_ne, beq_eq_false_iff_ne, bne_eq_false_iff_eq, Bool.true_and, ne_eq, Decidable.not_not, Int.not_lt, Int.not_le, Nat.not_lt, Nat.not_le, strB_nil, strB_nil', strB_nnil, strB_nnil'] at h4
      refine run_skip ?_
      refine run_seq ?_
      refine run_block ?_
      refine run_seq ?_
      refine run_region (q_move .n (.t rfl) rfl <|
          q_assign .n (.t rfl) rfl <|
          Lex.nil) ?_
      refine run_seq ?_
      refine run_region (q_move .n (.t rfl) rfl <|
          q_move .n (.t rfl) rfl <|
          q_move .n (.t rfl) rfl <|
          q_idx_rm .n (.t rfl) (.t rfl) sl_36 (fun _ => by omega) rfl <|
          q_ldN_ro .n (.t rfl) ag_66 rfl rfl rfl <|
          q_call0 (full := false) .n (.c (.t rfl)) he_f (.cons (.t rfl) .nil) (passes_app hr_f (.cons (.sts rfl) .nil)) (fun hg => hc_f (at' s_ x1) (by exact at_all hp1 (by omega))) rfl (fun h => Bool.noConfusion h) rfl <|
          Lex.nil) ?_
      refine run_cond (.t rfl) rfl (fun h5 => ?_) (fun h5 => ?_)
      · try simp only [Bool.and_eq_true, Bool.or_eq_true, Bool.not_eq_true', Bool.and_eq_false_iff, Bool.or_eq_false_iff, Bool.not_eq_false', decide_eq_true_eq, decide_eq_false_iff_not, beq_iff_eq, bne_iff_ne, beq_eq_false_iff_ne, bne_eq_false_iff_eq, Bool.true_and, ne_eq, Decidable.not_not, Int.not_lt, Int.not_le, Nat.not_lt, Nat.not_le, strB_nil, strB_nil', strB_nnil, strB_nnil'] at h5
        refine run_seq ?_
        refine run_region (q_move .n (.t rfl) rfl <|
            q_assign .n (.t rfl) rfl <|
            Lex.nil) ?_
        exact run_ret [] (.cons (.t rfl rfl) .nil) rfl trivial rfl
      · try simp only [Bool.and_eq_true, Bool.or_eq_true, Bool.not_eq_true', Bool.and_eq_false_iff, Bool.or_eq_false_iff, Bool.not_eq_false', decide_eq_true_eq, decide_eq_false_iff_not, beq_iff_eq, bne_iff_ne, beq_eq_false_iff_ne, bne_eq_false_iff_eq, Bool.true_and, ne_eq, Decidable.not_not, Int.not_lt, Int.not_le, Nat.not_lt, Nat.not_le, strB_nil, strB_nil', strB_nnil, strB_nnil'] at h5
        refine run_skip ?_
        refine run_endB ?_
        refine run_region (q_add .n (.t rfl) (.c rfl) (fun _ => by omega) rfl <|
            q_move .n (.t rfl) rfl <|
            Lex.nil) ?_
        exact run_again (x1 + 1) ⟨by omega, by omega⟩ (by omega) (sub_of [] ⟨rfl, clo_ren hr_f rfl, rfl, rfl, trivial⟩ trivial rfl)
    · try simp only [Bool.and_eq_true, Bool.or_eq_true, Bool.not_eq_true', Bool.and_eq_false_iff, Bool.or_eq_false_iff, Bool.not_eq_false', decide_eq_true_eq, decide_eq_false_iff_not, beq_iff_eq, bne_iff_ne, beq_eq_false_iff_ne, bne_eq_false_iff_eq, Bool.true_and, ne_eq, Decidable.not_not, Int.not_lt, Int.not_le, Nat.not_lt, Nat.not_le, strB_nil, strB_nil', strB_nnil, strB_nnil'] at h4
      refine run_exit rfl ?_
      exact run_cont hk2 x1 ⟨by omega, by omega, by omega⟩ (sub_of [] trivial trivial rfl)

/-! ### slices_ContainsFunc_impl_Job -/
theorem c_slices_ContainsFunc_impl_Job (s_ : List gJob) (f : gJob → Bool) (F_f : FuncId) (C_f : List V) (he_f : entB Try.prog F_f = true) (hr_f : C_f.all V.ro = true) (Q_f : gJob → Prop) (hc_f : ∀ (a0 : gJob), Q_f a0 → Con Try.prog F_f ([.st [.str a0.Id, .int .i64 a0.Airway, .int .i64 a0.People, .int .i64 a0.Power]] ++ C_f) [] (.bool (f a0)) []) (hp1 : ∀ x ∈ s_, Q_f x) : Con Try.prog 56 [.sl 4 (s_.map gJob.v), .clo F_f C_f] [] (.bool (m_slices_ContainsFunc_impl_Job s_ f)) ([]) := by
  refine con_intro (out := fun r : Bool => ((.bool r : V), ([] : List (Nat × Option O)))) (r := (m_slices_ContainsFunc_impl_Job s_ f)) Try.func56 rfl Try.ntmps56 rfl ?_
  refine run_fact (t := 0) rfl fun hl => ?_
  have l1 := hl; clear hl; simp only [List.length_map] at l1
  refine run_seq ?_
  refine run_region (q_assign .n (.c rfl) rfl <|
      Lex.nil) ?_
  refine run_seq ?_
  refine run_region (q_move .n (.t rfl) rfl <|
      q_move .n (.t rfl) rfl <|
      q_call0 (full := false) .n .f en_92 (.cons (.t rfl) (.cons (.t rfl) .nil)) (.cons (.b (.a (.same rfl))) (.cons (.clo (passBs_ro hr_f)) .nil)) (fun hg => c_slices_IndexFunc_impl_Job s_ f F_f C_f he_f hr_f Q_f hc_f (by omega)) rfl (fun h => Bool.noConfusion h) rfl <|
      q_int .n (.t rfl) (.c rfl) rfl rfl <|
      q_assign .n (.t rfl) rfl <|
      Lex.nil) ?_
  exact run_ret [] (.cons (.t rfl rfl) .nil) rfl trivial rfl

/-! ### impl_Job_need -/
theorem c_impl_Job_need (t : gJob) : Con Try.prog 79 [.st [.str t.Id, .int .i64 t.Airway, .int .i64 t.People, .int .i64 t.Power]] [] (.int .i64 (m_impl_Job_need t)) ([]) := by
  refine con_intro (out := fun r : Int => ((.int .i64 r : V), ([] : List (Nat × Option O)))) (r := (m_impl_Job_need t)) Try.func79 rfl Try.ntmps79 rfl ?_
  refine run_seq ?_
  refine run_region (q_box (l := 200) .n rfl (.t rfl) rfl rfl rfl rfl <|
      q_assign .n (.c rfl) rfl <|
      Lex.nil) ?_
  refine run_seq ?_
  refine run_region (q_fld_ow .n (.t rfl) fo_66_2 rfl <|
      q_ld1_ow .n (.t rfl) rfl (.inr rfl) (fun _ => rfl) rfl ic_2 rfl <|
      q_int .n (.c rfl) (.t rfl) rfl rfl <|
      q_fld_ow .n (.t rfl) fo_66_3 rfl <|
      q_ld1_ow .n (.t rfl) rfl (.inr rfl) (fun _ => rfl) rfl ic_2 rfl <|
      q_int .n (.c rfl) (.t rfl) rfl rfl <|
      q_int .n (.t rfl) (.t rfl) rfl rfl <|
      q_assign .n (.t rfl) rfl <|
      Lex.nil) ?_
  exact run_ret [] (.cons (.t rfl rfl) .nil) rfl trivial rfl

/-! ### impl_Mine_airNeeds -/
theorem c_impl_Mine_airNeeds (m_ : gMine) (list : List gJob) (hp1 : MineIn m_) (hp2 : ∀ t ∈ list, 0 ≤ t.Airway ∧ t.Airway < m_.Airways.length) : Con Try.prog 74 [.st [.int .i64 m_.Junctions, .sl 7 (m_.Airways.map gAirway.v)], .sl 4 (list.map gJob.v)] [] (.os 100 (m_impl_Mine_airNeeds m_ list).length) ([(100, some (.row 2 1 ((m_impl_Mine_airNeeds m_ list).map (V.int .i64))))]) := by
  refine con_intro (out := fun r : (List Int) => ((.os 100 r.length : V), ([(100, some (.row 2 1 (r.map (V.int .i64))))] : List (Nat × Option O)))) (r := (m_impl_Mine_airNeeds m_ list)) Try.func74 rfl Try.ntmps74 rfl ?_
  have hJ1 := hp1.1
  have hA1 := hp1.2.1
  refine run_factS (t := 0) 1 rfl rfl fun hl => ?_
  have l1 := hl; clear hl; simp only [List.length_map] at l1
  refine run_fact (t := 1) rfl fun hl => ?_
  have l2 := hl; clear hl; simp only [List.length_map] at l2
  refine run_seq ?_
  refine run_region (q_box (l := 200) .n rfl (.t rfl) rfl rfl rfl rfl <|
      q_assign .n (.c rfl) rfl <|
      Lex.nil) ?_
  refine run_seq ?_
  refine run_region (q_fld_ow .n (.t rfl) fo_33_1 rfl <|
      q_ld1_ow .n (.t rfl) rfl (.inr rfl) (fun _ => rfl) rfl ic_31 rfl <|
      q_len .n (.t rfl) rfl len_map ss_31 rfl <|
      q_makem (f := V.int .i64) (l := 201) (0 : Int) .n rfl (.t rfl) (.t rfl) si_25 zv_2 (by omega) rfl rfl rfl <|
      q_assign .n (.t rfl) rfl <|
      Lex.nil) ?_
  refine run_seq ?_
  refine run_seq ?_
  refine run_region (q_move .n (.t rfl) rfl <|
      q_len .n (.t rfl) rfl len_map ss_36 rfl <|
      q_move .n (.c rfl) rfl <|
      Lex.nil) ?_
  refine run_block ?_
  refine run_LOOP (m_impl_Mine_airNeeds_b1 m_ list) _ _ _ rfl (fun (x1 : (List Int) × Int) => 0 ≤ x1.2 ∧ x1.2 ≤ (list.length : Int) ∧ x1.1.length = (List.replicate ((m_.Airways.length : Int) : Int).toNat (0 : Int)).length) (fun x1 => 0 ≤ x1.2 ∧ x1.2 ≤ (list.length : Int) ∧ x1.1.length = (List.replicate ((m_.Airways.length : Int) : Int).toNat (0 : Int)).length ∧ (list.length : Int) ≤ x1.2) (fun x1 => ((list.length : Int) - x1.2 : Int).toNat) (fun x1 => ⟨[(5, some (true, .os 201 x1.1.length)), (12, some (true, .sl 4 (list.map gJob.v))), (13, some (true, .int .i64 (list.length : Int))), (14, some (true, .int .i64 x1.2))], [(201, some (.row 2 1 (x1.1.map (V.int .i64))))]⟩) (fun x1 => ⟨[(5, some (true, .os 201 x1.1.length))], [(201, some (.row 2 1 (x1.1.map (V.int .i64))))]⟩) ⟨by omega, by omega, by (simp only [List.length_append, List.length_cons, List.length_nil, List.length_replicate, put_len] at * <;> omega)⟩ (by omega) (sub_of [] ⟨rfl, rfl, rfl, rfl, trivial⟩ ⟨rfl, trivial⟩ rfl) ?_ ?_
  · intro x1 i6
    obtain ⟨e7, e8, e9, e10⟩ := i6
    try dsimp only at *
    refine run_seq ?_
    refine run_region (q_move .n (.t rfl) rfl <|
        q_assign .n (.t rfl) rfl <|
        Lex.nil) ?_
    exact run_ret [(100, 201)] (.cons (.t rfl rfl) .nil) (by first | rfl | (simp only [put_len]; rfl)) ⟨rfl, trivial⟩ rfl
  · intro rec1 k1 hk3 x1 i4
    obtain ⟨e11, e12, e13⟩ := i4
    try dsimp only at *
    refine run_seq ?_
    refine run_region (q_int .n (.t rfl) (.t rfl) rfl rfl <|
        Lex.nil) ?_
    refine run_seq ?_
    refine run_cond (.t rfl) rfl (fun h5 => ?_) (fun h5 => ?_)
    · try simp only [Bool.and_eq_true, Bool.or_eq_true, Bool.not_eq_true', Bool.and_eq_false_iff, Bool.or_eq_false_iff, Bool.not_eq_false', decide_eq_true_eq, decide_eq_false_iff_not, beq_iff_eq, bne_iff_ne, beq_eq_false_iff_ne, bne_eq_false_iff_eq, Bool.true_and, ne_eq, Decidable.not_not, Int.not_lt, Int.not_le, Nat.not_lt, Nat.not_le, strB_nil, strB_nil', strB_nnil, strB_nnil'] at h5
      refine run_skip ?_
      refine run_seq ?_
      refine run_block ?_
      refine run_seq ?_
      refine run_region (q_idx_rm .n (.t rfl) (.t rfl) sl_36 (fun _ => by omega) rfl <|
          q_ldN_ro .n (.t rfl) ag_66 rfl rfl rfl <|
          q_alloc (l := 202) .n rfl zv_66 rfl rfl <|
          q_st_boxm [.str (at' list x1.2).Id, .int .i64 (at' list x1.2).Airway, .int .i64 (at' list x1.2).People, .int .i64 (at' list x1.2).Power] .n rfl (.t rfl) (.t rfl) rfl ts_66 rfl rfl <|
          Lex.nil) ?_
      refine run_draw fmo (q_move .n (.t rfl) rfl <|
          q_fld_ow .n (.t rfl) fo_66_1 rfl <|
          q_ld1_ow .n (.t rfl) rfl (.inr rfl) (fun _ => rfl) rfl ic_2 rfl <|
          q_idx_ow .n (.t rfl) (.t rfl) sl_25 (fun _ => by ((have hw0 := at_all (i := x1.2) hp2 (by omega); first | omega | (simp only [List.length_append, List.length_cons, List.length_nil, List.length_replicate, put_len] at * <;> omega)))) rfl <|
          q_ld1_row .n (.t rfl) rfl (fun _ => by ((have hw0 := at_all (i := x1.2) hp2 (by omega); first | omega | (simp only [List.length_append, List.length_cons, List.length_nil, List.length_replicate, put_len] at * <;> omega)))) rfl rfl rfl ic_2 rfl <|
          q_ldN_ow .n (.t rfl) rfl (.inr rfl) ag_66 (fun _ => rfl) rfl rfl <|
          q_call0 (full := false) .n .f en_79 (.cons (.t rfl) .nil) (.cons (.sts rfl) .nil) (fun hg => c_impl_Job_need (at' list x1.2)) rfl (fun h => Bool.noConfusion h) rfl <|
          q_int .n (.t rfl) (.t rfl) rfl rfl <|
          q_idx_ow .n (.t rfl) (.t rfl) sl_25 (fun _ => by ((have hw0 := at_all (i := x1.2) hp2 (by omega); first | omega | (simp only [List.length_append, List.length_cons, List.length_nil, List.length_replicate, put_len] at * <;> omega)))) rfl <|
          q_st_rowm (IntKind.wrap .i64 ((at' x1.1 (at' list x1.2).Airway) + (m_impl_Job_need (at' list x1.2)))) .n rfl (.t rfl) (.t rfl) rfl ts_2 (by ((have hw0 := at_all (i := x1.2) hp2 (by omega); first | omega | (simp only [List.length_append, List.length_cons, List.length_nil, List.length_replicate, put_len] at * <;> omega)))) rfl rfl <|
          Lex.nil) (by kernel_rfl) ?_
      refine run_endB ?_
      refine run_region (q_add .n (.t rfl) (.c rfl) (fun _ => by omega) rfl <|
          q_move .n (.t rfl) rfl <|
          Lex.nil) ?_
      exact run_again (put' x1.1 (at' list x1.2).Airway (IntKind.wrap .i64 ((at' x1.1 (at' list x1.2).Airway) + (m_impl_Job_need (at' list x1.2)))), x1.2 + 1) ⟨by omega, by omega, by (simp only [List.length_append, List.length_cons, List.length_nil, List.length_replicate, put_len] at * <;> omega)⟩ (by omega) (sub_of [] ⟨os_len rfl (by first | (simp only [put_len]; done) | (first | omega | assumption | (simp only [List.length_append, List.length_cons, List.length_nil, List.length_replicate, put_len] at * <;> omega) | (((have hw0 := at_all (i := x1.2) hp2 (by omega); first | omega | (simp only [List.length_append, List.length_cons, List.length_nil, List.length_replicate, put_len] at * <;> omega))); done))), rfl, rfl, rfl, trivial⟩ ⟨rfl, trivial⟩ rfl)
    · try simp only [Bool.and_eq_true, Bool.or_eq_true, Bool.not_eq_true', Bool.and_eq_false_iff, Bool.or_eq_false_iff, Bool.not_eq_false', decide_eq_true_eq, decide_eq_false_iff_not, beq_iff_eq, bne_iff_ne, beq_eq_false_iff_ne, bne_eq_false_iff_eq, Bool.true_and, ne_eq, Decidable.not_not, Int.not_lt, Int.not_le, Nat.not_lt, Nat.not_le, strB_nil, strB_nil', strB_nnil, strB_nnil'] at h5
      refine run_exit rfl ?_
      exact run_cont hk3 (x1.1, x1.2) ⟨by omega, by omega, by omega, by omega⟩ (sub_of [] ⟨rfl, trivial⟩ ⟨rfl, trivial⟩ rfl)

/-! ### impl_abs -/
theorem c_impl_abs (n_ : Int) : Con Try.prog 75 [.int .i64 n_] [] (.int .i64 (m_impl_abs n_)) ([]) := by
  refine con_intro (out := fun r : Int => ((.int .i64 r : V), ([] : List (Nat × Option O)))) (r := (m_impl_abs n_)) Try.func75 rfl Try.ntmps75 rfl ?_
  refine run_seq ?_
  refine run_region (q_assign .n (.c rfl) rfl <|
      Lex.nil) ?_
  refine run_seq ?_
  refine run_region (q_move .n (.t rfl) rfl <|
      q_move .n (.t rfl) rfl <|
      q_neg .n (.t rfl) rfl <|
      q_max .n (.t rfl) (.t rfl) rfl <|
      q_assign .n (.t rfl) rfl <|
      Lex.nil) ?_
  exact run_ret [] (.cons (.t rfl rfl) .nil) rfl trivial rfl

/-! ### impl_Mine_fitJobs -/
theorem c_impl_Mine_fitJobs (m_ : gMine) (flows : List Int) (list : List gJob) (hp1 : MineIn m_) (hp2 : FlowsIn m_ flows) (hp3 : ∀ t ∈ list, 0 ≤ t.Airway ∧ t.Airway < m_.Airways.length) : Con Try.prog 58 [.st [.int .i64 m_.Junctions, .sl 7 (m_.Airways.map gAirway.v)], .sl 1 (flows.map (V.int .i64)), .sl 4 (list.map gJob.v)] [] (.bool (m_impl_Mine_fitJobs m_ flows list)) ([]) := by
  refine con_intro (out := fun r : Bool => ((.bool r : V), ([] : List (Nat × Option O)))) (r := (m_impl_Mine_fitJobs m_ flows list)) Try.func58 rfl Try.ntmps58 rfl ?_
  have hJ1 := hp1.1
  have hA1 := hp1.2.1
  have hF2 := hp2.1
  refine run_factS (t := 0) 1 rfl rfl fun hl => ?_
  have l1 := hl; clear hl; simp only [List.length_map] at l1
  refine run_fact (t := 1) rfl fun hl => ?_
  have l2 := hl; clear hl; simp only [List.length_map] at l2
  refine run_fact (t := 2) rfl fun hl => ?_
  have l3 := hl; clear hl; simp only [List.length_map] at l3
  refine run_seq ?_
  refine run_region (q_box (l := 200) .n rfl (.t rfl) rfl rfl rfl rfl <|
      q_assign .n (.c rfl) rfl <|
      Lex.nil) ?_
  refine run_seq ?_
  refine run_seq ?_
  refine run_region (q_ldN_ow .n (.t rfl) rfl (.inr rfl) ag_33 (fun _ => rfl) rfl rfl <|
      q_move .n (.t rfl) rfl <|
      q_callM (full := false) [] [(100, 201)] .n rfl .f en_74 (.cons (.t rfl) (.cons (.t rfl) .nil)) (.cons (.sts rfl) (.cons (.b (.a (.same rfl))) .nil)) (c_impl_Mine_airNeeds m_ list (by omega) (by omega)) trivial rfl rfl (fun h => Bool.noConfusion h) (fun h => Bool.noConfusion h) rfl <|
      q_len .n (.t rfl) rfl rfl ss_25 rfl <|
      q_move .n (.c rfl) rfl <|
      Lex.nil) ?_
  refine run_block ?_
  refine run_LOOP (m_impl_Mine_fitJobs_b1 m_ flows list) _ _ _ rfl (fun (x1 : Int) => 0 ≤ x1 ∧ x1 ≤ ((m_impl_Mine_airNeeds m_ list).length : Int)) (fun x1 => 0 ≤ x1 ∧ x1 ≤ ((m_impl_Mine_airNeeds m_ list).length : Int) ∧ ((m_impl_Mine_airNeeds m_ list).length : Int) ≤ x1) (fun x1 => (((m_impl_Mine_airNeeds m_ list).length : Int) - x1 : Int).toNat) (fun x1 => ⟨[(1, some (true, .sl 1 (flows.map (V.int .i64)))), (11, some (true, .os 201 (m_impl_Mine_airNeeds m_ list).length)), (12, some (true, .int .i64 ((m_impl_Mine_airNeeds m_ list).length : Int))), (13, some (true, .int .i64 x1))], [(201, some (.row 2 1 ((m_impl_Mine_airNeeds m_ list).map (V.int .i64))))]⟩) (fun x1 => ⟨[], []⟩) ⟨by omega, by omega⟩ (by omega) (sub_of [] ⟨rfl, rfl, rfl, rfl, trivial⟩ ⟨rfl, trivial⟩ rfl) ?_ ?_
  · intro x1 i8
    obtain ⟨e9, e10, e11⟩ := i8
    try dsimp only at *
    refine run_seq ?_
    refine run_region (q_assign .n (.c rfl) rfl <|
        Lex.nil) ?_
    exact run_ret [] (.cons (.t rfl rfl) .nil) rfl trivial rfl
  · intro rec1 k1 hk4 x1 i5
    obtain ⟨e12, e13⟩ := i5
    try dsimp only at *
    refine run_seq ?_
    refine run_region (q_int .n (.t rfl) (.t rfl) rfl rfl <|
        Lex.nil) ?_
    refine run_seq ?_
    refine run_cond (.t rfl) rfl (fun h6 => ?_) (fun h6 => ?_)
    · try simp only [Bool.and_eq_true, Bool.or_eq_true, Bool.not_eq_true', Bool.and_eq_false_iff, Bool.or_eq_false_iff, Bool.not_eq_false', decide_eq_true_eq, decide_eq_false_iff_not, beq_iff_eq, bne_iff_ne, beq_eq_false_iff_ne, bne_eq_false_iff_eq, Bool.true_and, ne_eq, Decidable.not_not, Int.not_lt, Int.not_le, Nat.not_lt, Nat.not_le, strB_nil, strB_nil', strB_nnil, strB_nnil'] at h6
      refine run_skip ?_
      refine run_seq ?_
      refine run_block ?_
      refine run_seq ?_
      refine run_region (q_move .n (.t rfl) rfl <|
          q_idx_ow .n (.t rfl) (.t rfl) sl_25 (fun _ => by omega) rfl <|
          q_ld1_row .n (.t rfl) rfl (fun _ => by omega) rfl rfl rfl ic_2 rfl <|
          q_assign .n (.t rfl) rfl <|
          q_assign .n (.t rfl) rfl <|
          Lex.nil) ?_
      refine run_seq ?_
      refine run_region (q_move .n (.t rfl) rfl <|
          q_move .n (.t rfl) rfl <|
          q_move .n (.t rfl) rfl <|
          q_idx_rm .n (.t rfl) (.t rfl) sl_25 (fun _ => by ((have hw0 := needs_len m_ list; first | omega | (simp only [List.length_append, List.length_cons, List.length_nil, List.length_replicate, put_len] at * <;> omega)))) rfl <|
          q_ld1_ro .n (.t rfl) rfl ic_2 rfl <|
          q_call0 (full := false) .n .f en_75 (.cons (.t rfl) .nil) (.cons (.b (.a (.same rfl))) .nil) (fun hg => c_impl_abs (at' flows x1)) rfl (fun h => Bool.noConfusion h) rfl <|
          q_int .n (.t rfl) (.t rfl) rfl rfl <|
          Lex.nil) ?_
      refine run_cond (.t rfl) rfl (fun h7 => ?_) (fun h7 => ?_)
      · try simp only [Bool.and_eq_true, Bool.or_eq_true, Bool.not_eq_true', Bool.and_eq_false_iff, Bool.or_eq_false_iff, Bool.not_eq_false', decide_eq_true_eq, decide_eq_false_iff_not, beq_iff_eq, bne_iff_ne, beq_eq_false_iff_ne, bne_eq_false_iff_eq, Bool.true_and, ne_eq, Decidable.not_not, Int.not_lt, Int.not_le, Nat.not_lt, Nat.not_le, strB_nil, strB_nil', strB_nnil, strB_nnil'] at h7
        refine run_seq ?_
        refine run_region (q_assign .n (.c rfl) rfl <|
            Lex.nil) ?_
        exact run_ret [] (.cons (.t rfl rfl) .nil) rfl trivial rfl
      · try simp only [Bool.and_eq_true, Bool.or_eq_true, Bool.not_eq_true', Bool.and_eq_false_iff, Bool.or_eq_false_iff, Bool.not_eq_false', decide_eq_true_eq, decide_eq_false_iff_not, beq_iff_eq, bne_iff_ne, beq_eq_false_iff_ne, bne_eq_false_iff_eq, Bool.true_and, ne_eq, Decidable.not_not, Int.not_lt, Int.not_le, Nat.not_lt, Nat.not_le, strB_nil, strB_nil', strB_nnil, strB_nnil'] at h7
        refine run_skip ?_
        refine run_endB ?_
        refine run_region (q_add .n (.t rfl) (.c rfl) (fun _ => by ((have hw0 := needs_len m_ list; first | omega | (simp only [List.length_append, List.length_cons, List.length_nil, List.length_replicate, put_len] at * <;> omega)))) rfl <|
            q_move .n (.t rfl) rfl <|
            Lex.nil) ?_
        exact run_again (x1 + 1) ⟨by omega, by omega⟩ (by omega) (sub_of [] ⟨rfl, rfl, rfl, rfl, trivial⟩ ⟨rfl, trivial⟩ rfl)
    · try simp only [Bool.and_eq_true, Bool.or_eq_true, Bool.not_eq_true', Bool.and_eq_false_iff, Bool.or_eq_false_iff, Bool.not_eq_false', decide_eq_true_eq, decide_eq_false_iff_not, beq_iff_eq, bne_iff_ne, beq_eq_false_iff_ne, bne_eq_false_iff_eq, Bool.true_and, ne_eq, Decidable.not_not, Int.not_lt, Int.not_le, Nat.not_lt, Nat.not_le, strB_nil, strB_nil', strB_nnil, strB_nnil'] at h6
      refine run_exit rfl ?_
      exact run_cont hk4 x1 ⟨by omega, by omega, by omega⟩ (sub_of [] trivial trivial rfl)

/-! ### impl_FewestShifts_1 -/
theorem c_impl_FewestShifts_1 (t : gJob) (p1 : gMine) (p2 : List Int) (hp1 : MineIn p1) (hp2 : FlowsIn p1 p2) (hp3 : 0 ≤ t.Airway ∧ t.Airway < p1.Airways.length) : Con Try.prog 57 [.st [.str t.Id, .int .i64 t.Airway, .int .i64 t.People, .int .i64 t.Power], .rp [.int .i64 p1.Junctions, .sl 7 (p1.Airways.map gAirway.v)], .rp [.sl 1 (p2.map (V.int .i64))]] [] (.bool (m_impl_FewestShifts_1 t p1 p2)) ([]) := by
  refine con_intro (out := fun r : Bool => ((.bool r : V), ([] : List (Nat × Option O)))) (r := (m_impl_FewestShifts_1 t p1 p2)) Try.func57 rfl Try.ntmps57 rfl ?_
  have hJ1 := hp1.1
  have hA1 := hp1.2.1
  have hF2 := hp2.1
  refine run_factP (t := 1) 1 rfl rfl fun hl => ?_
  have l1 := hl; clear hl; simp only [List.length_map] at l1
  refine run_factP (t := 2) 0 rfl rfl fun hl => ?_
  have l2 := hl; clear hl; simp only [List.length_map] at l2
  refine run_seq ?_
  refine run_region (q_box (l := 200) .n rfl (.t rfl) rfl rfl rfl rfl <|
      q_assign .n (.c rfl) rfl <|
      Lex.nil) ?_
  refine run_seq ?_
  refine run_region (q_ldN_ro .n (.t rfl) ag_33 rfl rfl rfl <|
      q_ld1_ro .n (.t rfl) rfl ic_25 rfl <|
      q_ldN_ow .n (.t rfl) rfl (.inr rfl) ag_66 (fun _ => rfl) rfl rfl <|
      q_bslicem ([t] : List gJob) (f := gJob.v) (l := 201) .n rfl rfl (.cons (.t rfl) .nil) rfl si_36 zv_66 rfl rfl rfl <|
      q_call0 (full := true) .n .f en_58 (.cons (.t rfl) (.cons (.t rfl) (.cons (.t rfl) .nil))) (.cons (.sts rfl) (.cons (.b (.a (.same rfl))) (.cons (.b (.a (.own rfl rfl rfl (take_all (by simp only [len_map, put_len] <;> rfl)) (by simp only [len_map, put_len] <;> rfl)))) .nil))) (fun hg => c_impl_Mine_fitJobs p1 p2 ([t] : List gJob) (by omega) (by omega) (by ((intro t1 ht1; rw [List.mem_singleton] at ht1; rw [ht1]; exact hp3)))) rfl (fun _ => rfl) rfl <|
      q_not .n (.t rfl) rfl <|
      q_assign .n (.t rfl) rfl <|
      Lex.nil) ?_
  exact run_ret [] (.cons (.t rfl rfl) .nil) rfl trivial rfl


end Go.Proofs.Ytchjibndocnnhaa
