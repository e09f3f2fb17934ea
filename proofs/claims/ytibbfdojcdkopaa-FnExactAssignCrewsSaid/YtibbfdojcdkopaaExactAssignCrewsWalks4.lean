/-
  THE WALKS: each Go function computes its model. Conditions: as each theorem states them (hp1, hp2 ..).
-/
import Derived.Test.YtibbfdojcdkopaaExactAssignCrewsWalks3
set_option linter.unusedVariables false
set_option linter.unusedSimpArgs false
set_option linter.unusedSectionVars false
set_option linter.unnecessarySimpa false
namespace Go.Proofs.Ytibbfdojcdkopaa
open Go Go.RowKit Go.Proofs Go.Proofs.Ytibbfdojcdkopaa.E
/-! ### laws_eqAirway -/
theorem c_laws_eqAirway (a : gAirway) (b : gAirway) : Con Try.prog 71 [.st [.str a.Id, .int .i64 a.From, .int .i64 a.To, .int .i64 a.Length, .int .i64 a.Section, .int .i64 a.Friction, .int .i64 a.Shock], .st [.str b.Id, .int .i64 b.From, .int .i64 b.To, .int .i64 b.Length, .int .i64 b.Section, .int .i64 b.Friction, .int .i64 b.Shock]] [] (.bool (m_laws_eqAirway a b)) ([]) := by
  refine con_intro (out := fun r : Bool => ((.bool r : V), ([] : List (Nat × Option O)))) (r := (m_laws_eqAirway a b)) Try.func71 rfl Try.ntmps71 rfl ?_
  refine run_seq ?_
  refine run_region (q_box (l := 200) .n rfl (.t rfl) rfl rfl rfl rfl <| q_box (l := 201) .n rfl (.t rfl) rfl rfl rfl rfl <| q_assign .n (.c rfl) rfl <| Lex.nil) ?_
  refine run_seq ?_
  refine run_seq ?_
  refine run_region (q_fld_ow .n (.t rfl) fo_99_0 rfl <| q_ld1_ow .n (.t rfl) rfl (.inr rfl) (fun _ => rfl) rfl ic_9 rfl <| q_fld_ow .n (.t rfl) fo_99_0 rfl <| q_ld1_ow .n (.t rfl) rfl (.inr rfl) (fun _ => rfl) rfl ic_9 rfl <| q_strcmp .n (.t rfl) (.t rfl) rfl rfl <| Lex.nil) ?_
  refine run_cond (.t rfl) rfl (fun h1 => ?_) (fun h1 => ?_)
  · try simp only [Bool.and_eq_true, Bool.or_eq_true, Bool.not_eq_true', Bool.and_eq_false_iff, Bool.or_eq_false_iff, Bool.not_eq_false', decide_eq_true_eq, decide_eq_false_iff_not, beq_iff_eq, bne_iff_ne, beq_eq_false_iff_ne, bne_eq_false_iff_eq, Bool.true_and, ne_eq, Decidable.not_not, Int.not_lt, Int.not_le, Nat.not_lt, Nat.not_le, strB_nil, strB_nil', strB_nnil, strB_nnil'] at h1
    refine run_seq ?_
    refine run_region (q_assign .n (.c rfl) rfl <| Lex.nil) ?_
    exact run_ret [] (.cons (.t rfl rfl) .nil) rfl trivial rfl
  · try simp only [Bool.and_eq_true, Bool.or_eq_true, Bool.not_eq_true', Bool.and_eq_false_iff, Bool.or_eq_false_iff, Bool.not_eq_false', decide_eq_true_eq, decide_eq_false_iff_not, beq_iff_eq, bne_iff_ne, beq_eq_false_iff_ne, bne_eq_false_iff_eq, Bool.true_and, ne_eq, Decidable.not_not, Int.not_lt, Int.not_le, Nat.not_lt, Nat.not_le, strB_nil, strB_nil', strB_nnil, strB_nnil'] at h1
    refine run_skip ?_
    refine run_seq ?_
    refine run_seq ?_
    refine run_region (q_fld_ow .n (.t rfl) fo_99_1 rfl <| q_ld1_ow .n (.t rfl) rfl (.inr rfl) (fun _ => rfl) rfl ic_2 rfl <| q_fld_ow .n (.t rfl) fo_99_1 rfl <| q_ld1_ow .n (.t rfl) rfl (.inr rfl) (fun _ => rfl) rfl ic_2 rfl <| q_int .n (.t rfl) (.t rfl) rfl rfl <| Lex.nil) ?_
    refine run_cond (.t rfl) rfl (fun h2 => ?_) (fun h2 => ?_)
    · try simp only [Bool.and_eq_true, Bool.or_eq_true, Bool.not_eq_true', Bool.and_eq_false_iff, Bool.or_eq_false_iff, Bool.not_eq_false', decide_eq_true_eq, decide_eq_false_iff_not, beq_iff_eq, bne_iff_ne, beq_eq_false_iff_ne, bne_eq_false_iff_eq, Bool.true_and, ne_eq, Decidable.not_not, Int.not_lt, Int.not_le, Nat.not_lt, Nat.not_le, strB_nil, strB_nil', strB_nnil, strB_nnil'] at h2
      refine run_seq ?_
      refine run_region (q_assign .n (.c rfl) rfl <| Lex.nil) ?_
      exact run_ret [] (.cons (.t rfl rfl) .nil) rfl trivial rfl
    · try simp only [Bool.and_eq_true, Bool.or_eq_true, Bool.not_eq_true', Bool.and_eq_false_iff, Bool.or_eq_false_iff, Bool.not_eq_false', decide_eq_true_eq, decide_eq_false_iff_not, beq_iff_eq, bne_iff_ne, beq_eq_false_iff_ne, bne_eq_false_iff_eq, Bool.true_and, ne_eq, Decidable.not_not, Int.not_lt, Int.not_le, Nat.not_lt, Nat.not_le, strB_nil, strB_nil', strB_nnil, strB_nnil'] at h2
      refine run_skip ?_
      refine run_seq ?_
      refine run_seq ?_
      refine run_region (q_fld_ow .n (.t rfl) fo_99_2 rfl <| q_ld1_ow .n (.t rfl) rfl (.inr rfl) (fun _ => rfl) rfl ic_2 rfl <| q_fld_ow .n (.t rfl) fo_99_2 rfl <| q_ld1_ow .n (.t rfl) rfl (.inr rfl) (fun _ => rfl) rfl ic_2 rfl <| q_int .n (.t rfl) (.t rfl) rfl rfl <| Lex.nil) ?_
      refine run_cond (.t rfl) rfl (fun h3 => ?_) (fun h3 => ?_)
      · try simp only [Bool.and_eq_true, Bool.or_eq_true, Bool.not_eq_true', Bool.and_eq_false_iff, Bool.or_eq_false_iff, Bool.not_eq_false', decide_eq_true_eq, decide_eq_false_iff_not, beq_iff_eq, bne_iff_ne, beq_eq_false_iff_ne, bne_eq_false_iff_eq, Bool.true_and, ne_eq, Decidable.not_not, Int.not_lt, Int.not_le, Nat.not_lt, Nat.not_le, strB_nil, strB_nil', strB_nnil, strB_nnil'] at h3
        refine run_seq ?_
        refine run_region (q_assign .n (.c rfl) rfl <| Lex.nil) ?_
        exact run_ret [] (.cons (.t rfl rfl) .nil) rfl trivial rfl
      · try simp only [Bool.and_eq_true, Bool.or_eq_true, Bool.not_eq_true', Bool.and_eq_false_iff, Bool.or_eq_false_iff, Bool.not_eq_false', decide_eq_true_eq, decide_eq_false_iff_not, beq_iff_eq, bne_iff_ne, beq_eq_false_iff_ne, bne_eq_false_iff_eq, Bool.true_and, ne_eq, Decidable.not_not, Int.not_lt, Int.not_le, Nat.not_lt, Nat.not_le, strB_nil, strB_nil', strB_nnil, strB_nnil'] at h3
        refine run_skip ?_
        refine run_seq ?_
        refine run_seq ?_
        refine run_region (q_fld_ow .n (.t rfl) fo_99_3 rfl <| q_ld1_ow .n (.t rfl) rfl (.inr rfl) (fun _ => rfl) rfl ic_2 rfl <| q_fld_ow .n (.t rfl) fo_99_3 rfl <| q_ld1_ow .n (.t rfl) rfl (.inr rfl) (fun _ => rfl) rfl ic_2 rfl <| q_int .n (.t rfl) (.t rfl) rfl rfl <| Lex.nil) ?_
        refine run_cond (.t rfl) rfl (fun h4 => ?_) (fun h4 => ?_)
        · try simp only [Bool.and_eq_true, Bool.or_eq_true, Bool.not_eq_true', Bool.and_eq_false_iff, Bool.or_eq_false_iff, Bool.not_eq_false', decide_eq_true_eq, decide_eq_false_iff_not, beq_iff_eq, bne_iff_ne, beq_eq_false_iff_ne, bne_eq_false_iff_eq, Bool.true_and, ne_eq, Decidable.not_not, Int.not_lt, Int.not_le, Nat.not_lt, Nat.not_le, strB_nil, strB_nil', strB_nnil, strB_nnil'] at h4
          refine run_seq ?_
          refine run_region (q_assign .n (.c rfl) rfl <| Lex.nil) ?_
          exact run_ret [] (.cons (.t rfl rfl) .nil) rfl trivial rfl
        · try simp only [Bool.and_eq_true, Bool.or_eq_true, Bool.not_eq_true', Bool.and_eq_false_iff, Bool.or_eq_false_iff, Bool.not_eq_false', decide_eq_true_eq, decide_eq_false_iff_not, beq_iff_eq, bne_iff_ne, beq_eq_false_iff_ne, bne_eq_false_iff_eq, Bool.true_and, ne_eq, Decidable.not_not, Int.not_lt, Int.not_le, Nat.not_lt, Nat.not_le, strB_nil, strB_nil', strB_nnil, strB_nnil'] at h4
          refine run_skip ?_
          refine run_seq ?_
          refine run_seq ?_
          refine run_region (q_fld_ow .n (.t rfl) fo_99_4 rfl <| q_ld1_ow .n (.t rfl) rfl (.inr rfl) (fun _ => rfl) rfl ic_2 rfl <| q_fld_ow .n (.t rfl) fo_99_4 rfl <| q_ld1_ow .n (.t rfl) rfl (.inr rfl) (fun _ => rfl) rfl ic_2 rfl <| q_int .n (.t rfl) (.t rfl) rfl rfl <| Lex.nil) ?_
          refine run_cond (.t rfl) rfl (fun h5 => ?_) (fun h5 => ?_)
          · try simp only [Bool.and_eq_true, Bool.or_eq_true, Bool.not_eq_true', Bool.and_eq_false_iff, Bool.or_eq_false_iff, Bool.not_eq_false', decide_eq_true_eq, decide_eq_false_iff_not, beq_iff_eq, bne_iff_ne, beq_eq_false_iff_ne, bne_eq_false_iff_eq, Bool.true_and, ne_eq, Decidable.not_not, Int.not_lt, Int.not_le, Nat.not_lt, Nat.not_le, strB_nil, strB_nil', strB_nnil, strB_nnil'] at h5
            refine run_seq ?_
            refine run_region (q_assign .n (.c rfl) rfl <| Lex.nil) ?_
            exact run_ret [] (.cons (.t rfl rfl) .nil) rfl trivial rfl
          · try simp only [Bool.and_eq_true, Bool.or_eq_true, Bool.not_eq_true', Bool.and_eq_false_iff, Bool.or_eq_false_iff, Bool.not_eq_false', decide_eq_true_eq, decide_eq_false_iff_not, beq_iff_eq, bne_iff_ne, beq_eq_false_iff_ne, bne_eq_false_iff_eq, Bool.true_and, ne_eq, Decidable.not_not, Int.not_lt, Int.not_le, Nat.not_lt, Nat.not_le, strB_nil, strB_nil', strB_nnil, strB_nnil'] at h5
            refine run_skip ?_
            refine run_seq ?_
            refine run_seq ?_
            refine run_region (q_fld_ow .n (.t rfl) fo_99_5 rfl <| q_ld1_ow .n (.t rfl) rfl (.inr rfl) (fun _ => rfl) rfl ic_2 rfl <| q_fld_ow .n (.t rfl) fo_99_5 rfl <| q_ld1_ow .n (.t rfl) rfl (.inr rfl) (fun _ => rfl) rfl ic_2 rfl <| q_int .n (.t rfl) (.t rfl) rfl rfl <| Lex.nil) ?_
            refine run_cond (.t rfl) rfl (fun h6 => ?_) (fun h6 => ?_)
            · try simp only [Bool.and_eq_true, Bool.or_eq_true, Bool.not_eq_true', Bool.and_eq_false_iff, Bool.or_eq_false_iff, Bool.not_eq_false', decide_eq_true_eq, decide_eq_false_iff_not, beq_iff_eq, bne_iff_ne, beq_eq_false_iff_ne, bne_eq_false_iff_eq, Bool.true_and, ne_eq, Decidable.not_not, Int.not_lt, Int.not_le, Nat.not_lt, Nat.not_le, strB_nil, strB_nil', strB_nnil, strB_nnil'] at h6
              refine run_seq ?_
              refine run_region (q_assign .n (.c rfl) rfl <| Lex.nil) ?_
              exact run_ret [] (.cons (.t rfl rfl) .nil) rfl trivial rfl
            · try simp only [Bool.and_eq_true, Bool.or_eq_true, Bool.not_eq_true', Bool.and_eq_false_iff, Bool.or_eq_false_iff, Bool.not_eq_false', decide_eq_true_eq, decide_eq_false_iff_not, beq_iff_eq, bne_iff_ne, beq_eq_false_iff_ne, bne_eq_false_iff_eq, Bool.true_and, ne_eq, Decidable.not_not, Int.not_lt, Int.not_le, Nat.not_lt, Nat.not_le, strB_nil, strB_nil', strB_nnil, strB_nnil'] at h6
              refine run_skip ?_
              refine run_seq ?_
              refine run_seq ?_
              refine run_region (q_fld_ow .n (.t rfl) fo_99_6 rfl <| q_ld1_ow .n (.t rfl) rfl (.inr rfl) (fun _ => rfl) rfl ic_2 rfl <| q_fld_ow .n (.t rfl) fo_99_6 rfl <| q_ld1_ow .n (.t rfl) rfl (.inr rfl) (fun _ => rfl) rfl ic_2 rfl <| q_int .n (.t rfl) (.t rfl) rfl rfl <| Lex.nil) ?_
              refine run_cond (.t rfl) rfl (fun h7 => ?_) (fun h7 => ?_)
              · try simp only [Bool.and_eq_true, Bool.or_eq_true, Bool.not_eq_true', Bool.and_eq_false_iff, Bool.or_eq_false_iff, Bool.not_eq_false', decide_eq_true_eq, decide_eq_false_iff_not, beq_iff_eq, bne_iff_ne, beq_eq_false_iff_ne, bne_eq_false_iff_eq, Bool.true_and, ne_eq, Decidable.not_not, Int.not_lt, Int.not_le, Nat.not_lt, Nat.not_le, strB_nil, strB_nil', strB_nnil, strB_nnil'] at h7
                refine run_seq ?_
                refine run_region (q_assign .n (.c rfl) rfl <| Lex.nil) ?_
                exact run_ret [] (.cons (.t rfl rfl) .nil) rfl trivial rfl
              · try simp only [Bool.and_eq_true, Bool.or_eq_true, Bool.not_eq_true', Bool.and_eq_false_iff, Bool.or_eq_false_iff, Bool.not_eq_false', decide_eq_true_eq, decide_eq_false_iff_not, beq_iff_eq, bne_iff_ne, beq_eq_false_iff_ne, bne_eq_false_iff_eq, Bool.true_and, ne_eq, Decidable.not_not, Int.not_lt, Int.not_le, Nat.not_lt, Nat.not_le, strB_nil, strB_nil', strB_nnil, strB_nnil'] at h7
                refine run_skip ?_
                refine run_seq ?_
                refine run_region (q_assign .n (.c rfl) rfl <| Lex.nil) ?_
                exact run_ret [] (.cons (.t rfl rfl) .nil) rfl trivial rfl

/-! ### laws_eqAirwayS -/
theorem c_laws_eqAirwayS (a : List gAirway) (b : List gAirway) : Con Try.prog 42 [.sl 7 (a.map gAirway.v), .sl 7 (b.map gAirway.v)] [] (.bool (m_laws_eqAirwayS a b)) ([]) := by
  refine con_intro (out := fun r : Bool => ((.bool r : V), ([] : List (Nat × Option O)))) (r := (m_laws_eqAirwayS a b)) Try.func42 rfl Try.ntmps42 rfl ?_
  refine run_fact (t := 0) rfl fun hl => ?_
  have l1 := hl; clear hl; simp only [List.length_map] at l1
  refine run_fact (t := 1) rfl fun hl => ?_
  have l2 := hl; clear hl; simp only [List.length_map] at l2
  refine run_seq ?_
  refine run_region (q_assign .n (.c rfl) rfl <| Lex.nil) ?_
  refine run_seq ?_
  refine run_seq ?_
  refine run_region (q_move .n (.t rfl) rfl <| q_len .n (.t rfl) rfl len_map ss_33 rfl <| q_move .n (.t rfl) rfl <| q_len .n (.t rfl) rfl len_map ss_33 rfl <| q_int .n (.t rfl) (.t rfl) rfl rfl <| Lex.nil) ?_
  refine run_cond (.t rfl) rfl (fun h3 => ?_) (fun h3 => ?_)
  · try simp only [Bool.and_eq_true, Bool.or_eq_true, Bool.not_eq_true', Bool.and_eq_false_iff, Bool.or_eq_false_iff, Bool.not_eq_false', decide_eq_true_eq, decide_eq_false_iff_not, beq_iff_eq, bne_iff_ne, beq_eq_false_iff_ne, bne_eq_false_iff_eq, Bool.true_and, ne_eq, Decidable.not_not, Int.not_lt, Int.not_le, Nat.not_lt, Nat.not_le, strB_nil, strB_nil', strB_nnil, strB_nnil'] at h3
    refine run_seq ?_
    refine run_region (q_assign .n (.c rfl) rfl <| Lex.nil) ?_
    exact run_ret [] (.cons (.t rfl rfl) .nil) rfl trivial rfl
  · try simp only [Bool.and_eq_true, Bool.or_eq_true, Bool.not_eq_true', Bool.and_eq_false_iff, Bool.or_eq_false_iff, Bool.not_eq_false', decide_eq_true_eq, decide_eq_false_iff_not, beq_iff_eq, bne_iff_ne, beq_eq_false_iff_ne, bne_eq_false_iff_eq, Bool.true_and, ne_eq, Decidable.not_not, Int.not_lt, Int.not_le, Nat.not_lt, Nat.not_le, strB_nil, strB_nil', strB_nnil, strB_nnil'] at h3
    refine run_skip ?_
    refine run_seq ?_
    refine run_seq ?_
    refine run_region (q_assign .n (.c rfl) rfl <| Lex.nil) ?_
    refine run_block ?_
    refine run_LOOP (m_laws_eqAirwayS_b1 a b) _ _ _ rfl (fun (x1 : Int) => 0 ≤ x1 ∧ x1 ≤ (a.length : Int)) (fun x1 => 0 ≤ x1 ∧ x1 ≤ (a.length : Int) ∧ (a.length : Int) ≤ x1) (fun x1 => ((a.length : Int) - x1 : Int).toNat) (fun x1 => ⟨[(0, some (true, .sl 7 (a.map gAirway.v))), (1, some (true, .sl 7 (b.map gAirway.v))), (5, some (true, .int .i64 x1))], []⟩) (fun x1 => ⟨[], []⟩) ⟨by omega, by omega⟩ (by omega) (sub_of [] ⟨rfl, rfl, rfl, trivial⟩ trivial rfl) ?_ ?_
    · intro x1 i8
      obtain ⟨e9, e10, e11⟩ := i8
      try dsimp only at *
      refine run_seq ?_
      refine run_region (q_assign .n (.c rfl) rfl <| Lex.nil) ?_
      exact run_ret [] (.cons (.t rfl rfl) .nil) rfl trivial rfl
    · intro rec1 k1 hk4 x1 i5
      obtain ⟨e12, e13⟩ := i5
      try dsimp only at *
      refine run_seq ?_
      refine run_seq ?_
      refine run_region (q_move .n (.t rfl) rfl <| q_move .n (.t rfl) rfl <| q_len .n (.t rfl) rfl len_map ss_33 rfl <| q_int .n (.t rfl) (.t rfl) rfl rfl <| Lex.nil) ?_
      refine run_cond (.t rfl) rfl (fun h6 => ?_) (fun h6 => ?_)
      · try simp only [Bool.and_eq_true, Bool.or_eq_true, Bool.not_eq_true', Bool.and_eq_false_iff, Bool.or_eq_false_iff, Bool.not_eq_false', decide_eq_true_eq, decide_eq_false_iff_not, beq_iff_eq, bne_iff_ne, beq_eq_false_iff_ne, bne_eq_false_iff_eq, Bool.true_and, ne_eq, Decidable.not_not, Int.not_lt, Int.not_le, Nat.not_lt, Nat.not_le, strB_nil, strB_nil', strB_nnil, strB_nnil'] at h6
        refine run_skip ?_
        refine run_seq ?_
        refine run_block ?_
        refine run_seq ?_
        refine run_draw fmo (q_move .n (.t rfl) rfl <| q_move .n (.t rfl) rfl <| q_idx_rm .n (.t rfl) (.t rfl) sl_33 (fun _ => by omega) rfl <| q_ldN_ro .n (.t rfl) ag_99 rfl rfl rfl <| q_move .n (.t rfl) rfl <| q_move .n (.t rfl) rfl <| q_idx_rm .n (.t rfl) (.t rfl) sl_33 (fun _ => by omega) rfl <| q_ldN_ro .n (.t rfl) ag_99 rfl rfl rfl <| q_call0 (full := false) .n .f en_71 (.cons (.t rfl) (.cons (.t rfl) .nil)) (.cons (.sts rfl) (.cons (.sts rfl) .nil)) (fun hg => c_laws_eqAirway (at' a x1) (at' b x1)) rfl (fun h => Bool.noConfusion h) rfl <| q_not .n (.t rfl) rfl <| Lex.nil) (by kernel_rfl) ?_
        refine run_cond (.t rfl) rfl (fun h7 => ?_) (fun h7 => ?_)
        · try simp only [Bool.and_eq_true, Bool.or_eq_true, Bool.not_eq_true', Bool.and_eq_false_iff, Bool.or_eq_false_iff, Bool.not_eq_false', decide_eq_true_eq, decide_eq_false_iff_not, beq_iff_eq, bne_iff_ne, beq_eq_false_iff_ne, bne_eq_false_iff_eq, Bool.true_and, ne_eq, Decidable.not_not, Int.not_lt, Int.not_le, Nat.not_lt, Nat.not_le, strB_nil, strB_nil', strB_nnil, strB_nnil'] at h7
          refine run_seq ?_
          refine run_region (q_assign .n (.c rfl) rfl <| Lex.nil) ?_
          exact run_ret [] (.cons (.t rfl rfl) .nil) rfl trivial rfl
        · try simp only [Bool.and_eq_true, Bool.or_eq_true, Bool.not_eq_true', Bool.and_eq_false_iff, Bool.or_eq_false_iff, Bool.not_eq_false', decide_eq_true_eq, decide_eq_false_iff_not, beq_iff_eq, bne_iff_ne, beq_eq_false_iff_ne, bne_eq_false_iff_eq, Bool.true_and, ne_eq, Decidable.not_not, Int.not_lt, Int.not_le, Nat.not_lt, Nat.not_le, strB_nil, strB_nil', strB_nnil, strB_nnil'] at h7
          refine run_skip ?_
          refine run_endB ?_
          refine run_region (q_move .n (.t rfl) rfl <| q_add .n (.t rfl) (.c rfl) (fun _ => by omega) rfl <| q_assign .n (.t rfl) rfl <| Lex.nil) ?_
          exact run_again (x1 + 1) ⟨by omega, by omega⟩ (by omega) (sub_of [] ⟨rfl, rfl, rfl, trivial⟩ trivial rfl)
      · try simp only [Bool.and_eq_true, Bool.or_eq_true, Bool.not_eq_true', Bool.and_eq_false_iff, Bool.or_eq_false_iff, Bool.not_eq_false', decide_eq_true_eq, decide_eq_false_iff_not, beq_iff_eq, bne_iff_ne, beq_eq_false_iff_ne, bne_eq_false_iff_eq, Bool.true_and, ne_eq, Decidable.not_not, Int.not_lt, Int.not_le, Nat.not_lt, Nat.not_le, strB_nil, strB_nil', strB_nnil, strB_nnil'] at h6
        refine run_exit rfl ?_
        exact run_cont hk4 x1 ⟨by omega, by omega, by omega⟩ (sub_of [] trivial trivial rfl)

/-! ### laws_eqMine -/
theorem c_laws_eqMine (a : gMine) (b : gMine) : Con Try.prog 14 [.st [.int .i64 a.Junctions, .sl 7 (a.Airways.map gAirway.v)], .st [.int .i64 b.Junctions, .sl 7 (b.Airways.map gAirway.v)]] [] (.bool (m_laws_eqMine a b)) ([]) := by
  refine con_intro (out := fun r : Bool => ((.bool r : V), ([] : List (Nat × Option O)))) (r := (m_laws_eqMine a b)) Try.func14 rfl Try.ntmps14 rfl ?_
  refine run_factS (t := 0) 1 rfl rfl fun hl => ?_
  have l1 := hl; clear hl; simp only [List.length_map] at l1
  refine run_factS (t := 1) 1 rfl rfl fun hl => ?_
  have l2 := hl; clear hl; simp only [List.length_map] at l2
  refine run_seq ?_
  refine run_region (q_box (l := 200) .n rfl (.t rfl) rfl rfl rfl rfl <| q_box (l := 201) .n rfl (.t rfl) rfl rfl rfl rfl <| q_assign .n (.c rfl) rfl <| Lex.nil) ?_
  refine run_seq ?_
  refine run_seq ?_
  refine run_region (q_fld_ow .n (.t rfl) fo_35_0 rfl <| q_ld1_ow .n (.t rfl) rfl (.inr rfl) (fun _ => rfl) rfl ic_2 rfl <| q_fld_ow .n (.t rfl) fo_35_0 rfl <| q_ld1_ow .n (.t rfl) rfl (.inr rfl) (fun _ => rfl) rfl ic_2 rfl <| q_int .n (.t rfl) (.t rfl) rfl rfl <| Lex.nil) ?_
  refine run_cond (.t rfl) rfl (fun h3 => ?_) (fun h3 => ?_)
  · try simp only [Bool.and_eq_true, Bool.or_eq_true, Bool.not_eq_true', Bool.and_eq_false_iff, Bool.or_eq_false_iff, Bool.not_eq_false', decide_eq_true_eq, decide_eq_false_iff_not, beq_iff_eq, bne_iff_ne, beq_eq_false_iff_ne, bne_eq_false_iff_eq, Bool.true_and, ne_eq, Decidable.not_not, Int.not_lt, Int.not_le, Nat.not_lt, Nat.not_le, strB_nil, strB_nil', strB_nnil, strB_nnil'] at h3
    refine run_seq ?_
    refine run_region (q_assign .n (.c rfl) rfl <| Lex.nil) ?_
    exact run_ret [] (.cons (.t rfl rfl) .nil) rfl trivial rfl
  · try simp only [Bool.and_eq_true, Bool.or_eq_true, Bool.not_eq_true', Bool.and_eq_false_iff, Bool.or_eq_false_iff, Bool.not_eq_false', decide_eq_true_eq, decide_eq_false_iff_not, beq_iff_eq, bne_iff_ne, beq_eq_false_iff_ne, bne_eq_false_iff_eq, Bool.true_and, ne_eq, Decidable.not_not, Int.not_lt, Int.not_le, Nat.not_lt, Nat.not_le, strB_nil, strB_nil', strB_nnil, strB_nnil'] at h3
    refine run_skip ?_
    refine run_seq ?_
    refine run_seq ?_
    refine run_region (q_fld_ow .n (.t rfl) fo_35_1 rfl <| q_ld1_ow .n (.t rfl) rfl (.inr rfl) (fun _ => rfl) rfl ic_33 rfl <| q_fld_ow .n (.t rfl) fo_35_1 rfl <| q_ld1_ow .n (.t rfl) rfl (.inr rfl) (fun _ => rfl) rfl ic_33 rfl <| q_call0 (full := false) .n .f en_42 (.cons (.t rfl) (.cons (.t rfl) .nil)) (.cons (.b (.a (.same rfl))) (.cons (.b (.a (.same rfl))) .nil)) (fun hg => c_laws_eqAirwayS a.Airways b.Airways) rfl (fun h => Bool.noConfusion h) rfl <| q_not .n (.t rfl) rfl <| Lex.nil) ?_
    refine run_cond (.t rfl) rfl (fun h4 => ?_) (fun h4 => ?_)
    · try simp only [Bool.and_eq_true, Bool.or_eq_true, Bool.not_eq_true', Bool.and_eq_false_iff, Bool.or_eq_false_iff, Bool.not_eq_false', decide_eq_true_eq, decide_eq_false_iff_not, beq_iff_eq, bne_iff_ne, beq_eq_false_iff_ne, bne_eq_false_iff_eq, Bool.true_and, ne_eq, Decidable.not_not, Int.not_lt, Int.not_le, Nat.not_lt, Nat.not_le, strB_nil, strB_nil', strB_nnil, strB_nnil'] at h4
      refine run_seq ?_
      refine run_region (q_assign .n (.c rfl) rfl <| Lex.nil) ?_
      exact run_ret [] (.cons (.t rfl rfl) .nil) rfl trivial rfl
    · try simp only [Bool.and_eq_true, Bool.or_eq_true, Bool.not_eq_true', Bool.and_eq_false_iff, Bool.or_eq_false_iff, Bool.not_eq_false', decide_eq_true_eq, decide_eq_false_iff_not, beq_iff_eq, bne_iff_ne, beq_eq_false_iff_ne, bne_eq_false_iff_eq, Bool.true_and, ne_eq, Decidable.not_not, Int.not_lt, Int.not_le, Nat.not_lt, Nat.not_le, strB_nil, strB_nil', strB_nnil, strB_nnil'] at h4
      refine run_skip ?_
      refine run_seq ?_
      refine run_region (q_assign .n (.c rfl) rfl <| Lex.nil) ?_
      exact run_ret [] (.cons (.t rfl rfl) .nil) rfl trivial rfl

/-! ### laws_eqCrew -/
theorem c_laws_eqCrew (a : gCrew) (b : gCrew) : Con Try.prog 43 [.st [.str a.Id, .int .i64 a.Junction, .int .i64 a.Speed], .st [.str b.Id, .int .i64 b.Junction, .int .i64 b.Speed]] [] (.bool (m_laws_eqCrew a b)) ([]) := by
  refine con_intro (out := fun r : Bool => ((.bool r : V), ([] : List (Nat × Option O)))) (r := (m_laws_eqCrew a b)) Try.func43 rfl Try.ntmps43 rfl ?_
  refine run_seq ?_
  refine run_region (q_box (l := 200) .n rfl (.t rfl) rfl rfl rfl rfl <| q_box (l := 201) .n rfl (.t rfl) rfl rfl rfl rfl <| q_assign .n (.c rfl) rfl <| Lex.nil) ?_
  refine run_seq ?_
  refine run_seq ?_
  refine run_region (q_fld_ow .n (.t rfl) fo_71_0 rfl <| q_ld1_ow .n (.t rfl) rfl (.inr rfl) (fun _ => rfl) rfl ic_9 rfl <| q_fld_ow .n (.t rfl) fo_71_0 rfl <| q_ld1_ow .n (.t rfl) rfl (.inr rfl) (fun _ => rfl) rfl ic_9 rfl <| q_strcmp .n (.t rfl) (.t rfl) rfl rfl <| Lex.nil) ?_
  refine run_cond (.t rfl) rfl (fun h1 => ?_) (fun h1 => ?_)
  · try simp only [Bool.and_eq_true, Bool.or_eq_true, Bool.not_eq_true', Bool.and_eq_false_iff, Bool.or_eq_false_iff, Bool.not_eq_false', decide_eq_true_eq, decide_eq_false_iff_not, beq_iff_eq, bne_iff_ne, beq_eq_false_iff_ne, bne_eq_false_iff_eq, Bool.true_and, ne_eq, Decidable.not_not, Int.not_lt, Int.not_le, Nat.not_lt, Nat.not_le, strB_nil, strB_nil', strB_nnil, strB_nnil'] at h1
    refine run_seq ?_
    refine run_region (q_assign .n (.c rfl) rfl <| Lex.nil) ?_
    exact run_ret [] (.cons (.t rfl rfl) .nil) rfl trivial rfl
  · try simp only [Bool.and_eq_true, Bool.or_eq_true, Bool.not_eq_true', Bool.and_eq_false_iff, Bool.or_eq_false_iff, Bool.not_eq_false', decide_eq_true_eq, decide_eq_false_iff_not, beq_iff_eq, bne_iff_ne, beq_eq_false_iff_ne, bne_eq_false_iff_eq, Bool.true_and, ne_eq, Decidable.not_not, Int.not_lt, Int.not_le, Nat.not_lt, Nat.not_le, strB_nil, strB_nil', strB_nnil, strB_nnil'] at h1
    refine run_skip ?_
    refine run_seq ?_
    refine run_seq ?_
    refine run_region (q_fld_ow .n (.t rfl) fo_71_1 rfl <| q_ld1_ow .n (.t rfl) rfl (.inr rfl) (fun _ => rfl) rfl ic_2 rfl <| q_fld_ow .n (.t rfl) fo_71_1 rfl <| q_ld1_ow .n (.t rfl) rfl (.inr rfl) (fun _ => rfl) rfl ic_2 rfl <| q_int .n (.t rfl) (.t rfl) rfl rfl <| Lex.nil) ?_
    refine run_cond (.t rfl) rfl (fun h2 => ?_) (fun h2 => ?_)
    · try simp only [Bool.and_eq_true, Bool.or_eq_true, Bool.not_eq_true', Bool.and_eq_false_iff, Bool.or_eq_false_iff, Bool.not_eq_false', decide_eq_true_eq, decide_eq_false_iff_not, beq_iff_eq, bne_iff_ne, beq_eq_false_iff_ne, bne_eq_false_iff_eq, Bool.true_and, ne_eq, Decidable.not_not, Int.not_lt, Int.not_le, Nat.not_lt, Nat.not_le, strB_nil, strB_nil', strB_nnil, strB_nnil'] at h2
      refine run_seq ?_
      refine run_region (q_assign .n (.c rfl) rfl <| Lex.nil) ?_
      exact run_ret [] (.cons (.t rfl rfl) .nil) rfl trivial rfl
    · try simp only [Bool.and_eq_true, Bool.or_eq_true, Bool.not_eq_true', Bool.and_eq_false_iff, Bool.or_eq_false_iff, Bool.not_eq_false', decide_eq_true_eq, decide_eq_false_iff_not, beq_iff_eq, bne_iff_ne, beq_eq_false_iff_ne, bne_eq_false_iff_eq, Bool.true_and, ne_eq, Decidable.not_not, Int.not_lt, Int.not_le, Nat.not_lt, Nat.not_le, strB_nil, strB_nil', strB_nnil, strB_nnil'] at h2
      refine run_skip ?_
      refine run_seq ?_
      refine run_seq ?_
      refine run_region (q_fld_ow .n (.t rfl) fo_71_2 rfl <| q_ld1_ow .n (.t rfl) rfl (.inr rfl) (fun _ => rfl) rfl ic_2 rfl <| q_fld_ow .n (.t rfl) fo_71_2 rfl <| q_ld1_ow .n (.t rfl) rfl (.inr rfl) (fun _ => rfl) rfl ic_2 rfl <| q_int .n (.t rfl) (.t rfl) rfl rfl <| Lex.nil) ?_
      refine run_cond (.t rfl) rfl (fun h3 => ?_) (fun h3 => ?_)
      · try simp only [Bool.and_eq_true, Bool.or_eq_true, Bool.not_eq_true', Bool.and_eq_false_iff, Bool.or_eq_false_iff, Bool.not_eq_false', decide_eq_true_eq, decide_eq_false_iff_not, beq_iff_eq, bne_iff_ne, beq_eq_false_iff_ne, bne_eq_false_iff_eq, Bool.true_and, ne_eq, Decidable.not_not, Int.not_lt, Int.not_le, Nat.not_lt, Nat.not_le, strB_nil, strB_nil', strB_nnil, strB_nnil'] at h3
        refine run_seq ?_
        refine run_region (q_assign .n (.c rfl) rfl <| Lex.nil) ?_
        exact run_ret [] (.cons (.t rfl rfl) .nil) rfl trivial rfl
      · try simp only [Bool.and_eq_true, Bool.or_eq_true, Bool.not_eq_true', Bool.and_eq_false_iff, Bool.or_eq_false_iff, Bool.not_eq_false', decide_eq_true_eq, decide_eq_false_iff_not, beq_iff_eq, bne_iff_ne, beq_eq_false_iff_ne, bne_eq_false_iff_eq, Bool.true_and, ne_eq, Decidable.not_not, Int.not_lt, Int.not_le, Nat.not_lt, Nat.not_le, strB_nil, strB_nil', strB_nnil, strB_nnil'] at h3
        refine run_skip ?_
        refine run_seq ?_
        refine run_region (q_assign .n (.c rfl) rfl <| Lex.nil) ?_
        exact run_ret [] (.cons (.t rfl rfl) .nil) rfl trivial rfl

/-! ### laws_eqCrewS -/
theorem c_laws_eqCrewS (a : List gCrew) (b : List gCrew) : Con Try.prog 15 [.sl 3 (a.map gCrew.v), .sl 3 (b.map gCrew.v)] [] (.bool (m_laws_eqCrewS a b)) ([]) := by
  refine con_intro (out := fun r : Bool => ((.bool r : V), ([] : List (Nat × Option O)))) (r := (m_laws_eqCrewS a b)) Try.func15 rfl Try.ntmps15 rfl ?_
  refine run_fact (t := 0) rfl fun hl => ?_
  have l1 := hl; clear hl; simp only [List.length_map] at l1
  refine run_fact (t := 1) rfl fun hl => ?_
  have l2 := hl; clear hl; simp only [List.length_map] at l2
  refine run_seq ?_
  refine run_region (q_assign .n (.c rfl) rfl <| Lex.nil) ?_
  refine run_seq ?_
  refine run_seq ?_
  refine run_region (q_move .n (.t rfl) rfl <| q_len .n (.t rfl) rfl len_map ss_38 rfl <| q_move .n (.t rfl) rfl <| q_len .n (.t rfl) rfl len_map ss_38 rfl <| q_int .n (.t rfl) (.t rfl) rfl rfl <| Lex.nil) ?_
  refine run_cond (.t rfl) rfl (fun h3 => ?_) (fun h3 => ?_)
  · try simp only [Bool.and_eq_true, Bool.or_eq_true, Bool.not_eq_true', Bool.and_eq_false_iff, Bool.or_eq_false_iff, Bool.not_eq_false', decide_eq_true_eq, decide_eq_false_iff_not, beq_iff_eq, bne_iff_ne, beq_eq_false_iff_ne, bne_eq_false_iff_eq, Bool.true_and, ne_eq, Decidable.not_not, Int.not_lt, Int.not_le, Nat.not_lt, Nat.not_le, strB_nil, strB_nil', strB_nnil, strB_nnil'] at h3
    refine run_seq ?_
    refine run_region (q_assign .n (.c rfl) rfl <| Lex.nil) ?_
    exact run_ret [] (.cons (.t rfl rfl) .nil) rfl trivial rfl
  · try simp only [Bool.and_eq_true, Bool.or_eq_true, Bool.not_eq_true', Bool.and_eq_false_iff, Bool.or_eq_false_iff, Bool.not_eq_false', decide_eq_true_eq, decide_eq_false_iff_not, beq_iff_eq, bne_iff_ne, beq_eq_false_iff_ne, bne_eq_false_iff_eq, Bool.true_and, ne_eq, Decidable.not_not, Int.not_lt, Int.not_le, Nat.not_lt, Nat.not_le, strB_nil, strB_nil', strB_nnil, strB_nnil'] at h3
    refine run_skip ?_
    refine run_seq ?_
    refine run_seq ?_
    refine run_region (q_assign .n (.c rfl) rfl <| Lex.nil) ?_
    refine run_block ?_
    refine run_LOOP (m_laws_eqCrewS_b1 a b) _ _ _ rfl (fun (x1 : Int) => 0 ≤ x1 ∧ x1 ≤ (a.length : Int)) (fun x1 => 0 ≤ x1 ∧ x1 ≤ (a.length : Int) ∧ (a.length : Int) ≤ x1) (fun x1 => ((a.length : Int) - x1 : Int).toNat) (fun x1 => ⟨[(0, some (true, .sl 3 (a.map gCrew.v))), (1, some (true, .sl 3 (b.map gCrew.v))), (5, some (true, .int .i64 x1))], []⟩) (fun x1 => ⟨[], []⟩) ⟨by omega, by omega⟩ (by omega) (sub_of [] ⟨rfl, rfl, rfl, trivial⟩ trivial rfl) ?_ ?_
    · intro x1 i8
      obtain ⟨e9, e10, e11⟩ := i8
      try dsimp only at *
      refine run_seq ?_
      refine run_region (q_assign .n (.c rfl) rfl <| Lex.nil) ?_
      exact run_ret [] (.cons (.t rfl rfl) .nil) rfl trivial rfl
    · intro rec1 k1 hk4 x1 i5
      obtain ⟨e12, e13⟩ := i5
      try dsimp only at *
      refine run_seq ?_
      refine run_seq ?_
      refine run_region (q_move .n (.t rfl) rfl <| q_move .n (.t rfl) rfl <| q_len .n (.t rfl) rfl len_map ss_38 rfl <| q_int .n (.t rfl) (.t rfl) rfl rfl <| Lex.nil) ?_
      refine run_cond (.t rfl) rfl (fun h6 => ?_) (fun h6 => ?_)
      · try simp only [Bool.and_eq_true, Bool.or_eq_true, Bool.not_eq_true', Bool.and_eq_false_iff, Bool.or_eq_false_iff, Bool.not_eq_false', decide_eq_true_eq, decide_eq_false_iff_not, beq_iff_eq, bne_iff_ne, beq_eq_false_iff_ne, bne_eq_false_iff_eq, Bool.true_and, ne_eq, Decidable.not_not, Int.not_lt, Int.not_le, Nat.not_lt, Nat.not_le, strB_nil, strB_nil', strB_nnil, strB_nnil'] at h6
        refine run_skip ?_
        refine run_seq ?_
        refine run_block ?_
        refine run_seq ?_
        refine run_draw fmo (q_move .n (.t rfl) rfl <| q_move .n (.t rfl) rfl <| q_idx_rm .n (.t rfl) (.t rfl) sl_38 (fun _ => by omega) rfl <| q_ldN_ro .n (.t rfl) ag_71 rfl rfl rfl <| q_move .n (.t rfl) rfl <| q_move .n (.t rfl) rfl <| q_idx_rm .n (.t rfl) (.t rfl) sl_38 (fun _ => by omega) rfl <| q_ldN_ro .n (.t rfl) ag_71 rfl rfl rfl <| q_call0 (full := false) .n .f en_43 (.cons (.t rfl) (.cons (.t rfl) .nil)) (.cons (.sts rfl) (.cons (.sts rfl) .nil)) (fun hg => c_laws_eqCrew (at' a x1) (at' b x1)) rfl (fun h => Bool.noConfusion h) rfl <| q_not .n (.t rfl) rfl <| Lex.nil) (by kernel_rfl) ?_
        refine run_cond (.t rfl) rfl (fun h7 => ?_) (fun h7 => ?_)
        · try simp only [Bool.and_eq_true, Bool.or_eq_true, Bool.not_eq_true', Bool.and_eq_false_iff, Bool.or_eq_false_iff, Bool.not_eq_false', decide_eq_true_eq, decide_eq_false_iff_not, beq_iff_eq, bne_iff_ne, beq_eq_false_iff_ne, bne_eq_false_iff_eq, Bool.true_and, ne_eq, Decidable.not_not, Int.not_lt, Int.not_le, Nat.not_lt, Nat.not_le, strB_nil, strB_nil', strB_nnil, strB_nnil'] at h7
          refine run_seq ?_
          refine run_region (q_assign .n (.c rfl) rfl <| Lex.nil) ?_
          exact run_ret [] (.cons (.t rfl rfl) .nil) rfl trivial rfl
        · try simp only [Bool.and_eq_true, Bool.or_eq_true, Bool.not_eq_true', Bool.and_eq_false_iff, Bool.or_eq_false_iff, Bool.not_eq_false', decide_eq_true_eq, decide_eq_false_iff_not, beq_iff_eq, bne_iff_ne, beq_eq_false_iff_ne, bne_eq_false_iff_eq, Bool.true_and, ne_eq, Decidable.not_not, Int.not_lt, Int.not_le, Nat.not_lt, Nat.not_le, strB_nil, strB_nil', strB_nnil, strB_nnil'] at h7
          refine run_skip ?_
          refine run_endB ?_
          refine run_region (q_move .n (.t rfl) rfl <| q_add .n (.t rfl) (.c rfl) (fun _ => by omega) rfl <| q_assign .n (.t rfl) rfl <| Lex.nil) ?_
          exact run_again (x1 + 1) ⟨by omega, by omega⟩ (by omega) (sub_of [] ⟨rfl, rfl, rfl, trivial⟩ trivial rfl)
      · try simp only [Bool.and_eq_true, Bool.or_eq_true, Bool.not_eq_true', Bool.and_eq_false_iff, Bool.or_eq_false_iff, Bool.not_eq_false', decide_eq_true_eq, decide_eq_false_iff_not, beq_iff_eq, bne_iff_ne, beq_eq_false_iff_ne, bne_eq_false_iff_eq, Bool.true_and, ne_eq, Decidable.not_not, Int.not_lt, Int.not_le, Nat.not_lt, Nat.not_le, strB_nil, strB_nil', strB_nnil, strB_nnil'] at h6
        refine run_exit rfl ?_
        exact run_cont hk4 x1 ⟨by omega, by omega, by omega⟩ (sub_of [] trivial trivial rfl)

/-! ### laws_eqRefuge -/
theorem c_laws_eqRefuge (a : gRefuge) (b : gRefuge) : Con Try.prog 44 [.st [.str a.Id, .int .i64 a.Junction, .int .i64 a.Places, .int .i64 a.Air], .st [.str b.Id, .int .i64 b.Junction, .int .i64 b.Places, .int .i64 b.Air]] [] (.bool (m_laws_eqRefuge a b)) ([]) := by
  refine con_intro (out := fun r : Bool => ((.bool r : V), ([] : List (Nat × Option O)))) (r := (m_laws_eqRefuge a b)) Try.func44 rfl Try.ntmps44 rfl ?_
  refine run_seq ?_
  refine run_region (q_box (l := 200) .n rfl (.t rfl) rfl rfl rfl rfl <| q_box (l := 201) .n rfl (.t rfl) rfl rfl rfl rfl <| q_assign .n (.c rfl) rfl <| Lex.nil) ?_
  refine run_seq ?_
  refine run_seq ?_
  refine run_region (q_fld_ow .n (.t rfl) fo_72_0 rfl <| q_ld1_ow .n (.t rfl) rfl (.inr rfl) (fun _ => rfl) rfl ic_9 rfl <| q_fld_ow .n (.t rfl) fo_72_0 rfl <| q_ld1_ow .n (.t rfl) rfl (.inr rfl) (fun _ => rfl) rfl ic_9 rfl <| q_strcmp .n (.t rfl) (.t rfl) rfl rfl <| Lex.nil) ?_
  refine run_cond (.t rfl) rfl (fun h1 => ?_) (fun h1 => ?_)
  · try simp only [Bool.and_eq_true, Bool.or_eq_true, Bool.not_eq_true', Bool.and_eq_false_iff, Bool.or_eq_false_iff, Bool.not_eq_false', decide_eq_true_eq, decide_eq_false_iff_not, beq_iff_eq, bne_iff_ne, beq_eq_false_iff_ne, bne_eq_false_iff_eq, Bool.true_and, ne_eq, Decidable.not_not, Int.not_lt, Int.not_le, Nat.not_lt, Nat.not_le, strB_nil, strB_nil', strB_nnil, strB_nnil'] at h1
    refine run_seq ?_
    refine run_region (q_assign .n (.c rfl) rfl <| Lex.nil) ?_
    exact run_ret [] (.cons (.t rfl rfl) .nil) rfl trivial rfl
  · try simp only [Bool.and_eq_true, Bool.or_eq_true, Bool.not_eq_true', Bool.and_eq_false_iff, Bool.or_eq_false_iff, Bool.not_eq_false', decide_eq_true_eq, decide_eq_false_iff_not, beq_iff_eq, bne_iff_ne, beq_eq_false_iff_ne, bne_eq_false_iff_eq, Bool.true_and, ne_eq, Decidable.not_not, Int.not_lt, Int.not_le, Nat.not_lt, Nat.not_le, strB_nil, strB_nil', strB_nnil, strB_nnil'] at h1
    refine run_skip ?_
    refine run_seq ?_
    refine run_seq ?_
    refine run_region (q_fld_ow .n (.t rfl) fo_72_1 rfl <| q_ld1_ow .n (.t rfl) rfl (.inr rfl) (fun _ => rfl) rfl ic_2 rfl <| q_fld_ow .n (.t rfl) fo_72_1 rfl <| q_ld1_ow .n (.t rfl) rfl (.inr rfl) (fun _ => rfl) rfl ic_2 rfl <| q_int .n (.t rfl) (.t rfl) rfl rfl <| Lex.nil) ?_
    refine run_cond (.t rfl) rfl (fun h2 => ?_) (fun h2 => ?_)
    · try simp only [Bool.and_eq_true, Bool.or_eq_true, Bool.not_eq_true', Bool.and_eq_false_iff, Bool.or_eq_false_iff, Bool.not_eq_false', decide_eq_true_eq, decide_eq_false_iff_not, beq_iff_eq, bne_iff_ne, beq_eq_false_iff_ne, bne_eq_false_iff_eq, Bool.true_and, ne_eq, Decidable.not_not, Int.not_lt, Int.not_le, Nat.not_lt, Nat.not_le, strB_nil, strB_nil', strB_nnil, strB_nnil'] at h2
      refine run_seq ?_
      refine run_region (q_assign .n (.c rfl) rfl <| Lex.nil) ?_
      exact run_ret [] (.cons (.t rfl rfl) .nil) rfl trivial rfl
    · try simp only [Bool.and_eq_true, Bool.or_eq_true, Bool.not_eq_true', Bool.and_eq_false_iff, Bool.or_eq_false_iff, Bool.not_eq_false', decide_eq_true_eq, decide_eq_false_iff_not, beq_iff_eq, bne_iff_ne, beq_eq_false_iff_ne, bne_eq_false_iff_eq, Bool.true_and, ne_eq, Decidable.not_not, Int.not_lt, Int.not_le, Nat.not_lt, Nat.not_le, strB_nil, strB_nil', strB_nnil, strB_nnil'] at h2
      refine run_skip ?_
      refine run_seq ?_
      refine run_seq ?_
      refine run_region (q_fld_ow .n (.t rfl) fo_72_2 rfl <| q_ld1_ow .n (.t rfl) rfl (.inr rfl) (fun _ => rfl) rfl ic_2 rfl <| q_fld_ow .n (.t rfl) fo_72_2 rfl <| q_ld1_ow .n (.t rfl) rfl (.inr rfl) (fun _ => rfl) rfl ic_2 rfl <| q_int .n (.t rfl) (.t rfl) rfl rfl <| Lex.nil) ?_
      refine run_cond (.t rfl) rfl (fun h3 => ?_) (fun h3 => ?_)
      · try simp only [Bool.and_eq_true, Bool.or_eq_true, Bool.not_eq_true', Bool.and_eq_false_iff, Bool.or_eq_false_iff, Bool.not_eq_false', decide_eq_true_eq, decide_eq_false_iff_not, beq_iff_eq, bne_iff_ne, beq_eq_false_iff_ne, bne_eq_false_iff_eq, Bool.true_and, ne_eq, Decidable.not_not, Int.not_lt, Int.not_le, Nat.not_lt, Nat.not_le, strB_nil, strB_nil', strB_nnil, strB_nnil'] at h3
        refine run_seq ?_
        refine run_region (q_assign .n (.c rfl) rfl <| Lex.nil) ?_
        exact run_ret [] (.cons (.t rfl rfl) .nil) rfl trivial rfl
      · try simp only [Bool.and_eq_true, Bool.or_eq_true, Bool.not_eq_true', Bool.and_eq_false_iff, Bool.or_eq_false_iff, Bool.not_eq_false', decide_eq_true_eq, decide_eq_false_iff_not, beq_iff_eq, bne_iff_ne, beq_eq_false_iff_ne, bne_eq_false_iff_eq, Bool.true_and, ne_eq, Decidable.not_not, Int.not_lt, Int.not_le, Nat.not_lt, Nat.not_le, strB_nil, strB_nil', strB_nnil, strB_nnil'] at h3
        refine run_skip ?_
        refine run_seq ?_
        refine run_seq ?_
        refine run_region (q_fld_ow .n (.t rfl) fo_72_3 rfl <| q_ld1_ow .n (.t rfl) rfl (.inr rfl) (fun _ => rfl) rfl ic_2 rfl <| q_fld_ow .n (.t rfl) fo_72_3 rfl <| q_ld1_ow .n (.t rfl) rfl (.inr rfl) (fun _ => rfl) rfl ic_2 rfl <| q_int .n (.t rfl) (.t rfl) rfl rfl <| Lex.nil) ?_
        refine run_cond (.t rfl) rfl (fun h4 => ?_) (fun h4 => ?_)
        · try simp only [Bool.and_eq_true, Bool.or_eq_true, Bool.not_eq_true', Bool.and_eq_false_iff, Bool.or_eq_false_iff, Bool.not_eq_false', decide_eq_true_eq, decide_eq_false_iff_not, beq_iff_eq, bne_iff_ne, beq_eq_false_iff_ne, bne_eq_false_iff_eq, Bool.true_and, ne_eq, Decidable.not_not, Int.not_lt, Int.not_le, Nat.not_lt, Nat.not_le, strB_nil, strB_nil', strB_nnil, strB_nnil'] at h4
          refine run_seq ?_
          refine run_region (q_assign .n (.c rfl) rfl <| Lex.nil) ?_
          exact run_ret [] (.cons (.t rfl rfl) .nil) rfl trivial rfl
        · try simp only [Bool.and_eq_true, Bool.or_eq_true, Bool.not_eq_true', Bool.and_eq_false_iff, Bool.or_eq_false_iff, Bool.not_eq_false', decide_eq_true_eq, decide_eq_false_iff_not, beq_iff_eq, bne_iff_ne, beq_eq_false_iff_ne, bne_eq_false_iff_eq, Bool.true_and, ne_eq, Decidable.not_not, Int.not_lt, Int.not_le, Nat.not_lt, Nat.not_le, strB_nil, strB_nil', strB_nnil, strB_nnil'] at h4
          refine run_skip ?_
          refine run_seq ?_
          refine run_region (q_assign .n (.c rfl) rfl <| Lex.nil) ?_
          exact run_ret [] (.cons (.t rfl rfl) .nil) rfl trivial rfl

/-! ### laws_eqRefugeS -/
theorem c_laws_eqRefugeS (a : List gRefuge) (b : List gRefuge) : Con Try.prog 16 [.sl 4 (a.map gRefuge.v), .sl 4 (b.map gRefuge.v)] [] (.bool (m_laws_eqRefugeS a b)) ([]) := by
  refine con_intro (out := fun r : Bool => ((.bool r : V), ([] : List (Nat × Option O)))) (r := (m_laws_eqRefugeS a b)) Try.func16 rfl Try.ntmps16 rfl ?_
  refine run_fact (t := 0) rfl fun hl => ?_
  have l1 := hl; clear hl; simp only [List.length_map] at l1
  refine run_fact (t := 1) rfl fun hl => ?_
  have l2 := hl; clear hl; simp only [List.length_map] at l2
  refine run_seq ?_
  refine run_region (q_assign .n (.c rfl) rfl <| Lex.nil) ?_
  refine run_seq ?_
  refine run_seq ?_
  refine run_region (q_move .n (.t rfl) rfl <| q_len .n (.t rfl) rfl len_map ss_40 rfl <| q_move .n (.t rfl) rfl <| q_len .n (.t rfl) rfl len_map ss_40 rfl <| q_int .n (.t rfl) (.t rfl) rfl rfl <| Lex.nil) ?_
  refine run_cond (.t rfl) rfl (fun h3 => ?_) (fun h3 => ?_)
  · try simp only [Bool.and_eq_true, Bool.or_eq_true, Bool.not_eq_true', Bool.and_eq_false_iff, Bool.or_eq_false_iff, Bool.not_eq_false', decide_eq_true_eq, decide_eq_false_iff_not, beq_iff_eq, bne_iff_ne, beq_eq_false_iff_ne, bne_eq_false_iff_eq, Bool.true_and, ne_eq, Decidable.not_not, Int.not_lt, Int.not_le, Nat.not_lt, Nat.not_le, strB_nil, strB_nil', strB_nnil, strB_nnil'] at h3
    refine run_seq ?_
    refine run_region (q_assign .n (.c rfl) rfl <| Lex.nil) ?_
    exact run_ret [] (.cons (.t rfl rfl) .nil) rfl trivial rfl
  · try simp only [Bool.and_eq_true, Bool.or_eq_true, Bool.not_eq_true', Bool.and_eq_false_iff, Bool.or_eq_false_iff, Bool.not_eq_false', decide_eq_true_eq, decide_eq_false_iff_not, beq_iff_eq, bne_iff_ne, beq_eq_false_iff_ne, bne_eq_false_iff_eq, Bool.true_and, ne_eq, Decidable.not_not, Int.not_lt, Int.not_le, Nat.not_lt, Nat.not_le, strB_nil, strB_nil', strB_nnil, strB_nnil'] at h3
    refine run_skip ?_
    refine run_seq ?_
    refine run_seq ?_
    refine run_region (q_assign .n (.c rfl) rfl <| Lex.nil) ?_
    refine run_block ?_
    refine run_LOOP (m_laws_eqRefugeS_b1 a b) _ _ _ rfl (fun (x1 : Int) => 0 ≤ x1 ∧ x1 ≤ (a.length : Int)) (fun x1 => 0 ≤ x1 ∧ x1 ≤ (a.length : Int) ∧ (a.length : Int) ≤ x1) (fun x1 => ((a.length : Int) - x1 : Int).toNat) (fun x1 => ⟨[(0, some (true, .sl 4 (a.map gRefuge.v))), (1, some (true, .sl 4 (b.map gRefuge.v))), (5, some (true, .int .i64 x1))], []⟩) (fun x1 => ⟨[], []⟩) ⟨by omega, by omega⟩ (by omega) (sub_of [] ⟨rfl, rfl, rfl, trivial⟩ trivial rfl) ?_ ?_
    · intro x1 i8
      obtain ⟨e9, e10, e11⟩ := i8
      try dsimp only at *
      refine run_seq ?_
      refine run_region (q_assign .n (.c rfl) rfl <| Lex.nil) ?_
      exact run_ret [] (.cons (.t rfl rfl) .nil) rfl trivial rfl
    · intro rec1 k1 hk4 x1 i5
      obtain ⟨e12, e13⟩ := i5
      try dsimp only at *
      refine run_seq ?_
      refine run_seq ?_
      refine run_region (q_move .n (.t rfl) rfl <| q_move .n (.t rfl) rfl <| q_len .n (.t rfl) rfl len_map ss_40 rfl <| q_int .n (.t rfl) (.t rfl) rfl rfl <| Lex.nil) ?_
      refine run_cond (.t rfl) rfl (fun h6 => ?_) (fun h6 => ?_)
      · try simp only [Bool.and_eq_true, Bool.or_eq_true, Bool.not_eq_true', Bool.and_eq_false_iff, Bool.or_eq_false_iff, Bool.not_eq_false', decide_eq_true_eq, decide_eq_false_iff_not, beq_iff_eq, bne_iff_ne, beq_eq_false_iff_ne, bne_eq_false_iff_eq, Bool.true_and, ne_eq, Decidable.not_not, Int.not_lt, Int.not_le, Nat.not_lt, Nat.not_le, strB_nil, strB_nil', strB_nnil, strB_nnil'] at h6
        refine run_skip ?_
        refine run_seq ?_
        refine run_block ?_
        refine run_seq ?_
        refine run_draw fmo (q_move .n (.t rfl) rfl <| q_move .n (.t rfl) rfl <| q_idx_rm .n (.t rfl) (.t rfl) sl_40 (fun _ => by omega) rfl <| q_ldN_ro .n (.t rfl) ag_72 rfl rfl rfl <| q_move .n (.t rfl) rfl <| q_move .n (.t rfl) rfl <| q_idx_rm .n (.t rfl) (.t rfl) sl_40 (fun _ => by omega) rfl <| q_ldN_ro .n (.t rfl) ag_72 rfl rfl rfl <| q_call0 (full := false) .n .f en_44 (.cons (.t rfl) (.cons (.t rfl) .nil)) (.cons (.sts rfl) (.cons (.sts rfl) .nil)) (fun hg => c_laws_eqRefuge (at' a x1) (at' b x1)) rfl (fun h => Bool.noConfusion h) rfl <| q_not .n (.t rfl) rfl <| Lex.nil) (by kernel_rfl) ?_
        refine run_cond (.t rfl) rfl (fun h7 => ?_) (fun h7 => ?_)
        · try simp only [Bool.and_eq_true, Bool.or_eq_true, Bool.not_eq_true', Bool.and_eq_false_iff, Bool.or_eq_false_iff, Bool.not_eq_false', decide_eq_true_eq, decide_eq_false_iff_not, beq_iff_eq, bne_iff_ne, beq_eq_false_iff_ne, bne_eq_false_iff_eq, Bool.true_and, ne_eq, Decidable.not_not, Int.not_lt, Int.not_le, Nat.not_lt, Nat.not_le, strB_nil, strB_nil', strB_nnil, strB_nnil'] at h7
          refine run_seq ?_
          refine run_region (q_assign .n (.c rfl) rfl <| Lex.nil) ?_
          exact run_ret [] (.cons (.t rfl rfl) .nil) rfl trivial rfl
        · try simp only [Bool.and_eq_true, Bool.or_eq_true, Bool.not_eq_true', Bool.and_eq_false_iff, Bool.or_eq_false_iff, Bool.not_eq_false', decide_eq_true_eq, decide_eq_false_iff_not, beq_iff_eq, bne_iff_ne, beq_eq_false_iff_ne, bne_eq_false_iff_eq, Bool.true_and, ne_eq, Decidable.not_not, Int.not_lt, Int.not_le, Nat.not_lt, Nat.not_le, strB_nil, strB_nil', strB_nnil, strB_nnil'] at h7
          refine run_skip ?_
          refine run_endB ?_
          refine run_region (q_move .n (.t rfl) rfl <| q_add .n (.t rfl) (.c rfl) (fun _ => by omega) rfl <| q_assign .n (.t rfl) rfl <| Lex.nil) ?_
          exact run_again (x1 + 1) ⟨by omega, by omega⟩ (by omega) (sub_of [] ⟨rfl, rfl, rfl, trivial⟩ trivial rfl)
      · try simp only [Bool.and_eq_true, Bool.or_eq_true, Bool.not_eq_true', Bool.and_eq_false_iff, Bool.or_eq_false_iff, Bool.not_eq_false', decide_eq_true_eq, decide_eq_false_iff_not, beq_iff_eq, bne_iff_ne, beq_eq_false_iff_ne, bne_eq_false_iff_eq, Bool.true_and, ne_eq, Decidable.not_not, Int.not_lt, Int.not_le, Nat.not_lt, Nat.not_le, strB_nil, strB_nil', strB_nnil, strB_nnil'] at h6
        refine run_exit rfl ?_
        exact run_cont hk4 x1 ⟨by omega, by omega, by omega⟩ (sub_of [] trivial trivial rfl)

/-! ### laws_markText -/
theorem c_laws_markText (k_ : Int) (hp1 : k_ ≤ 9223372036854775807) : Con Try.prog 46 [.int .i64 k_] [] (.str (m_laws_markText k_)) ([]) := by
  refine con_intro (out := fun r : (List UInt8) => ((.str r : V), ([] : List (Nat × Option O)))) (r := (m_laws_markText k_)) Try.func46 rfl Try.ntmps46 rfl ?_
  refine run_seq ?_
  refine run_region (q_assign .n (.c rfl) rfl <| Lex.nil) ?_
  refine run_seq ?_
  refine run_seq ?_
  refine run_region (q_move .n (.t rfl) rfl <| q_int .n (.t rfl) (.c rfl) rfl rfl <| Lex.nil) ?_
  refine run_cond (.t rfl) rfl (fun h1 => ?_) (fun h1 => ?_)
  · try simp only [Bool.and_eq_true, Bool.or_eq_true, Bool.not_eq_true', Bool.and_eq_false_iff, Bool.or_eq_false_iff, Bool.not_eq_false', decide_eq_true_eq, decide_eq_false_iff_not, beq_iff_eq, bne_iff_ne, beq_eq_false_iff_ne, bne_eq_false_iff_eq, Bool.true_and, ne_eq, Decidable.not_not, Int.not_lt, Int.not_le, Nat.not_lt, Nat.not_le, strB_nil, strB_nil', strB_nnil, strB_nnil'] at h1
    refine run_seq ?_
    refine run_region (q_assign .n (.c rfl) rfl <| Lex.nil) ?_
    exact run_ret [] (.cons (.t rfl rfl) .nil) rfl trivial rfl
  · try simp only [Bool.and_eq_true, Bool.or_eq_true, Bool.not_eq_true', Bool.and_eq_false_iff, Bool.or_eq_false_iff, Bool.not_eq_false', decide_eq_true_eq, decide_eq_false_iff_not, beq_iff_eq, bne_iff_ne, beq_eq_false_iff_ne, bne_eq_false_iff_eq, Bool.true_and, ne_eq, Decidable.not_not, Int.not_lt, Int.not_le, Nat.not_lt, Nat.not_le, strB_nil, strB_nil', strB_nnil, strB_nnil'] at h1
    refine run_skip ?_
    refine run_seq ?_
    refine run_region (q_assign .n (.c rfl) rfl <| Lex.nil) ?_
    refine run_seq ?_
    refine run_block ?_
    refine run_LOOP (m_laws_markText_b1 k_) _ _ _ rfl (fun (x1 : Int × (List UInt8)) => (x1.2.length : Int) + x1.1 ≤ k_ ∧ (x1.1 = k_ ∨ (x1.2.length : Int) + x1.1 ≤ 1 + k_ / 10) ∧ 0 ≤ x1.1) (fun x1 => (x1.2.length : Int) + x1.1 ≤ k_ ∧ (x1.1 = k_ ∨ (x1.2.length : Int) + x1.1 ≤ 1 + k_ / 10) ∧ 0 ≤ x1.1) (fun x1 => x1.1.toNat) (fun x1 => ⟨[(0, some (true, .int .i64 x1.1)), (3, some (true, .str x1.2))], []⟩) (fun x1 => ⟨[(3, some (true, .str x1.2))], []⟩) ⟨by (simp only [List.length_append, List.length_cons, List.length_nil, List.length_replicate, put_len] at * <;> omega), by omega, by omega⟩ (by omega) (sub_of [] ⟨rfl, rfl, trivial⟩ trivial rfl) ?_ ?_
    · intro x1 i5
      obtain ⟨e6, e7, e8⟩ := i5
      try dsimp only at *
      refine run_seq ?_
      refine run_region (q_move .n (.t rfl) rfl <| q_strcat .n (.c rfl) (.t rfl) (fun _ => by (simp only [List.length_append, List.length_cons, List.length_nil, List.length_replicate, put_len] at * <;> omega)) rfl <| q_assign .n (.t rfl) rfl <| Lex.nil) ?_
      exact run_ret [] (.cons (.t rfl rfl) .nil) rfl trivial rfl
    · intro rec1 k1 hk2 x1 i3
      obtain ⟨e9, e10, e11⟩ := i3
      try dsimp only at *
      refine run_seq ?_
      refine run_seq ?_
      refine run_region (q_move .n (.t rfl) rfl <| q_int .n (.t rfl) (.c rfl) rfl rfl <| Lex.nil) ?_
      refine run_cond (.t rfl) rfl (fun h4 => ?_) (fun h4 => ?_)
      · try simp only [Bool.and_eq_true, Bool.or_eq_true, Bool.not_eq_true', Bool.and_eq_false_iff, Bool.or_eq_false_iff, Bool.not_eq_false', decide_eq_true_eq, decide_eq_false_iff_not, beq_iff_eq, bne_iff_ne, beq_eq_false_iff_ne, bne_eq_false_iff_eq, Bool.true_and, ne_eq, Decidable.not_not, Int.not_lt, Int.not_le, Nat.not_lt, Nat.not_le, strB_nil, strB_nil', strB_nnil, strB_nnil'] at h4
        refine run_skip ?_
        refine run_block ?_
        refine run_seq ?_
        refine run_region (q_move .n (.t rfl) rfl <| q_rem .n (.t rfl) (.c rfl) (fun _ => by decide) rfl <| q_int .n (.c rfl) (.t rfl) rfl rfl <| q_conv .n (.t rfl) cv_3_5 rfl <| q_bslicem ([IntKind.wrap .u8 (IntKind.wrap .i64 (48 + (Int.tmod x1.1 10)))] : List Int) (f := V.int .u8) (l := 200) .n rfl rfl (.cons (.t rfl) .nil) rfl si_116 zv_5 rfl rfl rfl <| q_b2s (xs := ([IntKind.wrap .u8 (IntKind.wrap .i64 (48 + (Int.tmod x1.1 10)))] : List Int)) .n (.ow (.t rfl) rfl (take_all (by simp only [len_map, put_len] <;> rfl)) (by simp only [len_map, put_len] <;> rfl)) bs_116_9 rfl <| q_move .n (.t rfl) rfl <| q_strcat .n (.t rfl) (.t rfl) (fun _ => by ((simp only [chars, List.length_map, List.length_cons, List.length_nil, List.length_append] at *; omega))) rfl <| q_assign .n (.t rfl) rfl <| Lex.nil) ?_
        refine run_region (q_move .n (.t rfl) rfl <| q_quo .n (.t rfl) (.c rfl) (fun _ => by decide) rfl <| q_assign .n (.t rfl) rfl <| Lex.nil) ?_
        refine run_endB ?_
        exact run_again (IntKind.wrap .i64 (Int.tdiv x1.1 10), (chars ([IntKind.wrap .u8 (IntKind.wrap .i64 (48 + (Int.tmod x1.1 10)))] : List Int)) ++ x1.2) ⟨by ((rw [tdiv10 (by omega) (by omega)]; simp only [List.length_append, List.length_cons, List.length_nil, List.length_replicate, put_len, chars, List.length_map] at *; omega)), by ((rw [tdiv10 (by omega) (by omega)]; simp only [List.length_append, List.length_cons, List.length_nil, List.length_replicate, put_len, chars, List.length_map] at *; omega)), by ((rw [tdiv10 (by omega) (by omega)]; simp only [List.length_append, List.length_cons, List.length_nil, List.length_replicate, put_len, chars, List.length_map] at *; omega))⟩ (by ((rw [tdiv10 (by omega) (by omega)]; simp only [List.length_append, List.length_cons, List.length_nil, List.length_replicate, put_len, chars, List.length_map] at *; omega))) (sub_of [] ⟨rfl, rfl, trivial⟩ trivial rfl)
      · try simp only [Bool.and_eq_true, Bool.or_eq_true, Bool.not_eq_true', Bool.and_eq_false_iff, Bool.or_eq_false_iff, Bool.not_eq_false', decide_eq_true_eq, decide_eq_false_iff_not, beq_iff_eq, bne_iff_ne, beq_eq_false_iff_ne, bne_eq_false_iff_eq, Bool.true_and, ne_eq, Decidable.not_not, Int.not_lt, Int.not_le, Nat.not_lt, Nat.not_le, strB_nil, strB_nil', strB_nnil, strB_nnil'] at h4
        refine run_exit rfl ?_
        exact run_cont hk2 (x1.1, x1.2) ⟨by omega, by omega, by omega⟩ (sub_of [] ⟨rfl, trivial⟩ trivial rfl)

/-! ### laws_markAirwayS -/
theorem c_laws_markAirwayS (a : List gAirway) (k_ : Int) (hp1 : k_ ≤ 9223372036854775807) : Con Try.prog 45 [.os 0 a.length, .int .i64 k_] [(0, some (.row 99 7 (a.map gAirway.v)))] (.int .i64 (m_laws_markAirwayS a k_).1) ([(0, some (.row 99 7 ((m_laws_markAirwayS a k_).2.map gAirway.v)))]) := by
  refine con_intro (out := fun r : Int × (List gAirway) => ((.int .i64 r.1 : V), ([(0, some (.row 99 7 (r.2.map gAirway.v)))] : List (Nat × Option O)))) (r := (m_laws_markAirwayS a k_)) Try.func45 rfl Try.ntmps45 rfl ?_
  refine run_factH (l := 0) rfl fun hl => ?_
  have l1 := hl; clear hl; simp only [List.length_map] at l1
  refine run_seq ?_
  refine run_region (q_assign .n (.c rfl) rfl <| Lex.nil) ?_
  refine run_seq ?_
  refine run_seq ?_
  refine run_region (q_assign .n (.c rfl) rfl <| Lex.nil) ?_
  refine run_block ?_
  refine run_LOOP (m_laws_markAirwayS_b1 a k_) _ _ _ rfl (fun (x1 : (List gAirway) × Int × Int) => 0 ≤ x1.2.2 ∧ x1.1.length = a.length ∧ x1.2.1 ≤ 9223372036854775807) (fun x1 => 0 ≤ x1.2.2 ∧ x1.1.length = a.length ∧ x1.2.1 ≤ 9223372036854775807 ∧ (x1.1.length : Int) ≤ x1.2.2) (fun x1 => ((x1.1.length : Int) - x1.2.2 : Int).toNat) (fun x1 => ⟨[(0, some (true, .os 0 x1.1.length)), (1, some (true, .int .i64 x1.2.1)), (5, some (true, .int .i64 x1.2.2))], [(0, some (.row 99 7 (x1.1.map gAirway.v)))]⟩) (fun x1 => ⟨[(1, some (true, .int .i64 x1.2.1))], [(0, some (.row 99 7 (x1.1.map gAirway.v)))]⟩) ⟨by (simp only [List.length_append, List.length_cons, List.length_nil, List.length_replicate, put_len] at * <;> omega), by (simp only [List.length_append, List.length_cons, List.length_nil, List.length_replicate, put_len] at * <;> omega), by omega⟩ (by (simp only [List.length_append, List.length_cons, List.length_nil, List.length_replicate, put_len] at * <;> omega)) (sub_of [] ⟨rfl, rfl, rfl, trivial⟩ ⟨rfl, trivial⟩ rfl) ?_ ?_
  · intro x1 i5
    obtain ⟨e6, e7, e8, e9⟩ := i5
    try dsimp only at *
    refine run_seq ?_
    refine run_region (q_move .n (.t rfl) rfl <| q_assign .n (.t rfl) rfl <| Lex.nil) ?_
    exact run_ret [] (.cons (.t rfl rfl) .nil) rfl ⟨rfl, trivial⟩ rfl
  · intro rec1 k1 hk2 x1 i3
    obtain ⟨e10, e11, e12⟩ := i3
    try dsimp only at *
    refine run_seq ?_
    refine run_seq ?_
    refine run_region (q_move .n (.t rfl) rfl <| q_move .n (.t rfl) rfl <| q_len .n (.t rfl) rfl rfl ss_33 rfl <| q_int .n (.t rfl) (.t rfl) rfl rfl <| Lex.nil) ?_
    refine run_cond (.t rfl) rfl (fun h4 => ?_) (fun h4 => ?_)
    · try simp only [Bool.and_eq_true, Bool.or_eq_true, Bool.not_eq_true', Bool.and_eq_false_iff, Bool.or_eq_false_iff, Bool.not_eq_false', decide_eq_true_eq, decide_eq_false_iff_not, beq_iff_eq, bne_iff_ne, beq_eq_false_iff_ne, bne_eq_false_iff_eq, Bool.true_and, ne_eq, Decidable.not_not, Int.not_lt, Int.not_le, Nat.not_lt, Nat.not_le, strB_nil, strB_nil', strB_nnil, strB_nnil'] at h4
      refine run_skip ?_
      refine run_seq ?_
      refine run_block ?_
      refine run_seq ?_
      refine run_region (q_move .n (.t rfl) rfl <| q_move .n (.t rfl) rfl <| q_move .n (.t rfl) rfl <| q_call0 (full := false) .n .f en_46 (.cons (.t rfl) .nil) (.cons (.b (.a (.same rfl))) .nil) (fun hg => c_laws_markText x1.2.1 (by omega)) rfl (fun h => Bool.noConfusion h) rfl <| q_idx_ow .n (.t rfl) (.t rfl) sl_33 (fun _ => by omega) rfl <| q_fld_ow .n (.t rfl) fo_99_0 rfl <| q_st_rowm (gAirway.mk (m_laws_markText x1.2.1) (at' x1.1 x1.2.2).From (at' x1.1 x1.2.2).To (at' x1.1 x1.2.2).Length (at' x1.1 x1.2.2).Section (at' x1.1 x1.2.2).Friction (at' x1.1 x1.2.2).Shock) .n rfl (.t rfl) (.t rfl) rfl ts_9 (by omega) rfl rfl <| Lex.nil) ?_
      refine run_seq ?_
      refine run_region (q_move .n (.t rfl) rfl <| q_int .n (.t rfl) (.c rfl) rfl rfl <| q_assign .n (.t rfl) rfl <| Lex.nil) ?_
      refine run_seq ?_
      refine run_region (q_move .n (.t rfl) rfl <| q_move .n (.t rfl) rfl <| q_move .n (.t rfl) rfl <| q_idx_ow .n (.t rfl) (.t rfl) sl_33 (fun _ => by omega) rfl <| q_fld_ow .n (.t rfl) fo_99_1 rfl <| q_st_rowp (gAirway.mk (m_laws_markText x1.2.1) (at' x1.1 x1.2.2).From (at' x1.1 x1.2.2).To (at' x1.1 x1.2.2).Length (at' x1.1 x1.2.2).Section (at' x1.1 x1.2.2).Friction (at' x1.1 x1.2.2).Shock) (gAirway.mk (m_laws_markText x1.2.1) (IntKind.wrap .i64 (x1.2.1 + 1)) (at' x1.1 x1.2.2).To (at' x1.1 x1.2.2).Length (at' x1.1 x1.2.2).Section (at' x1.1 x1.2.2).Friction (at' x1.1 x1.2.2).Shock) .n rfl (.t rfl) (.t rfl) rfl ts_2 (by omega) rfl rfl <| Lex.nil) ?_
      refine run_seq ?_
      refine run_region (q_move .n (.t rfl) rfl <| q_int .n (.t rfl) (.c rfl) rfl rfl <| q_assign .n (.t rfl) rfl <| Lex.nil) ?_
      refine run_seq ?_
      refine run_region (q_move .n (.t rfl) rfl <| q_move .n (.t rfl) rfl <| q_move .n (.t rfl) rfl <| q_idx_ow .n (.t rfl) (.t rfl) sl_33 (fun _ => by omega) rfl <| q_fld_ow .n (.t rfl) fo_99_2 rfl <| q_st_rowp (gAirway.mk (m_laws_markText x1.2.1) (IntKind.wrap .i64 (x1.2.1 + 1)) (at' x1.1 x1.2.2).To (at' x1.1 x1.2.2).Length (at' x1.1 x1.2.2).Section (at' x1.1 x1.2.2).Friction (at' x1.1 x1.2.2).Shock) (gAirway.mk (m_laws_markText x1.2.1) (IntKind.wrap .i64 (x1.2.1 + 1)) (IntKind.wrap .i64 ((IntKind.wrap .i64 (x1.2.1 + 1)) + 1)) (at' x1.1 x1.2.2).Length (at' x1.1 x1.2.2).Section (at' x1.1 x1.2.2).Friction (at' x1.1 x1.2.2).Shock) .n rfl (.t rfl) (.t rfl) rfl ts_2 (by omega) rfl rfl <| Lex.nil) ?_
      refine run_seq ?_
      refine run_region (q_move .n (.t rfl) rfl <| q_int .n (.t rfl) (.c rfl) rfl rfl <| q_assign .n (.t rfl) rfl <| Lex.nil) ?_
      refine run_seq ?_
      refine run_region (q_move .n (.t rfl) rfl <| q_move .n (.t rfl) rfl <| q_move .n (.t rfl) rfl <| q_idx_ow .n (.t rfl) (.t rfl) sl_33 (fun _ => by omega) rfl <| q_fld_ow .n (.t rfl) fo_99_3 rfl <| q_st_rowp (gAirway.mk (m_laws_markText x1.2.1) (IntKind.wrap .i64 (x1.2.1 + 1)) (IntKind.wrap .i64 ((IntKind.wrap .i64 (x1.2.1 + 1)) + 1)) (at' x1.1 x1.2.2).Length (at' x1.1 x1.2.2).Section (at' x1.1 x1.2.2).Friction (at' x1.1 x1.2.2).Shock) (gAirway.mk (m_laws_markText x1.2.1) (IntKind.wrap .i64 (x1.2.1 + 1)) (IntKind.wrap .i64 ((IntKind.wrap .i64 (x1.2.1 + 1)) + 1)) (IntKind.wrap .i64 ((IntKind.wrap .i64 ((IntKind.wrap .i64 (x1.2.1 + 1)) + 1)) + 1)) (at' x1.1 x1.2.2).Section (at' x1.1 x1.2.2).Friction (at' x1.1 x1.2.2).Shock) .n rfl (.t rfl) (.t rfl) rfl ts_2 (by omega) rfl rfl <| Lex.nil) ?_
      refine run_seq ?_
      refine run_region (q_move .n (.t rfl) rfl <| q_int .n (.t rfl) (.c rfl) rfl rfl <| q_assign .n (.t rfl) rfl <| Lex.nil) ?_
      refine run_seq ?_
      refine run_region (q_move .n (.t rfl) rfl <| q_move .n (.t rfl) rfl <| q_move .n (.t rfl) rfl <| q_idx_ow .n (.t rfl) (.t rfl) sl_33 (fun _ => by omega) rfl <| q_fld_ow .n (.t rfl) fo_99_4 rfl <| q_st_rowp (gAirway.mk (m_laws_markText x1.2.1) (IntKind.wrap .i64 (x1.2.1 + 1)) (IntKind.wrap .i64 ((IntKind.wrap .i64 (x1.2.1 + 1)) + 1)) (IntKind.wrap .i64 ((IntKind.wrap .i64 ((IntKind.wrap .i64 (x1.2.1 + 1)) + 1)) + 1)) (at' x1.1 x1.2.2).Section (at' x1.1 x1.2.2).Friction (at' x1.1 x1.2.2).Shock) (gAirway.mk (m_laws_markText x1.2.1) (IntKind.wrap .i64 (x1.2.1 + 1)) (IntKind.wrap .i64 ((IntKind.wrap .i64 (x1.2.1 + 1)) + 1)) (IntKind.wrap .i64 ((IntKind.wrap .i64 ((IntKind.wrap .i64 (x1.2.1 + 1)) + 1)) + 1)) (IntKind.wrap .i64 ((IntKind.wrap .i64 ((IntKind.wrap .i64 ((IntKind.wrap .i64 (x1.2.1 + 1)) + 1)) + 1)) + 1)) (at' x1.1 x1.2.2).Friction (at' x1.1 x1.2.2).Shock) .n rfl (.t rfl) (.t rfl) rfl ts_2 (by omega) rfl rfl <| Lex.nil) ?_
      refine run_seq ?_
      refine run_region (q_move .n (.t rfl) rfl <| q_int .n (.t rfl) (.c rfl) rfl rfl <| q_assign .n (.t rfl) rfl <| Lex.nil) ?_
      refine run_seq ?_
      refine run_region (q_move .n (.t rfl) rfl <| q_move .n (.t rfl) rfl <| q_move .n (.t rfl) rfl <| q_idx_ow .n (.t rfl) (.t rfl) sl_33 (fun _ => by omega) rfl <| q_fld_ow .n (.t rfl) fo_99_5 rfl <| q_st_rowp (gAirway.mk (m_laws_markText x1.2.1) (IntKind.wrap .i64 (x1.2.1 + 1)) (IntKind.wrap .i64 ((IntKind.wrap .i64 (x1.2.1 + 1)) + 1)) (IntKind.wrap .i64 ((IntKind.wrap .i64 ((IntKind.wrap .i64 (x1.2.1 + 1)) + 1)) + 1)) (IntKind.wrap .i64 ((IntKind.wrap .i64 ((IntKind.wrap .i64 ((IntKind.wrap .i64 (x1.2.1 + 1)) + 1)) + 1)) + 1)) (at' x1.1 x1.2.2).Friction (at' x1.1 x1.2.2).Shock) (gAirway.mk (m_laws_markText x1.2.1) (IntKind.wrap .i64 (x1.2.1 + 1)) (IntKind.wrap .i64 ((IntKind.wrap .i64 (x1.2.1 + 1)) + 1)) (IntKind.wrap .i64 ((IntKind.wrap .i64 ((IntKind.wrap .i64 (x1.2.1 + 1)) + 1)) + 1)) (IntKind.wrap .i64 ((IntKind.wrap .i64 ((IntKind.wrap .i64 ((IntKind.wrap .i64 (x1.2.1 + 1)) + 1)) + 1)) + 1)) (IntKind.wrap .i64 ((IntKind.wrap .i64 ((IntKind.wrap .i64 ((IntKind.wrap .i64 ((IntKind.wrap .i64 (x1.2.1 + 1)) + 1)) + 1)) + 1)) + 1)) (at' x1.1 x1.2.2).Shock) .n rfl (.t rfl) (.t rfl) rfl ts_2 (by omega) rfl rfl <| Lex.nil) ?_
      refine run_seq ?_
      refine run_region (q_move .n (.t rfl) rfl <| q_int .n (.t rfl) (.c rfl) rfl rfl <| q_assign .n (.t rfl) rfl <| Lex.nil) ?_
      refine run_seq ?_
      refine run_region (q_move .n (.t rfl) rfl <| q_move .n (.t rfl) rfl <| q_move .n (.t rfl) rfl <| q_idx_ow .n (.t rfl) (.t rfl) sl_33 (fun _ => by omega) rfl <| q_fld_ow .n (.t rfl) fo_99_6 rfl <| q_st_rowp (gAirway.mk (m_laws_markText x1.2.1) (IntKind.wrap .i64 (x1.2.1 + 1)) (IntKind.wrap .i64 ((IntKind.wrap .i64 (x1.2.1 + 1)) + 1)) (IntKind.wrap .i64 ((IntKind.wrap .i64 ((IntKind.wrap .i64 (x1.2.1 + 1)) + 1)) + 1)) (IntKind.wrap .i64 ((IntKind.wrap .i64 ((IntKind.wrap .i64 ((IntKind.wrap .i64 (x1.2.1 + 1)) + 1)) + 1)) + 1)) (IntKind.wrap .i64 ((IntKind.wrap .i64 ((IntKind.wrap .i64 ((IntKind.wrap .i64 ((IntKind.wrap .i64 (x1.2.1 + 1)) + 1)) + 1)) + 1)) + 1)) (at' x1.1 x1.2.2).Shock) (gAirway.mk (m_laws_markText x1.2.1) (IntKind.wrap .i64 (x1.2.1 + 1)) (IntKind.wrap .i64 ((IntKind.wrap .i64 (x1.2.1 + 1)) + 1)) (IntKind.wrap .i64 ((IntKind.wrap .i64 ((IntKind.wrap .i64 (x1.2.1 + 1)) + 1)) + 1)) (IntKind.wrap .i64 ((IntKind.wrap .i64 ((IntKind.wrap .i64 ((IntKind.wrap .i64 (x1.2.1 + 1)) + 1)) + 1)) + 1)) (IntKind.wrap .i64 ((IntKind.wrap .i64 ((IntKind.wrap .i64 ((IntKind.wrap .i64 ((IntKind.wrap .i64 (x1.2.1 + 1)) + 1)) + 1)) + 1)) + 1)) (IntKind.wrap .i64 ((IntKind.wrap .i64 ((IntKind.wrap .i64 ((IntKind.wrap .i64 ((IntKind.wrap .i64 ((IntKind.wrap .i64 (x1.2.1 + 1)) + 1)) + 1)) + 1)) + 1)) + 1))) .n rfl (.t rfl) (.t rfl) rfl ts_2 (by omega) rfl rfl <| Lex.nil) ?_
      refine run_region (q_move .n (.t rfl) rfl <| q_int .n (.t rfl) (.c rfl) rfl rfl <| q_assign .n (.t rfl) rfl <| Lex.nil) ?_
      refine run_endB ?_
      refine run_region (q_move .n (.t rfl) rfl <| q_add .n (.t rfl) (.c rfl) (fun _ => by omega) rfl <| q_assign .n (.t rfl) rfl <| Lex.nil) ?_
      exact run_again (put' x1.1 x1.2.2 (gAirway.mk (m_laws_markText x1.2.1) (IntKind.wrap .i64 (x1.2.1 + 1)) (IntKind.wrap .i64 ((IntKind.wrap .i64 (x1.2.1 + 1)) + 1)) (IntKind.wrap .i64 ((IntKind.wrap .i64 ((IntKind.wrap .i64 (x1.2.1 + 1)) + 1)) + 1)) (IntKind.wrap .i64 ((IntKind.wrap .i64 ((IntKind.wrap .i64 ((IntKind.wrap .i64 (x1.2.1 + 1)) + 1)) + 1)) + 1)) (IntKind.wrap .i64 ((IntKind.wrap .i64 ((IntKind.wrap .i64 ((IntKind.wrap .i64 ((IntKind.wrap .i64 (x1.2.1 + 1)) + 1)) + 1)) + 1)) + 1)) (IntKind.wrap .i64 ((IntKind.wrap .i64 ((IntKind.wrap .i64 ((IntKind.wrap .i64 ((IntKind.wrap .i64 ((IntKind.wrap .i64 (x1.2.1 + 1)) + 1)) + 1)) + 1)) + 1)) + 1))), IntKind.wrap .i64 ((IntKind.wrap .i64 ((IntKind.wrap .i64 ((IntKind.wrap .i64 ((IntKind.wrap .i64 ((IntKind.wrap .i64 ((IntKind.wrap .i64 (x1.2.1 + 1)) + 1)) + 1)) + 1)) + 1)) + 1)) + 1), x1.2.2 + 1) ⟨by (simp only [List.length_append, List.length_cons, List.length_nil, List.length_replicate, put_len] at * <;> omega), by (simp only [List.length_append, List.length_cons, List.length_nil, List.length_replicate, put_len] at * <;> omega), by (exact wr64_le)⟩ (by (simp only [List.length_append, List.length_cons, List.length_nil, List.length_replicate, put_len] at * <;> omega)) (sub_of [] ⟨os_len rfl (by first | (simp only [put_len]; done) | (first | omega | assumption | (simp only [List.length_append, List.length_cons, List.length_nil, List.length_replicate, put_len] at * <;> omega) | ((exact wr64_le); done))), rfl, rfl, trivial⟩ ⟨rfl, trivial⟩ rfl)
    · try simp only [Bool.and_eq_true, Bool.or_eq_true, Bool.not_eq_true', Bool.and_eq_false_iff, Bool.or_eq_false_iff, Bool.not_eq_false', decide_eq_true_eq, decide_eq_false_iff_not, beq_iff_eq, bne_iff_ne, beq_eq_false_iff_ne, bne_eq_false_iff_eq, Bool.true_and, ne_eq, Decidable.not_not, Int.not_lt, Int.not_le, Nat.not_lt, Nat.not_le, strB_nil, strB_nil', strB_nnil, strB_nnil'] at h4
      refine run_exit rfl ?_
      exact run_cont hk2 (x1.1, x1.2.1, x1.2.2) ⟨by omega, by omega, by omega, by omega⟩ (sub_of [] ⟨rfl, trivial⟩ ⟨rfl, trivial⟩ rfl)

/-! ### laws_markMine -/
theorem c_laws_markMine (a : gMine) (k_ : Int) (hp1 : k_ ≤ 9223372036854775807) : Con Try.prog 17 [.st [.int .i64 a.Junctions, .os 11 a.Airways.length], .int .i64 k_] [(11, some (.row 99 7 (a.Airways.map gAirway.v)))] (.int .i64 (m_laws_markMine a k_).1) ([(11, some (.row 99 7 ((m_laws_markMine a k_).2.map gAirway.v)))]) := by
  refine con_intro (out := fun r : Int × (List gAirway) => ((.int .i64 r.1 : V), ([(11, some (.row 99 7 (r.2.map gAirway.v)))] : List (Nat × Option O)))) (r := (m_laws_markMine a k_)) Try.func17 rfl Try.ntmps17 rfl ?_
  refine run_factH (l := 11) rfl fun hl => ?_
  have l1 := hl; clear hl; simp only [List.length_map] at l1
  refine run_seq ?_
  refine run_region (q_box (l := 200) .n rfl (.t rfl) rfl rfl rfl rfl <| q_assign .n (.c rfl) rfl <| Lex.nil) ?_
  refine run_seq ?_
  refine run_region (q_fld_ow .n (.t rfl) fo_35_1 rfl <| q_ld1_ow .n (.t rfl) rfl (.inr rfl) (fun _ => rfl) rfl ic_33 rfl <| q_move .n (.t rfl) rfl <| q_callM (full := false) [(0, 11)] [] .n rfl .f en_45 (.cons (.t rfl) (.cons (.t rfl) .nil)) (.cons (.b (.muts rfl)) (.cons (.b (.a (.same rfl))) .nil)) (c_laws_markAirwayS a.Airways k_ (by omega)) ⟨rfl, trivial⟩ rfl rfl (fun h => Bool.noConfusion h) (fun h => Bool.noConfusion h) rfl <| q_assign .n (.t rfl) rfl <| Lex.nil) ?_
  refine run_seq ?_
  refine run_region (q_move .n (.t rfl) rfl <| q_assign .n (.t rfl) rfl <| Lex.nil) ?_
  exact run_ret [] (.cons (.t rfl rfl) .nil) rfl ⟨rfl, trivial⟩ rfl

/-! ### laws_markInt64S -/
theorem c_laws_markInt64S (a : List Int) (k_ : Int) : Con Try.prog 18 [.os 0 a.length, .int .i64 k_] [(0, some (.row 2 1 (a.map (V.int .i64))))] (.int .i64 (m_laws_markInt64S a k_).1) ([(0, some (.row 2 1 ((m_laws_markInt64S a k_).2.map (V.int .i64))))]) := by
  refine con_intro (out := fun r : Int × (List Int) => ((.int .i64 r.1 : V), ([(0, some (.row 2 1 (r.2.map (V.int .i64))))] : List (Nat × Option O)))) (r := (m_laws_markInt64S a k_)) Try.func18 rfl Try.ntmps18 rfl ?_
  refine run_factH (l := 0) rfl fun hl => ?_
  have l1 := hl; clear hl; simp only [List.length_map] at l1
  refine run_seq ?_
  refine run_region (q_assign .n (.c rfl) rfl <| Lex.nil) ?_
  refine run_seq ?_
  refine run_seq ?_
  refine run_region (q_assign .n (.c rfl) rfl <| Lex.nil) ?_
  refine run_block ?_
  refine run_LOOP (m_laws_markInt64S_b1 a k_) _ _ _ rfl (fun (x1 : (List Int) × Int × Int) => 0 ≤ x1.2.2 ∧ x1.1.length = a.length) (fun x1 => 0 ≤ x1.2.2 ∧ x1.1.length = a.length ∧ (x1.1.length : Int) ≤ x1.2.2) (fun x1 => ((x1.1.length : Int) - x1.2.2 : Int).toNat) (fun x1 => ⟨[(0, some (true, .os 0 x1.1.length)), (1, some (true, .int .i64 x1.2.1)), (5, some (true, .int .i64 x1.2.2))], [(0, some (.row 2 1 (x1.1.map (V.int .i64))))]⟩) (fun x1 => ⟨[(1, some (true, .int .i64 x1.2.1))], [(0, some (.row 2 1 (x1.1.map (V.int .i64))))]⟩) ⟨by (simp only [List.length_append, List.length_cons, List.length_nil, List.length_replicate, put_len] at * <;> omega), by (simp only [List.length_append, List.length_cons, List.length_nil, List.length_replicate, put_len] at * <;> omega)⟩ (by (simp only [List.length_append, List.length_cons, List.length_nil, List.length_replicate, put_len] at * <;> omega)) (sub_of [] ⟨rfl, rfl, rfl, trivial⟩ ⟨rfl, trivial⟩ rfl) ?_ ?_
  · intro x1 i5
    obtain ⟨e6, e7, e8⟩ := i5
    try dsimp only at *
    refine run_seq ?_
    refine run_region (q_move .n (.t rfl) rfl <| q_assign .n (.t rfl) rfl <| Lex.nil) ?_
    exact run_ret [] (.cons (.t rfl rfl) .nil) rfl ⟨rfl, trivial⟩ rfl
  · intro rec1 k1 hk2 x1 i3
    obtain ⟨e9, e10⟩ := i3
    try dsimp only at *
    refine run_seq ?_
    refine run_seq ?_
    refine run_region (q_move .n (.t rfl) rfl <| q_move .n (.t rfl) rfl <| q_len .n (.t rfl) rfl rfl ss_25 rfl <| q_int .n (.t rfl) (.t rfl) rfl rfl <| Lex.nil) ?_
    refine run_cond (.t rfl) rfl (fun h4 => ?_) (fun h4 => ?_)
    · try simp only [Bool.and_eq_true, Bool.or_eq_true, Bool.not_eq_true', Bool.and_eq_false_iff, Bool.or_eq_false_iff, Bool.not_eq_false', decide_eq_true_eq, decide_eq_false_iff_not, beq_iff_eq, bne_iff_ne, beq_eq_false_iff_ne, bne_eq_false_iff_eq, Bool.true_and, ne_eq, Decidable.not_not, Int.not_lt, Int.not_le, Nat.not_lt, Nat.not_le, strB_nil, strB_nil', strB_nnil, strB_nnil'] at h4
      refine run_skip ?_
      refine run_seq ?_
      refine run_block ?_
      refine run_seq ?_
      refine run_region (q_move .n (.t rfl) rfl <| q_move .n (.t rfl) rfl <| q_move .n (.t rfl) rfl <| q_idx_ow .n (.t rfl) (.t rfl) sl_25 (fun _ => by omega) rfl <| q_st_rowm x1.2.1 .n rfl (.t rfl) (.t rfl) rfl ts_2 (by omega) rfl rfl <| Lex.nil) ?_
      refine run_region (q_move .n (.t rfl) rfl <| q_int .n (.t rfl) (.c rfl) rfl rfl <| q_assign .n (.t rfl) rfl <| Lex.nil) ?_
      refine run_endB ?_
      refine run_region (q_move .n (.t rfl) rfl <| q_add .n (.t rfl) (.c rfl) (fun _ => by omega) rfl <| q_assign .n (.t rfl) rfl <| Lex.nil) ?_
      exact run_again (put' x1.1 x1.2.2 x1.2.1, IntKind.wrap .i64 (x1.2.1 + 1), x1.2.2 + 1) ⟨by (simp only [List.length_append, List.length_cons, List.length_nil, List.length_replicate, put_len] at * <;> omega), by (simp only [List.length_append, List.length_cons, List.length_nil, List.length_replicate, put_len] at * <;> omega)⟩ (by (simp only [List.length_append, List.length_cons, List.length_nil, List.length_replicate, put_len] at * <;> omega)) (sub_of [] ⟨os_len rfl (by first | (simp only [put_len]; done) | (first | omega | assumption | (simp only [List.length_append, List.length_cons, List.length_nil, List.length_replicate, put_len] at * <;> omega))), rfl, rfl, trivial⟩ ⟨rfl, trivial⟩ rfl)
    · try simp only [Bool.and_eq_true, Bool.or_eq_true, Bool.not_eq_true', Bool.and_eq_false_iff, Bool.or_eq_false_iff, Bool.not_eq_false', decide_eq_true_eq, decide_eq_false_iff_not, beq_iff_eq, bne_iff_ne, beq_eq_false_iff_ne, bne_eq_false_iff_eq, Bool.true_and, ne_eq, Decidable.not_not, Int.not_lt, Int.not_le, Nat.not_lt, Nat.not_le, strB_nil, strB_nil', strB_nnil, strB_nnil'] at h4
      refine run_exit rfl ?_
      exact run_cont hk2 (x1.1, x1.2.1, x1.2.2) ⟨by omega, by omega, by omega⟩ (sub_of [] ⟨rfl, trivial⟩ ⟨rfl, trivial⟩ rfl)

/-! ### laws_markCrewS -/
theorem c_laws_markCrewS (a : List gCrew) (k_ : Int) (hp1 : k_ ≤ 9223372036854775807) : Con Try.prog 19 [.os 0 a.length, .int .i64 k_] [(0, some (.row 71 3 (a.map gCrew.v)))] (.int .i64 (m_laws_markCrewS a k_).1) ([(0, some (.row 71 3 ((m_laws_markCrewS a k_).2.map gCrew.v)))]) := by
  refine con_intro (out := fun r : Int × (List gCrew) => ((.int .i64 r.1 : V), ([(0, some (.row 71 3 (r.2.map gCrew.v)))] : List (Nat × Option O)))) (r := (m_laws_markCrewS a k_)) Try.func19 rfl Try.ntmps19 rfl ?_
  refine run_factH (l := 0) rfl fun hl => ?_
  have l1 := hl; clear hl; simp only [List.length_map] at l1
  refine run_seq ?_
  refine run_region (q_assign .n (.c rfl) rfl <| Lex.nil) ?_
  refine run_seq ?_
  refine run_seq ?_
  refine run_region (q_assign .n (.c rfl) rfl <| Lex.nil) ?_
  refine run_block ?_
  refine run_LOOP (m_laws_markCrewS_b1 a k_) _ _ _ rfl (fun (x1 : (List gCrew) × Int × Int) => 0 ≤ x1.2.2 ∧ x1.1.length = a.length ∧ x1.2.1 ≤ 9223372036854775807) (fun x1 => 0 ≤ x1.2.2 ∧ x1.1.length = a.length ∧ x1.2.1 ≤ 9223372036854775807 ∧ (x1.1.length : Int) ≤ x1.2.2) (fun x1 => ((x1.1.length : Int) - x1.2.2 : Int).toNat) (fun x1 => ⟨[(0, some (true, .os 0 x1.1.length)), (1, some (true, .int .i64 x1.2.1)), (5, some (true, .int .i64 x1.2.2))], [(0, some (.row 71 3 (x1.1.map gCrew.v)))]⟩) (fun x1 => ⟨[(1, some (true, .int .i64 x1.2.1))], [(0, some (.row 71 3 (x1.1.map gCrew.v)))]⟩) ⟨by (simp only [List.length_append, List.length_cons, List.length_nil, List.length_replicate, put_len] at * <;> omega), by (simp only [List.length_append, List.length_cons, List.length_nil, List.length_replicate, put_len] at * <;> omega), by omega⟩ (by (simp only [List.length_append, List.length_cons, List.length_nil, List.length_replicate, put_len] at * <;> omega)) (sub_of [] ⟨rfl, rfl, rfl, trivial⟩ ⟨rfl, trivial⟩ rfl) ?_ ?_
  · intro x1 i5
    obtain ⟨e6, e7, e8, e9⟩ := i5
    try dsimp only at *
    refine run_seq ?_
    refine run_region (q_move .n (.t rfl) rfl <| q_assign .n (.t rfl) rfl <| Lex.nil) ?_
    exact run_ret [] (.cons (.t rfl rfl) .nil) rfl ⟨rfl, trivial⟩ rfl
  · intro rec1 k1 hk2 x1 i3
    obtain ⟨e10, e11, e12⟩ := i3
    try dsimp only at *
    refine run_seq ?_
    refine run_seq ?_
    refine run_region (q_move .n (.t rfl) rfl <| q_move .n (.t rfl) rfl <| q_len .n (.t rfl) rfl rfl ss_38 rfl <| q_int .n (.t rfl) (.t rfl) rfl rfl <| Lex.nil) ?_
    refine run_cond (.t rfl) rfl (fun h4 => ?_) (fun h4 => ?_)
    · try simp only [Bool.and_eq_true, Bool.or_eq_true, Bool.not_eq_true', Bool.and_eq_false_iff, Bool.or_eq_false_iff, Bool.not_eq_false', decide_eq_true_eq, decide_eq_false_iff_not, beq_iff_eq, bne_iff_ne, beq_eq_false_iff_ne, bne_eq_false_iff_eq, Bool.true_and, ne_eq, Decidable.not_not, Int.not_lt, Int.not_le, Nat.not_lt, Nat.not_le, strB_nil, strB_nil', strB_nnil, strB_nnil'] at h4
      refine run_skip ?_
      refine run_seq ?_
      refine run_block ?_
      refine run_seq ?_
      refine run_region (q_move .n (.t rfl) rfl <| q_move .n (.t rfl) rfl <| q_move .n (.t rfl) rfl <| q_call0 (full := false) .n .f en_46 (.cons (.t rfl) .nil) (.cons (.b (.a (.same rfl))) .nil) (fun hg => c_laws_markText x1.2.1 (by omega)) rfl (fun h => Bool.noConfusion h) rfl <| q_idx_ow .n (.t rfl) (.t rfl) sl_38 (fun _ => by omega) rfl <| q_fld_ow .n (.t rfl) fo_71_0 rfl <| q_st_rowm (gCrew.mk (m_laws_markText x1.2.1) (at' x1.1 x1.2.2).Junction (at' x1.1 x1.2.2).Speed) .n rfl (.t rfl) (.t rfl) rfl ts_9 (by omega) rfl rfl <| Lex.nil) ?_
      refine run_seq ?_
      refine run_region (q_move .n (.t rfl) rfl <| q_int .n (.t rfl) (.c rfl) rfl rfl <| q_assign .n (.t rfl) rfl <| Lex.nil) ?_
      refine run_seq ?_
      refine run_region (q_move .n (.t rfl) rfl <| q_move .n (.t rfl) rfl <| q_move .n (.t rfl) rfl <| q_idx_ow .n (.t rfl) (.t rfl) sl_38 (fun _ => by omega) rfl <| q_fld_ow .n (.t rfl) fo_71_1 rfl <| q_st_rowp (gCrew.mk (m_laws_markText x1.2.1) (at' x1.1 x1.2.2).Junction (at' x1.1 x1.2.2).Speed) (gCrew.mk (m_laws_markText x1.2.1) (IntKind.wrap .i64 (x1.2.1 + 1)) (at' x1.1 x1.2.2).Speed) .n rfl (.t rfl) (.t rfl) rfl ts_2 (by omega) rfl rfl <| Lex.nil) ?_
      refine run_seq ?_
      refine run_region (q_move .n (.t rfl) rfl <| q_int .n (.t rfl) (.c rfl) rfl rfl <| q_assign .n (.t rfl) rfl <| Lex.nil) ?_
      refine run_seq ?_
      refine run_region (q_move .n (.t rfl) rfl <| q_move .n (.t rfl) rfl <| q_move .n (.t rfl) rfl <| q_idx_ow .n (.t rfl) (.t rfl) sl_38 (fun _ => by omega) rfl <| q_fld_ow .n (.t rfl) fo_71_2 rfl <| q_st_rowp (gCrew.mk (m_laws_markText x1.2.1) (IntKind.wrap .i64 (x1.2.1 + 1)) (at' x1.1 x1.2.2).Speed) (gCrew.mk (m_laws_markText x1.2.1) (IntKind.wrap .i64 (x1.2.1 + 1)) (IntKind.wrap .i64 ((IntKind.wrap .i64 (x1.2.1 + 1)) + 1))) .n rfl (.t rfl) (.t rfl) rfl ts_2 (by omega) rfl rfl <| Lex.nil) ?_
      refine run_region (q_move .n (.t rfl) rfl <| q_int .n (.t rfl) (.c rfl) rfl rfl <| q_assign .n (.t rfl) rfl <| Lex.nil) ?_
      refine run_endB ?_
      refine run_region (q_move .n (.t rfl) rfl <| q_add .n (.t rfl) (.c rfl) (fun _ => by omega) rfl <| q_assign .n (.t rfl) rfl <| Lex.nil) ?_
      exact run_again (put' x1.1 x1.2.2 (gCrew.mk (m_laws_markText x1.2.1) (IntKind.wrap .i64 (x1.2.1 + 1)) (IntKind.wrap .i64 ((IntKind.wrap .i64 (x1.2.1 + 1)) + 1))), IntKind.wrap .i64 ((IntKind.wrap .i64 ((IntKind.wrap .i64 (x1.2.1 + 1)) + 1)) + 1), x1.2.2 + 1) ⟨by (simp only [List.length_append, List.length_cons, List.length_nil, List.length_replicate, put_len] at * <;> omega), by (simp only [List.length_append, List.length_cons, List.length_nil, List.length_replicate, put_len] at * <;> omega), by (exact wr64_le)⟩ (by (simp only [List.length_append, List.length_cons, List.length_nil, List.length_replicate, put_len] at * <;> omega)) (sub_of [] ⟨os_len rfl (by first | (simp only [put_len]; done) | (first | omega | assumption | (simp only [List.length_append, List.length_cons, List.length_nil, List.length_replicate, put_len] at * <;> omega) | ((exact wr64_le); done))), rfl, rfl, trivial⟩ ⟨rfl, trivial⟩ rfl)
    · try simp only [Bool.and_eq_true, Bool.or_eq_true, Bool.not_eq_true', Bool.and_eq_false_iff, Bool.or_eq_false_iff, Bool.not_eq_false', decide_eq_true_eq, decide_eq_false_iff_not, beq_iff_eq, bne_iff_ne, beq_eq_false_iff_ne, bne_eq_false_iff_eq, Bool.true_and, ne_eq, Decidable.not_not, Int.not_lt, Int.not_le, Nat.not_lt, Nat.not_le, strB_nil, strB_nil', strB_nnil, strB_nnil'] at h4
      refine run_exit rfl ?_
      exact run_cont hk2 (x1.1, x1.2.1, x1.2.2) ⟨by omega, by omega, by omega, by omega⟩ (sub_of [] ⟨rfl, trivial⟩ ⟨rfl, trivial⟩ rfl)

/-! ### laws_markRefugeS -/
theorem c_laws_markRefugeS (a : List gRefuge) (k_ : Int) (hp1 : k_ ≤ 9223372036854775807) : Con Try.prog 20 [.os 0 a.length, .int .i64 k_] [(0, some (.row 72 4 (a.map gRefuge.v)))] (.int .i64 (m_laws_markRefugeS a k_).1) ([(0, some (.row 72 4 ((m_laws_markRefugeS a k_).2.map gRefuge.v)))]) := by
  refine con_intro (out := fun r : Int × (List gRefuge) => ((.int .i64 r.1 : V), ([(0, some (.row 72 4 (r.2.map gRefuge.v)))] : List (Nat × Option O)))) (r := (m_laws_markRefugeS a k_)) Try.func20 rfl Try.ntmps20 rfl ?_
  refine run_factH (l := 0) rfl fun hl => ?_
  have l1 := hl; clear hl; simp only [List.length_map] at l1
  refine run_seq ?_
  refine run_region (q_assign .n (.c rfl) rfl <| Lex.nil) ?_
  refine run_seq ?_
  refine run_seq ?_
  refine run_region (q_assign .n (.c rfl) rfl <| Lex.nil) ?_
  refine run_block ?_
  refine run_LOOP (m_laws_markRefugeS_b1 a k_) _ _ _ rfl (fun (x1 : (List gRefuge) × Int × Int) => 0 ≤ x1.2.2 ∧ x1.1.length = a.length ∧ x1.2.1 ≤ 9223372036854775807) (fun x1 => 0 ≤ x1.2.2 ∧ x1.1.length = a.length ∧ x1.2.1 ≤ 9223372036854775807 ∧ (x1.1.length : Int) ≤ x1.2.2) (fun x1 => ((x1.1.length : Int) - x1.2.2 : Int).toNat) (fun x1 => ⟨[(0, some (true, .os 0 x1.1.length)), (1, some (true, .int .i64 x1.2.1)), (5, some (true, .int .i64 x1.2.2))], [(0, some (.row 72 4 (x1.1.map gRefuge.v)))]⟩) (fun x1 => ⟨[(1, some (true, .int .i64 x1.2.1))], [(0, some (.row 72 4 (x1.1.map gRefuge.v)))]⟩) ⟨by (simp only [List.length_append, List.length_cons, List.length_nil, List.length_replicate, put_len] at * <;> omega), by (simp only [List.length_append, List.length_cons, List.length_nil, List.length_replicate, put_len] at * <;> omega), by omega⟩ (by (simp only [List.length_append, List.length_cons, List.length_nil, List.length_replicate, put_len] at * <;> omega)) (sub_of [] ⟨rfl, rfl, rfl, trivial⟩ ⟨rfl, trivial⟩ rfl) ?_ ?_
  · intro x1 i5
    obtain ⟨e6, e7, e8, e9⟩ := i5
    try dsimp only at *
    refine run_seq ?_
    refine run_region (q_move .n (.t rfl) rfl <| q_assign .n (.t rfl) rfl <| Lex.nil) ?_
    exact run_ret [] (.cons (.t rfl rfl) .nil) rfl ⟨rfl, trivial⟩ rfl
  · intro rec1 k1 hk2 x1 i3
    obtain ⟨e10, e11, e12⟩ := i3
    try dsimp only at *
    refine run_seq ?_
    refine run_seq ?_
    refine run_region (q_move .n (.t rfl) rfl <| q_move .n (.t rfl) rfl <| q_len .n (.t rfl) rfl rfl ss_40 rfl <| q_int .n (.t rfl) (.t rfl) rfl rfl <| Lex.nil) ?_
    refine run_cond (.t rfl) rfl (fun h4 => ?_) (fun h4 => ?_)
    · try simp only [Bool.and_eq_true, Bool.or_eq_true, Bool.not_eq_true', Bool.and_eq_false_iff, Bool.or_eq_false_iff, Bool.not_eq_false', decide_eq_true_eq, decide_eq_false_iff_not, beq_iff_eq, bne_iff_ne, beq_eq_false_iff_ne, bne_eq_false_iff_eq, Bool.true_and, ne_eq, Decidable.not_not, Int.not_lt, Int.not_le, Nat.not_lt, Nat.not_le, strB_nil, strB_nil', strB_nnil, strB_nnil'] at h4
      refine run_skip ?_
      refine run_seq ?_
      refine run_block ?_
      refine run_seq ?_
      refine run_region (q_move .n (.t rfl) rfl <| q_move .n (.t rfl) rfl <| q_move .n (.t rfl) rfl <| q_call0 (full := false) .n .f en_46 (.cons (.t rfl) .nil) (.cons (.b (.a (.same rfl))) .nil) (fun hg => c_laws_markText x1.2.1 (by omega)) rfl (fun h => Bool.noConfusion h) rfl <| q_idx_ow .n (.t rfl) (.t rfl) sl_40 (fun _ => by omega) rfl <| q_fld_ow .n (.t rfl) fo_72_0 rfl <| q_st_rowm (gRefuge.mk (m_laws_markText x1.2.1) (at' x1.1 x1.2.2).Junction (at' x1.1 x1.2.2).Places (at' x1.1 x1.2.2).Air) .n rfl (.t rfl) (.t rfl) rfl ts_9 (by omega) rfl rfl <| Lex.nil) ?_
      refine run_seq ?_
      refine run_region (q_move .n (.t rfl) rfl <| q_int .n (.t rfl) (.c rfl) rfl rfl <| q_assign .n (.t rfl) rfl <| Lex.nil) ?_
      refine run_seq ?_
      refine run_region (q_move .n (.t rfl) rfl <| q_move .n (.t rfl) rfl <| q_move .n (.t rfl) rfl <| q_idx_ow .n (.t rfl) (.t rfl) sl_40 (fun _ => by omega) rfl <| q_fld_ow .n (.t rfl) fo_72_1 rfl <| q_st_rowp (gRefuge.mk (m_laws_markText x1.2.1) (at' x1.1 x1.2.2).Junction (at' x1.1 x1.2.2).Places (at' x1.1 x1.2.2).Air) (gRefuge.mk (m_laws_markText x1.2.1) (IntKind.wrap .i64 (x1.2.1 + 1)) (at' x1.1 x1.2.2).Places (at' x1.1 x1.2.2).Air) .n rfl (.t rfl) (.t rfl) rfl ts_2 (by omega) rfl rfl <| Lex.nil) ?_
      refine run_seq ?_
      refine run_region (q_move .n (.t rfl) rfl <| q_int .n (.t rfl) (.c rfl) rfl rfl <| q_assign .n (.t rfl) rfl <| Lex.nil) ?_
      refine run_seq ?_
      refine run_region (q_move .n (.t rfl) rfl <| q_move .n (.t rfl) rfl <| q_move .n (.t rfl) rfl <| q_idx_ow .n (.t rfl) (.t rfl) sl_40 (fun _ => by omega) rfl <| q_fld_ow .n (.t rfl) fo_72_2 rfl <| q_st_rowp (gRefuge.mk (m_laws_markText x1.2.1) (IntKind.wrap .i64 (x1.2.1 + 1)) (at' x1.1 x1.2.2).Places (at' x1.1 x1.2.2).Air) (gRefuge.mk (m_laws_markText x1.2.1) (IntKind.wrap .i64 (x1.2.1 + 1)) (IntKind.wrap .i64 ((IntKind.wrap .i64 (x1.2.1 + 1)) + 1)) (at' x1.1 x1.2.2).Air) .n rfl (.t rfl) (.t rfl) rfl ts_2 (by omega) rfl rfl <| Lex.nil) ?_
      refine run_seq ?_
      refine run_region (q_move .n (.t rfl) rfl <| q_int .n (.t rfl) (.c rfl) rfl rfl <| q_assign .n (.t rfl) rfl <| Lex.nil) ?_
      refine run_seq ?_
      refine run_region (q_move .n (.t rfl) rfl <| q_move .n (.t rfl) rfl <| q_move .n (.t rfl) rfl <| q_idx_ow .n (.t rfl) (.t rfl) sl_40 (fun _ => by omega) rfl <| q_fld_ow .n (.t rfl) fo_72_3 rfl <| q_st_rowp (gRefuge.mk (m_laws_markText x1.2.1) (IntKind.wrap .i64 (x1.2.1 + 1)) (IntKind.wrap .i64 ((IntKind.wrap .i64 (x1.2.1 + 1)) + 1)) (at' x1.1 x1.2.2).Air) (gRefuge.mk (m_laws_markText x1.2.1) (IntKind.wrap .i64 (x1.2.1 + 1)) (IntKind.wrap .i64 ((IntKind.wrap .i64 (x1.2.1 + 1)) + 1)) (IntKind.wrap .i64 ((IntKind.wrap .i64 ((IntKind.wrap .i64 (x1.2.1 + 1)) + 1)) + 1))) .n rfl (.t rfl) (.t rfl) rfl ts_2 (by omega) rfl rfl <| Lex.nil) ?_
      refine run_region (q_move .n (.t rfl) rfl <| q_int .n (.t rfl) (.c rfl) rfl rfl <| q_assign .n (.t rfl) rfl <| Lex.nil) ?_
      refine run_endB ?_
      refine run_region (q_move .n (.t rfl) rfl <| q_add .n (.t rfl) (.c rfl) (fun _ => by omega) rfl <| q_assign .n (.t rfl) rfl <| Lex.nil) ?_
      exact run_again (put' x1.1 x1.2.2 (gRefuge.mk (m_laws_markText x1.2.1) (IntKind.wrap .i64 (x1.2.1 + 1)) (IntKind.wrap .i64 ((IntKind.wrap .i64 (x1.2.1 + 1)) + 1)) (IntKind.wrap .i64 ((IntKind.wrap .i64 ((IntKind.wrap .i64 (x1.2.1 + 1)) + 1)) + 1))), IntKind.wrap .i64 ((IntKind.wrap .i64 ((IntKind.wrap .i64 ((IntKind.wrap .i64 (x1.2.1 + 1)) + 1)) + 1)) + 1), x1.2.2 + 1) ⟨by (simp only [List.length_append, List.length_cons, List.length_nil, List.length_replicate, put_len] at * <;> omega), by (simp only [List.length_append, List.length_cons, List.length_nil, List.length_replicate, put_len] at * <;> omega), by (exact wr64_le)⟩ (by (simp only [List.length_append, List.length_cons, List.length_nil, List.length_replicate, put_len] at * <;> omega)) (sub_of [] ⟨os_len rfl (by first | (simp only [put_len]; done) | (first | omega | assumption | (simp only [List.length_append, List.length_cons, List.length_nil, List.length_replicate, put_len] at * <;> omega) | ((exact wr64_le); done))), rfl, rfl, trivial⟩ ⟨rfl, trivial⟩ rfl)
    · try simp only [Bool.and_eq_true, Bool.or_eq_true, Bool.not_eq_true', Bool.and_eq_false_iff, Bool.or_eq_false_iff, Bool.not_eq_false', decide_eq_true_eq, decide_eq_false_iff_not, beq_iff_eq, bne_iff_ne, beq_eq_false_iff_ne, bne_eq_false_iff_eq, Bool.true_and, ne_eq, Decidable.not_not, Int.not_lt, Int.not_le, Nat.not_lt, Nat.not_le, strB_nil, strB_nil', strB_nnil, strB_nnil'] at h4
      refine run_exit rfl ?_
      exact run_cont hk2 (x1.1, x1.2.1, x1.2.2) ⟨by omega, by omega, by omega, by omega⟩ (sub_of [] ⟨rfl, trivial⟩ ⟨rfl, trivial⟩ rfl)

/-! ### laws_heldInt64S -/
theorem c_laws_heldInt64S (a : List Int) (k_ : Int) : Con Try.prog 21 [.sl 1 (a.map (V.int .i64)), .int .i64 k_] [] (.int .i64 (m_laws_heldInt64S a k_)) ([]) := by
  refine con_intro (out := fun r : Int => ((.int .i64 r : V), ([] : List (Nat × Option O)))) (r := (m_laws_heldInt64S a k_)) Try.func21 rfl Try.ntmps21 rfl ?_
  refine run_fact (t := 0) rfl fun hl => ?_
  have l1 := hl; clear hl; simp only [List.length_map] at l1
  refine run_seq ?_
  refine run_region (q_assign .n (.c rfl) rfl <| Lex.nil) ?_
  refine run_seq ?_
  refine run_seq ?_
  refine run_region (q_assign .n (.c rfl) rfl <| Lex.nil) ?_
  refine run_block ?_
  refine run_LOOP (m_laws_heldInt64S_b1 a k_) _ _ _ rfl (fun (x1 : Int × Int) => 0 ≤ x1.2 ∧ x1.2 ≤ (a.length : Int)) (fun x1 => 0 ≤ x1.2 ∧ x1.2 ≤ (a.length : Int) ∧ (a.length : Int) ≤ x1.2) (fun x1 => ((a.length : Int) - x1.2 : Int).toNat) (fun x1 => ⟨[(0, some (true, .sl 1 (a.map (V.int .i64)))), (1, some (true, .int .i64 x1.1)), (5, some (true, .int .i64 x1.2))], []⟩) (fun x1 => ⟨[(1, some (true, .int .i64 x1.1))], []⟩) ⟨by omega, by omega⟩ (by omega) (sub_of [] ⟨rfl, rfl, rfl, trivial⟩ trivial rfl) ?_ ?_
  · intro x1 i6
    obtain ⟨e7, e8, e9⟩ := i6
    try dsimp only at *
    refine run_seq ?_
    refine run_region (q_move .n (.t rfl) rfl <| q_assign .n (.t rfl) rfl <| Lex.nil) ?_
    exact run_ret [] (.cons (.t rfl rfl) .nil) rfl trivial rfl
  · intro rec1 k1 hk2 x1 i3
    obtain ⟨e10, e11⟩ := i3
    try dsimp only at *
    refine run_seq ?_
    refine run_seq ?_
    refine run_region (q_move .n (.t rfl) rfl <| q_move .n (.t rfl) rfl <| q_len .n (.t rfl) rfl len_map ss_25 rfl <| q_int .n (.t rfl) (.t rfl) rfl rfl <| Lex.nil) ?_
    refine run_cond (.t rfl) rfl (fun h4 => ?_) (fun h4 => ?_)
    · try simp only [Bool.and_eq_true, Bool.or_eq_true, Bool.not_eq_true', Bool.and_eq_false_iff, Bool.or_eq_false_iff, Bool.not_eq_false', decide_eq_true_eq, decide_eq_false_iff_not, beq_iff_eq, bne_iff_ne, beq_eq_false_iff_ne, bne_eq_false_iff_eq, Bool.true_and, ne_eq, Decidable.not_not, Int.not_lt, Int.not_le, Nat.not_lt, Nat.not_le, strB_nil, strB_nil', strB_nnil, strB_nnil'] at h4
      refine run_skip ?_
      refine run_seq ?_
      refine run_block ?_
      refine run_seq ?_
      refine run_seq ?_
      refine run_region (q_move .n (.t rfl) rfl <| q_move .n (.t rfl) rfl <| q_idx_rm .n (.t rfl) (.t rfl) sl_25 (fun _ => by omega) rfl <| q_ld1_ro .n (.t rfl) rfl ic_2 rfl <| q_move .n (.t rfl) rfl <| q_int .n (.t rfl) (.t rfl) rfl rfl <| Lex.nil) ?_
      refine run_cond (.t rfl) rfl (fun h5 => ?_) (fun h5 => ?_)
      · try simp only [Bool.and_eq_true, Bool.or_eq_true, Bool.not_eq_true', Bool.and_eq_false_iff, Bool.or_eq_false_iff, Bool.not_eq_false', decide_eq_true_eq, decide_eq_false_iff_not, beq_iff_eq, bne_iff_ne, beq_eq_false_iff_ne, bne_eq_false_iff_eq, Bool.true_and, ne_eq, Decidable.not_not, Int.not_lt, Int.not_le, Nat.not_lt, Nat.not_le, strB_nil, strB_nil', strB_nnil, strB_nnil'] at h5
        refine run_seq ?_
        refine run_region (q_assign .n (.c rfl) rfl <| Lex.nil) ?_
        exact run_ret [] (.cons (.t rfl rfl) .nil) rfl trivial rfl
      · try simp only [Bool.and_eq_true, Bool.or_eq_true, Bool.not_eq_true', Bool.and_eq_false_iff, Bool.or_eq_false_iff, Bool.not_eq_false', decide_eq_true_eq, decide_eq_false_iff_not, beq_iff_eq, bne_iff_ne, beq_eq_false_iff_ne, bne_eq_false_iff_eq, Bool.true_and, ne_eq, Decidable.not_not, Int.not_lt, Int.not_le, Nat.not_lt, Nat.not_le, strB_nil, strB_nil', strB_nnil, strB_nnil'] at h5
        refine run_skip ?_
        refine run_region (q_move .n (.t rfl) rfl <| q_int .n (.t rfl) (.c rfl) rfl rfl <| q_assign .n (.t rfl) rfl <| Lex.nil) ?_
        refine run_endB ?_
        refine run_region (q_move .n (.t rfl) rfl <| q_add .n (.t rfl) (.c rfl) (fun _ => by omega) rfl <| q_assign .n (.t rfl) rfl <| Lex.nil) ?_
        exact run_again (IntKind.wrap .i64 (x1.1 + 1), x1.2 + 1) ⟨by omega, by omega⟩ (by omega) (sub_of [] ⟨rfl, rfl, rfl, trivial⟩ trivial rfl)
    · try simp only [Bool.and_eq_true, Bool.or_eq_true, Bool.not_eq_true', Bool.and_eq_false_iff, Bool.or_eq_false_iff, Bool.not_eq_false', decide_eq_true_eq, decide_eq_false_iff_not, beq_iff_eq, bne_iff_ne, beq_eq_false_iff_ne, bne_eq_false_iff_eq, Bool.true_and, ne_eq, Decidable.not_not, Int.not_lt, Int.not_le, Nat.not_lt, Nat.not_le, strB_nil, strB_nil', strB_nnil, strB_nnil'] at h4
      refine run_exit rfl ?_
      exact run_cont hk2 (x1.1, x1.2) ⟨by omega, by omega, by omega⟩ (sub_of [] ⟨rfl, trivial⟩ trivial rfl)

/-! ### laws_FnExactAssignCrews -/
set_option maxRecDepth 100000 in
set_option maxHeartbeats 4000000 in
theorem c_laws_FnExactAssignCrews (aM : gMine) (aArrivals : List Int) (aBlocked : Int) (aCrews : List gCrew) (aSizes : List Int) (aStart : Int) (aList : List gRefuge) (aBudget : Int) (hp1 : gMine.ok aM) (hp2 : aArrivals.length ≤ 9223372036854775807 ∧ ∀ y ∈ aArrivals, -9223372036854775808 ≤ y ∧ y ≤ 9223372036854775807) (hp3 : -9223372036854775808 ≤ aBlocked ∧ aBlocked ≤ 9223372036854775807) (hp4 : aCrews.length ≤ 9223372036854775807 ∧ ∀ y ∈ aCrews, gCrew.ok y) (hp5 : aSizes.length ≤ 9223372036854775807 ∧ ∀ y ∈ aSizes, -9223372036854775808 ≤ y ∧ y ≤ 9223372036854775807) (hp6 : -9223372036854775808 ≤ aStart ∧ aStart ≤ 9223372036854775807) (hp7 : aList.length ≤ 9223372036854775807 ∧ ∀ y ∈ aList, gRefuge.ok y) (hp8 : -9223372036854775808 ≤ aBudget ∧ aBudget ≤ 9223372036854775807) : Con Try.prog 3 [.st [.int .i64 aM.Junctions, .sl 7 (aM.Airways.map gAirway.v)], .sl 1 (aArrivals.map (V.int .i64)), .int .i64 aBlocked, .sl 3 (aCrews.map gCrew.v), .sl 1 (aSizes.map (V.int .i64)), .int .i64 aStart, .sl 4 (aList.map gRefuge.v), .int .i64 aBudget] [] (.bool (m_laws_FnExactAssignCrews aM aArrivals aBlocked aCrews aSizes aStart aList aBudget)) ([]) := by
  refine con_intro (out := fun r : Bool => ((.bool r : V), ([] : List (Nat × Option O)))) (r := (m_laws_FnExactAssignCrews aM aArrivals aBlocked aCrews aSizes aStart aList aBudget)) Try.func3 rfl Try.ntmps3 rfl ?_
  refine run_factS (t := 0) 1 rfl rfl fun hl => ?_
  have l1 := hl; clear hl; simp only [List.length_map] at l1
  refine run_fact (t := 1) rfl fun hl => ?_
  have l2 := hl; clear hl; simp only [List.length_map] at l2
  refine run_fact (t := 3) rfl fun hl => ?_
  have l3 := hl; clear hl; simp only [List.length_map] at l3
  refine run_fact (t := 4) rfl fun hl => ?_
  have l4 := hl; clear hl; simp only [List.length_map] at l4
  refine run_fact (t := 6) rfl fun hl => ?_
  have l5 := hl; clear hl; simp only [List.length_map] at l5
  refine run_seq ?_
  refine run_region (q_box (l := 200) .n rfl (.t rfl) rfl rfl rfl rfl <| q_assign .n (.c rfl) rfl <| Lex.nil) ?_
  refine run_seq ?_
  refine run_seq ?_
  refine run_region (q_move .n (.t rfl) rfl <| q_len .n (.t rfl) rfl len_map ss_25 rfl <| q_int .n (.t rfl) (.c rfl) rfl rfl <| Lex.nil) ?_
  refine run_cond (.t rfl) rfl (fun h6 => ?_) (fun h6 => ?_)
  · try simp only [Bool.and_eq_true, Bool.or_eq_true, Bool.not_eq_true', Bool.and_eq_false_iff, Bool.or_eq_false_iff, Bool.not_eq_false', decide_eq_true_eq, decide_eq_false_iff_not, beq_iff_eq, bne_iff_ne, beq_eq_false_iff_ne, bne_eq_false_iff_eq, Bool.true_and, ne_eq, Decidable.not_not, Int.not_lt, Int.not_le, Nat.not_lt, Nat.not_le, strB_nil, strB_nil', strB_nnil, strB_nnil'] at h6
    refine run_seq ?_
    refine run_region (q_assign .n (.c rfl) rfl <| Lex.nil) ?_
    exact run_ret [] (.cons (.t rfl rfl) .nil) rfl trivial rfl
  · try simp only [Bool.and_eq_true, Bool.or_eq_true, Bool.not_eq_true', Bool.and_eq_false_iff, Bool.or_eq_false_iff, Bool.not_eq_false', decide_eq_true_eq, decide_eq_false_iff_not, beq_iff_eq, bne_iff_ne, beq_eq_false_iff_ne, bne_eq_false_iff_eq, Bool.true_and, ne_eq, Decidable.not_not, Int.not_lt, Int.not_le, Nat.not_lt, Nat.not_le, strB_nil, strB_nil', strB_nnil, strB_nnil'] at h6
    refine run_skip ?_
    refine run_seq ?_
    refine run_seq ?_
    refine run_region (q_move .n (.t rfl) rfl <| q_len .n (.t rfl) rfl len_map ss_25 rfl <| q_int .n (.t rfl) (.c rfl) rfl rfl <| Lex.nil) ?_
    refine run_cond (.t rfl) rfl (fun h7 => ?_) (fun h7 => ?_)
    · try simp only [Bool.and_eq_true, Bool.or_eq_true, Bool.not_eq_true', Bool.and_eq_false_iff, Bool.or_eq_false_iff, Bool.not_eq_false', decide_eq_true_eq, decide_eq_false_iff_not, beq_iff_eq, bne_iff_ne, beq_eq_false_iff_ne, bne_eq_false_iff_eq, Bool.true_and, ne_eq, Decidable.not_not, Int.not_lt, Int.not_le, Nat.not_lt, Nat.not_le, strB_nil, strB_nil', strB_nnil, strB_nnil'] at h7
      refine run_seq ?_
      refine run_region (q_assign .n (.c rfl) rfl <| Lex.nil) ?_
      exact run_ret [] (.cons (.t rfl rfl) .nil) rfl trivial rfl
    · try simp only [Bool.and_eq_true, Bool.or_eq_true, Bool.not_eq_true', Bool.and_eq_false_iff, Bool.or_eq_false_iff, Bool.not_eq_false', decide_eq_true_eq, decide_eq_false_iff_not, beq_iff_eq, bne_iff_ne, beq_eq_false_iff_ne, bne_eq_false_iff_eq, Bool.true_and, ne_eq, Decidable.not_not, Int.not_lt, Int.not_le, Nat.not_lt, Nat.not_le, strB_nil, strB_nil', strB_nnil, strB_nnil'] at h7
      refine run_skip ?_
      refine run_seq ?_
      refine run_region (q_assign .n (.c rfl) rfl <| Lex.nil) ?_
      refine run_seq ?_
      refine run_region (q_ldN_ow .n (.t rfl) rfl (.inr rfl) ag_24 (fun _ => rfl) rfl rfl <| q_move .n (.t rfl) rfl <| q_call0 (full := false) .n .f en_4 (.cons (.t rfl) (.cons (.t rfl) .nil)) (.cons (.sts rfl) (.cons (.b (.a (.same rfl))) .nil)) (fun hg => c_laws_szMine aM 1048576) rfl (fun h => Bool.noConfusion h) rfl <| q_assign .n (.t rfl) rfl <| Lex.nil) ?_
      refine run_seq ?_
      refine run_seq ?_
      refine run_region (q_move .n (.t rfl) rfl <| q_int .n (.t rfl) (.c rfl) rfl rfl <| Lex.nil) ?_
      refine run_cond (.t rfl) rfl (fun h8 => ?_) (fun h8 => ?_)
      · try simp only [Bool.and_eq_true, Bool.or_eq_true, Bool.not_eq_true', Bool.and_eq_false_iff, Bool.or_eq_false_iff, Bool.not_eq_false', decide_eq_true_eq, decide_eq_false_iff_not, beq_iff_eq, bne_iff_ne, beq_eq_false_iff_ne, bne_eq_false_iff_eq, Bool.true_and, ne_eq, Decidable.not_not, Int.not_lt, Int.not_le, Nat.not_lt, Nat.not_le, strB_nil, strB_nil', strB_nnil, strB_nnil'] at h8
        try have hf0h8 := szMine_impA (by assumption) (by omega) (by omega) h8
        try have hf1h8 := szMine_impA (by assumption) (by omega) (by omega) h8.1
        try have hf2h8 := szMine_impA (by assumption) (by omega) (by omega) h8.2
        try have hf3h8 := szMine_impA (by assumption) (by omega) (by omega) h8.1.1
        try have hf4h8 := szMine_impA (by assumption) (by omega) (by omega) h8.1.2
        try have hf5h8 := szMine_impA (by assumption) (by omega) (by omega) h8.2.1
        try have hf6h8 := szMine_impA (by assumption) (by omega) (by omega) h8.2.2
        try have hf7h8 := szMine_impB (by assumption) (by omega) (by omega) h8
        try have hf8h8 := szMine_impB (by assumption) (by omega) (by omega) h8.1
        try have hf9h8 := szMine_impB (by assumption) (by omega) (by omega) h8.2
        try have hf10h8 := szMine_impB (by assumption) (by omega) (by omega) h8.1.1
        try have hf11h8 := szMine_impB (by assumption) (by omega) (by omega) h8.1.2
        try have hf12h8 := szMine_impB (by assumption) (by omega) (by omega) h8.2.1
        try have hf13h8 := szMine_impB (by assumption) (by omega) (by omega) h8.2.2
        refine run_seq ?_
        refine run_region (q_assign .n (.c rfl) rfl <| Lex.nil) ?_
        exact run_ret [] (.cons (.t rfl rfl) .nil) rfl trivial rfl
      · try simp only [Bool.and_eq_true, Bool.or_eq_true, Bool.not_eq_true', Bool.and_eq_false_iff, Bool.or_eq_false_iff, Bool.not_eq_false', decide_eq_true_eq, decide_eq_false_iff_not, beq_iff_eq, bne_iff_ne, beq_eq_false_iff_ne, bne_eq_false_iff_eq, Bool.true_and, ne_eq, Decidable.not_not, Int.not_lt, Int.not_le, Nat.not_lt, Nat.not_le, strB_nil, strB_nil', strB_nnil, strB_nnil'] at h8
        try have hf0h8 := szMine_impA (by assumption) (by omega) (by omega) h8
        try have hf1h8 := szMine_impA (by assumption) (by omega) (by omega) h8.1
        try have hf2h8 := szMine_impA (by assumption) (by omega) (by omega) h8.2
        try have hf3h8 := szMine_impA (by assumption) (by omega) (by omega) h8.1.1
        try have hf4h8 := szMine_impA (by assumption) (by omega) (by omega) h8.1.2
        try have hf5h8 := szMine_impA (by assumption) (by omega) (by omega) h8.2.1
        try have hf6h8 := szMine_impA (by assumption) (by omega) (by omega) h8.2.2
        try have hf7h8 := szMine_impB (by assumption) (by omega) (by omega) h8
        try have hf8h8 := szMine_impB (by assumption) (by omega) (by omega) h8.1
        try have hf9h8 := szMine_impB (by assumption) (by omega) (by omega) h8.2
        try have hf10h8 := szMine_impB (by assumption) (by omega) (by omega) h8.1.1
        try have hf11h8 := szMine_impB (by assumption) (by omega) (by omega) h8.1.2
        try have hf12h8 := szMine_impB (by assumption) (by omega) (by omega) h8.2.1
        try have hf13h8 := szMine_impB (by assumption) (by omega) (by omega) h8.2.2
        refine run_skip ?_
        refine run_seq ?_
        refine run_region (q_move .n (.t rfl) rfl <| q_move .n (.t rfl) rfl <| q_call0 (full := false) .n .f en_5 (.cons (.t rfl) (.cons (.t rfl) .nil)) (.cons (.b (.a (.same rfl))) (.cons (.b (.a (.same rfl))) .nil)) (fun hg => c_laws_szCrewS aCrews (m_laws_szMine aM 1048576)) rfl (fun h => Bool.noConfusion h) rfl <| q_assign .n (.t rfl) rfl <| Lex.nil) ?_
        refine run_seq ?_
        refine run_seq ?_
        refine run_region (q_move .n (.t rfl) rfl <| q_int .n (.t rfl) (.c rfl) rfl rfl <| Lex.nil) ?_
        refine run_cond (.t rfl) rfl (fun h9 => ?_) (fun h9 => ?_)
        · try simp only [Bool.and_eq_true, Bool.or_eq_true, Bool.not_eq_true', Bool.and_eq_false_iff, Bool.or_eq_false_iff, Bool.not_eq_false', decide_eq_true_eq, decide_eq_false_iff_not, beq_iff_eq, bne_iff_ne, beq_eq_false_iff_ne, bne_eq_false_iff_eq, Bool.true_and, ne_eq, Decidable.not_not, Int.not_lt, Int.not_le, Nat.not_lt, Nat.not_le, strB_nil, strB_nil', strB_nnil, strB_nnil'] at h9
          try have hf0h9 := szCrewS_impA (by assumption) (by omega) (by omega) h9
          try have hf1h9 := szCrewS_impA (by assumption) (by omega) (by omega) h9.1
          try have hf2h9 := szCrewS_impA (by assumption) (by omega) (by omega) h9.2
          try have hf3h9 := szCrewS_impA (by assumption) (by omega) (by omega) h9.1.1
          try have hf4h9 := szCrewS_impA (by assumption) (by omega) (by omega) h9.1.2
          try have hf5h9 := szCrewS_impA (by assumption) (by omega) (by omega) h9.2.1
          try have hf6h9 := szCrewS_impA (by assumption) (by omega) (by omega) h9.2.2
          try have hf7h9 := szCrewS_impB (by assumption) (by omega) (by omega) h9
          try have hf8h9 := szCrewS_impB (by assumption) (by omega) (by omega) h9.1
          try have hf9h9 := szCrewS_impB (by assumption) (by omega) (by omega) h9.2
          try have hf10h9 := szCrewS_impB (by assumption) (by omega) (by omega) h9.1.1
          try have hf11h9 := szCrewS_impB (by assumption) (by omega) (by omega) h9.1.2
          try have hf12h9 := szCrewS_impB (by assumption) (by omega) (by omega) h9.2.1
          try have hf13h9 := szCrewS_impB (by assumption) (by omega) (by omega) h9.2.2
          refine run_seq ?_
          refine run_region (q_assign .n (.c rfl) rfl <| Lex.nil) ?_
          exact run_ret [] (.cons (.t rfl rfl) .nil) rfl trivial rfl
        · try simp only [Bool.and_eq_true, Bool.or_eq_true, Bool.not_eq_true', Bool.and_eq_false_iff, Bool.or_eq_false_iff, Bool.not_eq_false', decide_eq_true_eq, decide_eq_false_iff_not, beq_iff_eq, bne_iff_ne, beq_eq_false_iff_ne, bne_eq_false_iff_eq, Bool.true_and, ne_eq, Decidable.not_not, Int.not_lt, Int.not_le, Nat.not_lt, Nat.not_le, strB_nil, strB_nil', strB_nnil, strB_nnil'] at h9
          try have hf0h9 := szCrewS_impA (by assumption) (by omega) (by omega) h9
          try have hf1h9 := szCrewS_impA (by assumption) (by omega) (by omega) h9.1
          try have hf2h9 := szCrewS_impA (by assumption) (by omega) (by omega) h9.2
          try have hf3h9 := szCrewS_impA (by assumption) (by omega) (by omega) h9.1.1
          try have hf4h9 := szCrewS_impA (by assumption) (by omega) (by omega) h9.1.2
          try have hf5h9 := szCrewS_impA (by assumption) (by omega) (by omega) h9.2.1
          try have hf6h9 := szCrewS_impA (by assumption) (by omega) (by omega) h9.2.2
          try have hf7h9 := szCrewS_impB (by assumption) (by omega) (by omega) h9
          try have hf8h9 := szCrewS_impB (by assumption) (by omega) (by omega) h9.1
          try have hf9h9 := szCrewS_impB (by assumption) (by omega) (by omega) h9.2
          try have hf10h9 := szCrewS_impB (by assumption) (by omega) (by omega) h9.1.1
          try have hf11h9 := szCrewS_impB (by assumption) (by omega) (by omega) h9.1.2
          try have hf12h9 := szCrewS_impB (by assumption) (by omega) (by omega) h9.2.1
          try have hf13h9 := szCrewS_impB (by assumption) (by omega) (by omega) h9.2.2
          refine run_skip ?_
          refine run_seq ?_
          refine run_region (q_move .n (.t rfl) rfl <| q_move .n (.t rfl) rfl <| q_call0 (full := false) .n .f en_6 (.cons (.t rfl) (.cons (.t rfl) .nil)) (.cons (.b (.a (.same rfl))) (.cons (.b (.a (.same rfl))) .nil)) (fun hg => c_laws_szRefugeS aList (m_laws_szCrewS aCrews (m_laws_szMine aM 1048576))) rfl (fun h => Bool.noConfusion h) rfl <| q_assign .n (.t rfl) rfl <| Lex.nil) ?_
          refine run_seq ?_
          refine run_seq ?_
          refine run_region (q_move .n (.t rfl) rfl <| q_int .n (.t rfl) (.c rfl) rfl rfl <| Lex.nil) ?_
          refine run_cond (.t rfl) rfl (fun h10 => ?_) (fun h10 => ?_)
          · try simp only [Bool.and_eq_true, Bool.or_eq_true, Bool.not_eq_true', Bool.and_eq_false_iff, Bool.or_eq_false_iff, Bool.not_eq_false', decide_eq_true_eq, decide_eq_false_iff_not, beq_iff_eq, bne_iff_ne, beq_eq_false_iff_ne, bne_eq_false_iff_eq, Bool.true_and, ne_eq, Decidable.not_not, Int.not_lt, Int.not_le, Nat.not_lt, Nat.not_le, strB_nil, strB_nil', strB_nnil, strB_nnil'] at h10
            try have hf0h10 := szRefugeS_impA (by assumption) (by omega) (by omega) h10
            try have hf1h10 := szRefugeS_impA (by assumption) (by omega) (by omega) h10.1
            try have hf2h10 := szRefugeS_impA (by assumption) (by omega) (by omega) h10.2
            try have hf3h10 := szRefugeS_impA (by assumption) (by omega) (by omega) h10.1.1
            try have hf4h10 := szRefugeS_impA (by assumption) (by omega) (by omega) h10.1.2
            try have hf5h10 := szRefugeS_impA (by assumption) (by omega) (by omega) h10.2.1
            try have hf6h10 := szRefugeS_impA (by assumption) (by omega) (by omega) h10.2.2
            try have hf7h10 := szRefugeS_impB (by assumption) (by omega) (by omega) h10
            try have hf8h10 := szRefugeS_impB (by assumption) (by omega) (by omega) h10.1
            try have hf9h10 := szRefugeS_impB (by assumption) (by omega) (by omega) h10.2
            try have hf10h10 := szRefugeS_impB (by assumption) (by omega) (by omega) h10.1.1
            try have hf11h10 := szRefugeS_impB (by assumption) (by omega) (by omega) h10.1.2
            try have hf12h10 := szRefugeS_impB (by assumption) (by omega) (by omega) h10.2.1
            try have hf13h10 := szRefugeS_impB (by assumption) (by omega) (by omega) h10.2.2
            refine run_seq ?_
            refine run_region (q_assign .n (.c rfl) rfl <| Lex.nil) ?_
            exact run_ret [] (.cons (.t rfl rfl) .nil) rfl trivial rfl
          · try simp only [Bool.and_eq_true, Bool.or_eq_true, Bool.not_eq_true', Bool.and_eq_false_iff, Bool.or_eq_false_iff, Bool.not_eq_false', decide_eq_true_eq, decide_eq_false_iff_not, beq_iff_eq, bne_iff_ne, beq_eq_false_iff_ne, bne_eq_false_iff_eq, Bool.true_and, ne_eq, Decidable.not_not, Int.not_lt, Int.not_le, Nat.not_lt, Nat.not_le, strB_nil, strB_nil', strB_nnil, strB_nnil'] at h10
            try have hf0h10 := szRefugeS_impA (by assumption) (by omega) (by omega) h10
            try have hf1h10 := szRefugeS_impA (by assumption) (by omega) (by omega) h10.1
            try have hf2h10 := szRefugeS_impA (by assumption) (by omega) (by omega) h10.2
            try have hf3h10 := szRefugeS_impA (by assumption) (by omega) (by omega) h10.1.1
            try have hf4h10 := szRefugeS_impA (by assumption) (by omega) (by omega) h10.1.2
            try have hf5h10 := szRefugeS_impA (by assumption) (by omega) (by omega) h10.2.1
            try have hf6h10 := szRefugeS_impA (by assumption) (by omega) (by omega) h10.2.2
            try have hf7h10 := szRefugeS_impB (by assumption) (by omega) (by omega) h10
            try have hf8h10 := szRefugeS_impB (by assumption) (by omega) (by omega) h10.1
            try have hf9h10 := szRefugeS_impB (by assumption) (by omega) (by omega) h10.2
            try have hf10h10 := szRefugeS_impB (by assumption) (by omega) (by omega) h10.1.1
            try have hf11h10 := szRefugeS_impB (by assumption) (by omega) (by omega) h10.1.2
            try have hf12h10 := szRefugeS_impB (by assumption) (by omega) (by omega) h10.2.1
            try have hf13h10 := szRefugeS_impB (by assumption) (by omega) (by omega) h10.2.2
            refine run_skip ?_
            refine run_seq ?_
            refine run_region (q_ldN_ow .n (.t rfl) rfl (.inr rfl) ag_24 (fun _ => rfl) rfl rfl <| q_callM (full := false) [] [(100, 201)] .n rfl .f en_8 (.cons (.t rfl) .nil) (.cons (.sts rfl) .nil) (c_laws_toMine aM (by omega)) trivial rfl rfl (fun h => Bool.noConfusion h) (fun h => Bool.noConfusion h) rfl <| q_move .n (.t rfl) rfl <| q_callM (full := false) [] [(100, 202)] .n rfl .f en_9 (.cons (.t rfl) .nil) (.cons (.b (.a (.same rfl))) .nil) (c_laws_toInt64S aArrivals (by omega)) trivial rfl rfl (fun h => Bool.noConfusion h) (fun h => Bool.noConfusion h) rfl <| q_move .n (.t rfl) rfl <| q_move .n (.t rfl) rfl <| q_callM (full := false) [] [(100, 203)] .n rfl .f en_10 (.cons (.t rfl) .nil) (.cons (.b (.a (.same rfl))) .nil) (c_laws_toCrewS aCrews (by omega)) trivial rfl rfl (fun h => Bool.noConfusion h) (fun h => Bool.noConfusion h) rfl <| q_move .n (.t rfl) rfl <| q_callM (full := false) [] [(100, 204)] .n rfl .f en_9 (.cons (.t rfl) .nil) (.cons (.b (.a (.same rfl))) .nil) (c_laws_toInt64S aSizes (by omega)) trivial rfl rfl (fun h => Bool.noConfusion h) (fun h => Bool.noConfusion h) rfl <| q_move .n (.t rfl) rfl <| q_move .n (.t rfl) rfl <| q_callM (full := false) [] [(100, 205)] .n rfl .f en_11 (.cons (.t rfl) .nil) (.cons (.b (.a (.same rfl))) .nil) (c_laws_toRefugeS aList (by omega)) trivial rfl rfl (fun h => Bool.noConfusion h) (fun h => Bool.noConfusion h) rfl <| q_move .n (.t rfl) rfl <| q_callM (full := true) [] [(100, 206)] .n rfl .f en_7 (.cons (.t rfl) (.cons (.t rfl) (.cons (.t rfl) (.cons (.t rfl) (.cons (.t rfl) (.cons (.t rfl) (.cons (.t rfl) (.cons (.t rfl) .nil)))))))) (.cons (.st (.cons (.a (.same rfl)) (.cons (.a (.own rfl rfl rfl (take_all (by simp only [len_map, put_len, markAirwayS_len, markMine_len, markInt64S_len, markCrewS_len, markRefugeS_len] <;> rfl)) (by simp only [len_map, put_len, markAirwayS_len, markMine_len, markInt64S_len, markCrewS_len, markRefugeS_len] <;> rfl))) .nil))) (.cons (.b (.a (.own rfl rfl rfl (take_all (by simp only [len_map, put_len, markAirwayS_len, markMine_len, markInt64S_len, markCrewS_len, markRefugeS_len] <;> rfl)) (by simp only [len_map, put_len, markAirwayS_len, markMine_len, markInt64S_len, markCrewS_len, markRefugeS_len] <;> rfl)))) (.cons (.b (.a (.same rfl))) (.cons (.b (.a (.own rfl rfl rfl (take_all (by simp only [len_map, put_len, markAirwayS_len, markMine_len, markInt64S_len, markCrewS_len, markRefugeS_len] <;> rfl)) (by simp only [len_map, put_len, markAirwayS_len, markMine_len, markInt64S_len, markCrewS_len, markRefugeS_len] <;> rfl)))) (.cons (.b (.a (.own rfl rfl rfl (take_all (by simp only [len_map, put_len, markAirwayS_len, markMine_len, markInt64S_len, markCrewS_len, markRefugeS_len] <;> rfl)) (by simp only [len_map, put_len, markAirwayS_len, markMine_len, markInt64S_len, markCrewS_len, markRefugeS_len] <;> rfl)))) (.cons (.b (.a (.same rfl))) (.cons (.b (.a (.own rfl rfl rfl (take_all (by simp only [len_map, put_len, markAirwayS_len, markMine_len, markInt64S_len, markCrewS_len, markRefugeS_len] <;> rfl)) (by simp only [len_map, put_len, markAirwayS_len, markMine_len, markInt64S_len, markCrewS_len, markRefugeS_len] <;> rfl)))) (.cons (.b (.a (.same rfl))) .nil)))))))) (c_spec_AssignCrews (m_laws_toMine aM) (m_laws_toInt64S aArrivals) aBlocked (m_laws_toCrewS aCrews) (m_laws_toInt64S aSizes) aStart (m_laws_toRefugeS aList) aBudget) trivial rfl rfl (fun _ => rfl) (fun _ => (hr_row (fun _ => rfl) hr_nil)) rfl <| q_move .n (.t rfl) rfl <| q_ext .n (.t rfl) rfl rfl rfl <| q_ext .n (.t rfl) rfl rfl rfl <| q_ext .n (.t rfl) rfl rfl rfl <| q_assign .n (.t rfl) rfl <| q_assign .n (.t rfl) rfl <| q_assign .n (.t rfl) rfl <| Lex.nil) ?_
            refine run_seq ?_
            refine run_region (q_ldN_ow .n (.t rfl) rfl (.inr rfl) ag_24 (fun _ => rfl) rfl rfl <| q_callM (full := false) [] [(100, 207)] .n rfl .f en_8 (.cons (.t rfl) .nil) (.cons (.sts rfl) .nil) (c_laws_toMine aM (by omega)) trivial rfl rfl (fun h => Bool.noConfusion h) (fun h => Bool.noConfusion h) rfl <| q_alloc (l := 208) .n rfl zv_35 rfl rfl <| q_st_boxm [.int .i64 (m_laws_toMine aM).Junctions, .os 207 (m_laws_toMine aM).Airways.length] .n rfl (.t rfl) (.t rfl) rfl ts_35 rfl rfl <| Lex.nil) ?_
            refine run_seq ?_
            refine run_region (q_move .n (.t rfl) rfl <| q_callM (full := false) [] [(100, 209)] .n rfl .f en_9 (.cons (.t rfl) .nil) (.cons (.b (.a (.same rfl))) .nil) (c_laws_toInt64S aArrivals (by omega)) trivial rfl rfl (fun h => Bool.noConfusion h) (fun h => Bool.noConfusion h) rfl <| q_assign .n (.t rfl) rfl <| Lex.nil) ?_
            refine run_seq ?_
            refine run_region (q_move .n (.t rfl) rfl <| q_callM (full := false) [] [(100, 210)] .n rfl .f en_10 (.cons (.t rfl) .nil) (.cons (.b (.a (.same rfl))) .nil) (c_laws_toCrewS aCrews (by omega)) trivial rfl rfl (fun h => Bool.noConfusion h) (fun h => Bool.noConfusion h) rfl <| q_assign .n (.t rfl) rfl <| Lex.nil) ?_
            refine run_seq ?_
            refine run_region (q_move .n (.t rfl) rfl <| q_callM (full := false) [] [(100, 211)] .n rfl .f en_9 (.cons (.t rfl) .nil) (.cons (.b (.a (.same rfl))) .nil) (c_laws_toInt64S aSizes (by omega)) trivial rfl rfl (fun h => Bool.noConfusion h) (fun h => Bool.noConfusion h) rfl <| q_assign .n (.t rfl) rfl <| Lex.nil) ?_
            refine run_seq ?_
            refine run_region (q_move .n (.t rfl) rfl <| q_callM (full := false) [] [(100, 212)] .n rfl .f en_11 (.cons (.t rfl) .nil) (.cons (.b (.a (.same rfl))) .nil) (c_laws_toRefugeS aList (by omega)) trivial rfl rfl (fun h => Bool.noConfusion h) (fun h => Bool.noConfusion h) rfl <| q_assign .n (.t rfl) rfl <| Lex.nil) ?_
            refine run_seq ?_
            refine run_region (q_ldN_ow .n (.t rfl) rfl (.inr rfl) ag_35 (fun _ => rfl) rfl rfl <| q_move .n (.t rfl) rfl <| q_move .n (.t rfl) rfl <| q_move .n (.t rfl) rfl <| q_move .n (.t rfl) rfl <| q_move .n (.t rfl) rfl <| q_move .n (.t rfl) rfl <| q_move .n (.t rfl) rfl <| q_callM (full := true) [] [(100, 213)] .n rfl .f en_12 (.cons (.t rfl) (.cons (.t rfl) (.cons (.t rfl) (.cons (.t rfl) (.cons (.t rfl) (.cons (.t rfl) (.cons (.t rfl) (.cons (.t rfl) .nil)))))))) (.cons (.st (.cons (.a (.same rfl)) (.cons (.a (.own rfl rfl rfl (take_all (by simp only [len_map, put_len, markAirwayS_len, markMine_len, markInt64S_len, markCrewS_len, markRefugeS_len] <;> rfl)) (by simp only [len_map, put_len, markAirwayS_len, markMine_len, markInt64S_len, markCrewS_len, markRefugeS_len] <;> rfl))) .nil))) (.cons (.b (.a (.own rfl rfl rfl (take_all (by simp only [len_map, put_len, markAirwayS_len, markMine_len, markInt64S_len, markCrewS_len, markRefugeS_len] <;> rfl)) (by simp only [len_map, put_len, markAirwayS_len, markMine_len, markInt64S_len, markCrewS_len, markRefugeS_len] <;> rfl)))) (.cons (.b (.a (.same rfl))) (.cons (.b (.a (.own rfl rfl rfl (take_all (by simp only [len_map, put_len, markAirwayS_len, markMine_len, markInt64S_len, markCrewS_len, markRefugeS_len] <;> rfl)) (by simp only [len_map, put_len, markAirwayS_len, markMine_len, markInt64S_len, markCrewS_len, markRefugeS_len] <;> rfl)))) (.cons (.b (.a (.own rfl rfl rfl (take_all (by simp only [len_map, put_len, markAirwayS_len, markMine_len, markInt64S_len, markCrewS_len, markRefugeS_len] <;> rfl)) (by simp only [len_map, put_len, markAirwayS_len, markMine_len, markInt64S_len, markCrewS_len, markRefugeS_len] <;> rfl)))) (.cons (.b (.a (.same rfl))) (.cons (.b (.a (.own rfl rfl rfl (take_all (by simp only [len_map, put_len, markAirwayS_len, markMine_len, markInt64S_len, markCrewS_len, markRefugeS_len] <;> rfl)) (by simp only [len_map, put_len, markAirwayS_len, markMine_len, markInt64S_len, markCrewS_len, markRefugeS_len] <;> rfl)))) (.cons (.b (.a (.same rfl))) .nil)))))))) (c_impl_AssignCrews (m_laws_toMine aM) (m_laws_toInt64S aArrivals) aBlocked (m_laws_toCrewS aCrews) (m_laws_toInt64S aSizes) aStart (m_laws_toRefugeS aList) aBudget) trivial rfl rfl (fun _ => rfl) (fun _ => (hr_row (fun _ => rfl) hr_nil)) rfl <| q_move .n (.t rfl) rfl <| q_ext .n (.t rfl) rfl rfl rfl <| q_ext .n (.t rfl) rfl rfl rfl <| q_ext .n (.t rfl) rfl rfl rfl <| q_assign .n (.t rfl) rfl <| q_assign .n (.t rfl) rfl <| q_assign .n (.t rfl) rfl <| Lex.nil) ?_
            refine run_seq ?_
            refine run_seq ?_
            refine run_region (q_move .n (.t rfl) rfl <| q_move .n (.t rfl) rfl <| q_call0 (full := true) .n .f en_13 (.cons (.t rfl) (.cons (.t rfl) .nil)) (.cons (.b (.a (.own rfl rfl rfl (take_all (by simp only [len_map, put_len, markAirwayS_len, markMine_len, markInt64S_len, markCrewS_len, markRefugeS_len] <;> rfl)) (by simp only [len_map, put_len, markAirwayS_len, markMine_len, markInt64S_len, markCrewS_len, markRefugeS_len] <;> rfl)))) (.cons (.b (.a (.own rfl rfl rfl (take_all (by simp only [len_map, put_len, markAirwayS_len, markMine_len, markInt64S_len, markCrewS_len, markRefugeS_len] <;> rfl)) (by simp only [len_map, put_len, markAirwayS_len, markMine_len, markInt64S_len, markCrewS_len, markRefugeS_len] <;> rfl)))) .nil)) (fun hg => c_laws_eqInt64S (m_impl_AssignCrews (m_laws_toMine aM) (m_laws_toInt64S aArrivals) aBlocked (m_laws_toCrewS aCrews) (m_laws_toInt64S aSizes) aStart (m_laws_toRefugeS aList) aBudget).1 (m_spec_AssignCrews (m_laws_toMine aM) (m_laws_toInt64S aArrivals) aBlocked (m_laws_toCrewS aCrews) (m_laws_toInt64S aSizes) aStart (m_laws_toRefugeS aList) aBudget).1) rfl (fun _ => rfl) rfl <| q_not .n (.t rfl) rfl <| q_move .n (.t rfl) rfl <| q_move (.f rfl rfl) (.t rfl) rfl <| q_move (.f rfl rfl) (.t rfl) rfl <| q_int (.f rfl rfl) (.u rfl id) (.u rfl id) rfl rfl <| q_or .n (.t rfl) (.u rfl id) rfl <| q_move .n (.t rfl) rfl <| q_move (.f rfl rfl) (.t rfl) rfl <| q_move (.f rfl rfl) (.t rfl) rfl <| q_int (.f rfl rfl) (.u rfl id) (.u rfl id) rfl rfl <| q_or .n (.t rfl) (.u rfl id) rfl <| Lex.nil) ?_
            refine run_cond (.t rfl) rfl (fun h11 => ?_) (fun h11 => ?_)
            · try simp only [Bool.and_eq_true, Bool.or_eq_true, Bool.not_eq_true', Bool.and_eq_false_iff, Bool.or_eq_false_iff, Bool.not_eq_false', decide_eq_true_eq, decide_eq_false_iff_not, beq_iff_eq, bne_iff_ne, beq_eq_false_iff_ne, bne_eq_false_iff_eq, Bool.true_and, ne_eq, Decidable.not_not, Int.not_lt, Int.not_le, Nat.not_lt, Nat.not_le, strB_nil, strB_nil', strB_nnil, strB_nnil'] at h11
              refine run_seq ?_
              refine run_region (q_assign .n (.c rfl) rfl <| Lex.nil) ?_
              exact run_ret [] (.cons (.t rfl rfl) .nil) rfl trivial rfl
            · try simp only [Bool.and_eq_true, Bool.or_eq_true, Bool.not_eq_true', Bool.and_eq_false_iff, Bool.or_eq_false_iff, Bool.not_eq_false', decide_eq_true_eq, decide_eq_false_iff_not, beq_iff_eq, bne_iff_ne, beq_eq_false_iff_ne, bne_eq_false_iff_eq, Bool.true_and, ne_eq, Decidable.not_not, Int.not_lt, Int.not_le, Nat.not_lt, Nat.not_le, strB_nil, strB_nil', strB_nnil, strB_nnil'] at h11
              refine run_skip ?_
              refine run_seq ?_
              refine run_seq ?_
              refine run_draw fmo (q_ldN_ow .n (.t rfl) rfl (.inr rfl) ag_35 (fun _ => rfl) rfl rfl <| q_ldN_ow .n (.t rfl) rfl (.inr rfl) ag_24 (fun _ => rfl) rfl rfl <| q_callM (full := false) [] [(100, 214)] .n rfl .f en_8 (.cons (.t rfl) .nil) (.cons (.sts rfl) .nil) (c_laws_toMine aM (by omega)) trivial rfl rfl (fun h => Bool.noConfusion h) (fun h => Bool.noConfusion h) rfl <| q_call0 (full := true) .n .f en_14 (.cons (.t rfl) (.cons (.t rfl) .nil)) (.cons (.st (.cons (.a (.same rfl)) (.cons (.a (.own rfl rfl rfl (take_all (by simp only [len_map, put_len, markAirwayS_len, markMine_len, markInt64S_len, markCrewS_len, markRefugeS_len] <;> rfl)) (by simp only [len_map, put_len, markAirwayS_len, markMine_len, markInt64S_len, markCrewS_len, markRefugeS_len] <;> rfl))) .nil))) (.cons (.st (.cons (.a (.same rfl)) (.cons (.a (.own rfl rfl rfl (take_all (by simp only [len_map, put_len, markAirwayS_len, markMine_len, markInt64S_len, markCrewS_len, markRefugeS_len] <;> rfl)) (by simp only [len_map, put_len, markAirwayS_len, markMine_len, markInt64S_len, markCrewS_len, markRefugeS_len] <;> rfl))) .nil))) .nil)) (fun hg => c_laws_eqMine (m_laws_toMine aM) (m_laws_toMine aM)) rfl (fun _ => rfl) rfl <| q_not .n (.t rfl) rfl <| Lex.nil) (by kernel_rfl) ?_
              refine run_cond (.t rfl) rfl (fun h12 => ?_) (fun h12 => ?_)
              · try simp only [Bool.and_eq_true, Bool.or_eq_true, Bool.not_eq_true', Bool.and_eq_false_iff, Bool.or_eq_false_iff, Bool.not_eq_false', decide_eq_true_eq, decide_eq_false_iff_not, beq_iff_eq, bne_iff_ne, beq_eq_false_iff_ne, bne_eq_false_iff_eq, Bool.true_and, ne_eq, Decidable.not_not, Int.not_lt, Int.not_le, Nat.not_lt, Nat.not_le, strB_nil, strB_nil', strB_nnil, strB_nnil'] at h12
                refine run_seq ?_
                refine run_region (q_assign .n (.c rfl) rfl <| Lex.nil) ?_
                exact run_ret [] (.cons (.t rfl rfl) .nil) rfl trivial rfl
              · try simp only [Bool.and_eq_true, Bool.or_eq_true, Bool.not_eq_true', Bool.and_eq_false_iff, Bool.or_eq_false_iff, Bool.not_eq_false', decide_eq_true_eq, decide_eq_false_iff_not, beq_iff_eq, bne_iff_ne, beq_eq_false_iff_ne, bne_eq_false_iff_eq, Bool.true_and, ne_eq, Decidable.not_not, Int.not_lt, Int.not_le, Nat.not_lt, Nat.not_le, strB_nil, strB_nil', strB_nnil, strB_nnil'] at h12
                refine run_skip ?_
                refine run_seq ?_
                refine run_seq ?_
                refine run_region (q_move .n (.t rfl) rfl <| q_move .n (.t rfl) rfl <| q_callM (full := false) [] [(100, 215)] .n rfl .f en_9 (.cons (.t rfl) .nil) (.cons (.b (.a (.same rfl))) .nil) (c_laws_toInt64S aArrivals (by omega)) trivial rfl rfl (fun h => Bool.noConfusion h) (fun h => Bool.noConfusion h) rfl <| q_call0 (full := true) .n .f en_13 (.cons (.t rfl) (.cons (.t rfl) .nil)) (.cons (.b (.a (.own rfl rfl rfl (take_all (by simp only [len_map, put_len, markAirwayS_len, markMine_len, markInt64S_len, markCrewS_len, markRefugeS_len] <;> rfl)) (by simp only [len_map, put_len, markAirwayS_len, markMine_len, markInt64S_len, markCrewS_len, markRefugeS_len] <;> rfl)))) (.cons (.b (.a (.own rfl rfl rfl (take_all (by simp only [len_map, put_len, markAirwayS_len, markMine_len, markInt64S_len, markCrewS_len, markRefugeS_len] <;> rfl)) (by simp only [len_map, put_len, markAirwayS_len, markMine_len, markInt64S_len, markCrewS_len, markRefugeS_len] <;> rfl)))) .nil)) (fun hg => c_laws_eqInt64S (m_laws_toInt64S aArrivals) (m_laws_toInt64S aArrivals)) rfl (fun _ => rfl) rfl <| q_not .n (.t rfl) rfl <| Lex.nil) ?_
                refine run_cond (.t rfl) rfl (fun h13 => ?_) (fun h13 => ?_)
                · try simp only [Bool.and_eq_true, Bool.or_eq_true, Bool.not_eq_true', Bool.and_eq_false_iff, Bool.or_eq_false_iff, Bool.not_eq_false', decide_eq_true_eq, decide_eq_false_iff_not, beq_iff_eq, bne_iff_ne, beq_eq_false_iff_ne, bne_eq_false_iff_eq, Bool.true_and, ne_eq, Decidable.not_not, Int.not_lt, Int.not_le, Nat.not_lt, Nat.not_le, strB_nil, strB_nil', strB_nnil, strB_nnil'] at h13
                  refine run_seq ?_
                  refine run_region (q_assign .n (.c rfl) rfl <| Lex.nil) ?_
                  exact run_ret [] (.cons (.t rfl rfl) .nil) rfl trivial rfl
                · try simp only [Bool.and_eq_true, Bool.or_eq_true, Bool.not_eq_true', Bool.and_eq_false_iff, Bool.or_eq_false_iff, Bool.not_eq_false', decide_eq_true_eq, decide_eq_false_iff_not, beq_iff_eq, bne_iff_ne, beq_eq_false_iff_ne, bne_eq_false_iff_eq, Bool.true_and, ne_eq, Decidable.not_not, Int.not_lt, Int.not_le, Nat.not_lt, Nat.not_le, strB_nil, strB_nil', strB_nnil, strB_nnil'] at h13
                  refine run_skip ?_
                  refine run_seq ?_
                  refine run_seq ?_
                  refine run_region (q_move .n (.t rfl) rfl <| q_move .n (.t rfl) rfl <| q_callM (full := false) [] [(100, 216)] .n rfl .f en_10 (.cons (.t rfl) .nil) (.cons (.b (.a (.same rfl))) .nil) (c_laws_toCrewS aCrews (by omega)) trivial rfl rfl (fun h => Bool.noConfusion h) (fun h => Bool.noConfusion h) rfl <| q_call0 (full := true) .n .f en_15 (.cons (.t rfl) (.cons (.t rfl) .nil)) (.cons (.b (.a (.own rfl rfl rfl (take_all (by simp only [len_map, put_len, markAirwayS_len, markMine_len, markInt64S_len, markCrewS_len, markRefugeS_len] <;> rfl)) (by simp only [len_map, put_len, markAirwayS_len, markMine_len, markInt64S_len, markCrewS_len, markRefugeS_len] <;> rfl)))) (.cons (.b (.a (.own rfl rfl rfl (take_all (by simp only [len_map, put_len, markAirwayS_len, markMine_len, markInt64S_len, markCrewS_len, markRefugeS_len] <;> rfl)) (by simp only [len_map, put_len, markAirwayS_len, markMine_len, markInt64S_len, markCrewS_len, markRefugeS_len] <;> rfl)))) .nil)) (fun hg => c_laws_eqCrewS (m_laws_toCrewS aCrews) (m_laws_toCrewS aCrews)) rfl (fun _ => rfl) rfl <| q_not .n (.t rfl) rfl <| Lex.nil) ?_
                  refine run_cond (.t rfl) rfl (fun h14 => ?_) (fun h14 => ?_)
                  · try simp only [Bool.and_eq_true, Bool.or_eq_true, Bool.not_eq_true', Bool.and_eq_false_iff, Bool.or_eq_false_iff, Bool.not_eq_false', decide_eq_true_eq, decide_eq_false_iff_not, beq_iff_eq, bne_iff_ne, beq_eq_false_iff_ne, bne_eq_false_iff_eq, Bool.true_and, ne_eq, Decidable.not_not, Int.not_lt, Int.not_le, Nat.not_lt, Nat.not_le, strB_nil, strB_nil', strB_nnil, strB_nnil'] at h14
                    refine run_seq ?_
                    refine run_region (q_assign .n (.c rfl) rfl <| Lex.nil) ?_
                    exact run_ret [] (.cons (.t rfl rfl) .nil) rfl trivial rfl
                  · try simp only [Bool.and_eq_true, Bool.or_eq_true, Bool.not_eq_true', Bool.and_eq_false_iff, Bool.or_eq_false_iff, Bool.not_eq_false', decide_eq_true_eq, decide_eq_false_iff_not, beq_iff_eq, bne_iff_ne, beq_eq_false_iff_ne, bne_eq_false_iff_eq, Bool.true_and, ne_eq, Decidable.not_not, Int.not_lt, Int.not_le, Nat.not_lt, Nat.not_le, strB_nil, strB_nil', strB_nnil, strB_nnil'] at h14
                    refine run_skip ?_
                    refine run_seq ?_
                    refine run_seq ?_
                    refine run_region (q_move .n (.t rfl) rfl <| q_move .n (.t rfl) rfl <| q_callM (full := false) [] [(100, 217)] .n rfl .f en_9 (.cons (.t rfl) .nil) (.cons (.b (.a (.same rfl))) .nil) (c_laws_toInt64S aSizes (by omega)) trivial rfl rfl (fun h => Bool.noConfusion h) (fun h => Bool.noConfusion h) rfl <| q_call0 (full := true) .n .f en_13 (.cons (.t rfl) (.cons (.t rfl) .nil)) (.cons (.b (.a (.own rfl rfl rfl (take_all (by simp only [len_map, put_len, markAirwayS_len, markMine_len, markInt64S_len, markCrewS_len, markRefugeS_len] <;> rfl)) (by simp only [len_map, put_len, markAirwayS_len, markMine_len, markInt64S_len, markCrewS_len, markRefugeS_len] <;> rfl)))) (.cons (.b (.a (.own rfl rfl rfl (take_all (by simp only [len_map, put_len, markAirwayS_len, markMine_len, markInt64S_len, markCrewS_len, markRefugeS_len] <;> rfl)) (by simp only [len_map, put_len, markAirwayS_len, markMine_len, markInt64S_len, markCrewS_len, markRefugeS_len] <;> rfl)))) .nil)) (fun hg => c_laws_eqInt64S (m_laws_toInt64S aSizes) (m_laws_toInt64S aSizes)) rfl (fun _ => rfl) rfl <| q_not .n (.t rfl) rfl <| Lex.nil) ?_
                    refine run_cond (.t rfl) rfl (fun h15 => ?_) (fun h15 => ?_)
                    · try simp only [Bool.and_eq_true, Bool.or_eq_true, Bool.not_eq_true', Bool.and_eq_false_iff, Bool.or_eq_false_iff, Bool.not_eq_false', decide_eq_true_eq, decide_eq_false_iff_not, beq_iff_eq, bne_iff_ne, beq_eq_false_iff_ne, bne_eq_false_iff_eq, Bool.true_and, ne_eq, Decidable.not_not, Int.not_lt, Int.not_le, Nat.not_lt, Nat.not_le, strB_nil, strB_nil', strB_nnil, strB_nnil'] at h15
                      refine run_seq ?_
                      refine run_region (q_assign .n (.c rfl) rfl <| Lex.nil) ?_
                      exact run_ret [] (.cons (.t rfl rfl) .nil) rfl trivial rfl
                    · try simp only [Bool.and_eq_true, Bool.or_eq_true, Bool.not_eq_true', Bool.and_eq_false_iff, Bool.or_eq_false_iff, Bool.not_eq_false', decide_eq_true_eq, decide_eq_false_iff_not, beq_iff_eq, bne_iff_ne, beq_eq_false_iff_ne, bne_eq_false_iff_eq, Bool.true_and, ne_eq, Decidable.not_not, Int.not_lt, Int.not_le, Nat.not_lt, Nat.not_le, strB_nil, strB_nil', strB_nnil, strB_nnil'] at h15
                      refine run_skip ?_
                      refine run_seq ?_
                      refine run_seq ?_
                      refine run_region (q_move .n (.t rfl) rfl <| q_move .n (.t rfl) rfl <| q_callM (full := false) [] [(100, 218)] .n rfl .f en_11 (.cons (.t rfl) .nil) (.cons (.b (.a (.same rfl))) .nil) (c_laws_toRefugeS aList (by omega)) trivial rfl rfl (fun h => Bool.noConfusion h) (fun h => Bool.noConfusion h) rfl <| q_call0 (full := true) .n .f en_16 (.cons (.t rfl) (.cons (.t rfl) .nil)) (.cons (.b (.a (.own rfl rfl rfl (take_all (by simp only [len_map, put_len, markAirwayS_len, markMine_len, markInt64S_len, markCrewS_len, markRefugeS_len] <;> rfl)) (by simp only [len_map, put_len, markAirwayS_len, markMine_len, markInt64S_len, markCrewS_len, markRefugeS_len] <;> rfl)))) (.cons (.b (.a (.own rfl rfl rfl (take_all (by simp only [len_map, put_len, markAirwayS_len, markMine_len, markInt64S_len, markCrewS_len, markRefugeS_len] <;> rfl)) (by simp only [len_map, put_len, markAirwayS_len, markMine_len, markInt64S_len, markCrewS_len, markRefugeS_len] <;> rfl)))) .nil)) (fun hg => c_laws_eqRefugeS (m_laws_toRefugeS aList) (m_laws_toRefugeS aList)) rfl (fun _ => rfl) rfl <| q_not .n (.t rfl) rfl <| Lex.nil) ?_
                      refine run_cond (.t rfl) rfl (fun h16 => ?_) (fun h16 => ?_)
                      · try simp only [Bool.and_eq_true, Bool.or_eq_true, Bool.not_eq_true', Bool.and_eq_false_iff, Bool.or_eq_false_iff, Bool.not_eq_false', decide_eq_true_eq, decide_eq_false_iff_not, beq_iff_eq, bne_iff_ne, beq_eq_false_iff_ne, bne_eq_false_iff_eq, Bool.true_and, ne_eq, Decidable.not_not, Int.not_lt, Int.not_le, Nat.not_lt, Nat.not_le, strB_nil, strB_nil', strB_nnil, strB_nnil'] at h16
                        refine run_seq ?_
                        refine run_region (q_assign .n (.c rfl) rfl <| Lex.nil) ?_
                        exact run_ret [] (.cons (.t rfl rfl) .nil) rfl trivial rfl
                      · try simp only [Bool.and_eq_true, Bool.or_eq_true, Bool.not_eq_true', Bool.and_eq_false_iff, Bool.or_eq_false_iff, Bool.not_eq_false', decide_eq_true_eq, decide_eq_false_iff_not, beq_iff_eq, bne_iff_ne, beq_eq_false_iff_ne, bne_eq_false_iff_eq, Bool.true_and, ne_eq, Decidable.not_not, Int.not_lt, Int.not_le, Nat.not_lt, Nat.not_le, strB_nil, strB_nil', strB_nnil, strB_nnil'] at h16
                        refine run_skip ?_
                        refine run_seq ?_
                        refine run_region (q_assign .n (.c rfl) rfl <| Lex.nil) ?_
                        refine run_seq ?_
                        refine run_region (q_ldN_ow .n (.t rfl) rfl (.inr rfl) ag_35 (fun _ => rfl) rfl rfl <| q_move .n (.t rfl) rfl <| q_callM (full := false) [(11, 207)] [] .n rfl .f en_17 (.cons (.t rfl) (.cons (.t rfl) .nil)) (.cons (.st (.cons (.a (.same rfl)) (.cons (.muts rfl) .nil))) (.cons (.b (.a (.same rfl))) .nil)) (c_laws_markMine (m_laws_toMine aM) 1 (by omega)) ⟨rfl, trivial⟩ rfl rfl (fun h => Bool.noConfusion h) (fun h => Bool.noConfusion h) rfl <| q_assign .n (.t rfl) rfl <| Lex.nil) ?_
                        refine run_seq ?_
                        refine run_region (q_move .n (.t rfl) rfl <| q_move .n (.t rfl) rfl <| q_callM (full := false) [(0, 209)] [] .n rfl .f en_18 (.cons (.t rfl) (.cons (.t rfl) .nil)) (.cons (.b (.muts rfl)) (.cons (.b (.a (.same rfl))) .nil)) (c_laws_markInt64S (m_laws_toInt64S aArrivals) (m_laws_markMine (m_laws_toMine aM) 1).1) ⟨rfl, trivial⟩ rfl rfl (fun h => Bool.noConfusion h) (fun h => Bool.noConfusion h) rfl <| q_assign .n (.t rfl) rfl <| Lex.nil) ?_
                        refine run_seq ?_
                        refine run_region (q_move .n (.t rfl) rfl <| q_move .n (.t rfl) rfl <| q_callM (full := false) [(0, 210)] [] .n rfl .f en_19 (.cons (.t rfl) (.cons (.t rfl) .nil)) (.cons (.b (.muts rfl)) (.cons (.b (.a (.same rfl))) .nil)) (c_laws_markCrewS (m_laws_toCrewS aCrews) (m_laws_markInt64S (m_laws_toInt64S aArrivals) (m_laws_markMine (m_laws_toMine aM) 1).1).1 (by ((repeat (first | omega | refine markAirwayS_le ?_ | refine markMine_le ?_ | refine markInt64S_le ?_ | refine markCrewS_le ?_ | refine markRefugeS_le ?_))))) ⟨rfl, trivial⟩ rfl rfl (fun h => Bool.noConfusion h) (fun h => Bool.noConfusion h) rfl <| q_assign .n (.t rfl) rfl <| Lex.nil) ?_
                        refine run_seq ?_
                        refine run_region (q_move .n (.t rfl) rfl <| q_move .n (.t rfl) rfl <| q_callM (full := false) [(0, 211)] [] .n rfl .f en_18 (.cons (.t rfl) (.cons (.t rfl) .nil)) (.cons (.b (.muts rfl)) (.cons (.b (.a (.same rfl))) .nil)) (c_laws_markInt64S (m_laws_toInt64S aSizes) (m_laws_markCrewS (m_laws_toCrewS aCrews) (m_laws_markInt64S (m_laws_toInt64S aArrivals) (m_laws_markMine (m_laws_toMine aM) 1).1).1).1) ⟨rfl, trivial⟩ rfl rfl (fun h => Bool.noConfusion h) (fun h => Bool.noConfusion h) rfl <| q_assign .n (.t rfl) rfl <| Lex.nil) ?_
                        refine run_seq ?_
                        refine run_region (q_move .n (.t rfl) rfl <| q_move .n (.t rfl) rfl <| q_callM (full := false) [(0, 212)] [] .n rfl .f en_20 (.cons (.t rfl) (.cons (.t rfl) .nil)) (.cons (.b (.muts rfl)) (.cons (.b (.a (.same rfl))) .nil)) (c_laws_markRefugeS (m_laws_toRefugeS aList) (m_laws_markInt64S (m_laws_toInt64S aSizes) (m_laws_markCrewS (m_laws_toCrewS aCrews) (m_laws_markInt64S (m_laws_toInt64S aArrivals) (m_laws_markMine (m_laws_toMine aM) 1).1).1).1).1 (by ((repeat (first | omega | refine markAirwayS_le ?_ | refine markMine_le ?_ | refine markInt64S_le ?_ | refine markCrewS_le ?_ | refine markRefugeS_le ?_))))) ⟨rfl, trivial⟩ rfl rfl (fun h => Bool.noConfusion h) (fun h => Bool.noConfusion h) rfl <| q_assign .n (.t rfl) rfl <| Lex.nil) ?_
                        refine run_seq ?_
                        refine run_seq ?_
                        refine run_region (q_move .n (.t rfl) rfl <| q_int .n (.t rfl) (.c rfl) rfl rfl <| q_move .n (.t rfl) rfl <| q_move (.f rfl rfl) (.t rfl) rfl <| q_move (.f rfl rfl) (.t rfl) rfl <| q_call0 (full := true) (.f rfl rfl) .f en_13 (.cons (.u rfl id) (.cons (.u rfl id) .nil)) (.cons (.b (.a (.own rfl rfl rfl (take_all (by simp only [len_map, put_len, markAirwayS_len, markMine_len, markInt64S_len, markCrewS_len, markRefugeS_len] <;> rfl)) (by simp only [len_map, put_len, markAirwayS_len, markMine_len, markInt64S_len, markCrewS_len, markRefugeS_len] <;> rfl)))) (.cons (.b (.a (.own rfl rfl rfl (take_all (by simp only [len_map, put_len, markAirwayS_len, markMine_len, markInt64S_len, markCrewS_len, markRefugeS_len] <;> rfl)) (by simp only [len_map, put_len, markAirwayS_len, markMine_len, markInt64S_len, markCrewS_len, markRefugeS_len] <;> rfl)))) .nil)) (fun hg => c_laws_eqInt64S (m_impl_AssignCrews (m_laws_toMine aM) (m_laws_toInt64S aArrivals) aBlocked (m_laws_toCrewS aCrews) (m_laws_toInt64S aSizes) aStart (m_laws_toRefugeS aList) aBudget).1 (m_spec_AssignCrews (m_laws_toMine aM) (m_laws_toInt64S aArrivals) aBlocked (m_laws_toCrewS aCrews) (m_laws_toInt64S aSizes) aStart (m_laws_toRefugeS aList) aBudget).1) rfl (fun _ => rfl) rfl <| q_not (.f rfl rfl) (.u rfl id) rfl <| q_or .n (.t rfl) (.u rfl id) rfl <| q_move .n (.t rfl) rfl <| q_move (.f rfl rfl) (.t rfl) rfl <| q_move (.f rfl rfl) (.t rfl) rfl <| q_int (.f rfl rfl) (.u rfl id) (.u rfl id) rfl rfl <| q_or .n (.t rfl) (.u rfl id) rfl <| q_move .n (.t rfl) rfl <| q_move (.f rfl rfl) (.t rfl) rfl <| q_move (.f rfl rfl) (.t rfl) rfl <| q_int (.f rfl rfl) (.u rfl id) (.u rfl id) rfl rfl <| q_or .n (.t rfl) (.u rfl id) rfl <| Lex.nil) ?_
                        refine run_cond (.t rfl) rfl (fun h17 => ?_) (fun h17 => ?_)
                        · try simp only [Bool.and_eq_true, Bool.or_eq_true, Bool.not_eq_true', Bool.and_eq_false_iff, Bool.or_eq_false_iff, Bool.not_eq_false', decide_eq_true_eq, decide_eq_false_iff_not, beq_iff_eq, bne_iff_ne, beq_eq_false_iff_ne, bne_eq_false_iff_eq, Bool.true_and, ne_eq, Decidable.not_not, Int.not_lt, Int.not_le, Nat.not_lt, Nat.not_le, strB_nil, strB_nil', strB_nnil, strB_nnil'] at h17
                          refine run_seq ?_
                          refine run_region (q_assign .n (.c rfl) rfl <| Lex.nil) ?_
                          exact run_ret [] (.cons (.t rfl rfl) .nil) rfl trivial rfl
                        · try simp only [Bool.and_eq_true, Bool.or_eq_true, Bool.not_eq_true', Bool.and_eq_false_iff, Bool.or_eq_false_iff, Bool.not_eq_false', decide_eq_true_eq, decide_eq_false_iff_not, beq_iff_eq, bne_iff_ne, beq_eq_false_iff_ne, bne_eq_false_iff_eq, Bool.true_and, ne_eq, Decidable.not_not, Int.not_lt, Int.not_le, Nat.not_lt, Nat.not_le, strB_nil, strB_nil', strB_nnil, strB_nnil'] at h17
                          refine run_skip ?_
                          refine run_seq ?_
                          refine run_region (q_assign .n (.c rfl) rfl <| Lex.nil) ?_
                          refine run_seq ?_
                          refine run_region (q_move .n (.t rfl) rfl <| q_move .n (.t rfl) rfl <| q_callM (full := false) [(0, 213)] [] .n rfl .f en_18 (.cons (.t rfl) (.cons (.t rfl) .nil)) (.cons (.b (.muts rfl)) (.cons (.b (.a (.same rfl))) .nil)) (c_laws_markInt64S (m_impl_AssignCrews (m_laws_toMine aM) (m_laws_toInt64S aArrivals) aBlocked (m_laws_toCrewS aCrews) (m_laws_toInt64S aSizes) aStart (m_laws_toRefugeS aList) aBudget).1 1) ⟨rfl, trivial⟩ rfl rfl (fun h => Bool.noConfusion h) (fun h => Bool.noConfusion h) rfl <| q_assign .n (.t rfl) rfl <| Lex.nil) ?_
                          refine run_seq ?_
                          refine run_region (q_assign .n (.c rfl) rfl <| Lex.nil) ?_
                          refine run_seq ?_
                          refine run_region (q_move .n (.t rfl) rfl <| q_move .n (.t rfl) rfl <| q_call0 (full := true) .n .f en_21 (.cons (.t rfl) (.cons (.t rfl) .nil)) (.cons (.b (.a (.own rfl rfl rfl (take_all (by simp only [len_map, put_len, markAirwayS_len, markMine_len, markInt64S_len, markCrewS_len, markRefugeS_len] <;> rfl)) (by simp only [len_map, put_len, markAirwayS_len, markMine_len, markInt64S_len, markCrewS_len, markRefugeS_len] <;> rfl)))) (.cons (.b (.a (.same rfl))) .nil)) (fun hg => c_laws_heldInt64S (m_laws_markInt64S (m_impl_AssignCrews (m_laws_toMine aM) (m_laws_toInt64S aArrivals) aBlocked (m_laws_toCrewS aCrews) (m_laws_toInt64S aSizes) aStart (m_laws_toRefugeS aList) aBudget).1 1).2 1) rfl (fun _ => rfl) rfl <| q_assign .n (.t rfl) rfl <| Lex.nil) ?_
                          refine run_seq ?_
                          refine run_seq ?_
                          refine run_region (q_move .n (.t rfl) rfl <| q_int .n (.t rfl) (.c rfl) rfl rfl <| Lex.nil) ?_
                          refine run_cond (.t rfl) rfl (fun h18 => ?_) (fun h18 => ?_)
                          · try simp only [Bool.and_eq_true, Bool.or_eq_true, Bool.not_eq_true', Bool.and_eq_false_iff, Bool.or_eq_false_iff, Bool.not_eq_false', decide_eq_true_eq, decide_eq_false_iff_not, beq_iff_eq, bne_iff_ne, beq_eq_false_iff_ne, bne_eq_false_iff_eq, Bool.true_and, ne_eq, Decidable.not_not, Int.not_lt, Int.not_le, Nat.not_lt, Nat.not_le, strB_nil, strB_nil', strB_nnil, strB_nnil'] at h18
                            refine run_seq ?_
                            refine run_region (q_assign .n (.c rfl) rfl <| Lex.nil) ?_
                            exact run_ret [] (.cons (.t rfl rfl) .nil) rfl trivial rfl
                          · try simp only [Bool.and_eq_true, Bool.or_eq_true, Bool.not_eq_true', Bool.and_eq_false_iff, Bool.or_eq_false_iff, Bool.not_eq_false', decide_eq_true_eq, decide_eq_false_iff_not, beq_iff_eq, bne_iff_ne, beq_eq_false_iff_ne, bne_eq_false_iff_eq, Bool.true_and, ne_eq, Decidable.not_not, Int.not_lt, Int.not_le, Nat.not_lt, Nat.not_le, strB_nil, strB_nil', strB_nnil, strB_nnil'] at h18
                            refine run_skip ?_
                            refine run_seq ?_
                            refine run_seq ?_
                            refine run_region (q_move .n (.t rfl) rfl <| q_move .n (.t rfl) rfl <| q_int .n (.t rfl) (.t rfl) rfl rfl <| Lex.nil) ?_
                            refine run_cond (.t rfl) rfl (fun h19 => ?_) (fun h19 => ?_)
                            · try simp only [Bool.and_eq_true, Bool.or_eq_true, Bool.not_eq_true', Bool.and_eq_false_iff, Bool.or_eq_false_iff, Bool.not_eq_false', decide_eq_true_eq, decide_eq_false_iff_not, beq_iff_eq, bne_iff_ne, beq_eq_false_iff_ne, bne_eq_false_iff_eq, Bool.true_and, ne_eq, Decidable.not_not, Int.not_lt, Int.not_le, Nat.not_lt, Nat.not_le, strB_nil, strB_nil', strB_nnil, strB_nnil'] at h19
                              refine run_seq ?_
                              refine run_region (q_assign .n (.c rfl) rfl <| Lex.nil) ?_
                              exact run_ret [] (.cons (.t rfl rfl) .nil) rfl trivial rfl
                            · try simp only [Bool.and_eq_true, Bool.or_eq_true, Bool.not_eq_true', Bool.and_eq_false_iff, Bool.or_eq_false_iff, Bool.not_eq_false', decide_eq_true_eq, decide_eq_false_iff_not, beq_iff_eq, bne_iff_ne, beq_eq_false_iff_ne, bne_eq_false_iff_eq, Bool.true_and, ne_eq, Decidable.not_not, Int.not_lt, Int.not_le, Nat.not_lt, Nat.not_le, strB_nil, strB_nil', strB_nnil, strB_nnil'] at h19
                              refine run_skip ?_
                              refine run_seq ?_
                              refine run_region (q_ldN_ow .n (.t rfl) rfl (.inr rfl) ag_24 (fun _ => rfl) rfl rfl <| q_callM (full := false) [] [(100, 219)] .n rfl .f en_8 (.cons (.t rfl) .nil) (.cons (.sts rfl) .nil) (c_laws_toMine aM (by omega)) trivial rfl rfl (fun h => Bool.noConfusion h) (fun h => Bool.noConfusion h) rfl <| q_move .n (.t rfl) rfl <| q_callM (full := false) [] [(100, 220)] .n rfl .f en_9 (.cons (.t rfl) .nil) (.cons (.b (.a (.same rfl))) .nil) (c_laws_toInt64S aArrivals (by omega)) trivial rfl rfl (fun h => Bool.noConfusion h) (fun h => Bool.noConfusion h) rfl <| q_move .n (.t rfl) rfl <| q_move .n (.t rfl) rfl <| q_callM (full := false) [] [(100, 221)] .n rfl .f en_10 (.cons (.t rfl) .nil) (.cons (.b (.a (.same rfl))) .nil) (c_laws_toCrewS aCrews (by omega)) trivial rfl rfl (fun h => Bool.noConfusion h) (fun h => Bool.noConfusion h) rfl <| q_move .n (.t rfl) rfl <| q_callM (full := false) [] [(100, 222)] .n rfl .f en_9 (.cons (.t rfl) .nil) (.cons (.b (.a (.same rfl))) .nil) (c_laws_toInt64S aSizes (by omega)) trivial rfl rfl (fun h => Bool.noConfusion h) (fun h => Bool.noConfusion h) rfl <| q_move .n (.t rfl) rfl <| q_move .n (.t rfl) rfl <| q_callM (full := false) [] [(100, 223)] .n rfl .f en_11 (.cons (.t rfl) .nil) (.cons (.b (.a (.same rfl))) .nil) (c_laws_toRefugeS aList (by omega)) trivial rfl rfl (fun h => Bool.noConfusion h) (fun h => Bool.noConfusion h) rfl <| q_move .n (.t rfl) rfl <| q_callM (full := true) [] [(100, 224)] .n rfl .f en_12 (.cons (.t rfl) (.cons (.t rfl) (.cons (.t rfl) (.cons (.t rfl) (.cons (.t rfl) (.cons (.t rfl) (.cons (.t rfl) (.cons (.t rfl) .nil)))))))) (.cons (.st (.cons (.a (.same rfl)) (.cons (.a (.own rfl rfl rfl (take_all (by simp only [len_map, put_len, markAirwayS_len, markMine_len, markInt64S_len, markCrewS_len, markRefugeS_len] <;> rfl)) (by simp only [len_map, put_len, markAirwayS_len, markMine_len, markInt64S_len, markCrewS_len, markRefugeS_len] <;> rfl))) .nil))) (.cons (.b (.a (.own rfl rfl rfl (take_all (by simp only [len_map, put_len, markAirwayS_len, markMine_len, markInt64S_len, markCrewS_len, markRefugeS_len] <;> rfl)) (by simp only [len_map, put_len, markAirwayS_len, markMine_len, markInt64S_len, markCrewS_len, markRefugeS_len] <;> rfl)))) (.cons (.b (.a (.same rfl))) (.cons (.b (.a (.own rfl rfl rfl (take_all (by simp only [len_map, put_len, markAirwayS_len, markMine_len, markInt64S_len, markCrewS_len, markRefugeS_len] <;> rfl)) (by simp only [len_map, put_len, markAirwayS_len, markMine_len, markInt64S_len, markCrewS_len, markRefugeS_len] <;> rfl)))) (.cons (.b (.a (.own rfl rfl rfl (take_all (by simp only [len_map, put_len, markAirwayS_len, markMine_len, markInt64S_len, markCrewS_len, markRefugeS_len] <;> rfl)) (by simp only [len_map, put_len, markAirwayS_len, markMine_len, markInt64S_len, markCrewS_len, markRefugeS_len] <;> rfl)))) (.cons (.b (.a (.same rfl))) (.cons (.b (.a (.own rfl rfl rfl (take_all (by simp only [len_map, put_len, markAirwayS_len, markMine_len, markInt64S_len, markCrewS_len, markRefugeS_len] <;> rfl)) (by simp only [len_map, put_len, markAirwayS_len, markMine_len, markInt64S_len, markCrewS_len, markRefugeS_len] <;> rfl)))) (.cons (.b (.a (.same rfl))) .nil)))))))) (c_impl_AssignCrews (m_laws_toMine aM) (m_laws_toInt64S aArrivals) aBlocked (m_laws_toCrewS aCrews) (m_laws_toInt64S aSizes) aStart (m_laws_toRefugeS aList) aBudget) trivial rfl rfl (fun _ => rfl) (fun _ => (hr_row (fun _ => rfl) hr_nil)) rfl <| q_move .n (.t rfl) rfl <| q_ext .n (.t rfl) rfl rfl rfl <| q_ext .n (.t rfl) rfl rfl rfl <| q_ext .n (.t rfl) rfl rfl rfl <| q_assign .n (.t rfl) rfl <| q_assign .n (.t rfl) rfl <| q_assign .n (.t rfl) rfl <| Lex.nil) ?_
                              refine run_seq ?_
                              refine run_seq ?_
                              refine run_region (q_move .n (.t rfl) rfl <| q_move .n (.t rfl) rfl <| q_call0 (full := true) .n .f en_13 (.cons (.t rfl) (.cons (.t rfl) .nil)) (.cons (.b (.a (.own rfl rfl rfl (take_all (by simp only [len_map, put_len, markAirwayS_len, markMine_len, markInt64S_len, markCrewS_len, markRefugeS_len] <;> rfl)) (by simp only [len_map, put_len, markAirwayS_len, markMine_len, markInt64S_len, markCrewS_len, markRefugeS_len] <;> rfl)))) (.cons (.b (.a (.own rfl rfl rfl (take_all (by simp only [len_map, put_len, markAirwayS_len, markMine_len, markInt64S_len, markCrewS_len, markRefugeS_len] <;> rfl)) (by simp only [len_map, put_len, markAirwayS_len, markMine_len, markInt64S_len, markCrewS_len, markRefugeS_len] <;> rfl)))) .nil)) (fun hg => c_laws_eqInt64S (m_impl_AssignCrews (m_laws_toMine aM) (m_laws_toInt64S aArrivals) aBlocked (m_laws_toCrewS aCrews) (m_laws_toInt64S aSizes) aStart (m_laws_toRefugeS aList) aBudget).1 (m_spec_AssignCrews (m_laws_toMine aM) (m_laws_toInt64S aArrivals) aBlocked (m_laws_toCrewS aCrews) (m_laws_toInt64S aSizes) aStart (m_laws_toRefugeS aList) aBudget).1) rfl (fun _ => rfl) rfl <| q_not .n (.t rfl) rfl <| q_move .n (.t rfl) rfl <| q_move (.f rfl rfl) (.t rfl) rfl <| q_move (.f rfl rfl) (.t rfl) rfl <| q_int (.f rfl rfl) (.u rfl id) (.u rfl id) rfl rfl <| q_or .n (.t rfl) (.u rfl id) rfl <| q_move .n (.t rfl) rfl <| q_move (.f rfl rfl) (.t rfl) rfl <| q_move (.f rfl rfl) (.t rfl) rfl <| q_int (.f rfl rfl) (.u rfl id) (.u rfl id) rfl rfl <| q_or .n (.t rfl) (.u rfl id) rfl <| Lex.nil) ?_
                              refine run_cond (.t rfl) rfl (fun h20 => ?_) (fun h20 => ?_)
                              · try simp only [Bool.and_eq_true, Bool.or_eq_true, Bool.not_eq_true', Bool.and_eq_false_iff, Bool.or_eq_false_iff, Bool.not_eq_false', decide_eq_true_eq, decide_eq_false_iff_not, beq_iff_eq, bne_iff_ne, beq_eq_false_iff_ne, bne_eq_false_iff_eq, Bool.true_and, ne_eq, Decidable.not_not, Int.not_lt, Int.not_le, Nat.not_lt, Nat.not_le, strB_nil, strB_nil', strB_nnil, strB_nnil'] at h20
                                refine run_seq ?_
                                refine run_region (q_assign .n (.c rfl) rfl <| Lex.nil) ?_
                                exact run_ret [] (.cons (.t rfl rfl) .nil) rfl trivial rfl
                              · try simp only [Bool.and_eq_true, Bool.or_eq_true, Bool.not_eq_true', Bool.and_eq_false_iff, Bool.or_eq_false_iff, Bool.not_eq_false', decide_eq_true_eq, decide_eq_false_iff_not, beq_iff_eq, bne_iff_ne, beq_eq_false_iff_ne, bne_eq_false_iff_eq, Bool.true_and, ne_eq, Decidable.not_not, Int.not_lt, Int.not_le, Nat.not_lt, Nat.not_le, strB_nil, strB_nil', strB_nnil, strB_nnil'] at h20
                                refine run_skip ?_
                                refine run_seq ?_
                                refine run_region (q_assign .n (.c rfl) rfl <| Lex.nil) ?_
                                refine run_seq ?_
                                refine run_region (q_move .n (.t rfl) rfl <| q_move .n (.t rfl) rfl <| q_call0 (full := true) .n .f en_21 (.cons (.t rfl) (.cons (.t rfl) .nil)) (.cons (.b (.a (.own rfl rfl rfl (take_all (by simp only [len_map, put_len, markAirwayS_len, markMine_len, markInt64S_len, markCrewS_len, markRefugeS_len] <;> rfl)) (by simp only [len_map, put_len, markAirwayS_len, markMine_len, markInt64S_len, markCrewS_len, markRefugeS_len] <;> rfl)))) (.cons (.b (.a (.same rfl))) .nil)) (fun hg => c_laws_heldInt64S (m_laws_markInt64S (m_impl_AssignCrews (m_laws_toMine aM) (m_laws_toInt64S aArrivals) aBlocked (m_laws_toCrewS aCrews) (m_laws_toInt64S aSizes) aStart (m_laws_toRefugeS aList) aBudget).1 1).2 1) rfl (fun _ => rfl) rfl <| q_assign .n (.t rfl) rfl <| Lex.nil) ?_
                                refine run_seq ?_
                                refine run_seq ?_
                                refine run_region (q_move .n (.t rfl) rfl <| q_int .n (.t rfl) (.c rfl) rfl rfl <| Lex.nil) ?_
                                refine run_cond (.t rfl) rfl (fun h21 => ?_) (fun h21 => ?_)
                                · try simp only [Bool.and_eq_true, Bool.or_eq_true, Bool.not_eq_true', Bool.and_eq_false_iff, Bool.or_eq_false_iff, Bool.not_eq_false', decide_eq_true_eq, decide_eq_false_iff_not, beq_iff_eq, bne_iff_ne, beq_eq_false_iff_ne, bne_eq_false_iff_eq, Bool.true_and, ne_eq, Decidable.not_not, Int.not_lt, Int.not_le, Nat.not_lt, Nat.not_le, strB_nil, strB_nil', strB_nnil, strB_nnil'] at h21
                                  refine run_seq ?_
                                  refine run_region (q_assign .n (.c rfl) rfl <| Lex.nil) ?_
                                  exact run_ret [] (.cons (.t rfl rfl) .nil) rfl trivial rfl
                                · try simp only [Bool.and_eq_true, Bool.or_eq_true, Bool.not_eq_true', Bool.and_eq_false_iff, Bool.or_eq_false_iff, Bool.not_eq_false', decide_eq_true_eq, decide_eq_false_iff_not, beq_iff_eq, bne_iff_ne, beq_eq_false_iff_ne, bne_eq_false_iff_eq, Bool.true_and, ne_eq, Decidable.not_not, Int.not_lt, Int.not_le, Nat.not_lt, Nat.not_le, strB_nil, strB_nil', strB_nnil, strB_nnil'] at h21
                                  refine run_skip ?_
                                  refine run_seq ?_
                                  refine run_seq ?_
                                  refine run_region (q_move .n (.t rfl) rfl <| q_move .n (.t rfl) rfl <| q_int .n (.t rfl) (.t rfl) rfl rfl <| Lex.nil) ?_
                                  refine run_cond (.t rfl) rfl (fun h22 => ?_) (fun h22 => ?_)
                                  · try simp only [Bool.and_eq_true, Bool.or_eq_true, Bool.not_eq_true', Bool.and_eq_false_iff, Bool.or_eq_false_iff, Bool.not_eq_false', decide_eq_true_eq, decide_eq_false_iff_not, beq_iff_eq, bne_iff_ne, beq_eq_false_iff_ne, bne_eq_false_iff_eq, Bool.true_and, ne_eq, Decidable.not_not, Int.not_lt, Int.not_le, Nat.not_lt, Nat.not_le, strB_nil, strB_nil', strB_nnil, strB_nnil'] at h22
                                    refine run_seq ?_
                                    refine run_region (q_assign .n (.c rfl) rfl <| Lex.nil) ?_
                                    exact run_ret [] (.cons (.t rfl rfl) .nil) rfl trivial rfl
                                  · try simp only [Bool.and_eq_true, Bool.or_eq_true, Bool.not_eq_true', Bool.and_eq_false_iff, Bool.or_eq_false_iff, Bool.not_eq_false', decide_eq_true_eq, decide_eq_false_iff_not, beq_iff_eq, bne_iff_ne, beq_eq_false_iff_ne, bne_eq_false_iff_eq, Bool.true_and, ne_eq, Decidable.not_not, Int.not_lt, Int.not_le, Nat.not_lt, Nat.not_le, strB_nil, strB_nil', strB_nnil, strB_nnil'] at h22
                                    refine run_skip ?_
                                    refine run_seq ?_
                                    refine run_region (q_assign .n (.c rfl) rfl <| Lex.nil) ?_
                                    exact run_ret [] (.cons (.t rfl rfl) .nil) rfl trivial rfl

end Go.Proofs.Ytibbfdojcdkopaa
