/-
  THE WALKS: each Go function computes its model. Conditions: as each theorem states them (hp1, hp2 ..).
-/
import Derived.Test.YtchjibndocnnhaaExactFewestShiftsWalks2
set_option linter.unusedVariables false
set_option linter.unusedSimpArgs false
set_option linter.unusedSectionVars false
set_option linter.unnecessarySimpa false
namespace Go.Proofs.Ytchjibndocnnhaa
open Go Go.RowKit Go.Proofs Go.Proofs.Ytchjibndocnnhaa.E
/-! ### impl_shiftSearch_extend -/
set_option maxRecDepth 100000 in
set_option maxHeartbeats 4000000 in
theorem c_impl_shiftSearch_extend_n : ∀ (fuel : Nat) (s_ : gshiftSearch) (n_ : Int) (used : Int) (hp1 : MineIn s_.mine) (hp2 : FlowsIn s_.mine s_.flows) (hp3 : JobsIn s_.mine s_.list) (hp4 : (s_.shifts.length : Int) ≤ s_.list.length) (hp5 : 0 ≤ used ∧ used ≤ n_) (hp6 : n_ ≤ 100000) (hmu : ((s_.list.length : Int) - s_.shifts.length).toNat < fuel), Con Try.prog 59 [.op 0 0 0 0, .int .i64 n_, .int .i64 used] [(0, some (.box 95 [.int .i64 s_.mine.Junctions, .sl 7 (s_.mine.Airways.map gAirway.v), .sl 1 (s_.flows.map (V.int .i64)), .sl 4 (s_.list.map gJob.v), .int .i64 s_.budget, .os 15 s_.shifts.length])), (15, some (.row 2 1 (s_.shifts.map (V.int .i64))))] (.bool (m_impl_shiftSearch_extend_n fuel s_ n_ used).1) ([(100, some (.row 2 1 ((m_impl_shiftSearch_extend_n fuel s_ n_ used).2.shifts.map (V.int .i64)))), (0, some (.box 95 [.int .i64 s_.mine.Junctions, .sl 7 (s_.mine.Airways.map gAirway.v), .sl 1 (s_.flows.map (V.int .i64)), .sl 4 (s_.list.map gJob.v), .int .i64 (m_impl_shiftSearch_extend_n fuel s_ n_ used).2.budget, .os 100 (m_impl_shiftSearch_extend_n fuel s_ n_ used).2.shifts.length]))]) := by
  intro fuel
  induction fuel with
  | zero => intro s_ n_ used hp1 hp2 hp3 hp4 hp5 hp6 hmu; exact absurd hmu (Nat.not_lt_zero _)
  | succ fuel ih =>
  intro s_ n_ used hp1 hp2 hp3 hp4 hp5 hp6 hmu
  simp only [m_impl_shiftSearch_extend_n]
  have hself := post_impl_shiftSearch_extend fuel
  generalize m_impl_shiftSearch_extend_n fuel = self_ at ih hself ⊢
  refine con_intro (out := fun r : Bool × gshiftSearch => ((.bool r.1 : V), ([(100, some (.row 2 1 (r.2.shifts.map (V.int .i64)))), (0, some (.box 95 [.int .i64 s_.mine.Junctions, .sl 7 (s_.mine.Airways.map gAirway.v), .sl 1 (s_.flows.map (V.int .i64)), .sl 4 (s_.list.map gJob.v), .int .i64 r.2.budget, .os 100 r.2.shifts.length]))] : List (Nat × Option O)))) (r := (m_impl_shiftSearch_extend_body self_ s_ n_ used)) Try.func59 rfl Try.ntmps59 rfl ?_
  have hL := hp3.1
  have hW := wr64 (n := used + 1) (by omega)
  have hE : (if (IntKind.wrap .i64 (used + 1)) < n_ then (IntKind.wrap .i64 (used + 1)) else n_) ≤ n_ := by split <;> omega
  have hJ1 := hp1.1
  have hA1 := hp1.2.1
  have hF2 := hp2.1
  refine run_sub (s' := ⟨[(0, some (true, .op 0 0 0 0)), (1, some (true, .int .i64 n_)), (2, some (true, .int .i64 used))], [(0, some (.box 95 [.int .i64 s_.mine.Junctions, .sl 7 (s_.mine.Airways.map gAirway.v), .sl 1 (s_.flows.map (V.int .i64)), .sl 4 (s_.list.map gJob.v), .int .i64 s_.budget, .os 200 s_.shifts.length])), (200, some (.row 2 1 (s_.shifts.map (V.int .i64))))]⟩) (sub_of [(200, 15)] ⟨rfl, rfl, rfl, trivial⟩ ⟨rfl, rfl, trivial⟩ rfl) ?_
  refine run_factH (l := 200) rfl fun hl => ?_
  have l1 := hl; clear hl; simp only [List.length_map] at l1
  refine run_seq ?_
  refine run_region (q_assign .n (.c rfl) rfl <|
      Lex.nil) ?_
  refine run_seq ?_
  refine run_region (q_move .n (.t rfl) rfl <|
      q_nilc_ow .n (.t rfl) rfl <|
      q_fld_ow .n (.t rfl) fo_95_4 rfl <|
      q_ld1_ow .n (.t rfl) rfl (.inr rfl) (fun _ => rfl) rfl ic_25 rfl <|
      q_len .n (.t rfl) rfl rfl ss_25 rfl <|
      q_assign .n (.t rfl) rfl <|
      Lex.nil) ?_
  refine run_seq ?_
  refine run_seq ?_
  refine run_region (q_move .n (.t rfl) rfl <|
      q_move .n (.t rfl) rfl <|
      q_nilc_ow .n (.t rfl) rfl <|
      q_fld_ow .n (.t rfl) fo_95_2 rfl <|
      q_ld1_ow .n (.t rfl) rfl (.inr rfl) (fun _ => rfl) rfl ic_36 rfl <|
      q_len .n (.t rfl) rfl len_map ss_36 rfl <|
      q_int .n (.t rfl) (.t rfl) rfl rfl <|
      Lex.nil) ?_
  refine run_fact (t := 21) rfl fun hl => ?_
  have l2 := hl; clear hl; simp only [List.length_map] at l2
  refine run_cond (.t rfl) rfl (fun h3 => ?_) (fun h3 => ?_)
  · try simp only [Bool.and_eq_true, Bool.or_eq_true, Bool.not_eq_true', Bool.and_eq_false_iff, Bool.or_eq_false_iff, Bool.not_eq_false', decide_eq_true_eq, decide_eq_false_iff_not, beq_iff_eq, bne_iff_ne, beq_eq_false_iff_ne, bne_eq_false_iff_eq, Bool.true_and, ne_eq, Decidable.not_not, Int.not_lt, Int.not_le, Nat.not_lt, Nat.not_le, strB_nil, strB_nil', strB_nnil, strB_nnil'] at h3
    refine run_seq ?_
    refine run_region (q_assign .n (.c rfl) rfl <|
        Lex.nil) ?_
    exact run_ret [(100, 200)] (.cons (.t rfl rfl) .nil) rfl ⟨rfl, rfl, trivial⟩ rfl
  · try simp only [Bool.and_eq_true, Bool.or_eq_true, Bool.not_eq_true', Bool.and_eq_false_iff, Bool.or_eq_false_iff, Bool.not_eq_false', decide_eq_true_eq, decide_eq_false_iff_not, beq_iff_eq, bne_iff_ne, beq_eq_false_iff_ne, bne_eq_false_iff_eq, Bool.true_and, ne_eq, Decidable.not_not, Int.not_lt, Int.not_le, Nat.not_lt, Nat.not_le, strB_nil, strB_nil', strB_nnil, strB_nnil'] at h3
    refine run_skip ?_
    refine run_seq ?_
    refine run_seq ?_
    refine run_region (q_move .n (.t rfl) rfl <|
        q_move .n (.t rfl) rfl <|
        q_int .n (.t rfl) (.c rfl) rfl rfl <|
        q_min .n (.t rfl) (.t rfl) rfl <|
        q_move .n (.c rfl) rfl <|
        Lex.nil) ?_
    refine run_block ?_
    refine run_LOOP (m_impl_shiftSearch_extend_b1 self_ s_ n_ used) _ _ _ rfl (fun (x1 : Int × Int × (List Int)) => 0 ≤ x1.1 ∧ x1.1 ≤ (if (IntKind.wrap .i64 (used + 1)) < n_ then (IntKind.wrap .i64 (used + 1)) else n_) ∧ x1.2.2 = s_.shifts) (fun x1 => 0 ≤ x1.1 ∧ x1.1 ≤ (if (IntKind.wrap .i64 (used + 1)) < n_ then (IntKind.wrap .i64 (used + 1)) else n_) ∧ x1.2.2 = s_.shifts ∧ (if (IntKind.wrap .i64 (used + 1)) < n_ then (IntKind.wrap .i64 (used + 1)) else n_) ≤ x1.1) (fun x1 => ((if (IntKind.wrap .i64 (used + 1)) < n_ then (IntKind.wrap .i64 (used + 1)) else n_) - x1.1 : Int).toNat) (fun x1 => ⟨[(0, some (true, .op 0 0 0 0)), (1, some (true, .int .i64 n_)), (2, some (true, .int .i64 used)), (7, some (true, .int .i64 (s_.shifts.length : Int))), (27, some (true, .int .i64 (if (IntKind.wrap .i64 (used + 1)) < n_ then (IntKind.wrap .i64 (used + 1)) else n_))), (28, some (true, .int .i64 x1.1))], [(0, some (.box 95 [.int .i64 s_.mine.Junctions, .sl 7 (s_.mine.Airways.map gAirway.v), .sl 1 (s_.flows.map (V.int .i64)), .sl 4 (s_.list.map gJob.v), .int .i64 x1.2.1, .os 200 x1.2.2.length])), (200, some (.row 2 1 (x1.2.2.map (V.int .i64))))]⟩) (fun x1 => ⟨[], [(0, some (.box 95 [.int .i64 s_.mine.Junctions, .sl 7 (s_.mine.Airways.map gAirway.v), .sl 1 (s_.flows.map (V.int .i64)), .sl 4 (s_.list.map gJob.v), .int .i64 x1.2.1, .os 200 x1.2.2.length])), (200, some (.row 2 1 (x1.2.2.map (V.int .i64))))]⟩) ⟨by omega, by omega, by (simp only [List.length_append, List.length_cons, List.length_nil, List.length_replicate, put_len] at * <;> omega)⟩ (by omega) (sub_of [] ⟨rfl, rfl, rfl, rfl, rfl, rfl, trivial⟩ ⟨rfl, rfl, trivial⟩ rfl) ?_ ?_
    · intro x1 i27
      obtain ⟨e28, e29, e30, e31⟩ := i27
      try dsimp only at *
      refine run_seq ?_
      refine run_region (q_assign .n (.c rfl) rfl <|
          Lex.nil) ?_
      exact run_ret [(100, 200)] (.cons (.t rfl rfl) .nil) rfl ⟨rfl, rfl, trivial⟩ rfl
    · intro rec1 k1 hk4 x1 i5
      obtain ⟨e32, e33, e34⟩ := i5
      try dsimp only at *
      refine run_seq ?_
      refine run_region (q_int .n (.t rfl) (.t rfl) rfl rfl <|
          Lex.nil) ?_
      refine run_seq ?_
      refine run_cond (.t rfl) rfl (fun h6 => ?_) (fun h6 => ?_)
      · try simp only [Bool.and_eq_true, Bool.or_eq_true, Bool.not_eq_true', Bool.and_eq_false_iff, Bool.or_eq_false_iff, Bool.not_eq_false', decide_eq_true_eq, decide_eq_false_iff_not, beq_iff_eq, bne_iff_ne, beq_eq_false_iff_ne, bne_eq_false_iff_eq, Bool.true_and, ne_eq, Decidable.not_not, Int.not_lt, Int.not_le, Nat.not_lt, Nat.not_le, strB_nil, strB_nil', strB_nnil, strB_nnil'] at h6
        refine run_skip ?_
        refine run_seq ?_
        refine run_block ?_
        refine run_seq ?_
        refine run_region (q_move .n (.t rfl) rfl <|
            q_assign .n (.t rfl) rfl <|
            Lex.nil) ?_
        refine run_seq ?_
        refine run_region (q_move .n (.t rfl) rfl <|
            q_nilc_ow .n (.t rfl) rfl <|
            q_fld_ow .n (.t rfl) fo_95_2 rfl <|
            q_ld1_ow .n (.t rfl) rfl (.inr rfl) (fun _ => rfl) rfl ic_36 rfl <|
            q_move .n (.t rfl) rfl <|
            q_idx_rm .n (.t rfl) (.t rfl) sl_36 (fun _ => by omega) rfl <|
            q_ldN_ro .n (.t rfl) ag_66 rfl rfl rfl <|
            q_bslicem ([at' s_.list (s_.shifts.length : Int)] : List gJob) (f := gJob.v) (l := 201) .n rfl rfl (.cons (.t rfl) .nil) rfl si_36 zv_66 rfl rfl rfl <|
            q_assign .n (.t rfl) rfl <|
            Lex.nil) ?_
        refine run_seq ?_
        refine run_seq ?_
        refine run_region (q_move .n (.t rfl) rfl <|
            q_nilc_ow .n (.t rfl) rfl <|
            q_fld_ow .n (.t rfl) fo_95_4 rfl <|
            q_ld1_ow .n (.t rfl) rfl (.inr rfl) (fun _ => rfl) rfl ic_25 rfl <|
            q_len .n (.t rfl) rfl rfl ss_25 rfl <|
            q_move .n (.c rfl) rfl <|
            Lex.nil) ?_
        refine run_block ?_
        refine run_LOOP (m_impl_shiftSearch_extend_b2 self_ s_ n_ used rec1 k1 x1) _ _ _ rfl (fun (x2 : (List gJob) × Int) => 0 ≤ x2.2 ∧ x2.2 ≤ (x1.2.2.length : Int) ∧ (x2.1.length : Int) + 0 ≤ x2.2 + (([at' s_.list (s_.shifts.length : Int)] : List gJob).length : Int) ∧ (x2.1.length : Int) ≤ x2.2 + 1 ∧ (∀ t ∈ x2.1, 0 ≤ t.Airway ∧ t.Airway < s_.mine.Airways.length)) (fun x2 => 0 ≤ x2.2 ∧ x2.2 ≤ (x1.2.2.length : Int) ∧ (x2.1.length : Int) + 0 ≤ x2.2 + (([at' s_.list (s_.shifts.length : Int)] : List gJob).length : Int) ∧ (x2.1.length : Int) ≤ x2.2 + 1 ∧ (∀ t ∈ x2.1, 0 ≤ t.Airway ∧ t.Airway < s_.mine.Airways.length) ∧ (x1.2.2.length : Int) ≤ x2.2) (fun x2 => ((x1.2.2.length : Int) - x2.2 : Int).toNat) (fun x2 => ⟨[(0, some (true, .op 0 0 0 0)), (1, some (true, .int .i64 n_)), (2, some (true, .int .i64 used)), (7, some (true, .int .i64 (s_.shifts.length : Int))), (8, some (true, .int .i64 x1.1)), (9, some (true, .os 201 x2.1.length)), (27, some (true, .int .i64 (if (IntKind.wrap .i64 (used + 1)) < n_ then (IntKind.wrap .i64 (used + 1)) else n_))), (28, some (true, .int .i64 x1.1)), (42, some (true, .os 200 x1.2.2.length)), (43, some (true, .int .i64 (x1.2.2.length : Int))), (44, some (true, .int .i64 x2.2))], [(0, some (.box 95 [.int .i64 s_.mine.Junctions, .sl 7 (s_.mine.Airways.map gAirway.v), .sl 1 (s_.flows.map (V.int .i64)), .sl 4 (s_.list.map gJob.v), .int .i64 x1.2.1, .os 200 x1.2.2.length])), (200, some (.row 2 1 (x1.2.2.map (V.int .i64)))), (201, some (.row 66 4 (x2.1.map gJob.v)))]⟩) (fun x2 => ⟨[(0, some (true, .op 0 0 0 0)), (1, some (true, .int .i64 n_)), (2, some (true, .int .i64 used)), (7, some (true, .int .i64 (s_.shifts.length : Int))), (8, some (true, .int .i64 x1.1)), (9, some (true, .os 201 x2.1.length)), (27, some (true, .int .i64 (if (IntKind.wrap .i64 (used + 1)) < n_ then (IntKind.wrap .i64 (used + 1)) else n_))), (28, some (true, .int .i64 x1.1))], [(0, some (.box 95 [.int .i64 s_.mine.Junctions, .sl 7 (s_.mine.Airways.map gAirway.v), .sl 1 (s_.flows.map (V.int .i64)), .sl 4 (s_.list.map gJob.v), .int .i64 x1.2.1, .os 200 x1.2.2.length])), (200, some (.row 2 1 (x1.2.2.map (V.int .i64)))), (201, some (.row 66 4 (x2.1.map gJob.v)))]⟩) ⟨by omega, by omega, by (simp only [List.length_append, List.length_cons, List.length_nil, List.length_replicate, put_len] at * <;> omega), by (simp only [List.length_append, List.length_cons, List.length_nil, List.length_replicate, put_len] at * <;> omega), by ((intro t ht; rw [List.mem_singleton] at ht; rw [ht]; exact JobsIn.at hp3 (by omega)))⟩ (by omega) (sub_of [] ⟨rfl, rfl, rfl, rfl, rfl, rfl, rfl, rfl, rfl, rfl, rfl, trivial⟩ ⟨rfl, rfl, rfl, trivial⟩ rfl) ?_ ?_
        · intro x2 i11
          obtain ⟨e16, e17, e18, e19, e20, e21⟩ := i11
          try dsimp only at *
          refine run_seq ?_
          refine run_seq ?_
          refine run_draw fmo (q_move .n (.t rfl) rfl <|
              q_nilc_ow .n (.t rfl) rfl <|
              q_fld_ow .n (.t rfl) fo_95_0 rfl <|
              q_ldN_ow .n (.t rfl) rfl (.inr rfl) ag_33 (fun _ => rfl) rfl rfl <|
              q_move .n (.t rfl) rfl <|
              q_nilc_ow .n (.t rfl) rfl <|
              q_fld_ow .n (.t rfl) fo_95_1 rfl <|
              q_ld1_ow .n (.t rfl) rfl (.inr rfl) (fun _ => rfl) rfl ic_25 rfl <|
              q_move .n (.t rfl) rfl <|
              q_call0 (full := true) .n .f en_58 (.cons (.t rfl) (.cons (.t rfl) (.cons (.t rfl) .nil))) (.cons (.sts rfl) (.cons (.b (.a (.same rfl))) (.cons (.b (.a (.own rfl rfl rfl (take_all (by simp only [len_map, put_len] <;> rfl)) (by simp only [len_map, put_len] <;> rfl)))) .nil))) (fun hg => c_impl_Mine_fitJobs s_.mine s_.flows x2.1 (by omega) (by omega) (by omega)) rfl (fun _ => rfl) rfl <|
              q_not .n (.t rfl) rfl <|
              Lex.nil) (by kernel_rfl) ?_
          refine run_cond (.t rfl) rfl (fun h12 => ?_) (fun h12 => ?_)
          · try simp only [Bool.and_eq_true, Bool.or_eq_true, Bool.not_eq_true', Bool.and_eq_false_iff, Bool.or_eq_false_iff, Bool.not_eq_false', decide_eq_true_eq, decide_eq_false_iff_not, beq_iff_eq, bne_iff_ne, beq_eq_false_iff_ne, bne_eq_false_iff_eq, Bool.true_and, ne_eq, Decidable.not_not, Int.not_lt, Int.not_le, Nat.not_lt, Nat.not_le, strB_nil, strB_nil', strB_nnil, strB_nnil'] at h12
            refine run_exit rfl ?_
            refine run_region (q_add .n (.t rfl) (.c rfl) (fun _ => by omega) rfl <|
                q_move .n (.t rfl) rfl <|
                Lex.nil) ?_
            exact run_again (x1.1 + 1, x1.2.1, x1.2.2) ⟨by omega, by omega, by omega⟩ (by omega) (sub_of [] ⟨rfl, rfl, rfl, rfl, rfl, rfl, trivial⟩ ⟨rfl, rfl, trivial⟩ rfl)
          · try simp only [Bool.and_eq_true, Bool.or_eq_true, Bool.not_eq_true', Bool.and_eq_false_iff, Bool.or_eq_false_iff, Bool.not_eq_false', decide_eq_true_eq, decide_eq_false_iff_not, beq_iff_eq, bne_iff_ne, beq_eq_false_iff_ne, bne_eq_false_iff_eq, Bool.true_and, ne_eq, Decidable.not_not, Int.not_lt, Int.not_le, Nat.not_lt, Nat.not_le, strB_nil, strB_nil', strB_nnil, strB_nnil'] at h12
            refine run_skip ?_
            refine run_seq ?_
            refine run_seq ?_
            refine run_region (q_move .n (.t rfl) rfl <|
                q_nilc_ow .n (.t rfl) rfl <|
                q_fld_ow .n (.t rfl) fo_95_3 rfl <|
                q_ld1_ow .n (.t rfl) rfl (.inr rfl) (fun _ => rfl) rfl ic_2 rfl <|
                q_int .n (.t rfl) (.c rfl) rfl rfl <|
                q_nilc_ow .n (.t rfl) rfl <|
                q_fld_ow .n (.t rfl) fo_95_3 rfl <|
                q_st_boxm [.int .i64 s_.mine.Junctions, .sl 7 (s_.mine.Airways.map gAirway.v), .sl 1 (s_.flows.map (V.int .i64)), .sl 4 (s_.list.map gJob.v), .int .i64 (IntKind.wrap .i64 (x1.2.1 - 1)), .os 200 x1.2.2.length] .n rfl (.t rfl) (.t rfl) rfl ts_2 rfl rfl <|
                Lex.nil) ?_
            refine run_seq ?_
            refine run_region (q_move .n (.t rfl) rfl <|
                q_nilc_ow .n (.t rfl) rfl <|
                q_fld_ow .n (.t rfl) fo_95_3 rfl <|
                q_ld1_ow .n (.t rfl) rfl (.inr rfl) (fun _ => rfl) rfl ic_2 rfl <|
                q_int .n (.t rfl) (.c rfl) rfl rfl <|
                Lex.nil) ?_
            refine run_cond (.t rfl) rfl (fun h13 => ?_) (fun h13 => ?_)
            · try simp only [Bool.and_eq_true, Bool.or_eq_true, Bool.not_eq_true', Bool.and_eq_false_iff, Bool.or_eq_false_iff, Bool.not_eq_false', decide_eq_true_eq, decide_eq_false_iff_not, beq_iff_eq, bne_iff_ne, beq_eq_false_iff_ne, bne_eq_false_iff_eq, Bool.true_and, ne_eq, Decidable.not_not, Int.not_lt, Int.not_le, Nat.not_lt, Nat.not_le, strB_nil, strB_nil', strB_nnil, strB_nnil'] at h13
              refine run_seq ?_
              refine run_region (q_assign .n (.c rfl) rfl <|
                  Lex.nil) ?_
              exact run_ret [(100, 200)] (.cons (.t rfl rfl) .nil) rfl ⟨rfl, rfl, trivial⟩ rfl
            · try simp only [Bool.and_eq_true, Bool.or_eq_true, Bool.not_eq_true', Bool.and_eq_false_iff, Bool.or_eq_false_iff, Bool.not_eq_false', decide_eq_true_eq, decide_eq_false_iff_not, beq_iff_eq, bne_iff_ne, beq_eq_false_iff_ne, bne_eq_false_iff_eq, Bool.true_and, ne_eq, Decidable.not_not, Int.not_lt, Int.not_le, Nat.not_lt, Nat.not_le, strB_nil, strB_nil', strB_nnil, strB_nnil'] at h13
              refine run_skip ?_
              refine run_seq ?_
              refine run_region (q_move .n (.t rfl) rfl <|
                  q_move .n (.t rfl) rfl <|
                  q_nilc_ow .n (.t rfl) rfl <|
                  q_fld_ow .n (.t rfl) fo_95_4 rfl <|
                  q_ld1_ow .n (.t rfl) rfl (.inr rfl) (fun _ => rfl) rfl ic_25 rfl <|
                  q_move .n (.t rfl) rfl <|
                  q_bslicem ([x1.1] : List Int) (f := V.int .i64) (l := 204) .n rfl rfl (.cons (.t rfl) .nil) rfl si_25 zv_2 rfl rfl rfl <|
                  q_appm (xs := x1.2.2) (ys := ([x1.1] : List Int)) (f := V.int .i64) (l := 205) .n rfl (.ow (.t rfl) rfl (take_all (by simp only [len_map, put_len] <;> rfl)) (by simp only [len_map, put_len] <;> rfl)) (.ow (.t rfl) rfl (take_all (by simp only [len_map, put_len] <;> rfl)) (by simp only [len_map, put_len] <;> rfl)) si_25 zv_2 rfl (by ((have he := congrArg List.length (show x1.2.2 = s_.shifts by assumption); (try dsimp only); simp only [List.length_append, List.length_cons, List.length_nil] at *; omega))) rfl rfl <|
                  q_nilc_ow .n (.t rfl) rfl <|
                  q_fld_ow .n (.t rfl) fo_95_4 rfl <|
                  q_st_boxm [.int .i64 s_.mine.Junctions, .sl 7 (s_.mine.Airways.map gAirway.v), .sl 1 (s_.flows.map (V.int .i64)), .sl 4 (s_.list.map gJob.v), .int .i64 (IntKind.wrap .i64 (x1.2.1 - 1)), .os 205 (x1.2.2 ++ ([x1.1] : List Int)).length] .n rfl (.t rfl) (.t rfl) rfl ts_25 rfl rfl <|
                  Lex.nil) ?_
              refine run_seq ?_
              refine run_seq ?_
              refine run_region (q_move .n (.t rfl) rfl <|
                  q_move .n (.t rfl) rfl <|
                  q_move .n (.t rfl) rfl <|
                  q_move .n (.t rfl) rfl <|
                  q_add .n (.t rfl) (.c rfl) (fun _ => by omega) rfl <|
                  q_max .n (.t rfl) (.t rfl) rfl <|
                  q_callM (full := false) [(0, 0), (15, 205)] [(100, 206)] .n rfl .f en_59 (.cons (.t rfl) (.cons (.t rfl) (.cons (.t rfl) .nil))) (.cons (.b (.mutp rfl)) (.cons (.b (.a (.same rfl))) (.cons (.b (.a (.same rfl))) .nil))) (ih (gshiftSearch.mk s_.mine s_.flows s_.list (IntKind.wrap .i64 (x1.2.1 - 1)) (x1.2.2 ++ ([x1.1] : List Int))) n_ (if used < (x1.1 + 1) then (x1.1 + 1) else used) (by omega) (by omega) (by omega) (by ((have he := congrArg List.length (show x1.2.2 = s_.shifts by assumption); (try dsimp only); simp only [List.length_append, List.length_cons, List.length_nil] at *; omega))) (by omega) (by omega) (by ((have he := congrArg List.length (show x1.2.2 = s_.shifts by assumption); (try dsimp only); simp only [List.length_append, List.length_cons, List.length_nil] at *; omega)))) ⟨rfl, rfl, trivial⟩ rfl rfl (fun h => Bool.noConfusion h) (fun h => Bool.noConfusion h) rfl <|
                  Lex.nil) ?_
              refine run_cond (.t rfl) rfl (fun h14 => ?_) (fun h14 => ?_)
              · try simp only [Bool.and_eq_true, Bool.or_eq_true, Bool.not_eq_true', Bool.and_eq_false_iff, Bool.or_eq_false_iff, Bool.not_eq_false', decide_eq_true_eq, decide_eq_false_iff_not, beq_iff_eq, bne_iff_ne, beq_eq_false_iff_ne, bne_eq_false_iff_eq, Bool.true_and, ne_eq, Decidable.not_not, Int.not_lt, Int.not_le, Nat.not_lt, Nat.not_le, strB_nil, strB_nil', strB_nnil, strB_nnil'] at h14
                refine run_seq ?_
                refine run_region (q_assign .n (.c rfl) rfl <|
                    Lex.nil) ?_
                exact run_ret [(100, 206)] (.cons (.t rfl rfl) .nil) rfl ⟨rfl, rfl, trivial⟩ rfl
              · try simp only [Bool.and_eq_true, Bool.or_eq_true, Bool.not_eq_true', Bool.and_eq_false_iff, Bool.or_eq_false_iff, Bool.not_eq_false', decide_eq_true_eq, decide_eq_false_iff_not, beq_iff_eq, bne_iff_ne, beq_eq_false_iff_ne, bne_eq_false_iff_eq, Bool.true_and, ne_eq, Decidable.not_not, Int.not_lt, Int.not_le, Nat.not_lt, Nat.not_le, strB_nil, strB_nil', strB_nnil, strB_nnil'] at h14
                refine run_skip ?_
                refine run_seq ?_
                refine run_region (q_move .n (.t rfl) rfl <|
                    q_move .n (.t rfl) rfl <|
                    q_nilc_ow .n (.t rfl) rfl <|
                    q_fld_ow .n (.t rfl) fo_95_4 rfl <|
                    q_ld1_ow .n (.t rfl) rfl (.inr rfl) (fun _ => rfl) rfl ic_25 rfl <|
                    q_move .n (.t rfl) rfl <|
                    q_cut_owm (xs := (self_ (gshiftSearch.mk s_.mine s_.flows s_.list (IntKind.wrap .i64 (x1.2.1 - 1)) (x1.2.2 ++ ([x1.1] : List Int))) n_ (if used < (x1.1 + 1) then (x1.1 + 1) else used)).2.shifts) (b := (s_.shifts.length : Int)) .n (.t rfl) (.s (.t rfl)) sl_25 (fun _ => by ((have he := (show x1.2.2 = s_.shifts by assumption); simp only [he] at *; have hq := hself (gshiftSearch.mk s_.mine s_.flows s_.list (IntKind.wrap .i64 (x1.2.1 - 1)) (s_.shifts ++ ([x1.1] : List Int))) n_ (if used < (x1.1 + 1) then (x1.1 + 1) else used) (by (try dsimp only); (try simp only [List.length_append, List.length_cons, List.length_nil]); omega) (by (try dsimp only); (try simp only [List.length_append, List.length_cons, List.length_nil]); omega) (by assumption); (try dsimp only at hq); rw [hq]; simp only [List.length_append, List.length_cons, List.length_nil]; omega))) rfl <|
                    q_nilc_ow .n (.t rfl) rfl <|
                    q_fld_ow .n (.t rfl) fo_95_4 rfl <|
                    q_st_boxm [.int .i64 s_.mine.Junctions, .sl 7 (s_.mine.Airways.map gAirway.v), .sl 1 (s_.flows.map (V.int .i64)), .sl 4 (s_.list.map gJob.v), .int .i64 (self_ (gshiftSearch.mk s_.mine s_.flows s_.list (IntKind.wrap .i64 (x1.2.1 - 1)) (x1.2.2 ++ ([x1.1] : List Int))) n_ (if used < (x1.1 + 1) then (x1.1 + 1) else used)).2.budget, .os 206 (pre' (self_ (gshiftSearch.mk s_.mine s_.flows s_.list (IntKind.wrap .i64 (x1.2.1 - 1)) (x1.2.2 ++ ([x1.1] : List Int))) n_ (if used < (x1.1 + 1) then (x1.1 + 1) else used)).2.shifts (s_.shifts.length : Int)).length] .n rfl (.t rfl) (.t rfl) rfl ts_25 rfl rfl <|
                    Lex.nil) ?_
                refine run_shrink (f := V.int .i64) (xs := (self_ (gshiftSearch.mk s_.mine s_.flows s_.list (IntKind.wrap .i64 (x1.2.1 - 1)) (x1.2.2 ++ ([x1.1] : List Int))) n_ (if used < (x1.1 + 1) then (x1.1 + 1) else used)).2.shifts) (l := 206) (s_.shifts.length : Int) rfl ?_
                refine run_seq ?_
                refine run_region (q_move .n (.t rfl) rfl <|
                    q_nilc_ow .n (.t rfl) rfl <|
                    q_fld_ow .n (.t rfl) fo_95_3 rfl <|
                    q_ld1_ow .n (.t rfl) rfl (.inr rfl) (fun _ => rfl) rfl ic_2 rfl <|
                    q_int .n (.t rfl) (.c rfl) rfl rfl <|
                    Lex.nil) ?_
                refine run_cond (.t rfl) rfl (fun h15 => ?_) (fun h15 => ?_)
                · try simp only [Bool.and_eq_true, Bool.or_eq_true, Bool.not_eq_true', Bool.and_eq_false_iff, Bool.or_eq_false_iff, Bool.not_eq_false', decide_eq_true_eq, decide_eq_false_iff_not, beq_iff_eq, bne_iff_ne, beq_eq_false_iff_ne, bne_eq_false_iff_eq, Bool.true_and, ne_eq, Decidable.not_not, Int.not_lt, Int.not_le, Nat.not_lt, Nat.not_le, strB_nil, strB_nil', strB_nnil, strB_nnil'] at h15
                  refine run_seq ?_
                  refine run_region (q_assign .n (.c rfl) rfl <|
                      Lex.nil) ?_
                  exact run_ret [(100, 206)] (.cons (.t rfl rfl) .nil) rfl ⟨rfl, rfl, trivial⟩ rfl
                · try simp only [Bool.and_eq_true, Bool.or_eq_true, Bool.not_eq_true', Bool.and_eq_false_iff, Bool.or_eq_false_iff, Bool.not_eq_false', decide_eq_true_eq, decide_eq_false_iff_not, beq_iff_eq, bne_iff_ne, beq_eq_false_iff_ne, bne_eq_false_iff_eq, Bool.true_and, ne_eq, Decidable.not_not, Int.not_lt, Int.not_le, Nat.not_lt, Nat.not_le, strB_nil, strB_nil', strB_nnil, strB_nnil'] at h15
                  refine run_skip ?_
                  refine run_endB ?_
                  refine run_region (q_add .n (.t rfl) (.c rfl) (fun _ => by omega) rfl <|
                      q_move .n (.t rfl) rfl <|
                      Lex.nil) ?_
                  exact run_again (x1.1 + 1, (self_ (gshiftSearch.mk s_.mine s_.flows s_.list (IntKind.wrap .i64 (x1.2.1 - 1)) (x1.2.2 ++ ([x1.1] : List Int))) n_ (if used < (x1.1 + 1) then (x1.1 + 1) else used)).2.budget, pre' (self_ (gshiftSearch.mk s_.mine s_.flows s_.list (IntKind.wrap .i64 (x1.2.1 - 1)) (x1.2.2 ++ ([x1.1] : List Int))) n_ (if used < (x1.1 + 1) then (x1.1 + 1) else used)).2.shifts (s_.shifts.length : Int)) ⟨by omega, by omega, by ((have he := (show x1.2.2 = s_.shifts by assumption); simp only [he] at *; have hq := hself (gshiftSearch.mk s_.mine s_.flows s_.list (IntKind.wrap .i64 (x1.2.1 - 1)) (s_.shifts ++ ([x1.1] : List Int))) n_ (if used < (x1.1 + 1) then (x1.1 + 1) else used) (by (try dsimp only); (try simp only [List.length_append, List.length_cons, List.length_nil]); omega) (by (try dsimp only); (try simp only [List.length_append, List.length_cons, List.length_nil]); omega) (by assumption); (try dsimp only at hq); rw [hq, pre_app]))⟩ (by omega) (sub_of [(200, 206)] ⟨rfl, rfl, rfl, rfl, rfl, rfl, trivial⟩ ⟨rfl, rfl, trivial⟩ rfl)
        · intro rec2 k2 hk7 x2 i8
          obtain ⟨e22, e23, e24, e25, e26⟩ := i8
          try dsimp only at *
          refine run_seq ?_
          refine run_region (q_int .n (.t rfl) (.t rfl) rfl rfl <|
              Lex.nil) ?_
          refine run_seq ?_
          refine run_cond (.t rfl) rfl (fun h9 => ?_) (fun h9 => ?_)
          · try simp only [Bool.and_eq_true, Bool.or_eq_true, Bool.not_eq_true', Bool.and_eq_false_iff, Bool.or_eq_false_iff, Bool.not_eq_false', decide_eq_true_eq, decide_eq_false_iff_not, beq_iff_eq, bne_iff_ne, beq_eq_false_iff_ne, bne_eq_false_iff_eq, Bool.true_and, ne_eq, Decidable.not_not, Int.not_lt, Int.not_le, Nat.not_lt, Nat.not_le, strB_nil, strB_nil', strB_nnil, strB_nnil'] at h9
            refine run_skip ?_
            refine run_seq ?_
            refine run_block ?_
            refine run_seq ?_
            refine run_region (q_move .n (.t rfl) rfl <|
                q_idx_ow .n (.t rfl) (.t rfl) sl_25 (fun _ => by omega) rfl <|
                q_ld1_row .n (.t rfl) rfl (fun _ => by omega) rfl rfl rfl ic_2 rfl <|
                q_assign .n (.t rfl) rfl <|
                q_assign .n (.t rfl) rfl <|
                Lex.nil) ?_
            refine run_seq ?_
            refine run_region (q_move .n (.t rfl) rfl <|
                q_move .n (.t rfl) rfl <|
                q_int .n (.t rfl) (.t rfl) rfl rfl <|
                Lex.nil) ?_
            refine run_cond (.t rfl) rfl (fun h10 => ?_) (fun h10 => ?_)
            · try simp only [Bool.and_eq_true, Bool.or_eq_true, Bool.not_eq_true', Bool.and_eq_false_iff, Bool.or_eq_false_iff, Bool.not_eq_false', decide_eq_true_eq, decide_eq_false_iff_not, beq_iff_eq, bne_iff_ne, beq_eq_false_iff_ne, bne_eq_false_iff_eq, Bool.true_and, ne_eq, Decidable.not_not, Int.not_lt, Int.not_le, Nat.not_lt, Nat.not_le, strB_nil, strB_nil', strB_nnil, strB_nnil'] at h10
              refine run_region (q_move .n (.t rfl) rfl <|
                  q_move .n (.t rfl) rfl <|
                  q_nilc_ow .n (.t rfl) rfl <|
                  q_fld_ow .n (.t rfl) fo_95_2 rfl <|
                  q_ld1_ow .n (.t rfl) rfl (.inr rfl) (fun _ => rfl) rfl ic_36 rfl <|
                  q_move .n (.t rfl) rfl <|
                  q_idx_rm .n (.t rfl) (.t rfl) sl_36 (fun _ => by ((have he := congrArg List.length (show x1.2.2 = s_.shifts by assumption); (try dsimp only); simp only [List.length_append, List.length_cons, List.length_nil] at *; omega))) rfl <|
                  q_ldN_ro .n (.t rfl) ag_66 rfl rfl rfl <|
                  q_bslicem ([at' s_.list x2.2] : List gJob) (f := gJob.v) (l := 202) .n rfl rfl (.cons (.t rfl) .nil) rfl si_36 zv_66 rfl rfl rfl <|
                  q_appm (xs := x2.1) (ys := ([at' s_.list x2.2] : List gJob)) (f := gJob.v) (l := 203) .n rfl (.ow (.t rfl) rfl (take_all (by simp only [len_map, put_len] <;> rfl)) (by simp only [len_map, put_len] <;> rfl)) (.ow (.t rfl) rfl (take_all (by simp only [len_map, put_len] <;> rfl)) (by simp only [len_map, put_len] <;> rfl)) si_36 zv_66 rfl (by ((have he := congrArg List.length (show x1.2.2 = s_.shifts by assumption); (try dsimp only); simp only [List.length_append, List.length_cons, List.length_nil] at *; omega))) rfl rfl <|
                  q_assign .n (.t rfl) rfl <|
                  Lex.nil) ?_
              refine run_endB ?_
              refine run_region (q_add .n (.t rfl) (.c rfl) (fun _ => by ((have he := congrArg List.length (show x1.2.2 = s_.shifts by assumption); (try dsimp only); simp only [List.length_append, List.length_cons, List.length_nil] at *; omega))) rfl <|
                  q_move .n (.t rfl) rfl <|
                  Lex.nil) ?_
              exact run_again (x2.1 ++ ([at' s_.list x2.2] : List gJob), x2.2 + 1) ⟨by omega, by omega, by (simp only [List.length_append, List.length_cons, List.length_nil, List.length_replicate, put_len] at * <;> omega), by (simp only [List.length_append, List.length_cons, List.length_nil, List.length_replicate, put_len] at * <;> omega), by ((have he := congrArg List.length (show x1.2.2 = s_.shifts by assumption); intro t ht; simp only [List.mem_append, List.mem_singleton] at ht; rcases ht with ht | ht; exact (by assumption : ∀ t ∈ x2.1, 0 ≤ t.Airway ∧ t.Airway < s_.mine.Airways.length) t ht; rw [ht]; exact JobsIn.at hp3 (by omega)))⟩ (by omega) (sub_of [(201, 203)] ⟨rfl, rfl, rfl, rfl, rfl, rfl, rfl, rfl, rfl, rfl, rfl, trivial⟩ ⟨rfl, rfl, rfl, trivial⟩ rfl)
            · try simp only [Bool.and_eq_true, Bool.or_eq_true, Bool.not_eq_true', Bool.and_eq_false_iff, Bool.or_eq_false_iff, Bool.not_eq_false', decide_eq_true_eq, decide_eq_false_iff_not, beq_iff_eq, bne_iff_ne, beq_eq_false_iff_ne, bne_eq_false_iff_eq, Bool.true_and, ne_eq, Decidable.not_not, Int.not_lt, Int.not_le, Nat.not_lt, Nat.not_le, strB_nil, strB_nil', strB_nnil, strB_nnil'] at h10
              refine run_skip ?_
              refine run_endB ?_
              refine run_region (q_add .n (.t rfl) (.c rfl) (fun _ => by ((have he := congrArg List.length (show x1.2.2 = s_.shifts by assumption); (try dsimp only); simp only [List.length_append, List.length_cons, List.length_nil] at *; omega))) rfl <|
                  q_move .n (.t rfl) rfl <|
                  Lex.nil) ?_
              exact run_again (x2.1, x2.2 + 1) ⟨by omega, by omega, by (simp only [List.length_append, List.length_cons, List.length_nil, List.length_replicate, put_len] at * <;> omega), by (simp only [List.length_append, List.length_cons, List.length_nil, List.length_replicate, put_len] at * <;> omega), by omega⟩ (by omega) (sub_of [] ⟨rfl, rfl, rfl, rfl, rfl, rfl, rfl, rfl, rfl, rfl, rfl, trivial⟩ ⟨rfl, rfl, rfl, trivial⟩ rfl)
          · try simp only [Bool.and_eq_true, Bool.or_eq_true, Bool.not_eq_true', Bool.and_eq_false_iff, Bool.or_eq_false_iff, Bool.not_eq_false', decide_eq_true_eq, decide_eq_false_iff_not, beq_iff_eq, bne_iff_ne, beq_eq_false_iff_ne, bne_eq_false_iff_eq, Bool.true_and, ne_eq, Decidable.not_not, Int.not_lt, Int.not_le, Nat.not_lt, Nat.not_le, strB_nil, strB_nil', strB_nnil, strB_nnil'] at h9
            refine run_exit rfl ?_
            exact run_cont hk7 (x2.1, x2.2) ⟨by omega, by omega, by omega, by omega, by omega, by omega⟩ (sub_of [] ⟨rfl, rfl, rfl, rfl, rfl, rfl, rfl, rfl, trivial⟩ ⟨rfl, rfl, rfl, trivial⟩ rfl)
      · try simp only [Bool.and_eq_true, Bool.or_eq_true, Bool.not_eq_true', Bool.and_eq_false_iff, Bool.or_eq_false_iff, Bool.not_eq_false', decide_eq_true_eq, decide_eq_false_iff_not, beq_iff_eq, bne_iff_ne, beq_eq_false_iff_ne, bne_eq_false_iff_eq, Bool.true_and, ne_eq, Decidable.not_not, Int.not_lt, Int.not_le, Nat.not_lt, Nat.not_le, strB_nil, strB_nil', strB_nnil, strB_nnil'] at h6
        refine run_exit rfl ?_
        exact run_cont hk4 (x1.1, x1.2.1, x1.2.2) ⟨by omega, by omega, by omega, by omega⟩ (sub_of [] trivial ⟨rfl, rfl, trivial⟩ rfl)
theorem c_impl_shiftSearch_extend (s_ : gshiftSearch) (n_ : Int) (used : Int) (hp1 : MineIn s_.mine) (hp2 : FlowsIn s_.mine s_.flows) (hp3 : JobsIn s_.mine s_.list) (hp4 : (s_.shifts.length : Int) ≤ s_.list.length) (hp5 : 0 ≤ used ∧ used ≤ n_) (hp6 : n_ ≤ 100000) : Con Try.prog 59 [.op 0 0 0 0, .int .i64 n_, .int .i64 used] [(0, some (.box 95 [.int .i64 s_.mine.Junctions, .sl 7 (s_.mine.Airways.map gAirway.v), .sl 1 (s_.flows.map (V.int .i64)), .sl 4 (s_.list.map gJob.v), .int .i64 s_.budget, .os 15 s_.shifts.length])), (15, some (.row 2 1 (s_.shifts.map (V.int .i64))))] (.bool (m_impl_shiftSearch_extend s_ n_ used).1) ([(100, some (.row 2 1 ((m_impl_shiftSearch_extend s_ n_ used).2.shifts.map (V.int .i64)))), (0, some (.box 95 [.int .i64 s_.mine.Junctions, .sl 7 (s_.mine.Airways.map gAirway.v), .sl 1 (s_.flows.map (V.int .i64)), .sl 4 (s_.list.map gJob.v), .int .i64 (m_impl_shiftSearch_extend s_ n_ used).2.budget, .os 100 (m_impl_shiftSearch_extend s_ n_ used).2.shifts.length]))]) := by
  exact c_impl_shiftSearch_extend_n (((s_.list.length : Int) - s_.shifts.length).toNat + 1) s_ n_ used hp1 hp2 hp3 hp4 hp5 hp6 (by omega)


/-! ### impl_FewestShifts -/
set_option maxRecDepth 100000 in
theorem c_impl_FewestShifts (m_ : gMine) (flows : List Int) (list : List gJob) (budget : Int) : Con Try.prog 22 [.st [.int .i64 m_.Junctions, .sl 7 (m_.Airways.map gAirway.v)], .sl 1 (flows.map (V.int .i64)), .sl 4 (list.map gJob.v), .int .i64 budget] [] (.tup [.os 100 (m_impl_FewestShifts m_ flows list budget).1.length, .int .i64 (m_impl_FewestShifts m_ flows list budget).2.1, .int .i64 (m_impl_FewestShifts m_ flows list budget).2.2]) ([(100, some (.row 2 1 ((m_impl_FewestShifts m_ flows list budget).1.map (V.int .i64))))]) := by
  refine con_intro (out := fun r : (List Int) × Int × Int => ((.tup [.os 100 r.1.length, .int .i64 r.2.1, .int .i64 r.2.2] : V), ([(100, some (.row 2 1 (r.1.map (V.int .i64))))] : List (Nat × Option O)))) (r := (m_impl_FewestShifts m_ flows list budget)) Try.func22 rfl Try.ntmps22 rfl ?_
  refine run_factS (t := 0) 1 rfl rfl fun hl => ?_
  have l1 := hl; clear hl; simp only [List.length_map] at l1
  refine run_fact (t := 1) rfl fun hl => ?_
  have l2 := hl; clear hl; simp only [List.length_map] at l2
  refine run_fact (t := 2) rfl fun hl => ?_
  have l3 := hl; clear hl; simp only [List.length_map] at l3
  refine run_seq ?_
  refine run_region (q_box (l := 200) .n rfl (.t rfl) rfl rfl rfl rfl <|
      q_box (l := 201) .n rfl (.t rfl) rfl rfl rfl rfl <|
      q_assign .n (.c rfl) rfl <|
      q_assign .n (.c rfl) rfl <|
      q_assign .n (.c rfl) rfl <|
      Lex.nil) ?_
  refine run_seq ?_
  refine run_region (q_ldN_ow .n (.t rfl) rfl (.inr rfl) ag_33 (fun _ => rfl) rfl rfl <|
      q_ld1_ow .n (.t rfl) rfl (.inr rfl) (fun _ => rfl) rfl ic_25 rfl <|
      q_move .n (.t rfl) rfl <|
      q_call0 (full := false) .n .f en_47 (.cons (.t rfl) (.cons (.t rfl) (.cons (.t rfl) .nil))) (.cons (.sts rfl) (.cons (.b (.a (.same rfl))) (.cons (.b (.a (.same rfl))) .nil))) (fun hg => c_impl_jobsCode m_ flows list) rfl (fun h => Bool.noConfusion h) rfl <|
      q_assign .n (.t rfl) rfl <|
      Lex.nil) ?_
  refine run_seq ?_
  refine run_block ?_
  refine run_seq ?_
  refine run_region (q_move .n (.t rfl) rfl <|
      q_int .n (.t rfl) (.c rfl) rfl rfl <|
      q_assign .n (.t rfl) rfl <|
      Lex.nil) ?_
  refine run_cond (.t rfl) rfl (fun h4 => ?_) (fun h4 => ?_)
  · try simp only [Bool.and_eq_true, Bool.or_eq_true, Bool.not_eq_true', Bool.and_eq_false_iff, Bool.or_eq_false_iff, Bool.not_eq_false', decide_eq_true_eq, decide_eq_false_iff_not, beq_iff_eq, bne_iff_ne, beq_eq_false_iff_ne, bne_eq_false_iff_eq, Bool.true_and, ne_eq, Decidable.not_not, Int.not_lt, Int.not_le, Nat.not_lt, Nat.not_le, strB_nil, strB_nil', strB_nnil, strB_nnil'] at h4
    try have hf0h4 := jobsCode_impM h4
    try have hf1h4 := jobsCode_impM h4.1
    try have hf2h4 := jobsCode_impM h4.2
    try have hf3h4 := jobsCode_impM h4.1.1
    try have hf4h4 := jobsCode_impM h4.1.2
    try have hf5h4 := jobsCode_impM h4.2.1
    try have hf6h4 := jobsCode_impM h4.2.2
    try have hf7h4 := jobsCode_impF h4
    try have hf8h4 := jobsCode_impF h4.1
    try have hf9h4 := jobsCode_impF h4.2
    try have hf10h4 := jobsCode_impF h4.1.1
    try have hf11h4 := jobsCode_impF h4.1.2
    try have hf12h4 := jobsCode_impF h4.2.1
    try have hf13h4 := jobsCode_impF h4.2.2
    try have hf14h4 := jobsCode_impS h4
    try have hf15h4 := jobsCode_impS h4.1
    try have hf16h4 := jobsCode_impS h4.2
    try have hf17h4 := jobsCode_impS h4.1.1
    try have hf18h4 := jobsCode_impS h4.1.2
    try have hf19h4 := jobsCode_impS h4.2.1
    try have hf20h4 := jobsCode_impS h4.2.2
    try have hf21h4 := jobsCode_impJ h4
    try have hf22h4 := jobsCode_impJ h4.1
    try have hf23h4 := jobsCode_impJ h4.2
    try have hf24h4 := jobsCode_impJ h4.1.1
    try have hf25h4 := jobsCode_impJ h4.1.2
    try have hf26h4 := jobsCode_impJ h4.2.1
    try have hf27h4 := jobsCode_impJ h4.2.2
    refine run_seq ?_
    refine run_region (q_move .n (.t rfl) rfl <|
        q_assign .n (.c rfl) rfl <|
        q_assign .n (.c rfl) rfl <|
        q_assign .n (.t rfl) rfl <|
        Lex.nil) ?_
    refine run_sub (sub_adopt (t := 8) (l := 202) (el := 2) (sz := 1) rfl rfl) ?_
    exact run_ret [(100, 202)] (.cons (.t rfl rfl) (.cons (.t rfl rfl) (.cons (.t rfl rfl) .nil))) (by first | rfl | (simp only [put_len]; rfl)) ⟨rfl, trivial⟩ rfl
  · try simp only [Bool.and_eq_true, Bool.or_eq_true, Bool.not_eq_true', Bool.and_eq_false_iff, Bool.or_eq_false_iff, Bool.not_eq_false', decide_eq_true_eq, decide_eq_false_iff_not, beq_iff_eq, bne_iff_ne, beq_eq_false_iff_ne, bne_eq_false_iff_eq, Bool.true_and, ne_eq, Decidable.not_not, Int.not_lt, Int.not_le, Nat.not_lt, Nat.not_le, strB_nil, strB_nil', strB_nnil, strB_nnil'] at h4
    try have hf0h4 := jobsCode_impM h4
    try have hf1h4 := jobsCode_impM h4.1
    try have hf2h4 := jobsCode_impM h4.2
    try have hf3h4 := jobsCode_impM h4.1.1
    try have hf4h4 := jobsCode_impM h4.1.2
    try have hf5h4 := jobsCode_impM h4.2.1
    try have hf6h4 := jobsCode_impM h4.2.2
    try have hf7h4 := jobsCode_impF h4
    try have hf8h4 := jobsCode_impF h4.1
    try have hf9h4 := jobsCode_impF h4.2
    try have hf10h4 := jobsCode_impF h4.1.1
    try have hf11h4 := jobsCode_impF h4.1.2
    try have hf12h4 := jobsCode_impF h4.2.1
    try have hf13h4 := jobsCode_impF h4.2.2
    try have hf14h4 := jobsCode_impS h4
    try have hf15h4 := jobsCode_impS h4.1
    try have hf16h4 := jobsCode_impS h4.2
    try have hf17h4 := jobsCode_impS h4.1.1
    try have hf18h4 := jobsCode_impS h4.1.2
    try have hf19h4 := jobsCode_impS h4.2.1
    try have hf20h4 := jobsCode_impS h4.2.2
    try have hf21h4 := jobsCode_impJ h4
    try have hf22h4 := jobsCode_impJ h4.1
    try have hf23h4 := jobsCode_impJ h4.2
    try have hf24h4 := jobsCode_impJ h4.1.1
    try have hf25h4 := jobsCode_impJ h4.1.2
    try have hf26h4 := jobsCode_impJ h4.2.1
    try have hf27h4 := jobsCode_impJ h4.2.2
    refine run_seq ?_
    refine run_region (q_move .n (.t rfl) rfl <|
        q_call0 (full := false) .n .f en_48 (.cons (.t rfl) .nil) (.cons (.b (.a (.same rfl))) .nil) (fun hg => c_impl_budgetValid budget) rfl (fun h => Bool.noConfusion h) rfl <|
        q_not .n (.t rfl) rfl <|
        q_assign .n (.t rfl) rfl <|
        Lex.nil) ?_
    refine run_cond (.t rfl) rfl (fun h5 => ?_) (fun h5 => ?_)
    · try simp only [Bool.and_eq_true, Bool.or_eq_true, Bool.not_eq_true', Bool.and_eq_false_iff, Bool.or_eq_false_iff, Bool.not_eq_false', decide_eq_true_eq, decide_eq_false_iff_not, beq_iff_eq, bne_iff_ne, beq_eq_false_iff_ne, bne_eq_false_iff_eq, Bool.true_and, ne_eq, Decidable.not_not, Int.not_lt, Int.not_le, Nat.not_lt, Nat.not_le, strB_nil, strB_nil', strB_nnil, strB_nnil'] at h5
      try have hf0h5 := budget_imp h5
      try have hf1h5 := budget_imp h5.1
      try have hf2h5 := budget_imp h5.2
      try have hf3h5 := budget_imp h5.1.1
      try have hf4h5 := budget_imp h5.1.2
      try have hf5h5 := budget_imp h5.2.1
      try have hf6h5 := budget_imp h5.2.2
      refine run_seq ?_
      refine run_region (q_assign .n (.c rfl) rfl <|
          q_assign .n (.c rfl) rfl <|
          q_assign .n (.c rfl) rfl <|
          Lex.nil) ?_
      refine run_sub (sub_adopt (t := 8) (l := 203) (el := 2) (sz := 1) rfl rfl) ?_
      exact run_ret [(100, 203)] (.cons (.t rfl rfl) (.cons (.t rfl rfl) (.cons (.t rfl rfl) .nil))) (by first | rfl | (simp only [put_len]; rfl)) ⟨rfl, trivial⟩ rfl
    · try simp only [Bool.and_eq_true, Bool.or_eq_true, Bool.not_eq_true', Bool.and_eq_false_iff, Bool.or_eq_false_iff, Bool.not_eq_false', decide_eq_true_eq, decide_eq_false_iff_not, beq_iff_eq, bne_iff_ne, beq_eq_false_iff_ne, bne_eq_false_iff_eq, Bool.true_and, ne_eq, Decidable.not_not, Int.not_lt, Int.not_le, Nat.not_lt, Nat.not_le, strB_nil, strB_nil', strB_nnil, strB_nnil'] at h5
      try have hf0h5 := budget_imp h5
      try have hf1h5 := budget_imp h5.1
      try have hf2h5 := budget_imp h5.2
      try have hf3h5 := budget_imp h5.1.1
      try have hf4h5 := budget_imp h5.1.2
      try have hf5h5 := budget_imp h5.2.1
      try have hf6h5 := budget_imp h5.2.2
      refine run_seq ?_
      refine run_region (q_move .n (.t rfl) rfl <|
          q_int .n (.t rfl) (.c rfl) rfl rfl <|
          q_assign .n (.t rfl) rfl <|
          Lex.nil) ?_
      refine run_cond (.t rfl) rfl (fun h6 => ?_) (fun h6 => ?_)
      · try simp only [Bool.and_eq_true, Bool.or_eq_true, Bool.not_eq_true', Bool.and_eq_false_iff, Bool.or_eq_false_iff, Bool.not_eq_false', decide_eq_true_eq, decide_eq_false_iff_not, beq_iff_eq, bne_iff_ne, beq_eq_false_iff_ne, bne_eq_false_iff_eq, Bool.true_and, ne_eq, Decidable.not_not, Int.not_lt, Int.not_le, Nat.not_lt, Nat.not_le, strB_nil, strB_nil', strB_nnil, strB_nnil'] at h6
        try have hf0h6 := jobsCode_impM h6
        try have hf1h6 := jobsCode_impM h6.1
        try have hf2h6 := jobsCode_impM h6.2
        try have hf3h6 := jobsCode_impM h6.1.1
        try have hf4h6 := jobsCode_impM h6.1.2
        try have hf5h6 := jobsCode_impM h6.2.1
        try have hf6h6 := jobsCode_impM h6.2.2
        try have hf7h6 := jobsCode_impF h6
        try have hf8h6 := jobsCode_impF h6.1
        try have hf9h6 := jobsCode_impF h6.2
        try have hf10h6 := jobsCode_impF h6.1.1
        try have hf11h6 := jobsCode_impF h6.1.2
        try have hf12h6 := jobsCode_impF h6.2.1
        try have hf13h6 := jobsCode_impF h6.2.2
        try have hf14h6 := jobsCode_impS h6
        try have hf15h6 := jobsCode_impS h6.1
        try have hf16h6 := jobsCode_impS h6.2
        try have hf17h6 := jobsCode_impS h6.1.1
        try have hf18h6 := jobsCode_impS h6.1.2
        try have hf19h6 := jobsCode_impS h6.2.1
        try have hf20h6 := jobsCode_impS h6.2.2
        try have hf21h6 := jobsCode_impJ h6
        try have hf22h6 := jobsCode_impJ h6.1
        try have hf23h6 := jobsCode_impJ h6.2
        try have hf24h6 := jobsCode_impJ h6.1.1
        try have hf25h6 := jobsCode_impJ h6.1.2
        try have hf26h6 := jobsCode_impJ h6.2.1
        try have hf27h6 := jobsCode_impJ h6.2.2
        refine run_seq ?_
        refine run_region (q_move .n (.t rfl) rfl <|
            q_assign .n (.c rfl) rfl <|
            q_assign .n (.c rfl) rfl <|
            q_assign .n (.t rfl) rfl <|
            Lex.nil) ?_
        refine run_sub (sub_adopt (t := 8) (l := 204) (el := 2) (sz := 1) rfl rfl) ?_
        exact run_ret [(100, 204)] (.cons (.t rfl rfl) (.cons (.t rfl rfl) (.cons (.t rfl rfl) .nil))) (by first | rfl | (simp only [put_len]; rfl)) ⟨rfl, trivial⟩ rfl
      · try simp only [Bool.and_eq_true, Bool.or_eq_true, Bool.not_eq_true', Bool.and_eq_false_iff, Bool.or_eq_false_iff, Bool.not_eq_false', decide_eq_true_eq, decide_eq_false_iff_not, beq_iff_eq, bne_iff_ne, beq_eq_false_iff_ne, bne_eq_false_iff_eq, Bool.true_and, ne_eq, Decidable.not_not, Int.not_lt, Int.not_le, Nat.not_lt, Nat.not_le, strB_nil, strB_nil', strB_nnil, strB_nnil'] at h6
        try have hf0h6 := jobsCode_impM h6
        try have hf1h6 := jobsCode_impM h6.1
        try have hf2h6 := jobsCode_impM h6.2
        try have hf3h6 := jobsCode_impM h6.1.1
        try have hf4h6 := jobsCode_impM h6.1.2
        try have hf5h6 := jobsCode_impM h6.2.1
        try have hf6h6 := jobsCode_impM h6.2.2
        try have hf7h6 := jobsCode_impF h6
        try have hf8h6 := jobsCode_impF h6.1
        try have hf9h6 := jobsCode_impF h6.2
        try have hf10h6 := jobsCode_impF h6.1.1
        try have hf11h6 := jobsCode_impF h6.1.2
        try have hf12h6 := jobsCode_impF h6.2.1
        try have hf13h6 := jobsCode_impF h6.2.2
        try have hf14h6 := jobsCode_impS h6
        try have hf15h6 := jobsCode_impS h6.1
        try have hf16h6 := jobsCode_impS h6.2
        try have hf17h6 := jobsCode_impS h6.1.1
        try have hf18h6 := jobsCode_impS h6.1.2
        try have hf19h6 := jobsCode_impS h6.2.1
        try have hf20h6 := jobsCode_impS h6.2.2
        try have hf21h6 := jobsCode_impJ h6
        try have hf22h6 := jobsCode_impJ h6.1
        try have hf23h6 := jobsCode_impJ h6.2
        try have hf24h6 := jobsCode_impJ h6.1.1
        try have hf25h6 := jobsCode_impJ h6.1.2
        try have hf26h6 := jobsCode_impJ h6.2.1
        try have hf27h6 := jobsCode_impJ h6.2.2
        refine run_seq ?_
        refine run_region (q_move .n (.t rfl) rfl <|
            q_clo .n (.cons (.t rfl) (.cons (.t rfl) .nil)) rfl rfl <|
            q_call0 (full := true) .n .f en_56 (.cons (.t rfl) (.cons (.t rfl) .nil)) (.cons (.b (.a (.same rfl))) (.cons (.clo (.cons (.ptr rfl rfl (.inr rfl) rfl rfl (.cons (.same rfl) (.cons (.same rfl) .nil))) (.cons (.ptr rfl rfl (.inr rfl) rfl rfl (.cons (.same rfl) .nil)) .nil))) .nil)) (fun hg => c_slices_ContainsFunc_impl_Job list (fun (a0 : gJob) => m_impl_FewestShifts_1 a0 m_ flows) 57 [.rp [.int .i64 m_.Junctions, .sl 7 (m_.Airways.map gAirway.v)], .rp [.sl 1 (flows.map (V.int .i64))]] en_57 rfl (fun t => 0 ≤ t.Airway ∧ t.Airway < m_.Airways.length) (fun a0 hq0 => c_impl_FewestShifts_1 a0 m_ flows (by (try dsimp only at *); omega) (by (try dsimp only at *); omega) (by (try dsimp only at *); omega)) (by (exact (by assumption : JobsIn _ _).air))) rfl (fun _ => rfl) rfl <|
            q_assign .n (.t rfl) rfl <|
            Lex.nil) ?_
        refine run_cond (.t rfl) rfl (fun h7 => ?_) (fun h7 => ?_)
        · try simp only [Bool.and_eq_true, Bool.or_eq_true, Bool.not_eq_true', Bool.and_eq_false_iff, Bool.or_eq_false_iff, Bool.not_eq_false', decide_eq_true_eq, decide_eq_false_iff_not, beq_iff_eq, bne_iff_ne, beq_eq_false_iff_ne, bne_eq_false_iff_eq, Bool.true_and, ne_eq, Decidable.not_not, Int.not_lt, Int.not_le, Nat.not_lt, Nat.not_le, strB_nil, strB_nil', strB_nnil, strB_nnil'] at h7
          try have hf0h7 := cont_imp h7
          try have hf1h7 := cont_imp h7.1
          try have hf2h7 := cont_imp h7.2
          try have hf3h7 := cont_imp h7.1.1
          try have hf4h7 := cont_imp h7.1.2
          try have hf5h7 := cont_imp h7.2.1
          try have hf6h7 := cont_imp h7.2.2
          refine run_seq ?_
          refine run_region (q_assign .n (.c rfl) rfl <|
              q_assign .n (.c rfl) rfl <|
              q_assign .n (.c rfl) rfl <|
              Lex.nil) ?_
          refine run_sub (sub_adopt (t := 8) (l := 205) (el := 2) (sz := 1) rfl rfl) ?_
          exact run_ret [(100, 205)] (.cons (.t rfl rfl) (.cons (.t rfl rfl) (.cons (.t rfl rfl) .nil))) (by first | rfl | (simp only [put_len]; rfl)) ⟨rfl, trivial⟩ rfl
        · try simp only [Bool.and_eq_true, Bool.or_eq_true, Bool.not_eq_true', Bool.and_eq_false_iff, Bool.or_eq_false_iff, Bool.not_eq_false', decide_eq_true_eq, decide_eq_false_iff_not, beq_iff_eq, bne_iff_ne, beq_eq_false_iff_ne, bne_eq_false_iff_eq, Bool.true_and, ne_eq, Decidable.not_not, Int.not_lt, Int.not_le, Nat.not_lt, Nat.not_le, strB_nil, strB_nil', strB_nnil, strB_nnil'] at h7
          try have hf0h7 := cont_imp h7
          try have hf1h7 := cont_imp h7.1
          try have hf2h7 := cont_imp h7.2
          try have hf3h7 := cont_imp h7.1.1
          try have hf4h7 := cont_imp h7.1.2
          try have hf5h7 := cont_imp h7.2.1
          try have hf6h7 := cont_imp h7.2.2
          refine run_skip ?_
          refine run_endB ?_
          refine run_seq ?_
          refine run_region (q_ldN_ow .n (.t rfl) rfl (.inr rfl) ag_33 (fun _ => rfl) rfl rfl <|
              q_ld1_ow .n (.t rfl) rfl (.inr rfl) (fun _ => rfl) rfl ic_25 rfl <|
              q_move .n (.t rfl) rfl <|
              q_move .n (.t rfl) rfl <|
              q_build (us := [.int .i64 m_.Junctions, .sl 7 (m_.Airways.map gAirway.v), .sl 1 (flows.map (V.int .i64)), .sl 4 (list.map gJob.v), .int .i64 budget, .nls]) .n (.cons (.t rfl) (.cons (.t rfl) (.cons (.t rfl) (.cons (.t rfl) .nil)))) zv_95 pl_95 rfl rfl rfl <|
              q_alloc (l := 206) .n rfl zv_95 rfl rfl <|
              q_st_boxm [.int .i64 m_.Junctions, .sl 7 (m_.Airways.map gAirway.v), .sl 1 (flows.map (V.int .i64)), .sl 4 (list.map gJob.v), .int .i64 budget, .nls] .n rfl (.t rfl) (.t rfl) rfl ts_95 rfl rfl <|
              Lex.nil) ?_
          refine run_seq ?_
          refine run_region (q_assign .n (.c rfl) rfl <|
              Lex.nil) ?_
          refine run_block ?_
          refine run_sub (sub_adoptb (b := 206) (l := 207) (el := 2) (sz := 1) 5 rfl rfl rfl rfl) ?_
          refine run_LOOP (m_impl_FewestShifts_b1 m_ flows list budget) _ _ _ rfl (fun (x1 : Int × (List Int) × Int) => 0 ≤ x1.2.2 ∧ x1.2.1 = [] ∧ (0 ≤ x1.1 ∧ x1.1 ≤ budget) ∧ (0 ≤ x1.2.2 ∧ x1.2.2 + x1.1 ≤ budget + 1)) (fun x1 => False) (fun x1 => (2 * x1.1 + (if x1.2.2 = 0 then 1 else 0)).toNat) (fun x1 => ⟨[(12, some (true, .op 206 0 0 0)), (13, some (true, .int .i64 x1.2.2))], [(206, some (.box 95 [.int .i64 m_.Junctions, .sl 7 (m_.Airways.map gAirway.v), .sl 1 (flows.map (V.int .i64)), .sl 4 (list.map gJob.v), .int .i64 x1.1, .os 207 x1.2.1.length])), (207, some (.row 2 1 (x1.2.1.map (V.int .i64))))]⟩) (fun x1 => ⟨[], []⟩) ⟨by (simp only [List.length_append, List.length_cons, List.length_nil, List.length_replicate, put_len] at * <;> omega), by (simp only [List.length_append, List.length_cons, List.length_nil, List.length_replicate, put_len] at * <;> omega), by omega, by (simp only [List.length_append, List.length_cons, List.length_nil, List.length_replicate, put_len] at * <;> omega)⟩ (by omega) (sub_of [] ⟨rfl, rfl, trivial⟩ ⟨rfl, rfl, trivial⟩ rfl) ?_ ?_
          · intro x1 i12
            exact i12.elim
          · intro rec1 k1 hk8 x1 i9
            obtain ⟨e13, e14, e15, e16⟩ := i9
            try dsimp only at *
            refine run_seq ?_
            refine run_block ?_
            refine run_seq ?_
            refine run_seq ?_
            refine run_region (q_move .n (.t rfl) rfl <|
                q_callM (full := false) [(0, 206), (15, 207)] [(100, 208)] .n rfl .f en_59 (.cons (.t rfl) (.cons (.t rfl) (.cons (.c rfl) .nil))) (.cons (.b (.mutp rfl)) (.cons (.b (.a (.same rfl))) (.cons (.b (.a (.same rfl))) .nil))) (c_impl_shiftSearch_extend (gshiftSearch.mk m_ flows list x1.1 x1.2.1) x1.2.2 0 (by omega) (by omega) (by omega) (by ((have he := (show x1.2.1 = [] by assumption); (try dsimp only); rw [he]; exact Int.natCast_nonneg _))) (by omega) (by omega)) ⟨rfl, rfl, trivial⟩ rfl rfl (fun h => Bool.noConfusion h) (fun h => Bool.noConfusion h) rfl <|
                Lex.nil) ?_
            refine run_cond (.t rfl) rfl (fun h10 => ?_) (fun h10 => ?_)
            · try simp only [Bool.and_eq_true, Bool.or_eq_true, Bool.not_eq_true', Bool.and_eq_false_iff, Bool.or_eq_false_iff, Bool.not_eq_false', decide_eq_true_eq, decide_eq_false_iff_not, beq_iff_eq, bne_iff_ne, beq_eq_false_iff_ne, bne_eq_false_iff_eq, Bool.true_and, ne_eq, Decidable.not_not, Int.not_lt, Int.not_le, Nat.not_lt, Nat.not_le, strB_nil, strB_nil', strB_nnil, strB_nnil'] at h10
              refine run_seq ?_
              refine run_region (q_fld_ow .n (.t rfl) fo_95_4 rfl <|
                  q_ld1_ow .n (.t rfl) rfl (.inr rfl) (fun _ => rfl) rfl ic_25 rfl <|
                  q_move .n (.t rfl) rfl <|
                  q_assign .n (.t rfl) rfl <|
                  q_assign .n (.t rfl) rfl <|
                  q_assign .n (.c rfl) rfl <|
                  Lex.nil) ?_
              exact run_ret [(100, 208)] (.cons (.t rfl rfl) (.cons (.t rfl rfl) (.cons (.t rfl rfl) .nil))) (by first | rfl | (simp only [put_len]; rfl)) ⟨rfl, trivial⟩ rfl
            · try simp only [Bool.and_eq_true, Bool.or_eq_true, Bool.not_eq_true', Bool.and_eq_false_iff, Bool.or_eq_false_iff, Bool.not_eq_false', decide_eq_true_eq, decide_eq_false_iff_not, beq_iff_eq, bne_iff_ne, beq_eq_false_iff_ne, bne_eq_false_iff_eq, Bool.true_and, ne_eq, Decidable.not_not, Int.not_lt, Int.not_le, Nat.not_lt, Nat.not_le, strB_nil, strB_nil', strB_nnil, strB_nnil'] at h10
              refine run_skip ?_
              refine run_seq ?_
              refine run_region (q_fld_ow .n (.t rfl) fo_95_3 rfl <|
                  q_ld1_ow .n (.t rfl) rfl (.inr rfl) (fun _ => rfl) rfl ic_2 rfl <|
                  q_int .n (.t rfl) (.c rfl) rfl rfl <|
                  Lex.nil) ?_
              refine run_cond (.t rfl) rfl (fun h11 => ?_) (fun h11 => ?_)
              · try simp only [Bool.and_eq_true, Bool.or_eq_true, Bool.not_eq_true', Bool.and_eq_false_iff, Bool.or_eq_false_iff, Bool.not_eq_false', decide_eq_true_eq, decide_eq_false_iff_not, beq_iff_eq, bne_iff_ne, beq_eq_false_iff_ne, bne_eq_false_iff_eq, Bool.true_and, ne_eq, Decidable.not_not, Int.not_lt, Int.not_le, Nat.not_lt, Nat.not_le, strB_nil, strB_nil', strB_nnil, strB_nnil'] at h11
                refine run_seq ?_
                refine run_region (q_assign .n (.c rfl) rfl <|
                    q_assign .n (.c rfl) rfl <|
                    q_assign .n (.c rfl) rfl <|
                    Lex.nil) ?_
                refine run_sub (sub_adopt (t := 8) (l := 209) (el := 2) (sz := 1) rfl rfl) ?_
                exact run_ret [(100, 209)] (.cons (.t rfl rfl) (.cons (.t rfl rfl) (.cons (.t rfl rfl) .nil))) (by first | rfl | (simp only [put_len]; rfl)) ⟨rfl, trivial⟩ rfl
              · try simp only [Bool.and_eq_true, Bool.or_eq_true, Bool.not_eq_true', Bool.and_eq_false_iff, Bool.or_eq_false_iff, Bool.not_eq_false', decide_eq_true_eq, decide_eq_false_iff_not, beq_iff_eq, bne_iff_ne, beq_eq_false_iff_ne, bne_eq_false_iff_eq, Bool.true_and, ne_eq, Decidable.not_not, Int.not_lt, Int.not_le, Nat.not_lt, Nat.not_le, strB_nil, strB_nil', strB_nnil, strB_nnil'] at h11
                refine run_skip ?_
                refine run_endB ?_
                refine run_region (q_move .n (.t rfl) rfl <|
                    q_add .n (.t rfl) (.c rfl) (fun _ => by omega) rfl <|
                    q_assign .n (.t rfl) rfl <|
                    Lex.nil) ?_
                exact run_again ((m_impl_shiftSearch_extend (gshiftSearch.mk m_ flows list x1.1 x1.2.1) x1.2.2 0).2.budget, (m_impl_shiftSearch_extend (gshiftSearch.mk m_ flows list x1.1 x1.2.1) x1.2.2 0).2.shifts, x1.2.2 + 1) ⟨by (simp only [List.length_append, List.length_cons, List.length_nil, List.length_replicate, put_len] at * <;> omega), by ((have he := (show x1.2.1 = [] by assumption); (try simp only [he] at *); exact round_sh (by assumption) (by omega) (by omega) (by assumption) (by assumption))), by ((have he := (show x1.2.1 = [] by assumption); (try simp only [he] at *); have hq := round_bd (b := x1.1) (n := x1.2.2) (by assumption : JobsIn m_ list) (by omega) (by omega) (by assumption) (by assumption); omega)), by ((have he := (show x1.2.1 = [] by assumption); (try simp only [he] at *); have hq := round_bd (b := x1.1) (n := x1.2.2) (by assumption : JobsIn m_ list) (by omega) (by omega) (by assumption) (by assumption); omega))⟩ (by ((have he := (show x1.2.1 = [] by assumption); (try simp only [he] at *); have hq := round_bd (b := x1.1) (n := x1.2.2) (by assumption : JobsIn m_ list) (by omega) (by omega) (by assumption) (by assumption); omega))) (sub_of [(207, 208)] ⟨rfl, rfl, trivial⟩ ⟨rfl, rfl, trivial⟩ rfl)

/-! ### laws_FnExactFewestShifts -/
set_option maxRecDepth 100000 in
set_option maxHeartbeats 4000000 in
theorem c_laws_FnExactFewestShifts (aM : gMine) (aFlows : List Int) (aList : List gJob) (aBudget : Int) (hp1 : gMine.ok aM) (hp2 : aFlows.length ≤ 9223372036854775807 ∧ ∀ y ∈ aFlows, -9223372036854775808 ≤ y ∧ y ≤ 9223372036854775807) (hp3 : aList.length ≤ 9223372036854775807 ∧ ∀ y ∈ aList, gJob.ok y) (hp4 : -9223372036854775808 ≤ aBudget ∧ aBudget ≤ 9223372036854775807) : Con Try.prog 4 [.st [.int .i64 aM.Junctions, .sl 7 (aM.Airways.map gAirway.v)], .sl 1 (aFlows.map (V.int .i64)), .sl 4 (aList.map gJob.v), .int .i64 aBudget] [] (.bool (m_laws_FnExactFewestShifts aM aFlows aList aBudget)) ([]) := by
  refine con_intro (out := fun r : Bool => ((.bool r : V), ([] : List (Nat × Option O)))) (r := (m_laws_FnExactFewestShifts aM aFlows aList aBudget)) Try.func4 rfl Try.ntmps4 rfl ?_
  refine run_factS (t := 0) 1 rfl rfl fun hl => ?_
  have l1 := hl; clear hl; simp only [List.length_map] at l1
  refine run_fact (t := 1) rfl fun hl => ?_
  have l2 := hl; clear hl; simp only [List.length_map] at l2
  refine run_fact (t := 2) rfl fun hl => ?_
  have l3 := hl; clear hl; simp only [List.length_map] at l3
  refine run_seq ?_
  refine run_region (q_box (l := 200) .n rfl (.t rfl) rfl rfl rfl rfl <|
      q_assign .n (.c rfl) rfl <|
      Lex.nil) ?_
  refine run_seq ?_
  refine run_seq ?_
  refine run_region (q_move .n (.t rfl) rfl <|
      q_len .n (.t rfl) rfl len_map ss_25 rfl <|
      q_int .n (.t rfl) (.c rfl) rfl rfl <|
      Lex.nil) ?_
  refine run_cond (.t rfl) rfl (fun h4 => ?_) (fun h4 => ?_)
  · try simp only [Bool.and_eq_true, Bool.or_eq_true, Bool.not_eq_true', Bool.and_eq_false_iff, Bool.or_eq_false_iff, Bool.not_eq_false', decide_eq_true_eq, decide_eq_false_iff_not, beq_iff_eq, bne_iff_ne, beq_eq_false_iff_ne, bne_eq_false_iff_eq, Bool.true_and, ne_eq, Decidable.not_not, Int.not_lt, Int.not_le, Nat.not_lt, Nat.not_le, strB_nil, strB_nil', strB_nnil, strB_nnil'] at h4
    refine run_seq ?_
    refine run_region (q_assign .n (.c rfl) rfl <|
        Lex.nil) ?_
    exact run_ret [] (.cons (.t rfl rfl) .nil) rfl trivial rfl
  · try simp only [Bool.and_eq_true, Bool.or_eq_true, Bool.not_eq_true', Bool.and_eq_false_iff, Bool.or_eq_false_iff, Bool.not_eq_false', decide_eq_true_eq, decide_eq_false_iff_not, beq_iff_eq, bne_iff_ne, beq_eq_false_iff_ne, bne_eq_false_iff_eq, Bool.true_and, ne_eq, Decidable.not_not, Int.not_lt, Int.not_le, Nat.not_lt, Nat.not_le, strB_nil, strB_nil', strB_nnil, strB_nnil'] at h4
    refine run_skip ?_
    refine run_seq ?_
    refine run_region (q_assign .n (.c rfl) rfl <|
        Lex.nil) ?_
    refine run_seq ?_
    refine run_region (q_ldN_ow .n (.t rfl) rfl (.inr rfl) ag_24 (fun _ => rfl) rfl rfl <|
        q_move .n (.t rfl) rfl <|
        q_call0 (full := false) .n .f en_7 (.cons (.t rfl) (.cons (.t rfl) .nil)) (.cons (.sts rfl) (.cons (.b (.a (.same rfl))) .nil)) (fun hg => c_laws_szMine aM 1048576) rfl (fun h => Bool.noConfusion h) rfl <|
        q_assign .n (.t rfl) rfl <|
        Lex.nil) ?_
    refine run_seq ?_
    refine run_seq ?_
    refine run_region (q_move .n (.t rfl) rfl <|
        q_int .n (.t rfl) (.c rfl) rfl rfl <|
        Lex.nil) ?_
    refine run_cond (.t rfl) rfl (fun h5 => ?_) (fun h5 => ?_)
    · try simp only [Bool.and_eq_true, Bool.or_eq_true, Bool.not_eq_true', Bool.and_eq_false_iff, Bool.or_eq_false_iff, Bool.not_eq_false', decide_eq_true_eq, decide_eq_false_iff_not, beq_iff_eq, bne_iff_ne, beq_eq_false_iff_ne, bne_eq_false_iff_eq, Bool.true_and, ne_eq, Decidable.not_not, Int.not_lt, Int.not_le, Nat.not_lt, Nat.not_le, strB_nil, strB_nil', strB_nnil, strB_nnil'] at h5
      try have hf0h5 := szMine_impA (by assumption) (by omega) (by omega) h5
      try have hf1h5 := szMine_impA (by assumption) (by omega) (by omega) h5.1
      try have hf2h5 := szMine_impA (by assumption) (by omega) (by omega) h5.2
      try have hf3h5 := szMine_impA (by assumption) (by omega) (by omega) h5.1.1
      try have hf4h5 := szMine_impA (by assumption) (by omega) (by omega) h5.1.2
      try have hf5h5 := szMine_impA (by assumption) (by omega) (by omega) h5.2.1
      try have hf6h5 := szMine_impA (by assumption) (by omega) (by omega) h5.2.2
      try have hf7h5 := szMine_impB (by assumption) (by omega) (by omega) h5
      try have hf8h5 := szMine_impB (by assumption) (by omega) (by omega) h5.1
      try have hf9h5 := szMine_impB (by assumption) (by omega) (by omega) h5.2
      try have hf10h5 := szMine_impB (by assumption) (by omega) (by omega) h5.1.1
      try have hf11h5 := szMine_impB (by assumption) (by omega) (by omega) h5.1.2
      try have hf12h5 := szMine_impB (by assumption) (by omega) (by omega) h5.2.1
      try have hf13h5 := szMine_impB (by assumption) (by omega) (by omega) h5.2.2
      refine run_seq ?_
      refine run_region (q_assign .n (.c rfl) rfl <|
          Lex.nil) ?_
      exact run_ret [] (.cons (.t rfl rfl) .nil) rfl trivial rfl
    · try simp only [Bool.and_eq_true, Bool.or_eq_true, Bool.not_eq_true', Bool.and_eq_false_iff, Bool.or_eq_false_iff, Bool.not_eq_false', decide_eq_true_eq, decide_eq_false_iff_not, beq_iff_eq, bne_iff_ne, beq_eq_false_iff_ne, bne_eq_false_iff_eq, Bool.true_and, ne_eq, Decidable.not_not, Int.not_lt, Int.not_le, Nat.not_lt, Nat.not_le, strB_nil, strB_nil', strB_nnil, strB_nnil'] at h5
      try have hf0h5 := szMine_impA (by assumption) (by omega) (by omega) h5
      try have hf1h5 := szMine_impA (by assumption) (by omega) (by omega) h5.1
      try have hf2h5 := szMine_impA (by assumption) (by omega) (by omega) h5.2
      try have hf3h5 := szMine_impA (by assumption) (by omega) (by omega) h5.1.1
      try have hf4h5 := szMine_impA (by assumption) (by omega) (by omega) h5.1.2
      try have hf5h5 := szMine_impA (by assumption) (by omega) (by omega) h5.2.1
      try have hf6h5 := szMine_impA (by assumption) (by omega) (by omega) h5.2.2
      try have hf7h5 := szMine_impB (by assumption) (by omega) (by omega) h5
      try have hf8h5 := szMine_impB (by assumption) (by omega) (by omega) h5.1
      try have hf9h5 := szMine_impB (by assumption) (by omega) (by omega) h5.2
      try have hf10h5 := szMine_impB (by assumption) (by omega) (by omega) h5.1.1
      try have hf11h5 := szMine_impB (by assumption) (by omega) (by omega) h5.1.2
      try have hf12h5 := szMine_impB (by assumption) (by omega) (by omega) h5.2.1
      try have hf13h5 := szMine_impB (by assumption) (by omega) (by omega) h5.2.2
      refine run_skip ?_
      refine run_seq ?_
      refine run_region (q_move .n (.t rfl) rfl <|
          q_move .n (.t rfl) rfl <|
          q_call0 (full := false) .n .f en_8 (.cons (.t rfl) (.cons (.t rfl) .nil)) (.cons (.b (.a (.same rfl))) (.cons (.b (.a (.same rfl))) .nil)) (fun hg => c_laws_szJobS aList (m_laws_szMine aM 1048576)) rfl (fun h => Bool.noConfusion h) rfl <|
          q_assign .n (.t rfl) rfl <|
          Lex.nil) ?_
      refine run_seq ?_
      refine run_seq ?_
      refine run_region (q_move .n (.t rfl) rfl <|
          q_int .n (.t rfl) (.c rfl) rfl rfl <|
          Lex.nil) ?_
      refine run_cond (.t rfl) rfl (fun h6 => ?_) (fun h6 => ?_)
      · try simp only [Bool.and_eq_true, Bool.or_eq_true, Bool.not_eq_true', Bool.and_eq_false_iff, Bool.or_eq_false_iff, Bool.not_eq_false', decide_eq_true_eq, decide_eq_false_iff_not, beq_iff_eq, bne_iff_ne, beq_eq_false_iff_ne, bne_eq_false_iff_eq, Bool.true_and, ne_eq, Decidable.not_not, Int.not_lt, Int.not_le, Nat.not_lt, Nat.not_le, strB_nil, strB_nil', strB_nnil, strB_nnil'] at h6
        try have hf0h6 := szJobS_impA (by assumption) (by omega) (by omega) h6
        try have hf1h6 := szJobS_impA (by assumption) (by omega) (by omega) h6.1
        try have hf2h6 := szJobS_impA (by assumption) (by omega) (by omega) h6.2
        try have hf3h6 := szJobS_impA (by assumption) (by omega) (by omega) h6.1.1
        try have hf4h6 := szJobS_impA (by assumption) (by omega) (by omega) h6.1.2
        try have hf5h6 := szJobS_impA (by assumption) (by omega) (by omega) h6.2.1
        try have hf6h6 := szJobS_impA (by assumption) (by omega) (by omega) h6.2.2
        try have hf7h6 := szJobS_impB (by assumption) (by omega) (by omega) h6
        try have hf8h6 := szJobS_impB (by assumption) (by omega) (by omega) h6.1
        try have hf9h6 := szJobS_impB (by assumption) (by omega) (by omega) h6.2
        try have hf10h6 := szJobS_impB (by assumption) (by omega) (by omega) h6.1.1
        try have hf11h6 := szJobS_impB (by assumption) (by omega) (by omega) h6.1.2
        try have hf12h6 := szJobS_impB (by assumption) (by omega) (by omega) h6.2.1
        try have hf13h6 := szJobS_impB (by assumption) (by omega) (by omega) h6.2.2
        refine run_seq ?_
        refine run_region (q_assign .n (.c rfl) rfl <|
            Lex.nil) ?_
        exact run_ret [] (.cons (.t rfl rfl) .nil) rfl trivial rfl
      · try simp only [Bool.and_eq_true, Bool.or_eq_true, Bool.not_eq_true', Bool.and_eq_false_iff, Bool.or_eq_false_iff, Bool.not_eq_false', decide_eq_true_eq, decide_eq_false_iff_not, beq_iff_eq, bne_iff_ne, beq_eq_false_iff_ne, bne_eq_false_iff_eq, Bool.true_and, ne_eq, Decidable.not_not, Int.not_lt, Int.not_le, Nat.not_lt, Nat.not_le, strB_nil, strB_nil', strB_nnil, strB_nnil'] at h6
        try have hf0h6 := szJobS_impA (by assumption) (by omega) (by omega) h6
        try have hf1h6 := szJobS_impA (by assumption) (by omega) (by omega) h6.1
        try have hf2h6 := szJobS_impA (by assumption) (by omega) (by omega) h6.2
        try have hf3h6 := szJobS_impA (by assumption) (by omega) (by omega) h6.1.1
        try have hf4h6 := szJobS_impA (by assumption) (by omega) (by omega) h6.1.2
        try have hf5h6 := szJobS_impA (by assumption) (by omega) (by omega) h6.2.1
        try have hf6h6 := szJobS_impA (by assumption) (by omega) (by omega) h6.2.2
        try have hf7h6 := szJobS_impB (by assumption) (by omega) (by omega) h6
        try have hf8h6 := szJobS_impB (by assumption) (by omega) (by omega) h6.1
        try have hf9h6 := szJobS_impB (by assumption) (by omega) (by omega) h6.2
        try have hf10h6 := szJobS_impB (by assumption) (by omega) (by omega) h6.1.1
        try have hf11h6 := szJobS_impB (by assumption) (by omega) (by omega) h6.1.2
        try have hf12h6 := szJobS_impB (by assumption) (by omega) (by omega) h6.2.1
        try have hf13h6 := szJobS_impB (by assumption) (by omega) (by omega) h6.2.2
        refine run_skip ?_
        refine run_seq ?_
        refine run_region (q_ldN_ow .n (.t rfl) rfl (.inr rfl) ag_24 (fun _ => rfl) rfl rfl <|
            q_callM (full := false) [] [(100, 201)] .n rfl .f en_10 (.cons (.t rfl) .nil) (.cons (.sts rfl) .nil) (c_laws_toMine aM (by omega)) trivial rfl rfl (fun h => Bool.noConfusion h) (fun h => Bool.noConfusion h) rfl <|
            q_move .n (.t rfl) rfl <|
            q_callM (full := false) [] [(100, 202)] .n rfl .f en_11 (.cons (.t rfl) .nil) (.cons (.b (.a (.same rfl))) .nil) (c_laws_toInt64S aFlows (by omega)) trivial rfl rfl (fun h => Bool.noConfusion h) (fun h => Bool.noConfusion h) rfl <|
            q_move .n (.t rfl) rfl <|
            q_callM (full := false) [] [(100, 203)] .n rfl .f en_12 (.cons (.t rfl) .nil) (.cons (.b (.a (.same rfl))) .nil) (c_laws_toJobS aList (by omega)) trivial rfl rfl (fun h => Bool.noConfusion h) (fun h => Bool.noConfusion h) rfl <|
            q_move .n (.t rfl) rfl <|
            q_callM (full := true) [] [(100, 204)] .n rfl .f en_21 (.cons (.t rfl) (.cons (.t rfl) (.cons (.t rfl) (.cons (.t rfl) .nil)))) (.cons (.st (.cons (.a (.same rfl)) (.cons (.a (.own rfl rfl rfl (take_all (by simp only [len_map, put_len, markAirwayS_len, markMine_len, markInt64S_len, markJobS_len] <;> rfl)) (by simp only [len_map, put_len, markAirwayS_len, markMine_len, markInt64S_len, markJobS_len] <;> rfl))) .nil))) (.cons (.b (.a (.own rfl rfl rfl (take_all (by simp only [len_map, put_len, markAirwayS_len, markMine_len, markInt64S_len, markJobS_len] <;> rfl)) (by simp only [len_map, put_len, markAirwayS_len, markMine_len, markInt64S_len, markJobS_len] <;> rfl)))) (.cons (.b (.a (.own rfl rfl rfl (take_all (by simp only [len_map, put_len, markAirwayS_len, markMine_len, markInt64S_len, markJobS_len] <;> rfl)) (by simp only [len_map, put_len, markAirwayS_len, markMine_len, markInt64S_len, markJobS_len] <;> rfl)))) (.cons (.b (.a (.same rfl))) .nil)))) (c_spec_FewestShifts (m_laws_toMine aM) (m_laws_toInt64S aFlows) (m_laws_toJobS aList) aBudget) trivial rfl rfl (fun _ => rfl) (fun _ => (hr_row (fun _ => rfl) hr_nil)) rfl <|
            q_move .n (.t rfl) rfl <|
            q_ext .n (.t rfl) rfl rfl rfl <|
            q_ext .n (.t rfl) rfl rfl rfl <|
            q_ext .n (.t rfl) rfl rfl rfl <|
            q_assign .n (.t rfl) rfl <|
            q_assign .n (.t rfl) rfl <|
            q_assign .n (.t rfl) rfl <|
            Lex.nil) ?_
        refine run_seq ?_
        refine run_region (q_ldN_ow .n (.t rfl) rfl (.inr rfl) ag_24 (fun _ => rfl) rfl rfl <|
            q_callM (full := false) [] [(100, 205)] .n rfl .f en_10 (.cons (.t rfl) .nil) (.cons (.sts rfl) .nil) (c_laws_toMine aM (by omega)) trivial rfl rfl (fun h => Bool.noConfusion h) (fun h => Bool.noConfusion h) rfl <|
            q_alloc (l := 206) .n rfl zv_33 rfl rfl <|
            q_st_boxm [.int .i64 (m_laws_toMine aM).Junctions, .os 205 (m_laws_toMine aM).Airways.length] .n rfl (.t rfl) (.t rfl) rfl ts_33 rfl rfl <|
            Lex.nil) ?_
        refine run_seq ?_
        refine run_region (q_move .n (.t rfl) rfl <|
            q_callM (full := false) [] [(100, 207)] .n rfl .f en_11 (.cons (.t rfl) .nil) (.cons (.b (.a (.same rfl))) .nil) (c_laws_toInt64S aFlows (by omega)) trivial rfl rfl (fun h => Bool.noConfusion h) (fun h => Bool.noConfusion h) rfl <|
            q_assign .n (.t rfl) rfl <|
            Lex.nil) ?_
        refine run_seq ?_
        refine run_region (q_move .n (.t rfl) rfl <|
            q_callM (full := false) [] [(100, 208)] .n rfl .f en_12 (.cons (.t rfl) .nil) (.cons (.b (.a (.same rfl))) .nil) (c_laws_toJobS aList (by omega)) trivial rfl rfl (fun h => Bool.noConfusion h) (fun h => Bool.noConfusion h) rfl <|
            q_assign .n (.t rfl) rfl <|
            Lex.nil) ?_
        refine run_seq ?_
        refine run_region (q_ldN_ow .n (.t rfl) rfl (.inr rfl) ag_33 (fun _ => rfl) rfl rfl <|
            q_move .n (.t rfl) rfl <|
            q_move .n (.t rfl) rfl <|
            q_move .n (.t rfl) rfl <|
            q_callM (full := true) [] [(100, 209)] .n rfl .f en_22 (.cons (.t rfl) (.cons (.t rfl) (.cons (.t rfl) (.cons (.t rfl) .nil)))) (.cons (.st (.cons (.a (.same rfl)) (.cons (.a (.own rfl rfl rfl (take_all (by simp only [len_map, put_len, markAirwayS_len, markMine_len, markInt64S_len, markJobS_len] <;> rfl)) (by simp only [len_map, put_len, markAirwayS_len, markMine_len, markInt64S_len, markJobS_len] <;> rfl))) .nil))) (.cons (.b (.a (.own rfl rfl rfl (take_all (by simp only [len_map, put_len, markAirwayS_len, markMine_len, markInt64S_len, markJobS_len] <;> rfl)) (by simp only [len_map, put_len, markAirwayS_len, markMine_len, markInt64S_len, markJobS_len] <;> rfl)))) (.cons (.b (.a (.own rfl rfl rfl (take_all (by simp only [len_map, put_len, markAirwayS_len, markMine_len, markInt64S_len, markJobS_len] <;> rfl)) (by simp only [len_map, put_len, markAirwayS_len, markMine_len, markInt64S_len, markJobS_len] <;> rfl)))) (.cons (.b (.a (.same rfl))) .nil)))) (c_impl_FewestShifts (m_laws_toMine aM) (m_laws_toInt64S aFlows) (m_laws_toJobS aList) aBudget) trivial rfl rfl (fun _ => rfl) (fun _ => (hr_row (fun _ => rfl) hr_nil)) rfl <|
            q_move .n (.t rfl) rfl <|
            q_ext .n (.t rfl) rfl rfl rfl <|
            q_ext .n (.t rfl) rfl rfl rfl <|
            q_ext .n (.t rfl) rfl rfl rfl <|
            q_assign .n (.t rfl) rfl <|
            q_assign .n (.t rfl) rfl <|
            q_assign .n (.t rfl) rfl <|
            Lex.nil) ?_
        refine run_seq ?_
        refine run_seq ?_
        refine run_region (q_move .n (.t rfl) rfl <|
            q_move .n (.t rfl) rfl <|
            q_call0 (full := true) .n .f en_14 (.cons (.t rfl) (.cons (.t rfl) .nil)) (.cons (.b (.a (.own rfl rfl rfl (take_all (by simp only [len_map, put_len, markAirwayS_len, markMine_len, markInt64S_len, markJobS_len] <;> rfl)) (by simp only [len_map, put_len, markAirwayS_len, markMine_len, markInt64S_len, markJobS_len] <;> rfl)))) (.cons (.b (.a (.own rfl rfl rfl (take_all (by simp only [len_map, put_len, markAirwayS_len, markMine_len, markInt64S_len, markJobS_len] <;> rfl)) (by simp only [len_map, put_len, markAirwayS_len, markMine_len, markInt64S_len, markJobS_len] <;> rfl)))) .nil)) (fun hg => c_laws_eqInt64S (m_impl_FewestShifts (m_laws_toMine aM) (m_laws_toInt64S aFlows) (m_laws_toJobS aList) aBudget).1 (m_spec_FewestShifts (m_laws_toMine aM) (m_laws_toInt64S aFlows) (m_laws_toJobS aList) aBudget).1) rfl (fun _ => rfl) rfl <|
            q_not .n (.t rfl) rfl <|
            q_move .n (.t rfl) rfl <|
            q_move (.f rfl rfl) (.t rfl) rfl <|
            q_move (.f rfl rfl) (.t rfl) rfl <|
            q_int (.f rfl rfl) (.u rfl id) (.u rfl id) rfl rfl <|
            q_or .n (.t rfl) (.u rfl id) rfl <|
            q_move .n (.t rfl) rfl <|
            q_move (.f rfl rfl) (.t rfl) rfl <|
            q_move (.f rfl rfl) (.t rfl) rfl <|
            q_int (.f rfl rfl) (.u rfl id) (.u rfl id) rfl rfl <|
            q_or .n (.t rfl) (.u rfl id) rfl <|
            Lex.nil) ?_
        refine run_cond (.t rfl) rfl (fun h7 => ?_) (fun h7 => ?_)
        · try simp only [Bool.and_eq_true, Bool.or_eq_true, Bool.not_eq_true', Bool.and_eq_false_iff, Bool.or_eq_false_iff, Bool.not_eq_false', decide_eq_true_eq, decide_eq_false_iff_not, beq_iff_eq, bne_iff_ne, beq_eq_false_iff_ne, bne_eq_false_iff_eq, Bool.true_and, ne_eq, Decidable.not_not, Int.not_lt, Int.not_le, Nat.not_lt, Nat.not_le, strB_nil, strB_nil', strB_nnil, strB_nnil'] at h7
          refine run_seq ?_
          refine run_region (q_assign .n (.c rfl) rfl <|
              Lex.nil) ?_
          exact run_ret [] (.cons (.t rfl rfl) .nil) rfl trivial rfl
        · try simp only [Bool.and_eq_true, Bool.or_eq_true, Bool.not_eq_true', Bool.and_eq_false_iff, Bool.or_eq_false_iff, Bool.not_eq_false', decide_eq_true_eq, decide_eq_false_iff_not, beq_iff_eq, bne_iff_ne, beq_eq_false_iff_ne, bne_eq_false_iff_eq, Bool.true_and, ne_eq, Decidable.not_not, Int.not_lt, Int.not_le, Nat.not_lt, Nat.not_le, strB_nil, strB_nil', strB_nnil, strB_nnil'] at h7
          refine run_skip ?_
          refine run_seq ?_
          refine run_seq ?_
          refine run_draw fmo (q_ldN_ow .n (.t rfl) rfl (.inr rfl) ag_33 (fun _ => rfl) rfl rfl <|
              q_ldN_ow .n (.t rfl) rfl (.inr rfl) ag_24 (fun _ => rfl) rfl rfl <|
              q_callM (full := false) [] [(100, 210)] .n rfl .f en_10 (.cons (.t rfl) .nil) (.cons (.sts rfl) .nil) (c_laws_toMine aM (by omega)) trivial rfl rfl (fun h => Bool.noConfusion h) (fun h => Bool.noConfusion h) rfl <|
              q_call0 (full := true) .n .f en_15 (.cons (.t rfl) (.cons (.t rfl) .nil)) (.cons (.st (.cons (.a (.same rfl)) (.cons (.a (.own rfl rfl rfl (take_all (by simp only [len_map, put_len, markAirwayS_len, markMine_len, markInt64S_len, markJobS_len] <;> rfl)) (by simp only [len_map, put_len, markAirwayS_len, markMine_len, markInt64S_len, markJobS_len] <;> rfl))) .nil))) (.cons (.st (.cons (.a (.same rfl)) (.cons (.a (.own rfl rfl rfl (take_all (by simp only [len_map, put_len, markAirwayS_len, markMine_len, markInt64S_len, markJobS_len] <;> rfl)) (by simp only [len_map, put_len, markAirwayS_len, markMine_len, markInt64S_len, markJobS_len] <;> rfl))) .nil))) .nil)) (fun hg => c_laws_eqMine (m_laws_toMine aM) (m_laws_toMine aM)) rfl (fun _ => rfl) rfl <|
              q_not .n (.t rfl) rfl <|
              Lex.nil) (by kernel_rfl) ?_
          refine run_cond (.t rfl) rfl (fun h8 => ?_) (fun h8 => ?_)
          · try simp only [Bool.and_eq_true, Bool.or_eq_true, Bool.not_eq_true', Bool.and_eq_false_iff, Bool.or_eq_false_iff, Bool.not_eq_false', decide_eq_true_eq, decide_eq_false_iff_not, beq_iff_eq, bne_iff_ne, beq_eq_false_iff_ne, bne_eq_false_iff_eq, Bool.true_and, ne_eq, Decidable.not_not, Int.not_lt, Int.not_le, Nat.not_lt, Nat.not_le, strB_nil, strB_nil', strB_nnil, strB_nnil'] at h8
            refine run_seq ?_
            refine run_region (q_assign .n (.c rfl) rfl <|
                Lex.nil) ?_
            exact run_ret [] (.cons (.t rfl rfl) .nil) rfl trivial rfl
          · try simp only [Bool.and_eq_true, Bool.or_eq_true, Bool.not_eq_true', Bool.and_eq_false_iff, Bool.or_eq_false_iff, Bool.not_eq_false', decide_eq_true_eq, decide_eq_false_iff_not, beq_iff_eq, bne_iff_ne, beq_eq_false_iff_ne, bne_eq_false_iff_eq, Bool.true_and, ne_eq, Decidable.not_not, Int.not_lt, Int.not_le, Nat.not_lt, Nat.not_le, strB_nil, strB_nil', strB_nnil, strB_nnil'] at h8
            refine run_skip ?_
            refine run_seq ?_
            refine run_seq ?_
            refine run_region (q_move .n (.t rfl) rfl <|
                q_move .n (.t rfl) rfl <|
                q_callM (full := false) [] [(100, 211)] .n rfl .f en_11 (.cons (.t rfl) .nil) (.cons (.b (.a (.same rfl))) .nil) (c_laws_toInt64S aFlows (by omega)) trivial rfl rfl (fun h => Bool.noConfusion h) (fun h => Bool.noConfusion h) rfl <|
                q_call0 (full := true) .n .f en_14 (.cons (.t rfl) (.cons (.t rfl) .nil)) (.cons (.b (.a (.own rfl rfl rfl (take_all (by simp only [len_map, put_len, markAirwayS_len, markMine_len, markInt64S_len, markJobS_len] <;> rfl)) (by simp only [len_map, put_len, markAirwayS_len, markMine_len, markInt64S_len, markJobS_len] <;> rfl)))) (.cons (.b (.a (.own rfl rfl rfl (take_all (by simp only [len_map, put_len, markAirwayS_len, markMine_len, markInt64S_len, markJobS_len] <;> rfl)) (by simp only [len_map, put_len, markAirwayS_len, markMine_len, markInt64S_len, markJobS_len] <;> rfl)))) .nil)) (fun hg => c_laws_eqInt64S (m_laws_toInt64S aFlows) (m_laws_toInt64S aFlows)) rfl (fun _ => rfl) rfl <|
                q_not .n (.t rfl) rfl <|
                Lex.nil) ?_
            refine run_cond (.t rfl) rfl (fun h9 => ?_) (fun h9 => ?_)
            · try simp only [Bool.and_eq_true, Bool.or_eq_true, Bool.not_eq_true', Bool.and_eq_false_iff, Bool.or_eq_false_iff, Bool.not_eq_false', decide_eq_true_eq, decide_eq_false_iff_not, beq_iff_eq, bne_iff_ne, beq_eq_false_iff_ne, bne_eq_false_iff_eq, Bool.true_and, ne_eq, Decidable.not_not, Int.not_lt, Int.not_le, Nat.not_lt, Nat.not_le, strB_nil, strB_nil', strB_nnil, strB_nnil'] at h9
              refine run_seq ?_
              refine run_region (q_assign .n (.c rfl) rfl <|
                  Lex.nil) ?_
              exact run_ret [] (.cons (.t rfl rfl) .nil) rfl trivial rfl
            · try simp only [Bool.and_eq_true, Bool.or_eq_true, Bool.not_eq_true', Bool.and_eq_false_iff, Bool.or_eq_false_iff, Bool.not_eq_false', decide_eq_true_eq, decide_eq_false_iff_not, beq_iff_eq, bne_iff_ne, beq_eq_false_iff_ne, bne_eq_false_iff_eq, Bool.true_and, ne_eq, Decidable.not_not, Int.not_lt, Int.not_le, Nat.not_lt, Nat.not_le, strB_nil, strB_nil', strB_nnil, strB_nnil'] at h9
              refine run_skip ?_
              refine run_seq ?_
              refine run_seq ?_
              refine run_region (q_move .n (.t rfl) rfl <|
                  q_move .n (.t rfl) rfl <|
                  q_callM (full := false) [] [(100, 212)] .n rfl .f en_12 (.cons (.t rfl) .nil) (.cons (.b (.a (.same rfl))) .nil) (c_laws_toJobS aList (by omega)) trivial rfl rfl (fun h => Bool.noConfusion h) (fun h => Bool.noConfusion h) rfl <|
                  q_call0 (full := true) .n .f en_16 (.cons (.t rfl) (.cons (.t rfl) .nil)) (.cons (.b (.a (.own rfl rfl rfl (take_all (by simp only [len_map, put_len, markAirwayS_len, markMine_len, markInt64S_len, markJobS_len] <;> rfl)) (by simp only [len_map, put_len, markAirwayS_len, markMine_len, markInt64S_len, markJobS_len] <;> rfl)))) (.cons (.b (.a (.own rfl rfl rfl (take_all (by simp only [len_map, put_len, markAirwayS_len, markMine_len, markInt64S_len, markJobS_len] <;> rfl)) (by simp only [len_map, put_len, markAirwayS_len, markMine_len, markInt64S_len, markJobS_len] <;> rfl)))) .nil)) (fun hg => c_laws_eqJobS (m_laws_toJobS aList) (m_laws_toJobS aList)) rfl (fun _ => rfl) rfl <|
                  q_not .n (.t rfl) rfl <|
                  Lex.nil) ?_
              refine run_cond (.t rfl) rfl (fun h10 => ?_) (fun h10 => ?_)
              · try simp only [Bool.and_eq_true, Bool.or_eq_true, Bool.not_eq_true', Bool.and_eq_false_iff, Bool.or_eq_false_iff, Bool.not_eq_false', decide_eq_true_eq, decide_eq_false_iff_not, beq_iff_eq, bne_iff_ne, beq_eq_false_iff_ne, bne_eq_false_iff_eq, Bool.true_and, ne_eq, Decidable.not_not, Int.not_lt, Int.not_le, Nat.not_lt, Nat.not_le, strB_nil, strB_nil', strB_nnil, strB_nnil'] at h10
                refine run_seq ?_
                refine run_region (q_assign .n (.c rfl) rfl <|
                    Lex.nil) ?_
                exact run_ret [] (.cons (.t rfl rfl) .nil) rfl trivial rfl
              · try simp only [Bool.and_eq_true, Bool.or_eq_true, Bool.not_eq_true', Bool.and_eq_false_iff, Bool.or_eq_false_iff, Bool.not_eq_false', decide_eq_true_eq, decide_eq_false_iff_not, beq_iff_eq, bne_iff_ne, beq_eq_false_iff_ne, bne_eq_false_iff_eq, Bool.true_and, ne_eq, Decidable.not_not, Int.not_lt, Int.not_le, Nat.not_lt, Nat.not_le, strB_nil, strB_nil', strB_nnil, strB_nnil'] at h10
                refine run_skip ?_
                refine run_seq ?_
                refine run_region (q_assign .n (.c rfl) rfl <|
                    Lex.nil) ?_
                refine run_seq ?_
                refine run_region (q_ldN_ow .n (.t rfl) rfl (.inr rfl) ag_33 (fun _ => rfl) rfl rfl <|
                    q_move .n (.t rfl) rfl <|
                    q_callM (full := false) [(11, 205)] [] .n rfl .f en_17 (.cons (.t rfl) (.cons (.t rfl) .nil)) (.cons (.st (.cons (.a (.same rfl)) (.cons (.muts rfl) .nil))) (.cons (.b (.a (.same rfl))) .nil)) (c_laws_markMine (m_laws_toMine aM) 1 (by omega)) ⟨rfl, trivial⟩ rfl rfl (fun h => Bool.noConfusion h) (fun h => Bool.noConfusion h) rfl <|
                    q_assign .n (.t rfl) rfl <|
                    Lex.nil) ?_
                refine run_seq ?_
                refine run_region (q_move .n (.t rfl) rfl <|
                    q_move .n (.t rfl) rfl <|
                    q_callM (full := false) [(0, 207)] [] .n rfl .f en_18 (.cons (.t rfl) (.cons (.t rfl) .nil)) (.cons (.b (.muts rfl)) (.cons (.b (.a (.same rfl))) .nil)) (c_laws_markInt64S (m_laws_toInt64S aFlows) (m_laws_markMine (m_laws_toMine aM) 1).1) ⟨rfl, trivial⟩ rfl rfl (fun h => Bool.noConfusion h) (fun h => Bool.noConfusion h) rfl <|
                    q_assign .n (.t rfl) rfl <|
                    Lex.nil) ?_
                refine run_seq ?_
                refine run_region (q_move .n (.t rfl) rfl <|
                    q_move .n (.t rfl) rfl <|
                    q_callM (full := false) [(0, 208)] [] .n rfl .f en_19 (.cons (.t rfl) (.cons (.t rfl) .nil)) (.cons (.b (.muts rfl)) (.cons (.b (.a (.same rfl))) .nil)) (c_laws_markJobS (m_laws_toJobS aList) (m_laws_markInt64S (m_laws_toInt64S aFlows) (m_laws_markMine (m_laws_toMine aM) 1).1).1 (by ((repeat (first | omega | refine markAirwayS_le ?_ | refine markMine_le ?_ | refine markInt64S_le ?_ | refine markJobS_le ?_))))) ⟨rfl, trivial⟩ rfl rfl (fun h => Bool.noConfusion h) (fun h => Bool.noConfusion h) rfl <|
                    q_assign .n (.t rfl) rfl <|
                    Lex.nil) ?_
                refine run_seq ?_
                refine run_seq ?_
                refine run_region (q_move .n (.t rfl) rfl <|
                    q_int .n (.t rfl) (.c rfl) rfl rfl <|
                    q_move .n (.t rfl) rfl <|
                    q_move (.f rfl rfl) (.t rfl) rfl <|
                    q_move (.f rfl rfl) (.t rfl) rfl <|
                    q_call0 (full := true) (.f rfl rfl) .f en_14 (.cons (.u rfl id) (.cons (.u rfl id) .nil)) (.cons (.b (.a (.own rfl rfl rfl (take_all (by simp only [len_map, put_len, markAirwayS_len, markMine_len, markInt64S_len, markJobS_len] <;> rfl)) (by simp only [len_map, put_len, markAirwayS_len, markMine_len, markInt64S_len, markJobS_len] <;> rfl)))) (.cons (.b (.a (.own rfl rfl rfl (take_all (by simp only [len_map, put_len, markAirwayS_len, markMine_len, markInt64S_len, markJobS_len] <;> rfl)) (by simp only [len_map, put_len, markAirwayS_len, markMine_len, markInt64S_len, markJobS_len] <;> rfl)))) .nil)) (fun hg => c_laws_eqInt64S (m_impl_FewestShifts (m_laws_toMine aM) (m_laws_toInt64S aFlows) (m_laws_toJobS aList) aBudget).1 (m_spec_FewestShifts (m_laws_toMine aM) (m_laws_toInt64S aFlows) (m_laws_toJobS aList) aBudget).1) rfl (fun _ => rfl) rfl <|
                    q_not (.f rfl rfl) (.u rfl id) rfl <|
                    q_or .n (.t rfl) (.u rfl id) rfl <|
                    q_move .n (.t rfl) rfl <|
                    q_move (.f rfl rfl) (.t rfl) rfl <|
                    q_move (.f rfl rfl) (.t rfl) rfl <|
                    q_int (.f rfl rfl) (.u rfl id) (.u rfl id) rfl rfl <|
                    q_or .n (.t rfl) (.u rfl id) rfl <|
                    q_move .n (.t rfl) rfl <|
                    q_move (.f rfl rfl) (.t rfl) rfl <|
                    q_move (.f rfl rfl) (.t rfl) rfl <|
                    q_int (.f rfl rfl) (.u rfl id) (.u rfl id) rfl rfl <|
                    q_or .n (.t rfl) (.u rfl id) rfl <|
                    Lex.nil) ?_
                refine run_cond (.t rfl) rfl (fun h11 => ?_) (fun h11 => ?_)
                · try simp only [Bool.and_eq_true, Bool.or_eq_true, Bool.not_eq_true', Bool.and_eq_false_iff, Bool.or_eq_false_iff, Bool.not_eq_false', decide_eq_true_eq, decide_eq_false_iff_not, beq_iff_eq, bne_iff_ne, beq_eq_false_iff_ne, bne_eq_false_iff_eq, Bool.true_and, ne_eq, Decidable.not_not, Int.not_lt, Int.not_le, Nat.not_lt, Nat.not_le, strB_nil, strB_nil', strB_nnil, strB_nnil'] at h11
                  refine run_seq ?_
                  refine run_region (q_assign .n (.c rfl) rfl <|
                      Lex.nil) ?_
                  exact run_ret [] (.cons (.t rfl rfl) .nil) rfl trivial rfl
                · try simp only [Bool.and_eq_true, Bool.or_eq_true, Bool.not_eq_true', Bool.and_eq_false_iff, Bool.or_eq_false_iff, Bool.not_eq_false', decide_eq_true_eq, decide_eq_false_iff_not, beq_iff_eq, bne_iff_ne, beq_eq_false_iff_ne, bne_eq_false_iff_eq, Bool.true_and, ne_eq, Decidable.not_not, Int.not_lt, Int.not_le, Nat.not_lt, Nat.not_le, strB_nil, strB_nil', strB_nnil, strB_nnil'] at h11
                  refine run_skip ?_
                  refine run_seq ?_
                  refine run_region (q_assign .n (.c rfl) rfl <|
                      Lex.nil) ?_
                  refine run_seq ?_
                  refine run_region (q_move .n (.t rfl) rfl <|
                      q_move .n (.t rfl) rfl <|
                      q_callM (full := false) [(0, 209)] [] .n rfl .f en_18 (.cons (.t rfl) (.cons (.t rfl) .nil)) (.cons (.b (.muts rfl)) (.cons (.b (.a (.same rfl))) .nil)) (c_laws_markInt64S (m_impl_FewestShifts (m_laws_toMine aM) (m_laws_toInt64S aFlows) (m_laws_toJobS aList) aBudget).1 1) ⟨rfl, trivial⟩ rfl rfl (fun h => Bool.noConfusion h) (fun h => Bool.noConfusion h) rfl <|
                      q_assign .n (.t rfl) rfl <|
                      Lex.nil) ?_
                  refine run_seq ?_
                  refine run_region (q_assign .n (.c rfl) rfl <|
                      Lex.nil) ?_
                  refine run_seq ?_
                  refine run_region (q_move .n (.t rfl) rfl <|
                      q_move .n (.t rfl) rfl <|
                      q_call0 (full := true) .n .f en_20 (.cons (.t rfl) (.cons (.t rfl) .nil)) (.cons (.b (.a (.own rfl rfl rfl (take_all (by simp only [len_map, put_len, markAirwayS_len, markMine_len, markInt64S_len, markJobS_len] <;> rfl)) (by simp only [len_map, put_len, markAirwayS_len, markMine_len, markInt64S_len, markJobS_len] <;> rfl)))) (.cons (.b (.a (.same rfl))) .nil)) (fun hg => c_laws_heldInt64S (m_laws_markInt64S (m_impl_FewestShifts (m_laws_toMine aM) (m_laws_toInt64S aFlows) (m_laws_toJobS aList) aBudget).1 1).2 1) rfl (fun _ => rfl) rfl <|
                      q_assign .n (.t rfl) rfl <|
                      Lex.nil) ?_
                  refine run_seq ?_
                  refine run_seq ?_
                  refine run_region (q_move .n (.t rfl) rfl <|
                      q_int .n (.t rfl) (.c rfl) rfl rfl <|
                      Lex.nil) ?_
                  refine run_cond (.t rfl) rfl (fun h12 => ?_) (fun h12 => ?_)
                  · try simp only [Bool.and_eq_true, Bool.or_eq_true, Bool.not_eq_true', Bool.and_eq_false_iff, Bool.or_eq_false_iff, Bool.not_eq_false', decide_eq_true_eq, decide_eq_false_iff_not, beq_iff_eq, bne_iff_ne, beq_eq_false_iff_ne, bne_eq_false_iff_eq, Bool.true_and, ne_eq, Decidable.not_not, Int.not_lt, Int.not_le, Nat.not_lt, Nat.not_le, strB_nil, strB_nil', strB_nnil, strB_nnil'] at h12
                    refine run_seq ?_
                    refine run_region (q_assign .n (.c rfl) rfl <|
                        Lex.nil) ?_
                    exact run_ret [] (.cons (.t rfl rfl) .nil) rfl trivial rfl
                  · try simp only [Bool.and_eq_true, Bool.or_eq_true, Bool.not_eq_true', Bool.and_eq_false_iff, Bool.or_eq_false_iff, Bool.not_eq_false', decide_eq_true_eq, decide_eq_false_iff_not, beq_iff_eq, bne_iff_ne, beq_eq_false_iff_ne, bne_eq_false_iff_eq, Bool.true_and, ne_eq, Decidable.not_not, Int.not_lt, Int.not_le, Nat.not_lt, Nat.not_le, strB_nil, strB_nil', strB_nnil, strB_nnil'] at h12
                    refine run_skip ?_
                    refine run_seq ?_
                    refine run_seq ?_
                    refine run_region (q_move .n (.t rfl) rfl <|
                        q_move .n (.t rfl) rfl <|
                        q_int .n (.t rfl) (.t rfl) rfl rfl <|
                        Lex.nil) ?_
                    refine run_cond (.t rfl) rfl (fun h13 => ?_) (fun h13 => ?_)
                    · try simp only [Bool.and_eq_true, Bool.or_eq_true, Bool.not_eq_true', Bool.and_eq_false_iff, Bool.or_eq_false_iff, Bool.not_eq_false', decide_eq_true_eq, decide_eq_false_iff_not, beq_iff_eq, bne_iff_ne, beq_eq_false_iff_ne, bne_eq_false_iff_eq, Bool.true_and, ne_eq, Decidable.not_not, Int.not_lt, Int.not_le, Nat.not_lt, Nat.not_le, strB_nil, strB_nil', strB_nnil, strB_nnil'] at h13
                      refine run_seq ?_
                      refine run_region (q_assign .n (.c rfl) rfl <|
                          Lex.nil) ?_
                      exact run_ret [] (.cons (.t rfl rfl) .nil) rfl trivial rfl
                    · try simp only [Bool.and_eq_true, Bool.or_eq_true, Bool.not_eq_true', Bool.and_eq_false_iff, Bool.or_eq_false_iff, Bool.not_eq_false', decide_eq_true_eq, decide_eq_false_iff_not, beq_iff_eq, bne_iff_ne, beq_eq_false_iff_ne, bne_eq_false_iff_eq, Bool.true_and, ne_eq, Decidable.not_not, Int.not_lt, Int.not_le, Nat.not_lt, Nat.not_le, strB_nil, strB_nil', strB_nnil, strB_nnil'] at h13
                      refine run_skip ?_
                      refine run_seq ?_
                      refine run_region (q_ldN_ow .n (.t rfl) rfl (.inr rfl) ag_24 (fun _ => rfl) rfl rfl <|
                          q_callM (full := false) [] [(100, 213)] .n rfl .f en_10 (.cons (.t rfl) .nil) (.cons (.sts rfl) .nil) (c_laws_toMine aM (by omega)) trivial rfl rfl (fun h => Bool.noConfusion h) (fun h => Bool.noConfusion h) rfl <|
                          q_move .n (.t rfl) rfl <|
                          q_callM (full := false) [] [(100, 214)] .n rfl .f en_11 (.cons (.t rfl) .nil) (.cons (.b (.a (.same rfl))) .nil) (c_laws_toInt64S aFlows (by omega)) trivial rfl rfl (fun h => Bool.noConfusion h) (fun h => Bool.noConfusion h) rfl <|
                          q_move .n (.t rfl) rfl <|
                          q_callM (full := false) [] [(100, 215)] .n rfl .f en_12 (.cons (.t rfl) .nil) (.cons (.b (.a (.same rfl))) .nil) (c_laws_toJobS aList (by omega)) trivial rfl rfl (fun h => Bool.noConfusion h) (fun h => Bool.noConfusion h) rfl <|
                          q_move .n (.t rfl) rfl <|
                          q_callM (full := true) [] [(100, 216)] .n rfl .f en_22 (.cons (.t rfl) (.cons (.t rfl) (.cons (.t rfl) (.cons (.t rfl) .nil)))) (.cons (.st (.cons (.a (.same rfl)) (.cons (.a (.own rfl rfl rfl (take_all (by simp only [len_map, put_len, markAirwayS_len, markMine_len, markInt64S_len, markJobS_len] <;> rfl)) (by simp only [len_map, put_len, markAirwayS_len, markMine_len, markInt64S_len, markJobS_len] <;> rfl))) .nil))) (.cons (.b (.a (.own rfl rfl rfl (take_all (by simp only [len_map, put_len, markAirwayS_len, markMine_len, markInt64S_len, markJobS_len] <;> rfl)) (by simp only [len_map, put_len, markAirwayS_len, markMine_len, markInt64S_len, markJobS_len] <;> rfl)))) (.cons (.b (.a (.own rfl rfl rfl (take_all (by simp only [len_map, put_len, markAirwayS_len, markMine_len, markInt64S_len, markJobS_len] <;> rfl)) (by simp only [len_map, put_len, markAirwayS_len, markMine_len, markInt64S_len, markJobS_len] <;> rfl)))) (.cons (.b (.a (.same rfl))) .nil)))) (c_impl_FewestShifts (m_laws_toMine aM) (m_laws_toInt64S aFlows) (m_laws_toJobS aList) aBudget) trivial rfl rfl (fun _ => rfl) (fun _ => (hr_row (fun _ => rfl) hr_nil)) rfl <|
                          q_move .n (.t rfl) rfl <|
                          q_ext .n (.t rfl) rfl rfl rfl <|
                          q_ext .n (.t rfl) rfl rfl rfl <|
                          q_ext .n (.t rfl) rfl rfl rfl <|
                          q_assign .n (.t rfl) rfl <|
                          q_assign .n (.t rfl) rfl <|
                          q_assign .n (.t rfl) rfl <|
                          Lex.nil) ?_
                      refine run_seq ?_
                      refine run_seq ?_
                      refine run_region (q_move .n (.t rfl) rfl <|
                          q_move .n (.t rfl) rfl <|
                          q_call0 (full := true) .n .f en_14 (.cons (.t rfl) (.cons (.t rfl) .nil)) (.cons (.b (.a (.own rfl rfl rfl (take_all (by simp only [len_map, put_len, markAirwayS_len, markMine_len, markInt64S_len, markJobS_len] <;> rfl)) (by simp only [len_map, put_len, markAirwayS_len, markMine_len, markInt64S_len, markJobS_len] <;> rfl)))) (.cons (.b (.a (.own rfl rfl rfl (take_all (by simp only [len_map, put_len, markAirwayS_len, markMine_len, markInt64S_len, markJobS_len] <;> rfl)) (by simp only [len_map, put_len, markAirwayS_len, markMine_len, markInt64S_len, markJobS_len] <;> rfl)))) .nil)) (fun hg => c_laws_eqInt64S (m_impl_FewestShifts (m_laws_toMine aM) (m_laws_toInt64S aFlows) (m_laws_toJobS aList) aBudget).1 (m_spec_FewestShifts (m_laws_toMine aM) (m_laws_toInt64S aFlows) (m_laws_toJobS aList) aBudget).1) rfl (fun _ => rfl) rfl <|
                          q_not .n (.t rfl) rfl <|
                          q_move .n (.t rfl) rfl <|
                          q_move (.f rfl rfl) (.t rfl) rfl <|
                          q_move (.f rfl rfl) (.t rfl) rfl <|
                          q_int (.f rfl rfl) (.u rfl id) (.u rfl id) rfl rfl <|
                          q_or .n (.t rfl) (.u rfl id) rfl <|
                          q_move .n (.t rfl) rfl <|
                          q_move (.f rfl rfl) (.t rfl) rfl <|
                          q_move (.f rfl rfl) (.t rfl) rfl <|
                          q_int (.f rfl rfl) (.u rfl id) (.u rfl id) rfl rfl <|
                          q_or .n (.t rfl) (.u rfl id) rfl <|
                          Lex.nil) ?_
                      refine run_cond (.t rfl) rfl (fun h14 => ?_) (fun h14 => ?_)
                      · try simp only [Bool.and_eq_true, Bool.or_eq_true, Bool.not_eq_true', Bool.and_eq_false_iff, Bool.or_eq_false_iff, Bool.not_eq_false', decide_eq_true_eq, decide_eq_false_iff_not, beq_iff_eq, bne_iff_ne, beq_eq_false_iff_ne, bne_eq_false_iff_eq, Bool.true_and, ne_eq, Decidable.not_not, Int.not_lt, Int.not_le, Nat.not_lt, Nat.not_le, strB_nil, strB_nil', strB_nnil, strB_nnil'] at h14
                        refine run_seq ?_
                        refine run_region (q_assign .n (.c rfl) rfl <|
                            Lex.nil) ?_
                        exact run_ret [] (.cons (.t rfl rfl) .nil) rfl trivial rfl
                      · try simp only [Bool.and_eq_true, Bool.or_eq_true, Bool.not_eq_true', Bool.and_eq_false_iff, Bool.or_eq_false_iff, Bool.not_eq_false', decide_eq_true_eq, decide_eq_false_iff_not, beq_iff_eq, bne_iff_ne, beq_eq_false_iff_ne, bne_eq_false_iff_eq, Bool.true_and, ne_eq, Decidable.not_not, Int.not_lt, Int.not_le, Nat.not_lt, Nat.not_le, strB_nil, strB_nil', strB_nnil, strB_nnil'] at h14
                        refine run_skip ?_
                        refine run_seq ?_
                        refine run_region (q_assign .n (.c rfl) rfl <|
                            Lex.nil) ?_
                        refine run_seq ?_
                        refine run_region (q_move .n (.t rfl) rfl <|
                            q_move .n (.t rfl) rfl <|
                            q_call0 (full := true) .n .f en_20 (.cons (.t rfl) (.cons (.t rfl) .nil)) (.cons (.b (.a (.own rfl rfl rfl (take_all (by simp only [len_map, put_len, markAirwayS_len, markMine_len, markInt64S_len, markJobS_len] <;> rfl)) (by simp only [len_map, put_len, markAirwayS_len, markMine_len, markInt64S_len, markJobS_len] <;> rfl)))) (.cons (.b (.a (.same rfl))) .nil)) (fun hg => c_laws_heldInt64S (m_laws_markInt64S (m_impl_FewestShifts (m_laws_toMine aM) (m_laws_toInt64S aFlows) (m_laws_toJobS aList) aBudget).1 1).2 1) rfl (fun _ => rfl) rfl <|
                            q_assign .n (.t rfl) rfl <|
                            Lex.nil) ?_
                        refine run_seq ?_
                        refine run_seq ?_
                        refine run_region (q_move .n (.t rfl) rfl <|
                            q_int .n (.t rfl) (.c rfl) rfl rfl <|
                            Lex.nil) ?_
                        refine run_cond (.t rfl) rfl (fun h15 => ?_) (fun h15 => ?_)
                        · try simp only [Bool.and_eq_true, Bool.or_eq_true, Bool.not_eq_true', Bool.and_eq_false_iff, Bool.or_eq_false_iff, Bool.not_eq_false', decide_eq_true_eq, decide_eq_false_iff_not, beq_iff_eq, bne_iff_ne, beq_eq_false_iff_ne, bne_eq_false_iff_eq, Bool.true_and, ne_eq, Decidable.not_not, Int.not_lt, Int.not_le, Nat.not_lt, Nat.not_le, strB_nil, strB_nil', strB_nnil, strB_nnil'] at h15
                          refine run_seq ?_
                          refine run_region (q_assign .n (.c rfl) rfl <|
                              Lex.nil) ?_
                          exact run_ret [] (.cons (.t rfl rfl) .nil) rfl trivial rfl
                        · try simp only [Bool.and_eq_true, Bool.or_eq_true, Bool.not_eq_true', Bool.and_eq_false_iff, Bool.or_eq_false_iff, Bool.not_eq_false', decide_eq_true_eq, decide_eq_false_iff_not, beq_iff_eq, bne_iff_ne, beq_eq_false_iff_ne, bne_eq_false_iff_eq, Bool.true_and, ne_eq, Decidable.not_not, Int.not_lt, Int.not_le, Nat.not_lt, Nat.not_le, strB_nil, strB_nil', strB_nnil, strB_nnil'] at h15
                          refine run_skip ?_
                          refine run_seq ?_
                          refine run_seq ?_
                          refine run_region (q_move .n (.t rfl) rfl <|
                              q_move .n (.t rfl) rfl <|
                              q_int .n (.t rfl) (.t rfl) rfl rfl <|
                              Lex.nil) ?_
                          refine run_cond (.t rfl) rfl (fun h16 => ?_) (fun h16 => ?_)
                          · try simp only [Bool.and_eq_true, Bool.or_eq_true, Bool.not_eq_true', Bool.and_eq_false_iff, Bool.or_eq_false_iff, Bool.not_eq_false', decide_eq_true_eq, decide_eq_false_iff_not, beq_iff_eq, bne_iff_ne, beq_eq_false_iff_ne, bne_eq_false_iff_eq, Bool.true_and, ne_eq, Decidable.not_not, Int.not_lt, Int.not_le, Nat.not_lt, Nat.not_le, strB_nil, strB_nil', strB_nnil, strB_nnil'] at h16
                            refine run_seq ?_
                            refine run_region (q_assign .n (.c rfl) rfl <|
                                Lex.nil) ?_
                            exact run_ret [] (.cons (.t rfl rfl) .nil) rfl trivial rfl
                          · try simp only [Bool.and_eq_true, Bool.or_eq_true, Bool.not_eq_true', Bool.and_eq_false_iff, Bool.or_eq_false_iff, Bool.not_eq_false', decide_eq_true_eq, decide_eq_false_iff_not, beq_iff_eq, bne_iff_ne, beq_eq_false_iff_ne, bne_eq_false_iff_eq, Bool.true_and, ne_eq, Decidable.not_not, Int.not_lt, Int.not_le, Nat.not_lt, Nat.not_le, strB_nil, strB_nil', strB_nnil, strB_nnil'] at h16
                            refine run_skip ?_
                            refine run_seq ?_
                            refine run_region (q_assign .n (.c rfl) rfl <|
                                Lex.nil) ?_
                            exact run_ret [] (.cons (.t rfl rfl) .nil) rfl trivial rfl

end Go.Proofs.Ytchjibndocnnhaa
