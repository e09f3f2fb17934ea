/-
  THE WALKS: each Go function computes its model. Conditions: as each theorem states them (hp1, hp2 ..).
-/
import Derived.Test.YtbflomopgofkgaaExactRankCrewsWalks1
set_option linter.unusedVariables false
set_option linter.unusedSimpArgs false
set_option linter.unusedSectionVars false
set_option linter.unnecessarySimpa false
namespace Go.Proofs.Ytbflomopgofkgaa
open Go Go.RowKit Go.Proofs Go.Proofs.Ytbflomopgofkgaa.E
/-! ### slices_symMergeCmpFunc_string -/
set_option maxRecDepth 100000 in
set_option maxHeartbeats 4000000 in
theorem c_slices_symMergeCmpFunc_string_n : ∀ (fuel : Nat) (data : List (List UInt8)) (a : Int) (m_ : Int) (b : Int) (cmp : List UInt8 → List UInt8 → Int) (F_cmp : FuncId) (C_cmp : List V) (he_cmp : entB Try.prog F_cmp = true) (hr_cmp : C_cmp.all V.ro = true) (Q_cmp : (List UInt8) → Prop) (hc_cmp : ∀ (a0 : List UInt8) (a1 : List UInt8), Q_cmp a0 → Q_cmp a1 → Con Try.prog F_cmp ([.str a0, .str a1] ++ C_cmp) [] (.int .i64 (cmp a0 a1)) []) (hp1 : 0 ≤ a ∧ a < m_ ∧ m_ < b ∧ b ≤ data.length) (hp2 : data.length ≤ 1000) (hp3 : ∀ x ∈ data, Q_cmp x) (hp4 : Kc cmp) (hmu : (b - a).toNat < fuel), Con Try.prog 144 [.os 0 data.length, .int .i64 a, .int .i64 m_, .int .i64 b, .clo F_cmp C_cmp] [(0, some (.row 9 1 (data.map V.str)))] (.tup []) ([(0, some (.row 9 1 ((m_slices_symMergeCmpFunc_string_n fuel data a m_ b cmp).map V.str)))]) := by
  intro fuel
  induction fuel with
  | zero => intro data a m_ b cmp F_cmp C_cmp he_cmp hr_cmp Q_cmp hc_cmp hp1 hp2 hp3 hp4 hmu; exact absurd hmu (Nat.not_lt_zero _)
  | succ fuel ih =>
  intro data a m_ b cmp F_cmp C_cmp he_cmp hr_cmp Q_cmp hc_cmp hp1 hp2 hp3 hp4 hmu
  simp only [m_slices_symMergeCmpFunc_string_n]
  have hself := post_symMerge fuel
  generalize m_slices_symMergeCmpFunc_string_n fuel = self_ at ih hself ⊢
  refine con_intro (out := fun r : (List (List UInt8)) => ((.tup [] : V), ([(0, some (.row 9 1 (r.map V.str)))] : List (Nat × Option O)))) (r := (m_slices_symMergeCmpFunc_string_body self_ data a m_ b cmp)) Try.func144 rfl Try.ntmps144 rfl ?_
  have hM : IntKind.wrap .i64 (Int.fdiv (IntKind.wrap .u64 (a + b)) (2 ^ min (1 : Int).toNat 64)) = (a + b) / 2 := midw (by omega) (by omega)
  have hMB : IntKind.wrap .i64 (Int.fdiv (IntKind.wrap .u64 (a + b)) (2 ^ min (1 : Int).toNat IntKind.u64.bits)) = (a + b) / 2 := midwB (by omega) (by omega)
  refine run_factH (l := 0) rfl fun hl => ?_
  have l1 := hl; clear hl; simp only [List.length_map] at l1
  refine run_seq ?_
  refine run_seq ?_
  refine run_region (q_move .n (.t rfl) rfl <|
      q_move .n (.t rfl) rfl <|
      q_sub .n (.t rfl) (.t rfl) (fun _ => by omega) rfl <|
      q_int .n (.t rfl) (.c rfl) rfl rfl <|
      Lex.nil) ?_
  refine run_cond (.t rfl) rfl (fun h2 => ?_) (fun h2 => ?_)
  · try simp only [Bool.and_eq_true, Bool.or_eq_true, Bool.not_eq_true', Bool.and_eq_false_iff, Bool.or_eq_false_iff, Bool.not_eq_false', decide_eq_true_eq, decide_eq_false_iff_not, beq_iff_eq, bne_iff_ne, beq_eq_false_iff_ne, bne_eq_false_iff_eq, Bool.true_and, ne_eq, Decidable.not_not, Int.not_lt, Int.not_le, Nat.not_lt, Nat.not_le, strB_nil, strB_nil', strB_nnil, strB_nnil'] at h2
    refine run_seq ?_
    refine run_region (q_move .n (.t rfl) rfl <|
        q_assign .n (.t rfl) rfl <|
        Lex.nil) ?_
    refine run_seq ?_
    refine run_region (q_move .n (.t rfl) rfl <|
        q_assign .n (.t rfl) rfl <|
        Lex.nil) ?_
    refine run_seq ?_
    refine run_block ?_
    refine run_LOOP (m_slices_symMergeCmpFunc_string_b1 self_ data a m_ b cmp) _ _ _ rfl (fun (x1 : Int × Int) => m_ ≤ x1.1 ∧ x1.1 ≤ x1.2 ∧ x1.2 ≤ b) (fun x1 => m_ ≤ x1.1 ∧ x1.1 ≤ x1.2 ∧ x1.2 ≤ b) (fun x1 => (x1.2 - x1.1).toNat) (fun x1 => ⟨[(0, some (true, .os 0 data.length)), (1, some (true, .int .i64 a)), (4, some (true, .clo F_cmp C_cmp)), (10, some (true, .int .i64 x1.1)), (11, some (true, .int .i64 x1.2))], [(0, some (.row 9 1 (data.map V.str)))]⟩) (fun x1 => ⟨[(0, some (true, .os 0 data.length)), (1, some (true, .int .i64 a)), (10, some (true, .int .i64 x1.1))], [(0, some (.row 9 1 (data.map V.str)))]⟩) (by omega) (by omega) (sub_of [] ⟨rfl, rfl, clo_ren hr_cmp rfl, rfl, rfl, trivial⟩ ⟨rfl, trivial⟩ rfl) ?_ ?_
    · intro x1 i7
      have e25 := i7
      try dsimp only at *
      refine run_seq ?_
      refine run_seq ?_
      refine run_region (q_move .n (.t rfl) rfl <|
          q_assign .n (.t rfl) rfl <|
          Lex.nil) ?_
      refine run_block ?_
      refine run_LOOP (m_slices_symMergeCmpFunc_string_b2 self_ data a m_ b cmp x1) _ _ _ rfl (fun (x2 : (List (List UInt8)) × Int) => a ≤ x2.2 ∧ x2.2 ≤ (x1.1 - 1) ∧ x2.1.length = data.length ∧ x2.1.length = data.length ∧ a ≤ x2.2 ∧ (∀ x ∈ x2.1, Q_cmp x)) (fun x2 => a ≤ x2.2 ∧ x2.2 ≤ (x1.1 - 1) ∧ x2.1.length = data.length ∧ x2.1.length = data.length ∧ a ≤ x2.2 ∧ (∀ x ∈ x2.1, Q_cmp x) ∧ (x1.1 - 1) ≤ x2.2) (fun x2 => ((x1.1 - 1) - x2.2 : Int).toNat) (fun x2 => ⟨[(0, some (true, .os 0 x2.1.length)), (10, some (true, .int .i64 x1.1)), (13, some (true, .int .i64 x2.2))], [(0, some (.row 9 1 (x2.1.map V.str)))]⟩) (fun x2 => ⟨[], [(0, some (.row 9 1 (x2.1.map V.str)))]⟩) ⟨by omega, by omega, by (simp only [List.length_append, List.length_cons, List.length_nil, List.length_replicate, put_len] at * <;> omega), by (simp only [List.length_append, List.length_cons, List.length_nil, List.length_replicate, put_len] at * <;> omega), by omega, by omega⟩ (by omega) (sub_of [] ⟨rfl, rfl, rfl, trivial⟩ ⟨rfl, trivial⟩ rfl) ?_ ?_
      · intro x2 i11
        obtain ⟨e12, e13, e14, e15, e16, e17, e18⟩ := i11
        try dsimp only at *
        exact run_ret [] .nil rfl ⟨rfl, trivial⟩ rfl
      · intro rec2 k2 hk8 x2 i9
        obtain ⟨e19, e20, e21, e22, e23, e24⟩ := i9
        try dsimp only at *
        refine run_seq ?_
        refine run_seq ?_
        refine run_region (q_move .n (.t rfl) rfl <|
            q_move .n (.t rfl) rfl <|
            q_sub .n (.t rfl) (.c rfl) (fun _ => by omega) rfl <|
            q_int .n (.t rfl) (.t rfl) rfl rfl <|
            Lex.nil) ?_
        refine run_cond (.t rfl) rfl (fun h10 => ?_) (fun h10 => ?_)
        · try simp only [Bool.and_eq_true, Bool.or_eq_true, Bool.not_eq_true', Bool.and_eq_false_iff, Bool.or_eq_false_iff, Bool.not_eq_false', decide_eq_true_eq, decide_eq_false_iff_not, beq_iff_eq, bne_iff_ne, beq_eq_false_iff_ne, bne_eq_false_iff_eq, Bool.true_and, ne_eq, Decidable.not_not, Int.not_lt, Int.not_le, Nat.not_lt, Nat.not_le, strB_nil, strB_nil', strB_nnil, strB_nnil'] at h10
          refine run_skip ?_
          refine run_seq ?_
          refine run_block ?_
          refine run_draw fmo (q_move .n (.t rfl) rfl <|
              q_move .n (.t rfl) rfl <|
              q_move .n (.t rfl) rfl <|
              q_move .n (.t rfl) rfl <|
              q_add .n (.t rfl) (.c rfl) (fun _ => by omega) rfl <|
              q_move .n (.t rfl) rfl <|
              q_move .n (.t rfl) rfl <|
              q_add .n (.t rfl) (.c rfl) (fun _ => by omega) rfl <|
              q_idx_ow .n (.t rfl) (.t rfl) sl_24 (fun _ => by omega) rfl <|
              q_ld1_row .n (.t rfl) rfl (fun _ => by omega) rfl rfl rfl ic_9 rfl <|
              q_move .n (.t rfl) rfl <|
              q_move .n (.t rfl) rfl <|
              q_idx_ow .n (.t rfl) (.t rfl) sl_24 (fun _ => by omega) rfl <|
              q_ld1_row .n (.t rfl) rfl (fun _ => by omega) rfl rfl rfl ic_9 rfl <|
              q_idx_ow .n (.t rfl) (.t rfl) sl_24 (fun _ => by omega) rfl <|
              q_st_rowm (at' x2.1 (x2.2 + 1)) .n rfl (.t rfl) (.t rfl) rfl ts_9 (by omega) rfl rfl <|
              q_idx_ow .n (.t rfl) (.t rfl) sl_24 (fun _ => by omega) rfl <|
              q_st_rowm (at' x2.1 x2.2) .n rfl (.t rfl) (.t rfl) rfl ts_9 (by (simp only [List.length_append, List.length_cons, List.length_nil, List.length_replicate, put_len] at * <;> omega)) rfl rfl <|
              Lex.nil) (by kernel_rfl) ?_
          refine run_endB ?_
          refine run_region (q_move .n (.t rfl) rfl <|
              q_add .n (.t rfl) (.c rfl) (fun _ => by omega) rfl <|
              q_assign .n (.t rfl) rfl <|
              Lex.nil) ?_
          exact run_again (put' (put' x2.1 x2.2 (at' x2.1 (x2.2 + 1))) (x2.2 + 1) (at' x2.1 x2.2), x2.2 + 1) ⟨by omega, by omega, by (simp only [List.length_append, List.length_cons, List.length_nil, List.length_replicate, put_len] at * <;> omega), by (simp only [List.length_append, List.length_cons, List.length_nil, List.length_replicate, put_len] at * <;> omega), by omega, by (((try dsimp only); exact swap_all (by assumption) (by omega) (by omega) (by omega)))⟩ (by omega) (sub_of [] ⟨os_len rfl (by first | (simp only [put_len]; done) | (first | omega | assumption | (simp only [List.length_append, List.length_cons, List.length_nil, List.length_replicate, put_len] at * <;> omega) | ((((try dsimp only); omega)); done) | ((((try dsimp only); exact swap_all (by assumption) (by omega) (by omega) (by omega))); done) | ((((try dsimp only); simp only [put_len]; omega)); done) | (((have hwx1 := midw (s := x1.1 + x1.2) (by omega) (by omega); have hvx1 := midwB (s := x1.1 + x1.2) (by omega) (by omega); (try dsimp only); omega)); done))), rfl, rfl, trivial⟩ ⟨rfl, trivial⟩ rfl)
        · try simp only [Bool.and_eq_true, Bool.or_eq_true, Bool.not_eq_true', Bool.and_eq_false_iff, Bool.or_eq_false_iff, Bool.not_eq_false', decide_eq_true_eq, decide_eq_false_iff_not, beq_iff_eq, bne_iff_ne, beq_eq_false_iff_ne, bne_eq_false_iff_eq, Bool.true_and, ne_eq, Decidable.not_not, Int.not_lt, Int.not_le, Nat.not_lt, Nat.not_le, strB_nil, strB_nil', strB_nnil, strB_nnil'] at h10
          refine run_exit rfl ?_
          exact run_cont hk8 (x2.1, x2.2) ⟨by omega, by omega, by omega, by omega, by omega, by omega, by omega⟩ (sub_of [] trivial ⟨rfl, trivial⟩ rfl)
    · intro rec1 k1 hk3 x1 i4
      have e26 := i4
      try dsimp only at *
      refine run_seq ?_
      refine run_seq ?_
      refine run_region (q_move .n (.t rfl) rfl <|
          q_move .n (.t rfl) rfl <|
          q_int .n (.t rfl) (.t rfl) rfl rfl <|
          Lex.nil) ?_
      refine run_cond (.t rfl) rfl (fun h5 => ?_) (fun h5 => ?_)
      · try simp only [Bool.and_eq_true, Bool.or_eq_true, Bool.not_eq_true', Bool.and_eq_false_iff, Bool.or_eq_false_iff, Bool.not_eq_false', decide_eq_true_eq, decide_eq_false_iff_not, beq_iff_eq, bne_iff_ne, beq_eq_false_iff_ne, bne_eq_false_iff_eq, Bool.true_and, ne_eq, Decidable.not_not, Int.not_lt, Int.not_le, Nat.not_lt, Nat.not_le, strB_nil, strB_nil', strB_nnil, strB_nnil'] at h5
        refine run_skip ?_
        refine run_block ?_
        refine run_seq ?_
        refine run_region (q_move .n (.t rfl) rfl <|
            q_move .n (.t rfl) rfl <|
            q_add .n (.t rfl) (.t rfl) (fun _ => by omega) rfl <|
            q_conv .n (.t rfl) cv_3_162 rfl <|
            q_shr .n (.t rfl) (.c rfl) (fun _ => by omega) rfl <|
            q_conv .n (.t rfl) cv_162_3 rfl <|
            q_assign .n (.t rfl) rfl <|
            Lex.nil) ?_
        refine run_seq ?_
        refine run_draw fmo (q_move .n (.t rfl) rfl <|
            q_move .n (.t rfl) rfl <|
            q_move .n (.t rfl) rfl <|
            q_idx_ow .n (.t rfl) (.t rfl) sl_24 (fun _ => by ((have hwx1 := midw (s := x1.1 + x1.2) (by omega) (by omega); have hvx1 := midwB (s := x1.1 + x1.2) (by omega) (by omega); (try dsimp only); omega))) rfl <|
            q_ld1_row .n (.t rfl) rfl (fun _ => by ((have hwx1 := midw (s := x1.1 + x1.2) (by omega) (by omega); have hvx1 := midwB (s := x1.1 + x1.2) (by omega) (by omega); (try dsimp only); omega))) rfl rfl rfl ic_9 rfl <|
            q_move .n (.t rfl) rfl <|
            q_move .n (.t rfl) rfl <|
            q_idx_ow .n (.t rfl) (.t rfl) sl_24 (fun _ => by omega) rfl <|
            q_ld1_row .n (.t rfl) rfl (fun _ => by omega) rfl rfl rfl ic_9 rfl <|
            q_call0 (full := false) .n (.c (.t rfl)) he_cmp (.cons (.t rfl) (.cons (.t rfl) .nil)) (passes_app hr_cmp (.cons (.b (.a (.same rfl))) (.cons (.b (.a (.same rfl))) .nil))) (fun hg => hc_cmp (at' data (IntKind.wrap .i64 (Int.fdiv (IntKind.wrap .u64 (x1.1 + x1.2)) (2 ^ min (1 : Int).toNat 64)))) (at' data a) (by first | exact at_all (by assumption) (by omega) | exact at_all (by assumption) (by dsimp only; omega) | (simp only [Bool.true_and, decide_eq_true_eq] at hg; exact at_all (by assumption) (by omega)) | exact at_all (by assumption) (by have hwx1 := midw (s := x1.1 + x1.2) (by omega) (by omega); have hvx1 := midwB (s := x1.1 + x1.2) (by omega) (by omega); (first | omega | (dsimp only; omega))) | exact at_all (by assumption) (by have hwx3 := midw (s := x3.1 + x3.2) (by omega) (by omega); have hvx3 := midwB (s := x3.1 + x3.2) (by omega) (by omega); (first | omega | (dsimp only; omega))) | exact at_all (by assumption) (by have hwx5 := midw (s := x5.1 + x5.2) (by omega) (by omega); have hvx5 := midwB (s := x5.1 + x5.2) (by omega) (by omega); (first | omega | (dsimp only; omega)))) (by first | exact at_all (by assumption) (by omega) | exact at_all (by assumption) (by dsimp only; omega) | (simp only [Bool.true_and, decide_eq_true_eq] at hg; exact at_all (by assumption) (by omega)) | exact at_all (by assumption) (by have hwx1 := midw (s := x1.1 + x1.2) (by omega) (by omega); have hvx1 := midwB (s := x1.1 + x1.2) (by omega) (by omega); (first | omega | (dsimp only; omega))) | exact at_all (by assumption) (by have hwx3 := midw (s := x3.1 + x3.2) (by omega) (by omega); have hvx3 := midwB (s := x3.1 + x3.2) (by omega) (by omega); (first | omega | (dsimp only; omega))) | exact at_all (by assumption) (by have hwx5 := midw (s := x5.1 + x5.2) (by omega) (by omega); have hvx5 := midwB (s := x5.1 + x5.2) (by omega) (by omega); (first | omega | (dsimp only; omega))))) rfl (fun h => Bool.noConfusion h) rfl <|
            q_int .n (.t rfl) (.c rfl) rfl rfl <|
            Lex.nil) (by kernel_rfl) ?_
        refine run_cond (.t rfl) rfl (fun h6 => ?_) (fun h6 => ?_)
        · try simp only [Bool.and_eq_true, Bool.or_eq_true, Bool.not_eq_true', Bool.and_eq_false_iff, Bool.or_eq_false_iff, Bool.not_eq_false', decide_eq_true_eq, decide_eq_false_iff_not, beq_iff_eq, bne_iff_ne, beq_eq_false_iff_ne, bne_eq_false_iff_eq, Bool.true_and, ne_eq, Decidable.not_not, Int.not_lt, Int.not_le, Nat.not_lt, Nat.not_le, strB_nil, strB_nil', strB_nnil, strB_nnil'] at h6
          refine run_region (q_move .n (.t rfl) rfl <|
              q_add .n (.t rfl) (.c rfl) (fun _ => by ((have hwx1 := midw (s := x1.1 + x1.2) (by omega) (by omega); have hvx1 := midwB (s := x1.1 + x1.2) (by omega) (by omega); (try dsimp only); omega))) rfl <|
              q_assign .n (.t rfl) rfl <|
              Lex.nil) ?_
          refine run_endB ?_
          exact run_again ((IntKind.wrap .i64 (Int.fdiv (IntKind.wrap .u64 (x1.1 + x1.2)) (2 ^ min (1 : Int).toNat 64))) + 1, x1.2) (by ((have hwx1 := midw (s := x1.1 + x1.2) (by omega) (by omega); have hvx1 := midwB (s := x1.1 + x1.2) (by omega) (by omega); (try dsimp only); omega))) (by ((have hwx1 := midw (s := x1.1 + x1.2) (by omega) (by omega); have hvx1 := midwB (s := x1.1 + x1.2) (by omega) (by omega); (try dsimp only); omega))) (sub_of [] ⟨rfl, rfl, clo_ren hr_cmp rfl, rfl, rfl, trivial⟩ ⟨rfl, trivial⟩ rfl)
        · try simp only [Bool.and_eq_true, Bool.or_eq_true, Bool.not_eq_true', Bool.and_eq_false_iff, Bool.or_eq_false_iff, Bool.not_eq_false', decide_eq_true_eq, decide_eq_false_iff_not, beq_iff_eq, bne_iff_ne, beq_eq_false_iff_ne, bne_eq_false_iff_eq, Bool.true_and, ne_eq, Decidable.not_not, Int.not_lt, Int.not_le, Nat.not_lt, Nat.not_le, strB_nil, strB_nil', strB_nnil, strB_nnil'] at h6
          refine run_region (q_move .n (.t rfl) rfl <|
              q_assign .n (.t rfl) rfl <|
              Lex.nil) ?_
          refine run_endB ?_
          exact run_again (x1.1, IntKind.wrap .i64 (Int.fdiv (IntKind.wrap .u64 (x1.1 + x1.2)) (2 ^ min (1 : Int).toNat 64))) (by ((have hwx1 := midw (s := x1.1 + x1.2) (by omega) (by omega); have hvx1 := midwB (s := x1.1 + x1.2) (by omega) (by omega); (try dsimp only); omega))) (by ((have hwx1 := midw (s := x1.1 + x1.2) (by omega) (by omega); have hvx1 := midwB (s := x1.1 + x1.2) (by omega) (by omega); (try dsimp only); omega))) (sub_of [] ⟨rfl, rfl, clo_ren hr_cmp rfl, rfl, rfl, trivial⟩ ⟨rfl, trivial⟩ rfl)
      · try simp only [Bool.and_eq_true, Bool.or_eq_true, Bool.not_eq_true', Bool.and_eq_false_iff, Bool.or_eq_false_iff, Bool.not_eq_false', decide_eq_true_eq, decide_eq_false_iff_not, beq_iff_eq, bne_iff_ne, beq_eq_false_iff_ne, bne_eq_false_iff_eq, Bool.true_and, ne_eq, Decidable.not_not, Int.not_lt, Int.not_le, Nat.not_lt, Nat.not_le, strB_nil, strB_nil', strB_nnil, strB_nnil'] at h5
        refine run_exit rfl ?_
        exact run_cont hk3 (x1.1, x1.2) (by omega) (sub_of [] ⟨rfl, rfl, rfl, trivial⟩ ⟨rfl, trivial⟩ rfl)
  · try simp only [Bool.and_eq_true, Bool.or_eq_true, Bool.not_eq_true', Bool.and_eq_false_iff, Bool.or_eq_false_iff, Bool.not_eq_false', decide_eq_true_eq, decide_eq_false_iff_not, beq_iff_eq, bne_iff_ne, beq_eq_false_iff_ne, bne_eq_false_iff_eq, Bool.true_and, ne_eq, Decidable.not_not, Int.not_lt, Int.not_le, Nat.not_lt, Nat.not_le, strB_nil, strB_nil', strB_nnil, strB_nnil'] at h2
    refine run_skip ?_
    refine run_seq ?_
    refine run_seq ?_
    refine run_region (q_move .n (.t rfl) rfl <|
        q_move .n (.t rfl) rfl <|
        q_sub .n (.t rfl) (.t rfl) (fun _ => by omega) rfl <|
        q_int .n (.t rfl) (.c rfl) rfl rfl <|
        Lex.nil) ?_
    refine run_cond (.t rfl) rfl (fun h27 => ?_) (fun h27 => ?_)
    · try simp only [Bool.and_eq_true, Bool.or_eq_true, Bool.not_eq_true', Bool.and_eq_false_iff, Bool.or_eq_false_iff, Bool.not_eq_false', decide_eq_true_eq, decide_eq_false_iff_not, beq_iff_eq, bne_iff_ne, beq_eq_false_iff_ne, bne_eq_false_iff_eq, Bool.true_and, ne_eq, Decidable.not_not, Int.not_lt, Int.not_le, Nat.not_lt, Nat.not_le, strB_nil, strB_nil', strB_nnil, strB_nnil'] at h27
      refine run_seq ?_
      refine run_region (q_move .n (.t rfl) rfl <|
          q_assign .n (.t rfl) rfl <|
          Lex.nil) ?_
      refine run_seq ?_
      refine run_region (q_move .n (.t rfl) rfl <|
          q_assign .n (.t rfl) rfl <|
          Lex.nil) ?_
      refine run_seq ?_
      refine run_block ?_
      refine run_LOOP (m_slices_symMergeCmpFunc_string_b3 self_ data a m_ b cmp) _ _ _ rfl (fun (x3 : Int × Int) => a ≤ x3.1 ∧ x3.1 ≤ x3.2 ∧ x3.2 ≤ m_) (fun x3 => a ≤ x3.1 ∧ x3.1 ≤ x3.2 ∧ x3.2 ≤ m_) (fun x3 => (x3.2 - x3.1).toNat) (fun x3 => ⟨[(0, some (true, .os 0 data.length)), (2, some (true, .int .i64 m_)), (4, some (true, .clo F_cmp C_cmp)), (14, some (true, .int .i64 x3.1)), (15, some (true, .int .i64 x3.2))], [(0, some (.row 9 1 (data.map V.str)))]⟩) (fun x3 => ⟨[(0, some (true, .os 0 data.length)), (2, some (true, .int .i64 m_)), (14, some (true, .int .i64 x3.1))], [(0, some (.row 9 1 (data.map V.str)))]⟩) (by omega) (by omega) (sub_of [] ⟨rfl, rfl, clo_ren hr_cmp rfl, rfl, rfl, trivial⟩ ⟨rfl, trivial⟩ rfl) ?_ ?_
      · intro x3 i32
        have e47 := i32
        try dsimp only at *
        refine run_seq ?_
        refine run_seq ?_
        refine run_region (q_move .n (.t rfl) rfl <|
            q_assign .n (.t rfl) rfl <|
            Lex.nil) ?_
        refine run_block ?_
        refine run_LOOP (m_slices_symMergeCmpFunc_string_b4 self_ data a m_ b cmp x3) _ _ _ rfl (fun (x4 : (List (List UInt8)) × Int) => x4.2 ≤ m_ ∧ x4.1.length = data.length ∧ x4.1.length = data.length ∧ x4.2 ≤ m_ ∧ (∀ x ∈ x4.1, Q_cmp x)) (fun x4 => x4.2 ≤ m_ ∧ x4.1.length = data.length ∧ x4.1.length = data.length ∧ x4.2 ≤ m_ ∧ (∀ x ∈ x4.1, Q_cmp x)) (fun x4 => x4.2.toNat) (fun x4 => ⟨[(0, some (true, .os 0 x4.1.length)), (14, some (true, .int .i64 x3.1)), (17, some (true, .int .i64 x4.2))], [(0, some (.row 9 1 (x4.1.map V.str)))]⟩) (fun x4 => ⟨[], [(0, some (.row 9 1 (x4.1.map V.str)))]⟩) ⟨by omega, by (simp only [List.length_append, List.length_cons, List.length_nil, List.length_replicate, put_len] at * <;> omega), by (simp only [List.length_append, List.length_cons, List.length_nil, List.length_replicate, put_len] at * <;> omega), by omega, by omega⟩ (by omega) (sub_of [] ⟨rfl, rfl, rfl, trivial⟩ ⟨rfl, trivial⟩ rfl) ?_ ?_
        · intro x4 i36
          obtain ⟨e37, e38, e39, e40, e41⟩ := i36
          try dsimp only at *
          exact run_ret [] .nil rfl ⟨rfl, trivial⟩ rfl
        · intro rec4 k4 hk33 x4 i34
          obtain ⟨e42, e43, e44, e45, e46⟩ := i34
          try dsimp only at *
          refine run_seq ?_
          refine run_seq ?_
          refine run_region (q_move .n (.t rfl) rfl <|
              q_move .n (.t rfl) rfl <|
              q_int .n (.t rfl) (.t rfl) rfl rfl <|
              Lex.nil) ?_
          refine run_cond (.t rfl) rfl (fun h35 => ?_) (fun h35 => ?_)
          · try simp only [Bool.and_eq_true, Bool.or_eq_true, Bool.not_eq_true', Bool.and_eq_false_iff, Bool.or_eq_false_iff, Bool.not_eq_false', decide_eq_true_eq, decide_eq_false_iff_not, beq_iff_eq, bne_iff_ne, beq_eq_false_iff_ne, bne_eq_false_iff_eq, Bool.true_and, ne_eq, Decidable.not_not, Int.not_lt, Int.not_le, Nat.not_lt, Nat.not_le, strB_nil, strB_nil', strB_nnil, strB_nnil'] at h35
            refine run_skip ?_
            refine run_seq ?_
            refine run_block ?_
            refine run_draw fmo (q_move .n (.t rfl) rfl <|
                q_move .n (.t rfl) rfl <|
                q_move .n (.t rfl) rfl <|
                q_move .n (.t rfl) rfl <|
                q_sub .n (.t rfl) (.c rfl) (fun _ => by omega) rfl <|
                q_move .n (.t rfl) rfl <|
                q_move .n (.t rfl) rfl <|
                q_sub .n (.t rfl) (.c rfl) (fun _ => by omega) rfl <|
                q_idx_ow .n (.t rfl) (.t rfl) sl_24 (fun _ => by omega) rfl <|
                q_ld1_row .n (.t rfl) rfl (fun _ => by omega) rfl rfl rfl ic_9 rfl <|
                q_move .n (.t rfl) rfl <|
                q_move .n (.t rfl) rfl <|
                q_idx_ow .n (.t rfl) (.t rfl) sl_24 (fun _ => by omega) rfl <|
                q_ld1_row .n (.t rfl) rfl (fun _ => by omega) rfl rfl rfl ic_9 rfl <|
                q_idx_ow .n (.t rfl) (.t rfl) sl_24 (fun _ => by omega) rfl <|
                q_st_rowm (at' x4.1 (x4.2 - 1)) .n rfl (.t rfl) (.t rfl) rfl ts_9 (by omega) rfl rfl <|
                q_idx_ow .n (.t rfl) (.t rfl) sl_24 (fun _ => by omega) rfl <|
                q_st_rowm (at' x4.1 x4.2) .n rfl (.t rfl) (.t rfl) rfl ts_9 (by (simp only [List.length_append, List.length_cons, List.length_nil, List.length_replicate, put_len] at * <;> omega)) rfl rfl <|
                Lex.nil) (by kernel_rfl) ?_
            refine run_endB ?_
            refine run_region (q_move .n (.t rfl) rfl <|
                q_sub .n (.t rfl) (.c rfl) (fun _ => by omega) rfl <|
                q_assign .n (.t rfl) rfl <|
                Lex.nil) ?_
            exact run_again (put' (put' x4.1 x4.2 (at' x4.1 (x4.2 - 1))) (x4.2 - 1) (at' x4.1 x4.2), x4.2 - 1) ⟨by omega, by (simp only [List.length_append, List.length_cons, List.length_nil, List.length_replicate, put_len] at * <;> omega), by (simp only [List.length_append, List.length_cons, List.length_nil, List.length_replicate, put_len] at * <;> omega), by omega, by (((try dsimp only); exact swap_all (by assumption) (by omega) (by omega) (by omega)))⟩ (by omega) (sub_of [] ⟨os_len rfl (by first | (simp only [put_len]; done) | (first | omega | assumption | (simp only [List.length_append, List.length_cons, List.length_nil, List.length_replicate, put_len] at * <;> omega) | ((((try dsimp only); omega)); done) | ((((try dsimp only); exact swap_all (by assumption) (by omega) (by omega) (by omega))); done) | ((((try dsimp only); simp only [put_len]; omega)); done) | (((have hwx3 := midw (s := x3.1 + x3.2) (by omega) (by omega); have hvx3 := midwB (s := x3.1 + x3.2) (by omega) (by omega); (try dsimp only); omega)); done))), rfl, rfl, trivial⟩ ⟨rfl, trivial⟩ rfl)
          · try simp only [Bool.and_eq_true, Bool.or_eq_true, Bool.not_eq_true', Bool.and_eq_false_iff, Bool.or_eq_false_iff, Bool.not_eq_false', decide_eq_true_eq, decide_eq_false_iff_not, beq_iff_eq, bne_iff_ne, beq_eq_false_iff_ne, bne_eq_false_iff_eq, Bool.true_and, ne_eq, Decidable.not_not, Int.not_lt, Int.not_le, Nat.not_lt, Nat.not_le, strB_nil, strB_nil', strB_nnil, strB_nnil'] at h35
            refine run_exit rfl ?_
            exact run_cont hk33 (x4.1, x4.2) ⟨by omega, by omega, by omega, by omega, by omega⟩ (sub_of [] trivial ⟨rfl, trivial⟩ rfl)
      · intro rec3 k3 hk28 x3 i29
        have e48 := i29
        try dsimp only at *
        refine run_seq ?_
        refine run_seq ?_
        refine run_region (q_move .n (.t rfl) rfl <|
            q_move .n (.t rfl) rfl <|
            q_int .n (.t rfl) (.t rfl) rfl rfl <|
            Lex.nil) ?_
        refine run_cond (.t rfl) rfl (fun h30 => ?_) (fun h30 => ?_)
        · try simp only [Bool.and_eq_true, Bool.or_eq_true, Bool.not_eq_true', Bool.and_eq_false_iff, Bool.or_eq_false_iff, Bool.not_eq_false', decide_eq_true_eq, decide_eq_false_iff_not, beq_iff_eq, bne_iff_ne, beq_eq_false_iff_ne, bne_eq_false_iff_eq, Bool.true_and, ne_eq, Decidable.not_not, Int.not_lt, Int.not_le, Nat.not_lt, Nat.not_le, strB_nil, strB_nil', strB_nnil, strB_nnil'] at h30
          refine run_skip ?_
          refine run_block ?_
          refine run_seq ?_
          refine run_region (q_move .n (.t rfl) rfl <|
              q_move .n (.t rfl) rfl <|
              q_add .n (.t rfl) (.t rfl) (fun _ => by omega) rfl <|
              q_conv .n (.t rfl) cv_3_162 rfl <|
              q_shr .n (.t rfl) (.c rfl) (fun _ => by omega) rfl <|
              q_conv .n (.t rfl) cv_162_3 rfl <|
              q_assign .n (.t rfl) rfl <|
              Lex.nil) ?_
          refine run_seq ?_
          refine run_draw fmo (q_move .n (.t rfl) rfl <|
              q_move .n (.t rfl) rfl <|
              q_move .n (.t rfl) rfl <|
              q_idx_ow .n (.t rfl) (.t rfl) sl_24 (fun _ => by omega) rfl <|
              q_ld1_row .n (.t rfl) rfl (fun _ => by omega) rfl rfl rfl ic_9 rfl <|
              q_move .n (.t rfl) rfl <|
              q_move .n (.t rfl) rfl <|
              q_idx_ow .n (.t rfl) (.t rfl) sl_24 (fun _ => by ((have hwx3 := midw (s := x3.1 + x3.2) (by omega) (by omega); have hvx3 := midwB (s := x3.1 + x3.2) (by omega) (by omega); (try dsimp only); omega))) rfl <|
              q_ld1_row .n (.t rfl) rfl (fun _ => by ((have hwx3 := midw (s := x3.1 + x3.2) (by omega) (by omega); have hvx3 := midwB (s := x3.1 + x3.2) (by omega) (by omega); (try dsimp only); omega))) rfl rfl rfl ic_9 rfl <|
              q_call0 (full := false) .n (.c (.t rfl)) he_cmp (.cons (.t rfl) (.cons (.t rfl) .nil)) (passes_app hr_cmp (.cons (.b (.a (.same rfl))) (.cons (.b (.a (.same rfl))) .nil))) (fun hg => hc_cmp (at' data m_) (at' data (IntKind.wrap .i64 (Int.fdiv (IntKind.wrap .u64 (x3.1 + x3.2)) (2 ^ min (1 : Int).toNat 64)))) (by first | exact at_all (by assumption) (by omega) | exact at_all (by assumption) (by dsimp only; omega) | (simp only [Bool.true_and, decide_eq_true_eq] at hg; exact at_all (by assumption) (by omega)) | exact at_all (by assumption) (by have hwx1 := midw (s := x1.1 + x1.2) (by omega) (by omega); have hvx1 := midwB (s := x1.1 + x1.2) (by omega) (by omega); (first | omega | (dsimp only; omega))) | exact at_all (by assumption) (by have hwx3 := midw (s := x3.1 + x3.2) (by omega) (by omega); have hvx3 := midwB (s := x3.1 + x3.2) (by omega) (by omega); (first | omega | (dsimp only; omega))) | exact at_all (by assumption) (by have hwx5 := midw (s := x5.1 + x5.2) (by omega) (by omega); have hvx5 := midwB (s := x5.1 + x5.2) (by omega) (by omega); (first | omega | (dsimp only; omega)))) (by first | exact at_all (by assumption) (by omega) | exact at_all (by assumption) (by dsimp only; omega) | (simp only [Bool.true_and, decide_eq_true_eq] at hg; exact at_all (by assumption) (by omega)) | exact at_all (by assumption) (by have hwx1 := midw (s := x1.1 + x1.2) (by omega) (by omega); have hvx1 := midwB (s := x1.1 + x1.2) (by omega) (by omega); (first | omega | (dsimp only; omega))) | exact at_all (by assumption) (by have hwx3 := midw (s := x3.1 + x3.2) (by omega) (by omega); have hvx3 := midwB (s := x3.1 + x3.2) (by omega) (by omega); (first | omega | (dsimp only; omega))) | exact at_all (by assumption) (by have hwx5 := midw (s := x5.1 + x5.2) (by omega) (by omega); have hvx5 := midwB (s := x5.1 + x5.2) (by omega) (by omega); (first | omega | (dsimp only; omega))))) rfl (fun h => Bool.noConfusion h) rfl <|
              q_int .n (.t rfl) (.c rfl) rfl rfl <|
              q_not .n (.t rfl) rfl <|
              Lex.nil) (by kernel_rfl) ?_
          refine run_cond (.t rfl) rfl (fun h31 => ?_) (fun h31 => ?_)
          · try simp only [Bool.and_eq_true, Bool.or_eq_true, Bool.not_eq_true', Bool.and_eq_false_iff, Bool.or_eq_false_iff, Bool.not_eq_false', decide_eq_true_eq, decide_eq_false_iff_not, beq_iff_eq, bne_iff_ne, beq_eq_false_iff_ne, bne_eq_false_iff_eq, Bool.true_and, ne_eq, Decidable.not_not, Int.not_lt, Int.not_le, Nat.not_lt, Nat.not_le, strB_nil, strB_nil', strB_nnil, strB_nnil'] at h31
            refine run_region (q_move .n (.t rfl) rfl <|
                q_add .n (.t rfl) (.c rfl) (fun _ => by ((have hwx3 := midw (s := x3.1 + x3.2) (by omega) (by omega); have hvx3 := midwB (s := x3.1 + x3.2) (by omega) (by omega); (try dsimp only); omega))) rfl <|
                q_assign .n (.t rfl) rfl <|
                Lex.nil) ?_
            refine run_endB ?_
            exact run_again ((IntKind.wrap .i64 (Int.fdiv (IntKind.wrap .u64 (x3.1 + x3.2)) (2 ^ min (1 : Int).toNat 64))) + 1, x3.2) (by ((have hwx3 := midw (s := x3.1 + x3.2) (by omega) (by omega); have hvx3 := midwB (s := x3.1 + x3.2) (by omega) (by omega); (try dsimp only); omega))) (by ((have hwx3 := midw (s := x3.1 + x3.2) (by omega) (by omega); have hvx3 := midwB (s := x3.1 + x3.2) (by omega) (by omega); (try dsimp only); omega))) (sub_of [] ⟨rfl, rfl, clo_ren hr_cmp rfl, rfl, rfl, trivial⟩ ⟨rfl, trivial⟩ rfl)
          · try simp only [Bool.and_eq_true, Bool.or_eq_true, Bool.not_eq_true', Bool.and_eq_false_iff, Bool.or_eq_false_iff, Bool.not_eq_false', decide_eq_true_eq, decide_eq_false_iff_not, beq_iff_eq, bne_iff_ne, beq_eq_false_iff_ne, bne_eq_false_iff_eq, Bool.true_and, ne_eq, Decidable.not_not, Int.not_lt, Int.not_le, Nat.not_lt, Nat.not_le, strB_nil, strB_nil', strB_nnil, strB_nnil'] at h31
            refine run_region (q_move .n (.t rfl) rfl <|
                q_assign .n (.t rfl) rfl <|
                Lex.nil) ?_
            refine run_endB ?_
            exact run_again (x3.1, IntKind.wrap .i64 (Int.fdiv (IntKind.wrap .u64 (x3.1 + x3.2)) (2 ^ min (1 : Int).toNat 64))) (by ((have hwx3 := midw (s := x3.1 + x3.2) (by omega) (by omega); have hvx3 := midwB (s := x3.1 + x3.2) (by omega) (by omega); (try dsimp only); omega))) (by ((have hwx3 := midw (s := x3.1 + x3.2) (by omega) (by omega); have hvx3 := midwB (s := x3.1 + x3.2) (by omega) (by omega); (try dsimp only); omega))) (sub_of [] ⟨rfl, rfl, clo_ren hr_cmp rfl, rfl, rfl, trivial⟩ ⟨rfl, trivial⟩ rfl)
        · try simp only [Bool.and_eq_true, Bool.or_eq_true, Bool.not_eq_true', Bool.and_eq_false_iff, Bool.or_eq_false_iff, Bool.not_eq_false', decide_eq_true_eq, decide_eq_false_iff_not, beq_iff_eq, bne_iff_ne, beq_eq_false_iff_ne, bne_eq_false_iff_eq, Bool.true_and, ne_eq, Decidable.not_not, Int.not_lt, Int.not_le, Nat.not_lt, Nat.not_le, strB_nil, strB_nil', strB_nnil, strB_nnil'] at h30
          refine run_exit rfl ?_
          exact run_cont hk28 (x3.1, x3.2) (by omega) (sub_of [] ⟨rfl, rfl, rfl, trivial⟩ ⟨rfl, trivial⟩ rfl)
    · try simp only [Bool.and_eq_true, Bool.or_eq_true, Bool.not_eq_true', Bool.and_eq_false_iff, Bool.or_eq_false_iff, Bool.not_eq_false', decide_eq_true_eq, decide_eq_false_iff_not, beq_iff_eq, bne_iff_ne, beq_eq_false_iff_ne, bne_eq_false_iff_eq, Bool.true_and, ne_eq, Decidable.not_not, Int.not_lt, Int.not_le, Nat.not_lt, Nat.not_le, strB_nil, strB_nil', strB_nnil, strB_nnil'] at h27
      refine run_skip ?_
      refine run_seq ?_
      refine run_region (q_move .n (.t rfl) rfl <|
          q_move .n (.t rfl) rfl <|
          q_add .n (.t rfl) (.t rfl) (fun _ => by omega) rfl <|
          q_conv .n (.t rfl) cv_3_162 rfl <|
          q_shr .n (.t rfl) (.c rfl) (fun _ => by omega) rfl <|
          q_conv .n (.t rfl) cv_162_3 rfl <|
          q_assign .n (.t rfl) rfl <|
          Lex.nil) ?_
      refine run_seq ?_
      refine run_region (q_move .n (.t rfl) rfl <|
          q_move .n (.t rfl) rfl <|
          q_add .n (.t rfl) (.t rfl) (fun _ => by omega) rfl <|
          q_assign .n (.t rfl) rfl <|
          Lex.nil) ?_
      refine run_seq ?_
      refine run_region (q_assign .n (.c rfl) rfl <|
          q_assign .n (.c rfl) rfl <|
          Lex.nil) ?_
      refine run_seq ?_
      refine run_seq ?_
      refine run_region (q_move .n (.t rfl) rfl <|
          q_move .n (.t rfl) rfl <|
          q_int .n (.t rfl) (.t rfl) rfl rfl <|
          Lex.nil) ?_
      refine run_join _ _ rfl (fun v49 : Int × Int => a ≤ v49.1 ∧ v49.1 ≤ v49.2 ∧ v49.2 ≤ m_ ∧ v49.2 ≤ (a + b) / 2 ∧ (a + b) / 2 + m_ - b ≤ v49.1) (fun v49 => ⟨[(0, some (true, .os 0 data.length)), (1, some (true, .int .i64 a)), (2, some (true, .int .i64 m_)), (3, some (true, .int .i64 b)), (4, some (true, .clo F_cmp C_cmp)), (18, some (true, .int .i64 (IntKind.wrap .i64 (Int.fdiv (IntKind.wrap .u64 (a + b)) (2 ^ min (1 : Int).toNat 64))))), (19, some (true, .int .i64 ((IntKind.wrap .i64 (Int.fdiv (IntKind.wrap .u64 (a + b)) (2 ^ min (1 : Int).toNat 64))) + m_))), (20, some (true, .int .i64 v49.1)), (21, some (true, .int .i64 v49.2))], [(0, some (.row 9 1 (data.map V.str)))]⟩) (fun v49 hv75 => ?_) (fun j50 hj51 => ?_)
      · have e76 := hv75
        refine run_seq ?_
        refine run_region (q_move .n (.t rfl) rfl <|
            q_sub .n (.t rfl) (.c rfl) (fun _ => by omega) rfl <|
            q_assign .n (.t rfl) rfl <|
            Lex.nil) ?_
        refine run_seq ?_
        refine run_block ?_
        refine run_LOOP (m_slices_symMergeCmpFunc_string_b5 self_ data a m_ b cmp v49) _ _ _ rfl (fun (x5 : Int × Int) => v49.1 ≤ x5.1 ∧ x5.1 ≤ x5.2 ∧ x5.2 ≤ v49.2) (fun x5 => v49.1 ≤ x5.1 ∧ x5.1 ≤ x5.2 ∧ x5.2 ≤ v49.2) (fun x5 => (x5.2 - x5.1).toNat) (fun x5 => ⟨[(0, some (true, .os 0 data.length)), (1, some (true, .int .i64 a)), (2, some (true, .int .i64 m_)), (3, some (true, .int .i64 b)), (4, some (true, .clo F_cmp C_cmp)), (18, some (true, .int .i64 (IntKind.wrap .i64 (Int.fdiv (IntKind.wrap .u64 (a + b)) (2 ^ min (1 : Int).toNat 64))))), (19, some (true, .int .i64 ((IntKind.wrap .i64 (Int.fdiv (IntKind.wrap .u64 (a + b)) (2 ^ min (1 : Int).toNat 64))) + m_))), (20, some (true, .int .i64 x5.1)), (21, some (true, .int .i64 x5.2)), (22, some (true, .int .i64 (((IntKind.wrap .i64 (Int.fdiv (IntKind.wrap .u64 (a + b)) (2 ^ min (1 : Int).toNat 64))) + m_) - 1)))], [(0, some (.row 9 1 (data.map V.str)))]⟩) (fun x5 => ⟨[(0, some (true, .os 0 data.length)), (1, some (true, .int .i64 a)), (2, some (true, .int .i64 m_)), (3, some (true, .int .i64 b)), (4, some (true, .clo F_cmp C_cmp)), (18, some (true, .int .i64 (IntKind.wrap .i64 (Int.fdiv (IntKind.wrap .u64 (a + b)) (2 ^ min (1 : Int).toNat 64))))), (19, some (true, .int .i64 ((IntKind.wrap .i64 (Int.fdiv (IntKind.wrap .u64 (a + b)) (2 ^ min (1 : Int).toNat 64))) + m_))), (20, some (true, .int .i64 x5.1))], [(0, some (.row 9 1 (data.map V.str)))]⟩) (by omega) (by omega) (sub_of [] ⟨rfl, rfl, rfl, rfl, clo_ren hr_cmp rfl, rfl, rfl, rfl, rfl, rfl, trivial⟩ ⟨rfl, trivial⟩ rfl) ?_ ?_
        · intro x5 i57
          have e73 := i57
          try dsimp only at *
          refine run_seq ?_
          refine run_region (q_move .n (.t rfl) rfl <|
              q_move .n (.t rfl) rfl <|
              q_sub .n (.t rfl) (.t rfl) (fun _ => by omega) rfl <|
              q_assign .n (.t rfl) rfl <|
              Lex.nil) ?_
          refine run_seq ?_
          refine run_seq ?_
          refine run_region (q_move .n (.t rfl) rfl <|
              q_move .n (.t rfl) rfl <|
              q_int .n (.t rfl) (.t rfl) rfl rfl <|
              q_move .n (.t rfl) rfl <|
              q_move (.t rfl rfl) (.t rfl) rfl <|
              q_move (.t rfl rfl) (.t rfl) rfl <|
              q_int (.t rfl rfl) (.u rfl id) (.u rfl id) rfl rfl <|
              q_and .n (.t rfl) (.u rfl id) rfl <|
              Lex.nil) ?_
          refine run_join _ _ rfl (fun v58 : (List (List UInt8)) => v58.length = data.length ∧ (∀ x ∈ v58, Q_cmp x)) (fun v58 => ⟨[(0, some (true, .os 0 v58.length)), (1, some (true, .int .i64 a)), (3, some (true, .int .i64 b)), (4, some (true, .clo F_cmp C_cmp)), (18, some (true, .int .i64 (IntKind.wrap .i64 (Int.fdiv (IntKind.wrap .u64 (a + b)) (2 ^ min (1 : Int).toNat 64))))), (20, some (true, .int .i64 x5.1)), (24, some (true, .int .i64 (((IntKind.wrap .i64 (Int.fdiv (IntKind.wrap .u64 (a + b)) (2 ^ min (1 : Int).toNat 64))) + m_) - x5.1)))], [(0, some (.row 9 1 (v58.map V.str)))]⟩) (fun v58 hv70 => ?_) (fun j59 hj60 => ?_)
          · obtain ⟨e71, e72⟩ := hv70
            refine run_seq ?_
            refine run_seq ?_
            refine run_region (q_move .n (.t rfl) rfl <|
                q_move .n (.t rfl) rfl <|
                q_int .n (.t rfl) (.t rfl) rfl rfl <|
                q_move .n (.t rfl) rfl <|
                q_move (.t rfl rfl) (.t rfl) rfl <|
                q_move (.t rfl rfl) (.t rfl) rfl <|
                q_int (.t rfl rfl) (.u rfl id) (.u rfl id) rfl rfl <|
                q_and .n (.t rfl) (.u rfl id) rfl <|
                Lex.nil) ?_
            refine run_join _ _ rfl (fun v62 : (List (List UInt8)) => v62.length = data.length ∧ (∀ x ∈ v62, Q_cmp x)) (fun v62 => ⟨[(0, some (true, .os 0 v62.length)), (3, some (true, .int .i64 b)), (4, some (true, .clo F_cmp C_cmp)), (18, some (true, .int .i64 (IntKind.wrap .i64 (Int.fdiv (IntKind.wrap .u64 (a + b)) (2 ^ min (1 : Int).toNat 64))))), (24, some (true, .int .i64 (((IntKind.wrap .i64 (Int.fdiv (IntKind.wrap .u64 (a + b)) (2 ^ min (1 : Int).toNat 64))) + m_) - x5.1)))], [(0, some (.row 9 1 (v62.map V.str)))]⟩) (fun v62 hv67 => ?_) (fun j63 hj64 => ?_)
            · obtain ⟨e68, e69⟩ := hv67
              refine run_seq ?_
              refine run_region (q_move .n (.t rfl) rfl <|
                  q_move .n (.t rfl) rfl <|
                  q_int .n (.t rfl) (.t rfl) rfl rfl <|
                  q_move .n (.t rfl) rfl <|
                  q_move (.t rfl rfl) (.t rfl) rfl <|
                  q_move (.t rfl rfl) (.t rfl) rfl <|
                  q_int (.t rfl rfl) (.u rfl id) (.u rfl id) rfl rfl <|
                  q_and .n (.t rfl) (.u rfl id) rfl <|
                  Lex.nil) ?_
              refine run_cond (.t rfl) rfl (fun h66 => ?_) (fun h66 => ?_)
              · try simp only [Bool.and_eq_true, Bool.or_eq_true, Bool.not_eq_true', Bool.and_eq_false_iff, Bool.or_eq_false_iff, Bool.not_eq_false', decide_eq_true_eq, decide_eq_false_iff_not, beq_iff_eq, bne_iff_ne, beq_eq_false_iff_ne, bne_eq_false_iff_eq, Bool.true_and, ne_eq, Decidable.not_not, Int.not_lt, Int.not_le, Nat.not_lt, Nat.not_le, strB_nil, strB_nil', strB_nnil, strB_nnil'] at h66
                refine run_region (q_move .n (.t rfl) rfl <|
                    q_move .n (.t rfl) rfl <|
                    q_move .n (.t rfl) rfl <|
                    q_move .n (.t rfl) rfl <|
                    q_move .n (.t rfl) rfl <|
                    q_callM (full := false) [(0, 0)] [] .n rfl .f en_144 (.cons (.t rfl) (.cons (.t rfl) (.cons (.t rfl) (.cons (.t rfl) (.cons (.t rfl) .nil))))) (.cons (.b (.muts rfl)) (.cons (.b (.a (.same rfl))) (.cons (.b (.a (.same rfl))) (.cons (.b (.a (.same rfl))) (.cons (.clo (passBs_ro hr_cmp)) .nil))))) (ih v62 (IntKind.wrap .i64 (Int.fdiv (IntKind.wrap .u64 (a + b)) (2 ^ min (1 : Int).toNat 64))) (((IntKind.wrap .i64 (Int.fdiv (IntKind.wrap .u64 (a + b)) (2 ^ min (1 : Int).toNat 64))) + m_) - x5.1) b cmp F_cmp C_cmp he_cmp hr_cmp Q_cmp hc_cmp (by omega) (by omega) (by omega) (by omega) (by omega)) ⟨rfl, trivial⟩ rfl rfl (fun h => Bool.noConfusion h) (fun h => Bool.noConfusion h) rfl <|
                    Lex.nil) ?_
                exact run_end [] .nil rfl ⟨rfl, trivial⟩ rfl
              · try simp only [Bool.and_eq_true, Bool.or_eq_true, Bool.not_eq_true', Bool.and_eq_false_iff, Bool.or_eq_false_iff, Bool.not_eq_false', decide_eq_true_eq, decide_eq_false_iff_not, beq_iff_eq, bne_iff_ne, beq_eq_false_iff_ne, bne_eq_false_iff_eq, Bool.true_and, ne_eq, Decidable.not_not, Int.not_lt, Int.not_le, Nat.not_lt, Nat.not_le, strB_nil, strB_nil', strB_nnil, strB_nnil'] at h66
                refine run_skip ?_
                exact run_end [] .nil rfl ⟨rfl, trivial⟩ rfl
            · refine run_cond (.t rfl) rfl (fun h65 => ?_) (fun h65 => ?_)
              · try simp only [Bool.and_eq_true, Bool.or_eq_true, Bool.not_eq_true', Bool.and_eq_false_iff, Bool.or_eq_false_iff, Bool.not_eq_false', decide_eq_true_eq, decide_eq_false_iff_not, beq_iff_eq, bne_iff_ne, beq_eq_false_iff_ne, bne_eq_false_iff_eq, Bool.true_and, ne_eq, Decidable.not_not, Int.not_lt, Int.not_le, Nat.not_lt, Nat.not_le, strB_nil, strB_nil', strB_nnil, strB_nnil'] at h65
                refine run_region (q_move .n (.t rfl) rfl <|
                    q_move .n (.t rfl) rfl <|
                    q_move .n (.t rfl) rfl <|
                    q_move .n (.t rfl) rfl <|
                    q_move .n (.t rfl) rfl <|
                    q_callM (full := false) [(0, 0)] [] .n rfl .f en_144 (.cons (.t rfl) (.cons (.t rfl) (.cons (.t rfl) (.cons (.t rfl) (.cons (.t rfl) .nil))))) (.cons (.b (.muts rfl)) (.cons (.b (.a (.same rfl))) (.cons (.b (.a (.same rfl))) (.cons (.b (.a (.same rfl))) (.cons (.clo (passBs_ro hr_cmp)) .nil))))) (ih v58 a x5.1 (IntKind.wrap .i64 (Int.fdiv (IntKind.wrap .u64 (a + b)) (2 ^ min (1 : Int).toNat 64))) cmp F_cmp C_cmp he_cmp hr_cmp Q_cmp hc_cmp (by omega) (by omega) (by omega) (by omega) (by omega)) ⟨rfl, trivial⟩ rfl rfl (fun h => Bool.noConfusion h) (fun h => Bool.noConfusion h) rfl <|
                    Lex.nil) ?_
                exact run_cont hj64 (self_ v58 a x5.1 (IntKind.wrap .i64 (Int.fdiv (IntKind.wrap .u64 (a + b)) (2 ^ min (1 : Int).toNat 64))) cmp) ⟨by ((have hq := hself Q_cmp cmp v58 a x5.1 (IntKind.wrap .i64 (Int.fdiv (IntKind.wrap .u64 (a + b)) (2 ^ min (1 : Int).toNat 64))) (by assumption) (by omega) (by omega) (by assumption); obtain ⟨hqa, hqb⟩ := hq; first | omega | exact hqb | (dsimp only; omega) | (dsimp only; exact hqb))), by ((have hq := hself Q_cmp cmp v58 a x5.1 (IntKind.wrap .i64 (Int.fdiv (IntKind.wrap .u64 (a + b)) (2 ^ min (1 : Int).toNat 64))) (by assumption) (by omega) (by omega) (by assumption); obtain ⟨hqa, hqb⟩ := hq; first | omega | exact hqb | (dsimp only; omega) | (dsimp only; exact hqb)))⟩ (sub_of [] ⟨os_len rfl (by first | (simp only [put_len]; done) | (((have hq := hself Q_cmp cmp v58 a x5.1 (IntKind.wrap .i64 (Int.fdiv (IntKind.wrap .u64 (a + b)) (2 ^ min (1 : Int).toNat 64))) (by assumption) (by omega) (by omega) (by assumption); obtain ⟨hqa, hqb⟩ := hq; first | omega | exact hqb | (dsimp only; omega) | (dsimp only; exact hqb))))), rfl, clo_ren hr_cmp rfl, rfl, rfl, trivial⟩ ⟨rfl, trivial⟩ rfl)
              · try simp only [Bool.and_eq_true, Bool.or_eq_true, Bool.not_eq_true', Bool.and_eq_false_iff, Bool.or_eq_false_iff, Bool.not_eq_false', decide_eq_true_eq, decide_eq_false_iff_not, beq_iff_eq, bne_iff_ne, beq_eq_false_iff_ne, bne_eq_false_iff_eq, Bool.true_and, ne_eq, Decidable.not_not, Int.not_lt, Int.not_le, Nat.not_lt, Nat.not_le, strB_nil, strB_nil', strB_nnil, strB_nnil'] at h65
                refine run_skip ?_
                exact run_cont hj64 v58 ⟨by omega, by omega⟩ (sub_of [] ⟨rfl, rfl, clo_ren hr_cmp rfl, rfl, rfl, trivial⟩ ⟨rfl, trivial⟩ rfl)
          · refine run_cond (.t rfl) rfl (fun h61 => ?_) (fun h61 => ?_)
            · try simp only [Bool.and_eq_true, Bool.or_eq_true, Bool.not_eq_true', Bool.and_eq_false_iff, Bool.or_eq_false_iff, Bool.not_eq_false', decide_eq_true_eq, decide_eq_false_iff_not, beq_iff_eq, bne_iff_ne, beq_eq_false_iff_ne, bne_eq_false_iff_eq, Bool.true_and, ne_eq, Decidable.not_not, Int.not_lt, Int.not_le, Nat.not_lt, Nat.not_le, strB_nil, strB_nil', strB_nnil, strB_nnil'] at h61
              refine run_region (q_move .n (.t rfl) rfl <|
                  q_move .n (.t rfl) rfl <|
                  q_move .n (.t rfl) rfl <|
                  q_move .n (.t rfl) rfl <|
                  q_move .n (.t rfl) rfl <|
                  q_callM (full := false) [(0, 0)] [] .n rfl .f en_169 (.cons (.t rfl) (.cons (.t rfl) (.cons (.t rfl) (.cons (.t rfl) (.cons (.t rfl) .nil))))) (.cons (.b (.muts rfl)) (.cons (.b (.a (.same rfl))) (.cons (.b (.a (.same rfl))) (.cons (.b (.a (.same rfl))) (.cons (.clo (passBs_ro hr_cmp)) .nil))))) (c_slices_rotateCmpFunc_string data x5.1 m_ (((IntKind.wrap .i64 (Int.fdiv (IntKind.wrap .u64 (a + b)) (2 ^ min (1 : Int).toNat 64))) + m_) - x5.1) cmp F_cmp C_cmp he_cmp hr_cmp Q_cmp hc_cmp (by omega) (by omega) (by omega)) ⟨rfl, trivial⟩ rfl rfl (fun h => Bool.noConfusion h) (fun h => Bool.noConfusion h) rfl <|
                  Lex.nil) ?_
              exact run_cont hj60 (m_slices_rotateCmpFunc_string data x5.1 m_ (((IntKind.wrap .i64 (Int.fdiv (IntKind.wrap .u64 (a + b)) (2 ^ min (1 : Int).toNat 64))) + m_) - x5.1) cmp) ⟨by ((have hq := rot_keep (Q := Q_cmp) (xs := data) (a := x5.1) (m := m_) (b := (IntKind.wrap .i64 (Int.fdiv (IntKind.wrap .u64 (a + b)) (2 ^ min (1 : Int).toNat 64))) + m_ - x5.1) (cmp := cmp) (by omega) (by assumption); obtain ⟨hqa, hqb⟩ := hq; first | omega | exact hqb | (dsimp only; omega) | (dsimp only; exact hqb))), by ((have hq := rot_keep (Q := Q_cmp) (xs := data) (a := x5.1) (m := m_) (b := (IntKind.wrap .i64 (Int.fdiv (IntKind.wrap .u64 (a + b)) (2 ^ min (1 : Int).toNat 64))) + m_ - x5.1) (cmp := cmp) (by omega) (by assumption); obtain ⟨hqa, hqb⟩ := hq; first | omega | exact hqb | (dsimp only; omega) | (dsimp only; exact hqb)))⟩ (sub_of [] ⟨os_len rfl (by first | (simp only [put_len]; done) | (((have hq := rot_keep (Q := Q_cmp) (xs := data) (a := x5.1) (m := m_) (b := (IntKind.wrap .i64 (Int.fdiv (IntKind.wrap .u64 (a + b)) (2 ^ min (1 : Int).toNat 64))) + m_ - x5.1) (cmp := cmp) (by omega) (by assumption); obtain ⟨hqa, hqb⟩ := hq; first | omega | exact hqb | (dsimp only; omega) | (dsimp only; exact hqb))))), rfl, rfl, clo_ren hr_cmp rfl, rfl, rfl, rfl, trivial⟩ ⟨rfl, trivial⟩ rfl)
            · try simp only [Bool.and_eq_true, Bool.or_eq_true, Bool.not_eq_true', Bool.and_eq_false_iff, Bool.or_eq_false_iff, Bool.not_eq_false', decide_eq_true_eq, decide_eq_false_iff_not, beq_iff_eq, bne_iff_ne, beq_eq_false_iff_ne, bne_eq_false_iff_eq, Bool.true_and, ne_eq, Decidable.not_not, Int.not_lt, Int.not_le, Nat.not_lt, Nat.not_le, strB_nil, strB_nil', strB_nnil, strB_nnil'] at h61
              refine run_skip ?_
              exact run_cont hj60 data ⟨by omega, by omega⟩ (sub_of [] ⟨rfl, rfl, rfl, clo_ren hr_cmp rfl, rfl, rfl, rfl, trivial⟩ ⟨rfl, trivial⟩ rfl)
        · intro rec5 k5 hk53 x5 i54
          have e74 := i54
          try dsimp only at *
          refine run_seq ?_
          refine run_seq ?_
          refine run_region (q_move .n (.t rfl) rfl <|
              q_move .n (.t rfl) rfl <|
              q_int .n (.t rfl) (.t rfl) rfl rfl <|
              Lex.nil) ?_
          refine run_cond (.t rfl) rfl (fun h55 => ?_) (fun h55 => ?_)
          · try simp only [Bool.and_eq_true, Bool.or_eq_true, Bool.not_eq_true', Bool.and_eq_false_iff, Bool.or_eq_false_iff, Bool.not_eq_false', decide_eq_true_eq, decide_eq_false_iff_not, beq_iff_eq, bne_iff_ne, beq_eq_false_iff_ne, bne_eq_false_iff_eq, Bool.true_and, ne_eq, Decidable.not_not, Int.not_lt, Int.not_le, Nat.not_lt, Nat.not_le, strB_nil, strB_nil', strB_nnil, strB_nnil'] at h55
            refine run_skip ?_
            refine run_block ?_
            refine run_seq ?_
            refine run_region (q_move .n (.t rfl) rfl <|
                q_move .n (.t rfl) rfl <|
                q_add .n (.t rfl) (.t rfl) (fun _ => by omega) rfl <|
                q_conv .n (.t rfl) cv_3_162 rfl <|
                q_shr .n (.t rfl) (.c rfl) (fun _ => by omega) rfl <|
                q_conv .n (.t rfl) cv_162_3 rfl <|
                q_assign .n (.t rfl) rfl <|
                Lex.nil) ?_
            refine run_seq ?_
            refine run_draw fmo (q_move .n (.t rfl) rfl <|
                q_move .n (.t rfl) rfl <|
                q_move .n (.t rfl) rfl <|
                q_move .n (.t rfl) rfl <|
                q_sub .n (.t rfl) (.t rfl) (fun _ => by ((have hwx5 := midw (s := x5.1 + x5.2) (by omega) (by omega); have hvx5 := midwB (s := x5.1 + x5.2) (by omega) (by omega); (try dsimp only); omega))) rfl <|
                q_idx_ow .n (.t rfl) (.t rfl) sl_24 (fun _ => by ((have hwx5 := midw (s := x5.1 + x5.2) (by omega) (by omega); have hvx5 := midwB (s := x5.1 + x5.2) (by omega) (by omega); (try dsimp only); omega))) rfl <|
                q_ld1_row .n (.t rfl) rfl (fun _ => by ((have hwx5 := midw (s := x5.1 + x5.2) (by omega) (by omega); have hvx5 := midwB (s := x5.1 + x5.2) (by omega) (by omega); (try dsimp only); omega))) rfl rfl rfl ic_9 rfl <|
                q_move .n (.t rfl) rfl <|
                q_move .n (.t rfl) rfl <|
                q_idx_ow .n (.t rfl) (.t rfl) sl_24 (fun _ => by ((have hwx5 := midw (s := x5.1 + x5.2) (by omega) (by omega); have hvx5 := midwB (s := x5.1 + x5.2) (by omega) (by omega); (try dsimp only); omega))) rfl <|
                q_ld1_row .n (.t rfl) rfl (fun _ => by ((have hwx5 := midw (s := x5.1 + x5.2) (by omega) (by omega); have hvx5 := midwB (s := x5.1 + x5.2) (by omega) (by omega); (try dsimp only); omega))) rfl rfl rfl ic_9 rfl <|
                q_call0 (full := false) .n (.c (.t rfl)) he_cmp (.cons (.t rfl) (.cons (.t rfl) .nil)) (passes_app hr_cmp (.cons (.b (.a (.same rfl))) (.cons (.b (.a (.same rfl))) .nil))) (fun hg => hc_cmp (at' data ((((IntKind.wrap .i64 (Int.fdiv (IntKind.wrap .u64 (a + b)) (2 ^ min (1 : Int).toNat 64))) + m_) - 1) - (IntKind.wrap .i64 (Int.fdiv (IntKind.wrap .u64 (x5.1 + x5.2)) (2 ^ min (1 : Int).toNat 64))))) (at' data (IntKind.wrap .i64 (Int.fdiv (IntKind.wrap .u64 (x5.1 + x5.2)) (2 ^ min (1 : Int).toNat 64)))) (by first | exact at_all (by assumption) (by omega) | exact at_all (by assumption) (by dsimp only; omega) | (simp only [Bool.true_and, decide_eq_true_eq] at hg; exact at_all (by assumption) (by omega)) | exact at_all (by assumption) (by have hwx1 := midw (s := x1.1 + x1.2) (by omega) (by omega); have hvx1 := midwB (s := x1.1 + x1.2) (by omega) (by omega); (first | omega | (dsimp only; omega))) | exact at_all (by assumption) (by have hwx3 := midw (s := x3.1 + x3.2) (by omega) (by omega); have hvx3 := midwB (s := x3.1 + x3.2) (by omega) (by omega); (first | omega | (dsimp only; omega))) | exact at_all (by assumption) (by have hwx5 := midw (s := x5.1 + x5.2) (by omega) (by omega); have hvx5 := midwB (s := x5.1 + x5.2) (by omega) (by omega); (first | omega | (dsimp only; omega)))) (by first | exact at_all (by assumption) (by omega) | exact at_all (by assumption) (by dsimp only; omega) | (simp only [Bool.true_and, decide_eq_true_eq] at hg; exact at_all (by assumption) (by omega)) | exact at_all (by assumption) (by have hwx1 := midw (s := x1.1 + x1.2) (by omega) (by omega); have hvx1 := midwB (s := x1.1 + x1.2) (by omega) (by omega); (first | omega | (dsimp only; omega))) | exact at_all (by assumption) (by have hwx3 := midw (s := x3.1 + x3.2) (by omega) (by omega); have hvx3 := midwB (s := x3.1 + x3.2) (by omega) (by omega); (first | omega | (dsimp only; omega))) | exact at_all (by assumption) (by have hwx5 := midw (s := x5.1 + x5.2) (by omega) (by omega); have hvx5 := midwB (s := x5.1 + x5.2) (by omega) (by omega); (first | omega | (dsimp only; omega))))) rfl (fun h => Bool.noConfusion h) rfl <|
                q_int .n (.t rfl) (.c rfl) rfl rfl <|
                q_not .n (.t rfl) rfl <|
                Lex.nil) (by kernel_rfl) ?_
            refine run_cond (.t rfl) rfl (fun h56 => ?_) (fun h56 => ?_)
            · try simp only [Bool.and_eq_true, Bool.or_eq_true, Bool.not_eq_true', Bool.and_eq_false_iff, Bool.or_eq_false_iff, Bool.not_eq_false', decide_eq_true_eq, decide_eq_false_iff_not, beq_iff_eq, bne_iff_ne, beq_eq_false_iff_ne, bne_eq_false_iff_eq, Bool.true_and, ne_eq, Decidable.not_not, Int.not_lt, Int.not_le, Nat.not_lt, Nat.not_le, strB_nil, strB_nil', strB_nnil, strB_nnil'] at h56
              refine run_region (q_move .n (.t rfl) rfl <|
                  q_add .n (.t rfl) (.c rfl) (fun _ => by ((have hwx5 := midw (s := x5.1 + x5.2) (by omega) (by omega); have hvx5 := midwB (s := x5.1 + x5.2) (by omega) (by omega); (try dsimp only); omega))) rfl <|
                  q_assign .n (.t rfl) rfl <|
                  Lex.nil) ?_
              refine run_endB ?_
              exact run_again ((IntKind.wrap .i64 (Int.fdiv (IntKind.wrap .u64 (x5.1 + x5.2)) (2 ^ min (1 : Int).toNat 64))) + 1, x5.2) (by ((have hwx5 := midw (s := x5.1 + x5.2) (by omega) (by omega); have hvx5 := midwB (s := x5.1 + x5.2) (by omega) (by omega); (try dsimp only); omega))) (by ((have hwx5 := midw (s := x5.1 + x5.2) (by omega) (by omega); have hvx5 := midwB (s := x5.1 + x5.2) (by omega) (by omega); (try dsimp only); omega))) (sub_of [] ⟨rfl, rfl, rfl, rfl, clo_ren hr_cmp rfl, rfl, rfl, rfl, rfl, rfl, trivial⟩ ⟨rfl, trivial⟩ rfl)
            · try simp only [Bool.and_eq_true, Bool.or_eq_true, Bool.not_eq_true', Bool.and_eq_false_iff, Bool.or_eq_false_iff, Bool.not_eq_false', decide_eq_true_eq, decide_eq_false_iff_not, beq_iff_eq, bne_iff_ne, beq_eq_false_iff_ne, bne_eq_false_iff_eq, Bool.true_and, ne_eq, Decidable.not_not, Int.not_lt, Int.not_le, Nat.not_lt, Nat.not_le, strB_nil, strB_nil', strB_nnil, strB_nnil'] at h56
              refine run_region (q_move .n (.t rfl) rfl <|
                  q_assign .n (.t rfl) rfl <|
                  Lex.nil) ?_
              refine run_endB ?_
              exact run_again (x5.1, IntKind.wrap .i64 (Int.fdiv (IntKind.wrap .u64 (x5.1 + x5.2)) (2 ^ min (1 : Int).toNat 64))) (by ((have hwx5 := midw (s := x5.1 + x5.2) (by omega) (by omega); have hvx5 := midwB (s := x5.1 + x5.2) (by omega) (by omega); (try dsimp only); omega))) (by ((have hwx5 := midw (s := x5.1 + x5.2) (by omega) (by omega); have hvx5 := midwB (s := x5.1 + x5.2) (by omega) (by omega); (try dsimp only); omega))) (sub_of [] ⟨rfl, rfl, rfl, rfl, clo_ren hr_cmp rfl, rfl, rfl, rfl, rfl, rfl, trivial⟩ ⟨rfl, trivial⟩ rfl)
          · try simp only [Bool.and_eq_true, Bool.or_eq_true, Bool.not_eq_true', Bool.and_eq_false_iff, Bool.or_eq_false_iff, Bool.not_eq_false', decide_eq_true_eq, decide_eq_false_iff_not, beq_iff_eq, bne_iff_ne, beq_eq_false_iff_ne, bne_eq_false_iff_eq, Bool.true_and, ne_eq, Decidable.not_not, Int.not_lt, Int.not_le, Nat.not_lt, Nat.not_le, strB_nil, strB_nil', strB_nnil, strB_nnil'] at h55
            refine run_exit rfl ?_
            exact run_cont hk53 (x5.1, x5.2) (by omega) (sub_of [] ⟨rfl, rfl, rfl, rfl, clo_ren hr_cmp rfl, rfl, rfl, rfl, trivial⟩ ⟨rfl, trivial⟩ rfl)
      · refine run_cond (.t rfl) rfl (fun h52 => ?_) (fun h52 => ?_)
        · try simp only [Bool.and_eq_true, Bool.or_eq_true, Bool.not_eq_true', Bool.and_eq_false_iff, Bool.or_eq_false_iff, Bool.not_eq_false', decide_eq_true_eq, decide_eq_false_iff_not, beq_iff_eq, bne_iff_ne, beq_eq_false_iff_ne, bne_eq_false_iff_eq, Bool.true_and, ne_eq, Decidable.not_not, Int.not_lt, Int.not_le, Nat.not_lt, Nat.not_le, strB_nil, strB_nil', strB_nnil, strB_nnil'] at h52
          refine run_seq ?_
          refine run_region (q_move .n (.t rfl) rfl <|
              q_move .n (.t rfl) rfl <|
              q_sub .n (.t rfl) (.t rfl) (fun _ => by omega) rfl <|
              q_assign .n (.t rfl) rfl <|
              Lex.nil) ?_
          refine run_region (q_move .n (.t rfl) rfl <|
              q_assign .n (.t rfl) rfl <|
              Lex.nil) ?_
          exact run_cont hj51 (((IntKind.wrap .i64 (Int.fdiv (IntKind.wrap .u64 (a + b)) (2 ^ min (1 : Int).toNat 64))) + m_) - b, IntKind.wrap .i64 (Int.fdiv (IntKind.wrap .u64 (a + b)) (2 ^ min (1 : Int).toNat 64))) (by omega) (sub_of [] ⟨rfl, rfl, rfl, rfl, clo_ren hr_cmp rfl, rfl, rfl, rfl, rfl, trivial⟩ ⟨rfl, trivial⟩ rfl)
        · try simp only [Bool.and_eq_true, Bool.or_eq_true, Bool.not_eq_true', Bool.and_eq_false_iff, Bool.or_eq_false_iff, Bool.not_eq_false', decide_eq_true_eq, decide_eq_false_iff_not, beq_iff_eq, bne_iff_ne, beq_eq_false_iff_ne, bne_eq_false_iff_eq, Bool.true_and, ne_eq, Decidable.not_not, Int.not_lt, Int.not_le, Nat.not_lt, Nat.not_le, strB_nil, strB_nil', strB_nnil, strB_nnil'] at h52
          refine run_seq ?_
          refine run_region (q_move .n (.t rfl) rfl <|
              q_assign .n (.t rfl) rfl <|
              Lex.nil) ?_
          refine run_region (q_move .n (.t rfl) rfl <|
              q_assign .n (.t rfl) rfl <|
              Lex.nil) ?_
          exact run_cont hj51 (a, m_) (by omega) (sub_of [] ⟨rfl, rfl, rfl, rfl, clo_ren hr_cmp rfl, rfl, rfl, rfl, rfl, trivial⟩ ⟨rfl, trivial⟩ rfl)
theorem c_slices_symMergeCmpFunc_string (data : List (List UInt8)) (a : Int) (m_ : Int) (b : Int) (cmp : List UInt8 → List UInt8 → Int) (F_cmp : FuncId) (C_cmp : List V) (he_cmp : entB Try.prog F_cmp = true) (hr_cmp : C_cmp.all V.ro = true) (Q_cmp : (List UInt8) → Prop) (hc_cmp : ∀ (a0 : List UInt8) (a1 : List UInt8), Q_cmp a0 → Q_cmp a1 → Con Try.prog F_cmp ([.str a0, .str a1] ++ C_cmp) [] (.int .i64 (cmp a0 a1)) []) (hp1 : 0 ≤ a ∧ a < m_ ∧ m_ < b ∧ b ≤ data.length) (hp2 : data.length ≤ 1000) (hp3 : ∀ x ∈ data, Q_cmp x) (hp4 : Kc cmp) : Con Try.prog 144 [.os 0 data.length, .int .i64 a, .int .i64 m_, .int .i64 b, .clo F_cmp C_cmp] [(0, some (.row 9 1 (data.map V.str)))] (.tup []) ([(0, some (.row 9 1 ((m_slices_symMergeCmpFunc_string data a m_ b cmp).map V.str)))]) := by
  exact c_slices_symMergeCmpFunc_string_n ((b - a).toNat + 1) data a m_ b cmp F_cmp C_cmp he_cmp hr_cmp Q_cmp hc_cmp hp1 hp2 hp3 hp4 (by omega)


/-! ### slices_stableCmpFunc_string -/
set_option maxRecDepth 100000 in
set_option maxHeartbeats 4000000 in
theorem c_slices_stableCmpFunc_string (data : List (List UInt8)) (n_ : Int) (cmp : List UInt8 → List UInt8 → Int) (F_cmp : FuncId) (C_cmp : List V) (he_cmp : entB Try.prog F_cmp = true) (hr_cmp : C_cmp.all V.ro = true) (Q_cmp : (List UInt8) → Prop) (hc_cmp : ∀ (a0 : List UInt8) (a1 : List UInt8), Q_cmp a0 → Q_cmp a1 → Con Try.prog F_cmp ([.str a0, .str a1] ++ C_cmp) [] (.int .i64 (cmp a0 a1)) []) (hp1 : n_ = data.length ∧ data.length ≤ 1000) (hp2 : ∀ x ∈ data, Q_cmp x) (hp3 : Kc cmp) : Con Try.prog 108 [.os 0 data.length, .int .i64 n_, .clo F_cmp C_cmp] [(0, some (.row 9 1 (data.map V.str)))] (.tup []) ([(0, some (.row 9 1 ((m_slices_stableCmpFunc_string data n_ cmp).map V.str)))]) := by
  refine con_intro (out := fun r : (List (List UInt8)) => ((.tup [] : V), ([(0, some (.row 9 1 (r.map V.str)))] : List (Nat × Option O)))) (r := (m_slices_stableCmpFunc_string data n_ cmp)) Try.func108 rfl Try.ntmps108 rfl ?_
  refine run_factH (l := 0) rfl fun hl => ?_
  have l1 := hl; clear hl; simp only [List.length_map] at l1
  refine run_seq ?_
  refine run_region (q_assign .n (.c rfl) rfl <|
      Lex.nil) ?_
  refine run_seq ?_
  refine run_region (q_move .n (.t rfl) rfl <|
      q_assign .n (.c rfl) rfl <|
      q_assign .n (.t rfl) rfl <|
      Lex.nil) ?_
  refine run_seq ?_
  refine run_block ?_
  refine run_LOOP (m_slices_stableCmpFunc_string_b1 data n_ cmp) _ _ _ rfl (fun (x1 : (List (List UInt8)) × Int × Int) => x1.1.length = data.length ∧ (∀ x ∈ x1.1, Q_cmp x) ∧ (0 ≤ x1.2.1 ∧ x1.2.2 = x1.2.1 + 20 ∧ x1.2.1 ≤ n_)) (fun x1 => x1.1.length = data.length ∧ (∀ x ∈ x1.1, Q_cmp x) ∧ (0 ≤ x1.2.1 ∧ x1.2.2 = x1.2.1 + 20 ∧ x1.2.1 ≤ n_)) (fun x1 => (n_ - x1.2.1).toNat) (fun x1 => ⟨[(0, some (true, .os 0 x1.1.length)), (1, some (true, .int .i64 n_)), (2, some (true, .clo F_cmp C_cmp)), (6, some (true, .int .i64 20)), (7, some (true, .int .i64 x1.2.1)), (8, some (true, .int .i64 x1.2.2))], [(0, some (.row 9 1 (x1.1.map V.str)))]⟩) (fun x1 => ⟨[(0, some (true, .os 0 x1.1.length)), (1, some (true, .int .i64 n_)), (2, some (true, .clo F_cmp C_cmp)), (6, some (true, .int .i64 20)), (7, some (true, .int .i64 x1.2.1))], [(0, some (.row 9 1 (x1.1.map V.str)))]⟩) ⟨by (simp only [List.length_append, List.length_cons, List.length_nil, List.length_replicate, put_len] at * <;> omega), by omega, by (simp only [List.length_append, List.length_cons, List.length_nil, List.length_replicate, put_len] at * <;> omega)⟩ (by (simp only [List.length_append, List.length_cons, List.length_nil, List.length_replicate, put_len] at * <;> omega)) (sub_of [] ⟨rfl, rfl, clo_ren hr_cmp rfl, rfl, rfl, rfl, trivial⟩ ⟨rfl, trivial⟩ rfl) ?_ ?_
  · intro x1 i5
    obtain ⟨e27, e28, e29⟩ := i5
    try dsimp only at *
    refine run_seq ?_
    refine run_region (q_move .n (.t rfl) rfl <|
        q_move .n (.t rfl) rfl <|
        q_move .n (.t rfl) rfl <|
        q_move .n (.t rfl) rfl <|
        q_callM (full := false) [(0, 0)] [] .n rfl .f en_143 (.cons (.t rfl) (.cons (.t rfl) (.cons (.t rfl) (.cons (.t rfl) .nil)))) (.cons (.b (.muts rfl)) (.cons (.b (.a (.same rfl))) (.cons (.b (.a (.same rfl))) (.cons (.clo (passBs_ro hr_cmp)) .nil)))) (c_slices_insertionSortCmpFunc_string x1.1 x1.2.1 n_ cmp F_cmp C_cmp he_cmp hr_cmp Q_cmp hc_cmp (by omega) (by omega) (by omega)) ⟨rfl, trivial⟩ rfl rfl (fun h => Bool.noConfusion h) (fun h => Bool.noConfusion h) rfl <|
        Lex.nil) ?_
    refine run_block ?_
    refine run_LOOP (m_slices_stableCmpFunc_string_b2 data n_ cmp x1) _ _ _ rfl (fun (x2 : (List (List UInt8)) × Int) => x2.1.length = data.length ∧ (∀ x ∈ x2.1, Q_cmp x) ∧ (20 ≤ x2.2 ∧ x2.2 ≤ 2000)) (fun x2 => x2.1.length = data.length ∧ (∀ x ∈ x2.1, Q_cmp x) ∧ (20 ≤ x2.2 ∧ x2.2 ≤ 2000)) (fun x2 => (n_ - x2.2).toNat) (fun x2 => ⟨[(0, some (true, .os 0 x2.1.length)), (1, some (true, .int .i64 n_)), (2, some (true, .clo F_cmp C_cmp)), (6, some (true, .int .i64 x2.2))], [(0, some (.row 9 1 (x2.1.map V.str)))]⟩) (fun x2 => ⟨[], [(0, some (.row 9 1 (x2.1.map V.str)))]⟩) ⟨by ((have hq := ins_keep (Q := Q_cmp) (xs := x1.1) (a := x1.2.1) (b := n_) (cmp := cmp) (by assumption) (by omega) (by assumption); obtain ⟨hqa, hqb⟩ := hq; first | omega | exact hqb | (dsimp only; omega) | (dsimp only; exact hqb))), by ((have hq := ins_keep (Q := Q_cmp) (xs := x1.1) (a := x1.2.1) (b := n_) (cmp := cmp) (by assumption) (by omega) (by assumption); obtain ⟨hqa, hqb⟩ := hq; first | omega | exact hqb | (dsimp only; omega) | (dsimp only; exact hqb))), by omega⟩ (by omega) (sub_of [] ⟨os_len rfl (by first | (simp only [put_len]; done) | (((have hq := ins_keep (Q := Q_cmp) (xs := x1.1) (a := x1.2.1) (b := n_) (cmp := cmp) (by assumption) (by omega) (by assumption); obtain ⟨hqa, hqb⟩ := hq; first | omega | exact hqb | (dsimp only; omega) | (dsimp only; exact hqb))))), rfl, clo_ren hr_cmp rfl, rfl, trivial⟩ ⟨rfl, trivial⟩ rfl) ?_ ?_
    · intro x2 i20
      obtain ⟨e21, e22, e23⟩ := i20
      try dsimp only at *
      exact run_end [] .nil rfl ⟨rfl, trivial⟩ rfl
    · intro rec2 k2 hk6 x2 i7
      obtain ⟨e24, e25, e26⟩ := i7
      try dsimp only at *
      refine run_seq ?_
      refine run_seq ?_
      refine run_region (q_move .n (.t rfl) rfl <|
          q_move .n (.t rfl) rfl <|
          q_int .n (.t rfl) (.t rfl) rfl rfl <|
          Lex.nil) ?_
      refine run_cond (.t rfl) rfl (fun h8 => ?_) (fun h8 => ?_)
      · try simp only [Bool.and_eq_true, Bool.or_eq_true, Bool.not_eq_true', Bool.and_eq_false_iff, Bool.or_eq_false_iff, Bool.not_eq_false', decide_eq_true_eq, decide_eq_false_iff_not, beq_iff_eq, bne_iff_ne, beq_eq_false_iff_ne, bne_eq_false_iff_eq, Bool.true_and, ne_eq, Decidable.not_not, Int.not_lt, Int.not_le, Nat.not_lt, Nat.not_le, strB_nil, strB_nil', strB_nnil, strB_nnil'] at h8
        refine run_skip ?_
        refine run_block ?_
        refine run_seq ?_
        refine run_region (q_move .n (.t rfl) rfl <|
            q_int .n (.c rfl) (.t rfl) rfl rfl <|
            q_assign .n (.c rfl) rfl <|
            q_assign .n (.t rfl) rfl <|
            Lex.nil) ?_
        refine run_seq ?_
        refine run_block ?_
        refine run_LOOP (m_slices_stableCmpFunc_string_b3 data n_ cmp x1 rec2 k2 x2) _ _ _ rfl (fun (x3 : (List (List UInt8)) × Int × Int) => x3.1.length = data.length ∧ (∀ x ∈ x3.1, Q_cmp x) ∧ (0 ≤ x3.2.1 ∧ x3.2.2 = x3.2.1 + 2 * x2.2 ∧ x3.2.1 ≤ n_)) (fun x3 => x3.1.length = data.length ∧ (∀ x ∈ x3.1, Q_cmp x) ∧ (0 ≤ x3.2.1 ∧ x3.2.2 = x3.2.1 + 2 * x2.2 ∧ x3.2.1 ≤ n_)) (fun x3 => (n_ - x3.2.1).toNat) (fun x3 => ⟨[(0, some (true, .os 0 x3.1.length)), (1, some (true, .int .i64 n_)), (2, some (true, .clo F_cmp C_cmp)), (6, some (true, .int .i64 x2.2)), (7, some (true, .int .i64 x3.2.1)), (8, some (true, .int .i64 x3.2.2))], [(0, some (.row 9 1 (x3.1.map V.str)))]⟩) (fun x3 => ⟨[(0, some (true, .os 0 x3.1.length)), (1, some (true, .int .i64 n_)), (2, some (true, .clo F_cmp C_cmp)), (6, some (true, .int .i64 x2.2)), (7, some (true, .int .i64 x3.2.1))], [(0, some (.row 9 1 (x3.1.map V.str)))]⟩) ⟨by omega, by omega, by ((have hw1 : IntKind.wrap .i64 (2 * x2.2) = 2 * x2.2 := wr64 (by omega); have hw2 : IntKind.wrap .i64 (x2.2 * 2) = x2.2 * 2 := wr64 (by omega); (try dsimp only); omega))⟩ (by (simp only [List.length_append, List.length_cons, List.length_nil, List.length_replicate, put_len] at * <;> omega)) (sub_of [] ⟨rfl, rfl, clo_ren hr_cmp rfl, rfl, rfl, rfl, trivial⟩ ⟨rfl, trivial⟩ rfl) ?_ ?_
        · intro x3 i12
          obtain ⟨e14, e15, e16⟩ := i12
          try dsimp only at *
          refine run_seq ?_
          refine run_seq ?_
          refine run_region (q_move .n (.t rfl) rfl <|
              q_move .n (.t rfl) rfl <|
              q_add .n (.t rfl) (.t rfl) (fun _ => by omega) rfl <|
              q_assign .n (.t rfl) rfl <|
              Lex.nil) ?_
          refine run_seq ?_
          refine run_region (q_move .n (.t rfl) rfl <|
              q_move .n (.t rfl) rfl <|
              q_int .n (.t rfl) (.t rfl) rfl rfl <|
              Lex.nil) ?_
          refine run_cond (.t rfl) rfl (fun h13 => ?_) (fun h13 => ?_)
          · try simp only [Bool.and_eq_true, Bool.or_eq_true, Bool.not_eq_true', Bool.and_eq_false_iff, Bool.or_eq_false_iff, Bool.not_eq_false', decide_eq_true_eq, decide_eq_false_iff_not, beq_iff_eq, bne_iff_ne, beq_eq_false_iff_ne, bne_eq_false_iff_eq, Bool.true_and, ne_eq, Decidable.not_not, Int.not_lt, Int.not_le, Nat.not_lt, Nat.not_le, strB_nil, strB_nil', strB_nnil, strB_nnil'] at h13
            refine run_region (q_move .n (.t rfl) rfl <|
                q_move .n (.t rfl) rfl <|
                q_move .n (.t rfl) rfl <|
                q_move .n (.t rfl) rfl <|
                q_move .n (.t rfl) rfl <|
                q_callM (full := false) [(0, 0)] [] .n rfl .f en_144 (.cons (.t rfl) (.cons (.t rfl) (.cons (.t rfl) (.cons (.t rfl) (.cons (.t rfl) .nil))))) (.cons (.b (.muts rfl)) (.cons (.b (.a (.same rfl))) (.cons (.b (.a (.same rfl))) (.cons (.b (.a (.same rfl))) (.cons (.clo (passBs_ro hr_cmp)) .nil))))) (c_slices_symMergeCmpFunc_string x3.1 x3.2.1 (x3.2.1 + x2.2) n_ cmp F_cmp C_cmp he_cmp hr_cmp Q_cmp hc_cmp (by omega) (by omega) (by omega) (by omega)) ⟨rfl, trivial⟩ rfl rfl (fun h => Bool.noConfusion h) (fun h => Bool.noConfusion h) rfl <|
                Lex.nil) ?_
            refine run_region (q_move .n (.t rfl) rfl <|
                q_int .n (.t rfl) (.c rfl) rfl rfl <|
                q_assign .n (.t rfl) rfl <|
                Lex.nil) ?_
            refine run_endB ?_
            exact run_again (m_slices_symMergeCmpFunc_string x3.1 x3.2.1 (x3.2.1 + x2.2) n_ cmp, IntKind.wrap .i64 (x2.2 * 2)) ⟨by ((have hw1 : IntKind.wrap .i64 (2 * x2.2) = 2 * x2.2 := wr64 (by omega); have hw2 : IntKind.wrap .i64 (x2.2 * 2) = x2.2 * 2 := wr64 (by omega); have hq := sym_keep (Q := Q_cmp) (xs := x3.1) (a := x3.2.1) (m := x3.2.1 + x2.2) (b := n_) (cmp := cmp) (by assumption) (by omega) (by assumption); obtain ⟨hqa, hqb⟩ := hq; first | omega | exact hqb | (dsimp only; omega) | (dsimp only; exact hqb))), by ((have hw1 : IntKind.wrap .i64 (2 * x2.2) = 2 * x2.2 := wr64 (by omega); have hw2 : IntKind.wrap .i64 (x2.2 * 2) = x2.2 * 2 := wr64 (by omega); have hq := sym_keep (Q := Q_cmp) (xs := x3.1) (a := x3.2.1) (m := x3.2.1 + x2.2) (b := n_) (cmp := cmp) (by assumption) (by omega) (by assumption); obtain ⟨hqa, hqb⟩ := hq; first | omega | exact hqb | (dsimp only; omega) | (dsimp only; exact hqb))), by ((have hw1 : IntKind.wrap .i64 (2 * x2.2) = 2 * x2.2 := wr64 (by omega); have hw2 : IntKind.wrap .i64 (x2.2 * 2) = x2.2 * 2 := wr64 (by omega); (try dsimp only); omega))⟩ (by ((have hw1 : IntKind.wrap .i64 (2 * x2.2) = 2 * x2.2 := wr64 (by omega); have hw2 : IntKind.wrap .i64 (x2.2 * 2) = x2.2 * 2 := wr64 (by omega); (try dsimp only); omega))) (sub_of [] ⟨os_len rfl (by first | (simp only [put_len]; done) | (((have hw1 : IntKind.wrap .i64 (2 * x2.2) = 2 * x2.2 := wr64 (by omega); have hw2 : IntKind.wrap .i64 (x2.2 * 2) = x2.2 * 2 := wr64 (by omega); have hq := sym_keep (Q := Q_cmp) (xs := x3.1) (a := x3.2.1) (m := x3.2.1 + x2.2) (b := n_) (cmp := cmp) (by assumption) (by omega) (by assumption); obtain ⟨hqa, hqb⟩ := hq; first | omega | exact hqb | (dsimp only; omega) | (dsimp only; exact hqb))))), rfl, clo_ren hr_cmp rfl, rfl, trivial⟩ ⟨rfl, trivial⟩ rfl)
          · try simp only [Bool.and_eq_true, Bool.or_eq_true, Bool.not_eq_true', Bool.and_eq_false_iff, Bool.or_eq_false_iff, Bool.not_eq_false', decide_eq_true_eq, decide_eq_false_iff_not, beq_iff_eq, bne_iff_ne, beq_eq_false_iff_ne, bne_eq_false_iff_eq, Bool.true_and, ne_eq, Decidable.not_not, Int.not_lt, Int.not_le, Nat.not_lt, Nat.not_le, strB_nil, strB_nil', strB_nnil, strB_nnil'] at h13
            refine run_skip ?_
            refine run_region (q_move .n (.t rfl) rfl <|
                q_int .n (.t rfl) (.c rfl) rfl rfl <|
                q_assign .n (.t rfl) rfl <|
                Lex.nil) ?_
            refine run_endB ?_
            exact run_again (x3.1, IntKind.wrap .i64 (x2.2 * 2)) ⟨by omega, by omega, by ((have hw1 : IntKind.wrap .i64 (2 * x2.2) = 2 * x2.2 := wr64 (by omega); have hw2 : IntKind.wrap .i64 (x2.2 * 2) = x2.2 * 2 := wr64 (by omega); (try dsimp only); omega))⟩ (by ((have hw1 : IntKind.wrap .i64 (2 * x2.2) = 2 * x2.2 := wr64 (by omega); have hw2 : IntKind.wrap .i64 (x2.2 * 2) = x2.2 * 2 := wr64 (by omega); (try dsimp only); omega))) (sub_of [] ⟨rfl, rfl, clo_ren hr_cmp rfl, rfl, trivial⟩ ⟨rfl, trivial⟩ rfl)
        · intro rec3 k3 hk9 x3 i10
          obtain ⟨e17, e18, e19⟩ := i10
          try dsimp only at *
          refine run_seq ?_
          refine run_seq ?_
          refine run_region (q_move .n (.t rfl) rfl <|
              q_move .n (.t rfl) rfl <|
              q_int .n (.t rfl) (.t rfl) rfl rfl <|
              Lex.nil) ?_
          refine run_cond (.t rfl) rfl (fun h11 => ?_) (fun h11 => ?_)
          · try simp only [Bool.and_eq_true, Bool.or_eq_true, Bool.not_eq_true', Bool.and_eq_false_iff, Bool.or_eq_false_iff, Bool.not_eq_false', decide_eq_true_eq, decide_eq_false_iff_not, beq_iff_eq, bne_iff_ne, beq_eq_false_iff_ne, bne_eq_false_iff_eq, Bool.true_and, ne_eq, Decidable.not_not, Int.not_lt, Int.not_le, Nat.not_lt, Nat.not_le, strB_nil, strB_nil', strB_nnil, strB_nnil'] at h11
            refine run_skip ?_
            refine run_block ?_
            refine run_seq ?_
            refine run_region (q_move .n (.t rfl) rfl <|
                q_move .n (.t rfl) rfl <|
                q_move .n (.t rfl) rfl <|
                q_move .n (.t rfl) rfl <|
                q_add .n (.t rfl) (.t rfl) (fun _ => by omega) rfl <|
                q_move .n (.t rfl) rfl <|
                q_move .n (.t rfl) rfl <|
                q_callM (full := false) [(0, 0)] [] .n rfl .f en_144 (.cons (.t rfl) (.cons (.t rfl) (.cons (.t rfl) (.cons (.t rfl) (.cons (.t rfl) .nil))))) (.cons (.b (.muts rfl)) (.cons (.b (.a (.same rfl))) (.cons (.b (.a (.same rfl))) (.cons (.b (.a (.same rfl))) (.cons (.clo (passBs_ro hr_cmp)) .nil))))) (c_slices_symMergeCmpFunc_string x3.1 x3.2.1 (x3.2.1 + x2.2) x3.2.2 cmp F_cmp C_cmp he_cmp hr_cmp Q_cmp hc_cmp (by omega) (by omega) (by omega) (by omega)) ⟨rfl, trivial⟩ rfl rfl (fun h => Bool.noConfusion h) (fun h => Bool.noConfusion h) rfl <|
                Lex.nil) ?_
            refine run_seq ?_
            refine run_region (q_move .n (.t rfl) rfl <|
                q_assign .n (.t rfl) rfl <|
                Lex.nil) ?_
            refine run_region (q_move .n (.t rfl) rfl <|
                q_move .n (.t rfl) rfl <|
                q_int .n (.c rfl) (.t rfl) rfl rfl <|
                q_add .n (.t rfl) (.t rfl) (fun _ => by ((have hw1 : IntKind.wrap .i64 (2 * x2.2) = 2 * x2.2 := wr64 (by omega); have hw2 : IntKind.wrap .i64 (x2.2 * 2) = x2.2 * 2 := wr64 (by omega); (try dsimp only); omega))) rfl <|
                q_assign .n (.t rfl) rfl <|
                Lex.nil) ?_
            refine run_endB ?_
            exact run_again (m_slices_symMergeCmpFunc_string x3.1 x3.2.1 (x3.2.1 + x2.2) x3.2.2 cmp, x3.2.2, x3.2.2 + (IntKind.wrap .i64 (2 * x2.2))) ⟨by ((have hw1 : IntKind.wrap .i64 (2 * x2.2) = 2 * x2.2 := wr64 (by omega); have hw2 : IntKind.wrap .i64 (x2.2 * 2) = x2.2 * 2 := wr64 (by omega); have hq := sym_keep (Q := Q_cmp) (xs := x3.1) (a := x3.2.1) (m := x3.2.1 + x2.2) (b := x3.2.2) (cmp := cmp) (by assumption) (by omega) (by assumption); obtain ⟨hqa, hqb⟩ := hq; first | omega | exact hqb | (dsimp only; omega) | (dsimp only; exact hqb))), by ((have hw1 : IntKind.wrap .i64 (2 * x2.2) = 2 * x2.2 := wr64 (by omega); have hw2 : IntKind.wrap .i64 (x2.2 * 2) = x2.2 * 2 := wr64 (by omega); have hq := sym_keep (Q := Q_cmp) (xs := x3.1) (a := x3.2.1) (m := x3.2.1 + x2.2) (b := x3.2.2) (cmp := cmp) (by assumption) (by omega) (by assumption); obtain ⟨hqa, hqb⟩ := hq; first | omega | exact hqb | (dsimp only; omega) | (dsimp only; exact hqb))), by ((have hw1 : IntKind.wrap .i64 (2 * x2.2) = 2 * x2.2 := wr64 (by omega); have hw2 : IntKind.wrap .i64 (x2.2 * 2) = x2.2 * 2 := wr64 (by omega); (try dsimp only); omega))⟩ (by (simp only [List.length_append, List.length_cons, List.length_nil, List.length_replicate, put_len] at * <;> omega)) (sub_of [] ⟨os_len rfl (by first | (simp only [put_len]; done) | (((have hw1 : IntKind.wrap .i64 (2 * x2.2) = 2 * x2.2 := wr64 (by omega); have hw2 : IntKind.wrap .i64 (x2.2 * 2) = x2.2 * 2 := wr64 (by omega); have hq := sym_keep (Q := Q_cmp) (xs := x3.1) (a := x3.2.1) (m := x3.2.1 + x2.2) (b := x3.2.2) (cmp := cmp) (by assumption) (by omega) (by assumption); obtain ⟨hqa, hqb⟩ := hq; first | omega | exact hqb | (dsimp only; omega) | (dsimp only; exact hqb))))), rfl, clo_ren hr_cmp rfl, rfl, rfl, rfl, trivial⟩ ⟨rfl, trivial⟩ rfl)
          · try simp only [Bool.and_eq_true, Bool.or_eq_true, Bool.not_eq_true', Bool.and_eq_false_iff, Bool.or_eq_false_iff, Bool.not_eq_false', decide_eq_true_eq, decide_eq_false_iff_not, beq_iff_eq, bne_iff_ne, beq_eq_false_iff_ne, bne_eq_false_iff_eq, Bool.true_and, ne_eq, Decidable.not_not, Int.not_lt, Int.not_le, Nat.not_lt, Nat.not_le, strB_nil, strB_nil', strB_nnil, strB_nnil'] at h11
            refine run_exit rfl ?_
            exact run_cont hk9 (x3.1, x3.2.1, x3.2.2) ⟨by omega, by omega, by omega⟩ (sub_of [] ⟨rfl, rfl, clo_ren hr_cmp rfl, rfl, rfl, trivial⟩ ⟨rfl, trivial⟩ rfl)
      · try simp only [Bool.and_eq_true, Bool.or_eq_true, Bool.not_eq_true', Bool.and_eq_false_iff, Bool.or_eq_false_iff, Bool.not_eq_false', decide_eq_true_eq, decide_eq_false_iff_not, beq_iff_eq, bne_iff_ne, beq_eq_false_iff_ne, bne_eq_false_iff_eq, Bool.true_and, ne_eq, Decidable.not_not, Int.not_lt, Int.not_le, Nat.not_lt, Nat.not_le, strB_nil, strB_nil', strB_nnil, strB_nnil'] at h8
        refine run_exit rfl ?_
        exact run_cont hk6 (x2.1, x2.2) ⟨by omega, by omega, by omega⟩ (sub_of [] trivial ⟨rfl, trivial⟩ rfl)
  · intro rec1 k1 hk2 x1 i3
    obtain ⟨e30, e31, e32⟩ := i3
    try dsimp only at *
    refine run_seq ?_
    refine run_seq ?_
    refine run_region (q_move .n (.t rfl) rfl <|
        q_move .n (.t rfl) rfl <|
        q_int .n (.t rfl) (.t rfl) rfl rfl <|
        Lex.nil) ?_
    refine run_cond (.t rfl) rfl (fun h4 => ?_) (fun h4 => ?_)
    · try simp only [Bool.and_eq_true, Bool.or_eq_true, Bool.not_eq_true', Bool.and_eq_false_iff, Bool.or_eq_false_iff, Bool.not_eq_false', decide_eq_true_eq, decide_eq_false_iff_not, beq_iff_eq, bne_iff_ne, beq_eq_false_iff_ne, bne_eq_false_iff_eq, Bool.true_and, ne_eq, Decidable.not_not, Int.not_lt, Int.not_le, Nat.not_lt, Nat.not_le, strB_nil, strB_nil', strB_nnil, strB_nnil'] at h4
      refine run_skip ?_
      refine run_block ?_
      refine run_seq ?_
      refine run_region (q_move .n (.t rfl) rfl <|
          q_move .n (.t rfl) rfl <|
          q_move .n (.t rfl) rfl <|
          q_move .n (.t rfl) rfl <|
          q_callM (full := false) [(0, 0)] [] .n rfl .f en_143 (.cons (.t rfl) (.cons (.t rfl) (.cons (.t rfl) (.cons (.t rfl) .nil)))) (.cons (.b (.muts rfl)) (.cons (.b (.a (.same rfl))) (.cons (.b (.a (.same rfl))) (.cons (.clo (passBs_ro hr_cmp)) .nil)))) (c_slices_insertionSortCmpFunc_string x1.1 x1.2.1 x1.2.2 cmp F_cmp C_cmp he_cmp hr_cmp Q_cmp hc_cmp (by omega) (by omega) (by omega)) ⟨rfl, trivial⟩ rfl rfl (fun h => Bool.noConfusion h) (fun h => Bool.noConfusion h) rfl <|
          Lex.nil) ?_
      refine run_seq ?_
      refine run_region (q_move .n (.t rfl) rfl <|
          q_assign .n (.t rfl) rfl <|
          Lex.nil) ?_
      refine run_region (q_move .n (.t rfl) rfl <|
          q_move .n (.t rfl) rfl <|
          q_add .n (.t rfl) (.t rfl) (fun _ => by omega) rfl <|
          q_assign .n (.t rfl) rfl <|
          Lex.nil) ?_
      refine run_endB ?_
      exact run_again (m_slices_insertionSortCmpFunc_string x1.1 x1.2.1 x1.2.2 cmp, x1.2.2, x1.2.2 + 20) ⟨by ((have hq := ins_keep (Q := Q_cmp) (xs := x1.1) (a := x1.2.1) (b := x1.2.2) (cmp := cmp) (by assumption) (by omega) (by assumption); obtain ⟨hqa, hqb⟩ := hq; first | omega | exact hqb | (dsimp only; omega) | (dsimp only; exact hqb))), by ((have hq := ins_keep (Q := Q_cmp) (xs := x1.1) (a := x1.2.1) (b := x1.2.2) (cmp := cmp) (by assumption) (by omega) (by assumption); obtain ⟨hqa, hqb⟩ := hq; first | omega | exact hqb | (dsimp only; omega) | (dsimp only; exact hqb))), by (((try dsimp only); omega))⟩ (by (simp only [List.length_append, List.length_cons, List.length_nil, List.length_replicate, put_len] at * <;> omega)) (sub_of [] ⟨os_len rfl (by first | (simp only [put_len]; done) | (((have hq := ins_keep (Q := Q_cmp) (xs := x1.1) (a := x1.2.1) (b := x1.2.2) (cmp := cmp) (by assumption) (by omega) (by assumption); obtain ⟨hqa, hqb⟩ := hq; first | omega | exact hqb | (dsimp only; omega) | (dsimp only; exact hqb))))), rfl, clo_ren hr_cmp rfl, rfl, rfl, rfl, trivial⟩ ⟨rfl, trivial⟩ rfl)
    · try simp only [Bool.and_eq_true, Bool.or_eq_true, Bool.not_eq_true', Bool.and_eq_false_iff, Bool.or_eq_false_iff, Bool.not_eq_false', decide_eq_true_eq, decide_eq_false_iff_not, beq_iff_eq, bne_iff_ne, beq_eq_false_iff_ne, bne_eq_false_iff_eq, Bool.true_and, ne_eq, Decidable.not_not, Int.not_lt, Int.not_le, Nat.not_lt, Nat.not_le, strB_nil, strB_nil', strB_nnil, strB_nnil'] at h4
      refine run_exit rfl ?_
      exact run_cont hk2 (x1.1, x1.2.1, x1.2.2) ⟨by omega, by omega, by omega⟩ (sub_of [] ⟨rfl, rfl, clo_ren hr_cmp rfl, rfl, rfl, trivial⟩ ⟨rfl, trivial⟩ rfl)

/-! ### slices_SortStableFunc_string -/
set_option maxRecDepth 100000 in
set_option maxHeartbeats 4000000 in
theorem c_slices_SortStableFunc_string (x_ : List (List UInt8)) (cmp : List UInt8 → List UInt8 → Int) (F_cmp : FuncId) (C_cmp : List V) (he_cmp : entB Try.prog F_cmp = true) (hr_cmp : C_cmp.all V.ro = true) (Q_cmp : (List UInt8) → Prop) (hc_cmp : ∀ (a0 : List UInt8) (a1 : List UInt8), Q_cmp a0 → Q_cmp a1 → Con Try.prog F_cmp ([.str a0, .str a1] ++ C_cmp) [] (.int .i64 (cmp a0 a1)) []) (hp1 : x_.length ≤ 1000) (hp2 : ∀ x ∈ x_, Q_cmp x) (hp3 : Kc cmp) : Con Try.prog 52 [.os 0 x_.length, .clo F_cmp C_cmp] [(0, some (.row 9 1 (x_.map V.str)))] (.tup []) ([(0, some (.row 9 1 ((m_slices_SortStableFunc_string x_ cmp).map V.str)))]) := by
  refine con_intro (out := fun r : (List (List UInt8)) => ((.tup [] : V), ([(0, some (.row 9 1 (r.map V.str)))] : List (Nat × Option O)))) (r := (m_slices_SortStableFunc_string x_ cmp)) Try.func52 rfl Try.ntmps52 rfl ?_
  refine run_factH (l := 0) rfl fun hl => ?_
  have l1 := hl; clear hl; simp only [List.length_map] at l1
  refine run_region (q_move .n (.t rfl) rfl <|
      q_move .n (.t rfl) rfl <|
      q_len .n (.t rfl) rfl rfl ss_24 rfl <|
      q_move .n (.t rfl) rfl <|
      q_callM (full := false) [(0, 0)] [] .n rfl .f en_108 (.cons (.t rfl) (.cons (.t rfl) (.cons (.t rfl) .nil))) (.cons (.b (.muts rfl)) (.cons (.b (.a (.same rfl))) (.cons (.clo (passBs_ro hr_cmp)) .nil))) (c_slices_stableCmpFunc_string x_ (x_.length : Int) cmp F_cmp C_cmp he_cmp hr_cmp Q_cmp hc_cmp (by omega) (by omega) (by omega)) ⟨rfl, trivial⟩ rfl rfl (fun h => Bool.noConfusion h) (fun h => Bool.noConfusion h) rfl <|
      Lex.nil) ?_
  exact run_end [] .nil rfl ⟨rfl, trivial⟩ rfl

/-! ### slices_Sort_int64 -/


/-! ### impl_medianSeconds -/
theorem c_impl_medianSeconds (list : List gDrill) (crew : List UInt8) (hp1 : list.length ≤ 32) (hp2 : ∃ j : Int, 0 ≤ j ∧ j < list.length ∧ strB .eql (at' list j).Crew crew = true) : Con Try.prog 55 [.sl 5 (list.map gDrill.v), .str crew] [] (.int .i64 (m_impl_medianSeconds list crew)) ([]) := by
  refine con_intro (out := fun r : Int => ((.int .i64 r : V), ([] : List (Nat × Option O)))) (r := (m_impl_medianSeconds list crew)) Try.func55 rfl Try.ntmps55 rfl ?_
  refine run_fact (t := 0) rfl fun hl => ?_
  have l1 := hl; clear hl; simp only [List.length_map] at l1
  refine run_seq ?_
  refine run_region (q_assign .n (.c rfl) rfl <|
      Lex.nil) ?_
  refine run_seq ?_
  refine run_region (q_assign .n (.c rfl) rfl <|
      Lex.nil) ?_
  refine run_seq ?_
  refine run_seq ?_
  refine run_region (q_move .n (.t rfl) rfl <|
      q_len .n (.t rfl) rfl len_map ss_27 rfl <|
      q_move .n (.c rfl) rfl <|
      Lex.nil) ?_
  refine run_block ?_
  refine run_sub (sub_adopt (t := 5) (l := 200) (el := 2) (sz := 1) rfl rfl) ?_
  refine run_LOOP (m_impl_medianSeconds_b1 list crew) _ _ _ rfl (fun (x1 : (List Int) × Int) => 0 ≤ x1.2 ∧ x1.2 ≤ (list.length : Int) ∧ (x1.1.length : Int) + 0 ≤ x1.2 + (([] : List Int).length : Int) ∧ (x1.1.length : Int) ≤ x1.2 ∧ (∀ j : Int, 0 ≤ j → j < x1.2 → strB .eql (at' list j).Crew crew = true → 1 ≤ (x1.1.length : Int))) (fun x1 => 0 ≤ x1.2 ∧ x1.2 ≤ (list.length : Int) ∧ (x1.1.length : Int) + 0 ≤ x1.2 + (([] : List Int).length : Int) ∧ (x1.1.length : Int) ≤ x1.2 ∧ (∀ j : Int, 0 ≤ j → j < x1.2 → strB .eql (at' list j).Crew crew = true → 1 ≤ (x1.1.length : Int)) ∧ (list.length : Int) ≤ x1.2) (fun x1 => ((list.length : Int) - x1.2 : Int).toNat) (fun x1 => ⟨[(1, some (true, .str crew)), (5, some (true, .os 200 x1.1.length)), (8, some (true, .sl 5 (list.map gDrill.v))), (9, some (true, .int .i64 (list.length : Int))), (10, some (true, .int .i64 x1.2))], [(200, some (.row 2 1 (x1.1.map (V.int .i64))))]⟩) (fun x1 => ⟨[(5, some (true, .os 200 x1.1.length))], [(200, some (.row 2 1 (x1.1.map (V.int .i64))))]⟩) ⟨by omega, by omega, by (simp only [List.length_append, List.length_cons, List.length_nil, List.length_replicate, put_len] at * <;> omega), by (simp only [List.length_append, List.length_cons, List.length_nil, List.length_replicate, put_len] at * <;> omega), by omega⟩ (by omega) (sub_of [] ⟨rfl, rfl, rfl, rfl, rfl, trivial⟩ ⟨rfl, trivial⟩ rfl) ?_ ?_
  · intro x1 i6
    obtain ⟨e7, e8, e9, e10, e11, e12⟩ := i6
    try dsimp only at *
    refine run_seq ?_
    refine run_region (q_move .n (.t rfl) rfl <|
        q_callM (full := false) [(0, 200)] [] .n rfl .f en_110 (.cons (.t rfl) .nil) (.cons (.b (.muts rfl)) .nil) (c_slices_Sort_int64 x1.1 (by omega)) ⟨rfl, trivial⟩ rfl rfl (fun h => Bool.noConfusion h) (fun h => Bool.noConfusion h) rfl <|
        Lex.nil) ?_
    refine run_seq ?_
    refine run_region (q_move .n (.t rfl) rfl <|
        q_move .n (.t rfl) rfl <|
        q_len .n (.t rfl) rfl rfl ss_139 rfl <|
        q_int .n (.t rfl) (.c rfl) rfl rfl <|
        q_quo .n (.t rfl) (.c rfl) (fun _ => by decide) rfl <|
        q_idx_ow .n (.t rfl) (.t rfl) sl_139 (fun _ => by (exact med_idx' hp2 (by omega) (by assumption) (by omega))) rfl <|
        q_ld1_row .n (.t rfl) rfl (fun _ => by (exact med_idx hp2 (by omega) (by assumption) (by omega))) rfl rfl rfl ic_2 rfl <|
        q_assign .n (.t rfl) rfl <|
        Lex.nil) ?_
    exact run_ret [] (.cons (.t rfl rfl) .nil) rfl trivial rfl
  · intro rec1 k1 hk2 x1 i3
    obtain ⟨e13, e14, e15, e16, e17⟩ := i3
    try dsimp only at *
    refine run_seq ?_
    refine run_region (q_int .n (.t rfl) (.t rfl) rfl rfl <|
        Lex.nil) ?_
    refine run_seq ?_
    refine run_cond (.t rfl) rfl (fun h4 => ?_) (fun h4 => ?_)
    · try simp only [Bool.and_eq_true, Bool.or_eq_true, Bool.not_eq_true', Bool.and_eq_false_iff, Bool.or_eq_false_iff, Bool.not_eq_false', decide_eq_true_eq, decide_eq_false_iff_not, beq_iff_eq, bne_iff_ne, beq_eq_false_iff_ne, bne_eq_false_iff_eq, Bool.true_and, ne_eq, Decidable.not_not, Int.not_lt, Int.not_le, Nat.not_lt, Nat.not_le, strB_nil, strB_nil', strB_nnil, strB_nnil'] at h4
      refine run_skip ?_
      refine run_seq ?_
      refine run_block ?_
      refine run_seq ?_
      refine run_region (q_idx_rm .n (.t rfl) (.t rfl) sl_27 (fun _ => by omega) rfl <|
          q_ldN_ro .n (.t rfl) ag_85 rfl rfl rfl <|
          q_alloc (l := 202) .n rfl zv_85 rfl rfl <|
          q_st_boxm [.int .i64 (at' list x1.2).Day, .str (at' list x1.2).Crew, .int .i64 (at' list x1.2).Persons, .int .i64 (at' list x1.2).Seconds, .int .i64 (at' list x1.2).Missing] .n rfl (.t rfl) (.t rfl) rfl ts_85 rfl rfl <|
          Lex.nil) ?_
      refine run_seq ?_
      refine run_region (q_fld_ow .n (.t rfl) fo_85_1 rfl <|
          q_ld1_ow .n (.t rfl) rfl (.inr rfl) (fun _ => rfl) rfl ic_9 rfl <|
          q_move .n (.t rfl) rfl <|
          q_strcmp .n (.t rfl) (.t rfl) rfl rfl <|
          Lex.nil) ?_
      refine run_cond (.t rfl) rfl (fun h5 => ?_) (fun h5 => ?_)
      · try simp only [Bool.and_eq_true, Bool.or_eq_true, Bool.not_eq_true', Bool.and_eq_false_iff, Bool.or_eq_false_iff, Bool.not_eq_false', decide_eq_true_eq, decide_eq_false_iff_not, beq_iff_eq, bne_iff_ne, beq_eq_false_iff_ne, bne_eq_false_iff_eq, Bool.true_and, ne_eq, Decidable.not_not, Int.not_lt, Int.not_le, Nat.not_lt, Nat.not_le, strB_nil, strB_nil', strB_nnil, strB_nnil'] at h5
        refine run_region (q_move .n (.t rfl) rfl <|
            q_fld_ow .n (.t rfl) fo_85_3 rfl <|
            q_ld1_ow .n (.t rfl) rfl (.inr rfl) (fun _ => rfl) rfl ic_2 rfl <|
            q_bslicem ([(at' list x1.2).Seconds] : List Int) (f := V.int .i64) (l := 203) .n rfl rfl (.cons (.t rfl) .nil) rfl si_139 zv_2 rfl rfl rfl <|
            q_appm (xs := x1.1) (ys := ([(at' list x1.2).Seconds] : List Int)) (f := V.int .i64) (l := 204) .n rfl (.ow (.t rfl) rfl (take_all (by simp only [len_map, put_len] <;> rfl)) (by simp only [len_map, put_len] <;> rfl)) (.ow (.t rfl) rfl (take_all (by simp only [len_map, put_len] <;> rfl)) (by simp only [len_map, put_len] <;> rfl)) si_139 zv_2 rfl (by (simp only [List.length_append, List.length_cons, List.length_nil, List.length_replicate, put_len] at * <;> omega)) rfl rfl <|
            q_assign .n (.t rfl) rfl <|
            Lex.nil) ?_
        refine run_endB ?_
        refine run_region (q_add .n (.t rfl) (.c rfl) (fun _ => by omega) rfl <|
            q_move .n (.t rfl) rfl <|
            Lex.nil) ?_
        exact run_again (x1.1 ++ ([(at' list x1.2).Seconds] : List Int), x1.2 + 1) ⟨by omega, by omega, by (simp only [List.length_append, List.length_cons, List.length_nil, List.length_replicate, put_len] at * <;> omega), by (simp only [List.length_append, List.length_cons, List.length_nil, List.length_replicate, put_len] at * <;> omega), by (simp only [List.length_append, List.length_cons, List.length_nil, List.length_replicate, put_len] at * <;> omega)⟩ (by omega) (sub_of [(200, 204)] ⟨rfl, rfl, rfl, rfl, rfl, trivial⟩ ⟨rfl, trivial⟩ rfl)
      · try simp only [Bool.and_eq_true, Bool.or_eq_true, Bool.not_eq_true', Bool.and_eq_false_iff, Bool.or_eq_false_iff, Bool.not_eq_false', decide_eq_true_eq, decide_eq_false_iff_not, beq_iff_eq, bne_iff_ne, beq_eq_false_iff_ne, bne_eq_false_iff_eq, Bool.true_and, ne_eq, Decidable.not_not, Int.not_lt, Int.not_le, Nat.not_lt, Nat.not_le, strB_nil, strB_nil', strB_nnil, strB_nnil'] at h5
        refine run_skip ?_
        refine run_endB ?_
        refine run_region (q_add .n (.t rfl) (.c rfl) (fun _ => by omega) rfl <|
            q_move .n (.t rfl) rfl <|
            Lex.nil) ?_
        exact run_again (x1.1, x1.2 + 1) ⟨by omega, by omega, by (simp only [List.length_append, List.length_cons, List.length_nil, List.length_replicate, put_len] at * <;> omega), by (simp only [List.length_append, List.length_cons, List.length_nil, List.length_replicate, put_len] at * <;> omega), by (exact med_skip (by assumption) (by assumption))⟩ (by omega) (sub_of [] ⟨rfl, rfl, rfl, rfl, rfl, trivial⟩ ⟨rfl, trivial⟩ rfl)
    · try simp only [Bool.and_eq_true, Bool.or_eq_true, Bool.not_eq_true', Bool.and_eq_false_iff, Bool.or_eq_false_iff, Bool.not_eq_false', decide_eq_true_eq, decide_eq_false_iff_not, beq_iff_eq, bne_iff_ne, beq_eq_false_iff_ne, bne_eq_false_iff_eq, Bool.true_and, ne_eq, Decidable.not_not, Int.not_lt, Int.not_le, Nat.not_lt, Nat.not_le, strB_nil, strB_nil', strB_nnil, strB_nnil'] at h4
      refine run_exit rfl ?_
      exact run_cont hk2 (x1.1, x1.2) ⟨by omega, by omega, by omega, by omega, by omega, by omega⟩ (sub_of [] ⟨rfl, trivial⟩ ⟨rfl, trivial⟩ rfl)

/-! ### impl_RankCrews_1 -/
theorem c_impl_RankCrews_1 (a : List UInt8) (b : List UInt8) (p2 : List gDrill) (hp1 : p2.length ≤ 32) (hp2 : ∃ j : Int, 0 ≤ j ∧ j < p2.length ∧ strB .eql (at' p2 j).Crew a = true) (hp3 : ∃ j : Int, 0 ≤ j ∧ j < p2.length ∧ strB .eql (at' p2 j).Crew b = true) : Con Try.prog 53 [.str a, .str b, .rp [.sl 5 (p2.map gDrill.v)]] [] (.int .i64 (m_impl_RankCrews_1 a b p2)) ([]) := by
  refine con_intro (out := fun r : Int => ((.int .i64 r : V), ([] : List (Nat × Option O)))) (r := (m_impl_RankCrews_1 a b p2)) Try.func53 rfl Try.ntmps53 rfl ?_
  refine run_factP (t := 2) 0 rfl rfl fun hl => ?_
  have l1 := hl; clear hl; simp only [List.length_map] at l1
  refine run_seq ?_
  refine run_region (q_assign .n (.c rfl) rfl <|
      Lex.nil) ?_
  refine run_seq ?_
  refine run_draw fmo (q_ld1_ro .n (.t rfl) rfl ic_27 rfl <|
      q_move .n (.t rfl) rfl <|
      q_call0 (full := false) .n .f en_55 (.cons (.t rfl) (.cons (.t rfl) .nil)) (.cons (.b (.a (.same rfl))) (.cons (.b (.a (.same rfl))) .nil)) (fun hg => c_impl_medianSeconds p2 a (by omega) (by omega)) rfl (fun h => Bool.noConfusion h) rfl <|
      q_ld1_ro .n (.t rfl) rfl ic_27 rfl <|
      q_move .n (.t rfl) rfl <|
      q_call0 (full := false) .n .f en_55 (.cons (.t rfl) (.cons (.t rfl) .nil)) (.cons (.b (.a (.same rfl))) (.cons (.b (.a (.same rfl))) .nil)) (fun hg => c_impl_medianSeconds p2 b (by omega) (by omega)) rfl (fun h => Bool.noConfusion h) rfl <|
      q_call0 (full := false) .n .f en_54 (.cons (.t rfl) (.cons (.t rfl) .nil)) (.cons (.b (.a (.same rfl))) (.cons (.b (.a (.same rfl))) .nil)) (fun hg => c_cmp_Compare_int64 (m_impl_medianSeconds p2 a) (m_impl_medianSeconds p2 b)) rfl (fun h => Bool.noConfusion h) rfl <|
      q_assign .n (.t rfl) rfl <|
      Lex.nil) (by kernel_rfl) ?_
  exact run_ret [] (.cons (.t rfl rfl) .nil) rfl trivial rfl

/-! ### impl_RankCrews -/
theorem c_impl_RankCrews (list : List gDrill) : Con Try.prog 10 [.sl 5 (list.map gDrill.v)] [] (.tup [.os 100 (m_impl_RankCrews list).1.length, .int .i64 (m_impl_RankCrews list).2]) ([(100, some (.row 9 1 ((m_impl_RankCrews list).1.map V.str)))]) := by
  refine con_intro (out := fun r : (List (List UInt8)) × Int => ((.tup [.os 100 r.1.length, .int .i64 r.2] : V), ([(100, some (.row 9 1 (r.1.map V.str)))] : List (Nat × Option O)))) (r := (m_impl_RankCrews list)) Try.func10 rfl Try.ntmps10 rfl ?_
  refine run_fact (t := 0) rfl fun hl => ?_
  have l1 := hl; clear hl; simp only [List.length_map] at l1
  refine run_seq ?_
  refine run_region (q_box (l := 200) .n rfl (.t rfl) rfl rfl rfl rfl <|
      q_assign .n (.c rfl) rfl <|
      q_assign .n (.c rfl) rfl <|
      Lex.nil) ?_
  refine run_seq ?_
  refine run_seq ?_
  refine run_region (q_ld1_ow .n (.t rfl) rfl (.inr rfl) (fun _ => rfl) rfl ic_27 rfl <|
      q_call0 (full := false) .n .f en_50 (.cons (.t rfl) .nil) (.cons (.b (.a (.same rfl))) .nil) (fun hg => c_impl_ValidDrills list) rfl (fun h => Bool.noConfusion h) rfl <|
      q_not .n (.t rfl) rfl <|
      Lex.nil) ?_
  refine run_cond (.t rfl) rfl (fun h2 => ?_) (fun h2 => ?_)
  · try simp only [Bool.and_eq_true, Bool.or_eq_true, Bool.not_eq_true', Bool.and_eq_false_iff, Bool.or_eq_false_iff, Bool.not_eq_false', decide_eq_true_eq, decide_eq_false_iff_not, beq_iff_eq, bne_iff_ne, beq_eq_false_iff_ne, bne_eq_false_iff_eq, Bool.true_and, ne_eq, Decidable.not_not, Int.not_lt, Int.not_le, Nat.not_lt, Nat.not_le, strB_nil, strB_nil', strB_nnil, strB_nnil'] at h2
    try have hf0h2 := validDrills_len h2
    try have hf1h2 := validDrills_len h2.1
    try have hf2h2 := validDrills_len h2.2
    try have hf3h2 := validDrills_len h2.1.1
    try have hf4h2 := validDrills_len h2.1.2
    try have hf5h2 := validDrills_len h2.2.1
    try have hf6h2 := validDrills_len h2.2.2
    refine run_seq ?_
    refine run_region (q_assign .n (.c rfl) rfl <|
        q_assign .n (.c rfl) rfl <|
        Lex.nil) ?_
    refine run_sub (sub_adopt (t := 2) (l := 201) (el := 9) (sz := 1) rfl rfl) ?_
    exact run_ret [(100, 201)] (.cons (.t rfl rfl) (.cons (.t rfl rfl) .nil)) (by first | rfl | (simp only [put_len, rk_len (list := list) (by omega)]; rfl)) ⟨rfl, trivial⟩ rfl
  · try simp only [Bool.and_eq_true, Bool.or_eq_true, Bool.not_eq_true', Bool.and_eq_false_iff, Bool.or_eq_false_iff, Bool.not_eq_false', decide_eq_true_eq, decide_eq_false_iff_not, beq_iff_eq, bne_iff_ne, beq_eq_false_iff_ne, bne_eq_false_iff_eq, Bool.true_and, ne_eq, Decidable.not_not, Int.not_lt, Int.not_le, Nat.not_lt, Nat.not_le, strB_nil, strB_nil', strB_nnil, strB_nnil'] at h2
    try have hf0h2 := validDrills_len h2
    try have hf1h2 := validDrills_len h2.1
    try have hf2h2 := validDrills_len h2.2
    try have hf3h2 := validDrills_len h2.1.1
    try have hf4h2 := validDrills_len h2.1.2
    try have hf5h2 := validDrills_len h2.2.1
    try have hf6h2 := validDrills_len h2.2.2
    refine run_skip ?_
    refine run_seq ?_
    refine run_region (q_ld1_ow .n (.t rfl) rfl (.inr rfl) (fun _ => rfl) rfl ic_27 rfl <|
        q_callM (full := false) [] [(100, 202)] .n rfl .f en_51 (.cons (.t rfl) .nil) (.cons (.b (.a (.same rfl))) .nil) (c_impl_crewsOf list (by omega)) trivial rfl rfl (fun h => Bool.noConfusion h) (fun h => Bool.noConfusion h) rfl <|
        q_assign .n (.t rfl) rfl <|
        Lex.nil) ?_
    refine run_seq ?_
    refine run_region (q_move .n (.t rfl) rfl <|
        q_clo .n (.cons (.t rfl) .nil) rfl rfl <|
        q_callM (full := true) [(0, 202)] [] .n rfl .f en_52 (.cons (.t rfl) (.cons (.t rfl) .nil)) (.cons (.b (.muts rfl)) (.cons (.clo (.cons (.ptr rfl rfl (.inr rfl) rfl rfl (.cons (.same rfl) .nil)) .nil)) .nil)) (c_slices_SortStableFunc_string (m_impl_crewsOf list) (fun (a0 : List UInt8) (a1 : List UInt8) => m_impl_RankCrews_1 a0 a1 list) 53 [.rp [.sl 5 (list.map gDrill.v)]] en_53 rfl (fun x => ∃ j : Int, 0 ≤ j ∧ j < list.length ∧ strB .eql (at' list j).Crew x = true) (fun a0 a1 hq0 hq1 => c_impl_RankCrews_1 a0 a1 list (by (try dsimp only at *); omega) (by (try dsimp only at *); omega) (by (try dsimp only at *); omega)) (by ((have hq := crewsOf_len list; omega))) (by (exact crew_in)) (by (exact kc_rank list))) ⟨rfl, trivial⟩ rfl rfl (fun _ => rfl) (fun _ => (hr_row (fun _ => rfl) hr_nil)) rfl <|
        Lex.nil) ?_
    refine run_seq ?_
    refine run_region (q_move .n (.t rfl) rfl <|
        q_assign .n (.t rfl) rfl <|
        q_assign .n (.c rfl) rfl <|
        Lex.nil) ?_
    exact run_ret [(100, 202)] (.cons (.t rfl rfl) (.cons (.t rfl rfl) .nil)) (by first | rfl | (simp only [put_len, rk_len (list := list) (by omega)]; rfl)) ⟨rfl, trivial⟩ rfl

/-! ### laws_eqStringS -/
theorem c_laws_eqStringS (a : List (List UInt8)) (b : List (List UInt8)) : Con Try.prog 11 [.sl 1 (a.map V.str), .sl 1 (b.map V.str)] [] (.bool (m_laws_eqStringS a b)) ([]) := by
  refine con_intro (out := fun r : Bool => ((.bool r : V), ([] : List (Nat × Option O)))) (r := (m_laws_eqStringS a b)) Try.func11 rfl Try.ntmps11 rfl ?_
  refine run_fact (t := 0) rfl fun hl => ?_
  have l1 := hl; clear hl; simp only [List.length_map] at l1
  refine run_fact (t := 1) rfl fun hl => ?_
  have l2 := hl; clear hl; simp only [List.length_map] at l2
  refine run_seq ?_
  refine run_region (q_assign .n (.c rfl) rfl <|
      Lex.nil) ?_
  refine run_seq ?_
  refine run_seq ?_
  refine run_region (q_move .n (.t rfl) rfl <|
      q_len .n (.t rfl) rfl len_map ss_24 rfl <|
      q_move .n (.t rfl) rfl <|
      q_len .n (.t rfl) rfl len_map ss_24 rfl <|
      q_int .n (.t rfl) (.t rfl) rfl rfl <|
      Lex.nil) ?_
  refine run_cond (.t rfl) rfl (fun h3 => ?_) (fun h3 => ?_)
  · try simp only [Bool.and_eq_true, Bool.or_eq_true, Bool.not_eq_true', Bool.and_eq_false_iff, Bool.or_eq_false_iff, Bool.not_eq_false', decide_eq_true_eq, decide_eq_false_iff_not, beq_iff_eq, bne_iff_ne, beq_eq_false_iff_ne, bne_eq_false_iff_eq, Bool.true_and, ne_eq, Decidable.not_not, Int.not_lt, Int.not_le, Nat.not_lt, Nat.not_le, strB_nil, strB_nil', strB_nnil, strB_nnil'] at h3
    refine run_seq ?_
    refine run_region (q_assign .n (.c rfl) rfl <|
        Lex.nil) ?_
    exact run_ret [] (.cons (.t rfl rfl) .nil) rfl trivial rfl
  · try simp only [Bool.and_eq_true, Bool.or_eq_true, Bool.not_eq_true', Bool.and_eq_false_iff, Bool.or_eq_false_iff, Bool.not_eq_false', decide_eq_true_eq, decide_eq_false_iff_not, beq_iff_eq, bne_iff_ne, beq_eq_false_iff_ne, bne_eq_false_iff_eq, Bool.true_and, ne_eq, Decidable.not_not, Int.not_lt, Int.not_le, Nat.not_lt, Nat.not_le, strB_nil, strB_nil', strB_nnil, strB_nnil'] at h3
    refine run_skip ?_
    refine run_seq ?_
    refine run_seq ?_
    refine run_region (q_assign .n (.c rfl) rfl <|
        Lex.nil) ?_
    refine run_block ?_
    refine run_LOOP (m_laws_eqStringS_b1 a b) _ _ _ rfl (fun (x1 : Int) => 0 ≤ x1 ∧ x1 ≤ (a.length : Int)) (fun x1 => 0 ≤ x1 ∧ x1 ≤ (a.length : Int) ∧ (a.length : Int) ≤ x1) (fun x1 => ((a.length : Int) - x1 : Int).toNat) (fun x1 => ⟨[(0, some (true, .sl 1 (a.map V.str))), (1, some (true, .sl 1 (b.map V.str))), (5, some (true, .int .i64 x1))], []⟩) (fun x1 => ⟨[], []⟩) ⟨by omega, by omega⟩ (by omega) (sub_of [] ⟨rfl, rfl, rfl, trivial⟩ trivial rfl) ?_ ?_
    · intro x1 i8
      obtain ⟨e9, e10, e11⟩ := i8
      try dsimp only at *
      refine run_seq ?_
      refine run_region (q_assign .n (.c rfl) rfl <|
          Lex.nil) ?_
      exact run_ret [] (.cons (.t rfl rfl) .nil) rfl trivial rfl
    · intro rec1 k1 hk4 x1 i5
      obtain ⟨e12, e13⟩ := i5
      try dsimp only at *
      refine run_seq ?_
      refine run_seq ?_
      refine run_region (q_move .n (.t rfl) rfl <|
          q_move .n (.t rfl) rfl <|
          q_len .n (.t rfl) rfl len_map ss_24 rfl <|
          q_int .n (.t rfl) (.t rfl) rfl rfl <|
          Lex.nil) ?_
      refine run_cond (.t rfl) rfl (fun h6 => ?_) (fun h6 => ?_)
      · try simp only [Bool.and_eq_true, Bool.or_eq_true, Bool.not_eq_true', Bool.and_eq_false_iff, Bool.or_eq_false_iff, Bool.not_eq_false', decide_eq_true_eq, decide_eq_false_iff_not, beq_iff_eq, bne_iff_ne, beq_eq_false_iff_ne, bne_eq_false_iff_eq, Bool.true_and, ne_eq, Decidable.not_not, Int.not_lt, Int.not_le, Nat.not_lt, Nat.not_le, strB_nil, strB_nil', strB_nnil, strB_nnil'] at h6
        refine run_skip ?_
        refine run_seq ?_
        refine run_block ?_
        refine run_seq ?_
        refine run_draw fmo (q_move .n (.t rfl) rfl <|
            q_move .n (.t rfl) rfl <|
            q_idx_rm .n (.t rfl) (.t rfl) sl_24 (fun _ => by omega) rfl <|
            q_ld1_ro .n (.t rfl) rfl ic_9 rfl <|
            q_move .n (.t rfl) rfl <|
            q_move .n (.t rfl) rfl <|
            q_idx_rm .n (.t rfl) (.t rfl) sl_24 (fun _ => by omega) rfl <|
            q_ld1_ro .n (.t rfl) rfl ic_9 rfl <|
            q_strcmp .n (.t rfl) (.t rfl) rfl rfl <|
            Lex.nil) (by kernel_rfl) ?_
        refine run_cond (.t rfl) rfl (fun h7 => ?_) (fun h7 => ?_)
        · try simp only [Bool.and_eq_true, Bool.or_eq_true, Bool.not_eq_true', Bool.and_eq_false_iff, Bool.or_eq_false_iff, Bool.not_eq_false', decide_eq_true_eq, decide_eq_false_iff_not, beq_iff_eq, bne_iff_ne, beq_eq_false_iff_ne, bne_eq_false_iff_eq, Bool.true_and, ne_eq, Decidable.not_not, Int.not_lt, Int.not_le, Nat.not_lt, Nat.not_le, strB_nil, strB_nil', strB_nnil, strB_nnil'] at h7
          refine run_seq ?_
          refine run_region (q_assign .n (.c rfl) rfl <|
              Lex.nil) ?_
          exact run_ret [] (.cons (.t rfl rfl) .nil) rfl trivial rfl
        · try simp only [Bool.and_eq_true, Bool.or_eq_true, Bool.not_eq_true', Bool.and_eq_false_iff, Bool.or_eq_false_iff, Bool.not_eq_false', decide_eq_true_eq, decide_eq_false_iff_not, beq_iff_eq, bne_iff_ne, beq_eq_false_iff_ne, bne_eq_false_iff_eq, Bool.true_and, ne_eq, Decidable.not_not, Int.not_lt, Int.not_le, Nat.not_lt, Nat.not_le, strB_nil, strB_nil', strB_nnil, strB_nnil'] at h7
          refine run_skip ?_
          refine run_endB ?_
          refine run_region (q_move .n (.t rfl) rfl <|
              q_add .n (.t rfl) (.c rfl) (fun _ => by omega) rfl <|
              q_assign .n (.t rfl) rfl <|
              Lex.nil) ?_
          exact run_again (x1 + 1) ⟨by omega, by omega⟩ (by omega) (sub_of [] ⟨rfl, rfl, rfl, trivial⟩ trivial rfl)
      · try simp only [Bool.and_eq_true, Bool.or_eq_true, Bool.not_eq_true', Bool.and_eq_false_iff, Bool.or_eq_false_iff, Bool.not_eq_false', decide_eq_true_eq, decide_eq_false_iff_not, beq_iff_eq, bne_iff_ne, beq_eq_false_iff_ne, bne_eq_false_iff_eq, Bool.true_and, ne_eq, Decidable.not_not, Int.not_lt, Int.not_le, Nat.not_lt, Nat.not_le, strB_nil, strB_nil', strB_nnil, strB_nnil'] at h6
        refine run_exit rfl ?_
        exact run_cont hk4 x1 ⟨by omega, by omega, by omega⟩ (sub_of [] trivial trivial rfl)

/-! ### laws_eqDrill -/
theorem c_laws_eqDrill (a : gDrill) (b : gDrill) : Con Try.prog 56 [.st [.int .i64 a.Day, .str a.Crew, .int .i64 a.Persons, .int .i64 a.Seconds, .int .i64 a.Missing], .st [.int .i64 b.Day, .str b.Crew, .int .i64 b.Persons, .int .i64 b.Seconds, .int .i64 b.Missing]] [] (.bool (m_laws_eqDrill a b)) ([]) := by
  refine con_intro (out := fun r : Bool => ((.bool r : V), ([] : List (Nat × Option O)))) (r := (m_laws_eqDrill a b)) Try.func56 rfl Try.ntmps56 rfl ?_
  refine run_seq ?_
  refine run_region (q_box (l := 200) .n rfl (.t rfl) rfl rfl rfl rfl <|
      q_box (l := 201) .n rfl (.t rfl) rfl rfl rfl rfl <|
      q_assign .n (.c rfl) rfl <|
      Lex.nil) ?_
  refine run_seq ?_
  refine run_seq ?_
  refine run_region (q_fld_ow .n (.t rfl) fo_85_0 rfl <|
      q_ld1_ow .n (.t rfl) rfl (.inr rfl) (fun _ => rfl) rfl ic_2 rfl <|
      q_fld_ow .n (.t rfl) fo_85_0 rfl <|
      q_ld1_ow .n (.t rfl) rfl (.inr rfl) (fun _ => rfl) rfl ic_2 rfl <|
      q_int .n (.t rfl) (.t rfl) rfl rfl <|
      Lex.nil) ?_
  refine run_cond (.t rfl) rfl (fun h1 => ?_) (fun h1 => ?_)
  · try simp only [Bool.and_eq_true, Bool.or_eq_true, Bool.not_eq_true', Bool.and_eq_false_iff, Bool.or_eq_false_iff, Bool.not_eq_false', decide_eq_true_eq, decide_eq_false_iff_not, beq_iff_eq, bne_iff_ne, beq_eq_false_iff_ne, bne_eq_false_iff_eq, Bool.true_and, ne_eq, Decidable.not_not, Int.not_lt, Int.not_le, Nat.not_lt, Nat.not_le, strB_nil, strB_nil', strB_nnil, strB_nnil'] at h1
    refine run_seq ?_
    refine run_region (q_assign .n (.c rfl) rfl <|
        Lex.nil) ?_
    exact run_ret [] (.cons (.t rfl rfl) .nil) rfl trivial rfl
  · try simp only [Bool.and_eq_true, Bool.or_eq_true, Bool.not_eq_true', Bool.and_eq_false_iff, Bool.or_eq_false_iff, Bool.not_eq_false', decide_eq_true_eq, decide_eq_false_iff_not, beq_iff_eq, bne_iff_ne, beq_eq_false_iff_ne, bne_eq_false_iff_eq, Bool.true_and, ne_eq, Decidable.not_not, Int.not_lt, Int.not_le, Nat.not_lt, Nat.not_le, strB_nil, strB_nil', strB_nnil, strB_nnil'] at h1
    refine run_skip ?_
    refine run_seq ?_
    refine run_seq ?_
    refine run_region (q_fld_ow .n (.t rfl) fo_85_1 rfl <|
        q_ld1_ow .n (.t rfl) rfl (.inr rfl) (fun _ => rfl) rfl ic_9 rfl <|
        q_fld_ow .n (.t rfl) fo_85_1 rfl <|
        q_ld1_ow .n (.t rfl) rfl (.inr rfl) (fun _ => rfl) rfl ic_9 rfl <|
        q_strcmp .n (.t rfl) (.t rfl) rfl rfl <|
        Lex.nil) ?_
    refine run_cond (.t rfl) rfl (fun h2 => ?_) (fun h2 => ?_)
    · try simp only [Bool.and_eq_true, Bool.or_eq_true, Bool.not_eq_true', Bool.and_eq_false_iff, Bool.or_eq_false_iff, Bool.not_eq_false', decide_eq_true_eq, decide_eq_false_iff_not, beq_iff_eq, bne_iff_ne, beq_eq_false_iff_ne, bne_eq_false_iff_eq, Bool.true_and, ne_eq, Decidable.not_not, Int.not_lt, Int.not_le, Nat.not_lt, Nat.not_le, strB_nil, strB_nil', strB_nnil, strB_nnil'] at h2
      refine run_seq ?_
      refine run_region (q_assign .n (.c rfl) rfl <|
          Lex.nil) ?_
      exact run_ret [] (.cons (.t rfl rfl) .nil) rfl trivial rfl
    · try simp only [Bool.and_eq_true, Bool.or_eq_true, Bool.not_eq_true', Bool.and_eq_false_iff, Bool.or_eq_false_iff, Bool.not_eq_false', decide_eq_true_eq, decide_eq_false_iff_not, beq_iff_eq, bne_iff_ne, beq_eq_false_iff_ne, bne_eq_false_iff_eq, Bool.true_and, ne_eq, Decidable.not_not, Int.not_lt, Int.not_le, Nat.not_lt, Nat.not_le, strB_nil, strB_nil', strB_nnil, strB_nnil'] at h2
      refine run_skip ?_
      refine run_seq ?_
      refine run_seq ?_
      refine run_region (q_fld_ow .n (.t rfl) fo_85_2 rfl <|
          q_ld1_ow .n (.t rfl) rfl (.inr rfl) (fun _ => rfl) rfl ic_2 rfl <|
          q_fld_ow .n (.t rfl) fo_85_2 rfl <|
          q_ld1_ow .n (.t rfl) rfl (.inr rfl) (fun _ => rfl) rfl ic_2 rfl <|
          q_int .n (.t rfl) (.t rfl) rfl rfl <|
          Lex.nil) ?_
      refine run_cond (.t rfl) rfl (fun h3 => ?_) (fun h3 => ?_)
      · try simp only [Bool.and_eq_true, Bool.or_eq_true, Bool.not_eq_true', Bool.and_eq_false_iff, Bool.or_eq_false_iff, Bool.not_eq_false', decide_eq_true_eq, decide_eq_false_iff_not, beq_iff_eq, bne_iff_ne, beq_eq_false_iff_ne, bne_eq_false_iff_eq, Bool.true_and, ne_eq, Decidable.not_not, Int.not_lt, Int.not_le, Nat.not_lt, Nat.not_le, strB_nil, strB_nil', strB_nnil, strB_nnil'] at h3
        refine run_seq ?_
        refine run_region (q_assign .n (.c rfl) rfl <|
            Lex.nil) ?_
        exact run_ret [] (.cons (.t rfl rfl) .nil) rfl trivial rfl
      · try simp only [Bool.and_eq_true, Bool.or_eq_true, Bool.not_eq_true', Bool.and_eq_false_iff, Bool.or_eq_false_iff, Bool.not_eq_false', decide_eq_true_eq, decide_eq_false_iff_not, beq_iff_eq, bne_iff_ne, beq_eq_false_iff_ne, bne_eq_false_iff_eq, Bool.true_and, ne_eq, Decidable.not_not, Int.not_lt, Int.not_le, Nat.not_lt, Nat.not_le, strB_nil, strB_nil', strB_nnil, strB_nnil'] at h3
        refine run_skip ?_
        refine run_seq ?_
        refine run_seq ?_
        refine run_region (q_fld_ow .n (.t rfl) fo_85_3 rfl <|
            q_ld1_ow .n (.t rfl) rfl (.inr rfl) (fun _ => rfl) rfl ic_2 rfl <|
            q_fld_ow .n (.t rfl) fo_85_3 rfl <|
            q_ld1_ow .n (.t rfl) rfl (.inr rfl) (fun _ => rfl) rfl ic_2 rfl <|
            q_int .n (.t rfl) (.t rfl) rfl rfl <|
            Lex.nil) ?_
        refine run_cond (.t rfl) rfl (fun h4 => ?_) (fun h4 => ?_)
        · try simp only [Bool.and_eq_true, Bool.or_eq_true, Bool.not_eq_true', Bool.and_eq_false_iff, Bool.or_eq_false_iff, Bool.not_eq_false', decide_eq_true_eq, decide_eq_false_iff_not, beq_iff_eq, bne_iff_ne, beq_eq_false_iff_ne, bne_eq_false_iff_eq, Bool.true_and, ne_eq, Decidable.not_not, Int.not_lt, Int.not_le, Nat.not_lt, Nat.not_le, strB_nil, strB_nil', strB_nnil, strB_nnil'] at h4
          refine run_seq ?_
          refine run_region (q_assign .n (.c rfl) rfl <|
              Lex.nil) ?_
          exact run_ret [] (.cons (.t rfl rfl) .nil) rfl trivial rfl
        · try simp only [Bool.and_eq_true, Bool.or_eq_true, Bool.not_eq_true', Bool.and_eq_false_iff, Bool.or_eq_false_iff, Bool.not_eq_false', decide_eq_true_eq, decide_eq_false_iff_not, beq_iff_eq, bne_iff_ne, beq_eq_false_iff_ne, bne_eq_false_iff_eq, Bool.true_and, ne_eq, Decidable.not_not, Int.not_lt, Int.not_le, Nat.not_lt, Nat.not_le, strB_nil, strB_nil', strB_nnil, strB_nnil'] at h4
          refine run_skip ?_
          refine run_seq ?_
          refine run_seq ?_
          refine run_region (q_fld_ow .n (.t rfl) fo_85_4 rfl <|
              q_ld1_ow .n (.t rfl) rfl (.inr rfl) (fun _ => rfl) rfl ic_2 rfl <|
              q_fld_ow .n (.t rfl) fo_85_4 rfl <|
              q_ld1_ow .n (.t rfl) rfl (.inr rfl) (fun _ => rfl) rfl ic_2 rfl <|
              q_int .n (.t rfl) (.t rfl) rfl rfl <|
              Lex.nil) ?_
          refine run_cond (.t rfl) rfl (fun h5 => ?_) (fun h5 => ?_)
          · try simp only [Bool.and_eq_true, Bool.or_eq_true, Bool.not_eq_true', Bool.and_eq_false_iff, Bool.or_eq_false_iff, Bool.not_eq_false', decide_eq_true_eq, decide_eq_false_iff_not, beq_iff_eq, bne_iff_ne, beq_eq_false_iff_ne, bne_eq_false_iff_eq, Bool.true_and, ne_eq, Decidable.not_not, Int.not_lt, Int.not_le, Nat.not_lt, Nat.not_le, strB_nil, strB_nil', strB_nnil, strB_nnil'] at h5
            refine run_seq ?_
            refine run_region (q_assign .n (.c rfl) rfl <|
                Lex.nil) ?_
            exact run_ret [] (.cons (.t rfl rfl) .nil) rfl trivial rfl
          · try simp only [Bool.and_eq_true, Bool.or_eq_true, Bool.not_eq_true', Bool.and_eq_false_iff, Bool.or_eq_false_iff, Bool.not_eq_false', decide_eq_true_eq, decide_eq_false_iff_not, beq_iff_eq, bne_iff_ne, beq_eq_false_iff_ne, bne_eq_false_iff_eq, Bool.true_and, ne_eq, Decidable.not_not, Int.not_lt, Int.not_le, Nat.not_lt, Nat.not_le, strB_nil, strB_nil', strB_nnil, strB_nnil'] at h5
            refine run_skip ?_
            refine run_seq ?_
            refine run_region (q_assign .n (.c rfl) rfl <|
                Lex.nil) ?_
            exact run_ret [] (.cons (.t rfl rfl) .nil) rfl trivial rfl

/-! ### laws_eqDrillS -/
theorem c_laws_eqDrillS (a : List gDrill) (b : List gDrill) : Con Try.prog 12 [.sl 5 (a.map gDrill.v), .sl 5 (b.map gDrill.v)] [] (.bool (m_laws_eqDrillS a b)) ([]) := by
  refine con_intro (out := fun r : Bool => ((.bool r : V), ([] : List (Nat × Option O)))) (r := (m_laws_eqDrillS a b)) Try.func12 rfl Try.ntmps12 rfl ?_
  refine run_fact (t := 0) rfl fun hl => ?_
  have l1 := hl; clear hl; simp only [List.length_map] at l1
  refine run_fact (t := 1) rfl fun hl => ?_
  have l2 := hl; clear hl; simp only [List.length_map] at l2
  refine run_seq ?_
  refine run_region (q_assign .n (.c rfl) rfl <|
      Lex.nil) ?_
  refine run_seq ?_
  refine run_seq ?_
  refine run_region (q_move .n (.t rfl) rfl <|
      q_len .n (.t rfl) rfl len_map ss_27 rfl <|
      q_move .n (.t rfl) rfl <|
      q_len .n (.t rfl) rfl len_map ss_27 rfl <|
      q_int .n (.t rfl) (.t rfl) rfl rfl <|
      Lex.nil) ?_
  refine run_cond (.t rfl) rfl (fun h3 => ?_) (fun h3 => ?_)
  · try simp only [Bool.and_eq_true, Bool.or_eq_true, Bool.not_eq_true', Bool.and_eq_false_iff, Bool.or_eq_false_iff, Bool.not_eq_false', decide_eq_true_eq, decide_eq_false_iff_not, beq_iff_eq, bne_iff_ne, beq_eq_false_iff_ne, bne_eq_false_iff_eq, Bool.true_and, ne_eq, Decidable.not_not, Int.not_lt, Int.not_le, Nat.not_lt, Nat.not_le, strB_nil, strB_nil', strB_nnil, strB_nnil'] at h3
    refine run_seq ?_
    refine run_region (q_assign .n (.c rfl) rfl <|
        Lex.nil) ?_
    exact run_ret [] (.cons (.t rfl rfl) .nil) rfl trivial rfl
  · try simp only [Bool.and_eq_true, Bool.or_eq_true, Bool.not_eq_true', Bool.and_eq_false_iff, Bool.or_eq_false_iff, Bool.not_eq_false', decide_eq_true_eq, decide_eq_false_iff_not, beq_iff_eq, bne_iff_ne, beq_eq_false_iff_ne, bne_eq_false_iff_eq, Bool.true_and, ne_eq, Decidable.not_not, Int.not_lt, Int.not_le, Nat.not_lt, Nat.not_le, strB_nil, strB_nil', strB_nnil, strB_nnil'] at h3
    refine run_skip ?_
    refine run_seq ?_
    refine run_seq ?_
    refine run_region (q_assign .n (.c rfl) rfl <|
        Lex.nil) ?_
    refine run_block ?_
    refine run_LOOP (m_laws_eqDrillS_b1 a b) _ _ _ rfl (fun (x1 : Int) => 0 ≤ x1 ∧ x1 ≤ (a.length : Int)) (fun x1 => 0 ≤ x1 ∧ x1 ≤ (a.length : Int) ∧ (a.length : Int) ≤ x1) (fun x1 => ((a.length : Int) - x1 : Int).toNat) (fun x1 => ⟨[(0, some (true, .sl 5 (a.map gDrill.v))), (1, some (true, .sl 5 (b.map gDrill.v))), (5, some (true, .int .i64 x1))], []⟩) (fun x1 => ⟨[], []⟩) ⟨by omega, by omega⟩ (by omega) (sub_of [] ⟨rfl, rfl, rfl, trivial⟩ trivial rfl) ?_ ?_
    · intro x1 i8
      obtain ⟨e9, e10, e11⟩ := i8
      try dsimp only at *
      refine run_seq ?_
      refine run_region (q_assign .n (.c rfl) rfl <|
          Lex.nil) ?_
      exact run_ret [] (.cons (.t rfl rfl) .nil) rfl trivial rfl
    · intro rec1 k1 hk4 x1 i5
      obtain ⟨e12, e13⟩ := i5
      try dsimp only at *
      refine run_seq ?_
      refine run_seq ?_
      refine run_region (q_move .n (.t rfl) rfl <|
          q_move .n (.t rfl) rfl <|
          q_len .n (.t rfl) rfl len_map ss_27 rfl <|
          q_int .n (.t rfl) (.t rfl) rfl rfl <|
          Lex.nil) ?_
      refine run_cond (.t rfl) rfl (fun h6 => ?_) (fun h6 => ?_)
      · try simp only [Bool.and_eq_true, Bool.or_eq_true, Bool.not_eq_true', Bool.and_eq_false_iff, Bool.or_eq_false_iff, Bool.not_eq_false', decide_eq_true_eq, decide_eq_false_iff_not, beq_iff_eq, bne_iff_ne, beq_eq_false_iff_ne, bne_eq_false_iff_eq, Bool.true_and, ne_eq, Decidable.not_not, Int.not_lt, Int.not_le, Nat.not_lt, Nat.not_le, strB_nil, strB_nil', strB_nnil, strB_nnil'] at h6
        refine run_skip ?_
        refine run_seq ?_
        refine run_block ?_
        refine run_seq ?_
        refine run_draw fmo (q_move .n (.t rfl) rfl <|
            q_move .n (.t rfl) rfl <|
            q_idx_rm .n (.t rfl) (.t rfl) sl_27 (fun _ => by omega) rfl <|
            q_ldN_ro .n (.t rfl) ag_85 rfl rfl rfl <|
            q_move .n (.t rfl) rfl <|
            q_move .n (.t rfl) rfl <|
            q_idx_rm .n (.t rfl) (.t rfl) sl_27 (fun _ => by omega) rfl <|
            q_ldN_ro .n (.t rfl) ag_85 rfl rfl rfl <|
            q_call0 (full := false) .n .f en_56 (.cons (.t rfl) (.cons (.t rfl) .nil)) (.cons (.sts rfl) (.cons (.sts rfl) .nil)) (fun hg => c_laws_eqDrill (at' a x1) (at' b x1)) rfl (fun h => Bool.noConfusion h) rfl <|
            q_not .n (.t rfl) rfl <|
            Lex.nil) (by kernel_rfl) ?_
        refine run_cond (.t rfl) rfl (fun h7 => ?_) (fun h7 => ?_)
        · try simp only [Bool.and_eq_true, Bool.or_eq_true, Bool.not_eq_true', Bool.and_eq_false_iff, Bool.or_eq_false_iff, Bool.not_eq_false', decide_eq_true_eq, decide_eq_false_iff_not, beq_iff_eq, bne_iff_ne, beq_eq_false_iff_ne, bne_eq_false_iff_eq, Bool.true_and, ne_eq, Decidable.not_not, Int.not_lt, Int.not_le, Nat.not_lt, Nat.not_le, strB_nil, strB_nil', strB_nnil, strB_nnil'] at h7
          refine run_seq ?_
          refine run_region (q_assign .n (.c rfl) rfl <|
              Lex.nil) ?_
          exact run_ret [] (.cons (.t rfl rfl) .nil) rfl trivial rfl
        · try simp only [Bool.and_eq_true, Bool.or_eq_true, Bool.not_eq_true', Bool.and_eq_false_iff, Bool.or_eq_false_iff, Bool.not_eq_false', decide_eq_true_eq, decide_eq_false_iff_not, beq_iff_eq, bne_iff_ne, beq_eq_false_iff_ne, bne_eq_false_iff_eq, Bool.true_and, ne_eq, Decidable.not_not, Int.not_lt, Int.not_le, Nat.not_lt, Nat.not_le, strB_nil, strB_nil', strB_nnil, strB_nnil'] at h7
          refine run_skip ?_
          refine run_endB ?_
          refine run_region (q_move .n (.t rfl) rfl <|
              q_add .n (.t rfl) (.c rfl) (fun _ => by omega) rfl <|
              q_assign .n (.t rfl) rfl <|
              Lex.nil) ?_
          exact run_again (x1 + 1) ⟨by omega, by omega⟩ (by omega) (sub_of [] ⟨rfl, rfl, rfl, trivial⟩ trivial rfl)
      · try simp only [Bool.and_eq_true, Bool.or_eq_true, Bool.not_eq_true', Bool.and_eq_false_iff, Bool.or_eq_false_iff, Bool.not_eq_false', decide_eq_true_eq, decide_eq_false_iff_not, beq_iff_eq, bne_iff_ne, beq_eq_false_iff_ne, bne_eq_false_iff_eq, Bool.true_and, ne_eq, Decidable.not_not, Int.not_lt, Int.not_le, Nat.not_lt, Nat.not_le, strB_nil, strB_nil', strB_nnil, strB_nnil'] at h6
        refine run_exit rfl ?_
        exact run_cont hk4 x1 ⟨by omega, by omega, by omega⟩ (sub_of [] trivial trivial rfl)

/-! ### laws_markText -/
theorem c_laws_markText (k_ : Int) (hp1 : k_ ≤ 9223372036854775807) : Con Try.prog 57 [.int .i64 k_] [] (.str (m_laws_markText k_)) ([]) := by
  refine con_intro (out := fun r : (List UInt8) => ((.str r : V), ([] : List (Nat × Option O)))) (r := (m_laws_markText k_)) Try.func57 rfl Try.ntmps57 rfl ?_
  refine run_seq ?_
  refine run_region (q_assign .n (.c rfl) rfl <|
      Lex.nil) ?_
  refine run_seq ?_
  refine run_seq ?_
  refine run_region (q_move .n (.t rfl) rfl <|
      q_int .n (.t rfl) (.c rfl) rfl rfl <|
      Lex.nil) ?_
  refine run_cond (.t rfl) rfl (fun h1 => ?_) (fun h1 => ?_)
  · try simp only [Bool.and_eq_true, Bool.or_eq_true, Bool.not_eq_true', Bool.and_eq_false_iff, Bool.or_eq_false_iff, Bool.not_eq_false', decide_eq_true_eq, decide_eq_false_iff_not, beq_iff_eq, bne_iff_ne, beq_eq_false_iff_ne, bne_eq_false_iff_eq, Bool.true_and, ne_eq, Decidable.not_not, Int.not_lt, Int.not_le, Nat.not_lt, Nat.not_le, strB_nil, strB_nil', strB_nnil, strB_nnil'] at h1
    refine run_seq ?_
    refine run_region (q_assign .n (.c rfl) rfl <|
        Lex.nil) ?_
    exact run_ret [] (.cons (.t rfl rfl) .nil) rfl trivial rfl
  · try simp only [Bool.and_eq_true, Bool.or_eq_true, Bool.not_eq_true', Bool.and_eq_false_iff, Bool.or_eq_false_iff, Bool.not_eq_false', decide_eq_true_eq, decide_eq_false_iff_not, beq_iff_eq, bne_iff_ne, beq_eq_false_iff_ne, bne_eq_false_iff_eq, Bool.true_and, ne_eq, Decidable.not_not, Int.not_lt, Int.not_le, Nat.not_lt, Nat.not_le, strB_nil, strB_nil', strB_nnil, strB_nnil'] at h1
    refine run_skip ?_
    refine run_seq ?_
    refine run_region (q_assign .n (.c rfl) rfl <|
        Lex.nil) ?_
    refine run_seq ?_
    refine run_block ?_
    refine run_LOOP (m_laws_markText_b1 k_) _ _ _ rfl (fun (x1 : Int × (List UInt8)) => (x1.2.length : Int) + x1.1 ≤ k_ ∧ (x1.1 = k_ ∨ (x1.2.length : Int) + x1.1 ≤ 1 + k_ / 10) ∧ 0 ≤ x1.1) (fun x1 => (x1.2.length : Int) + x1.1 ≤ k_ ∧ (x1.1 = k_ ∨ (x1.2.length : Int) + x1.1 ≤ 1 + k_ / 10) ∧ 0 ≤ x1.1) (fun x1 => x1.1.toNat) (fun x1 => ⟨[(0, some (true, .int .i64 x1.1)), (3, some (true, .str x1.2))], []⟩) (fun x1 => ⟨[(3, some (true, .str x1.2))], []⟩) ⟨by (simp only [List.length_append, List.length_cons, List.length_nil, List.length_replicate, put_len] at * <;> omega), by omega, by omega⟩ (by omega) (sub_of [] ⟨rfl, rfl, trivial⟩ trivial rfl) ?_ ?_
    · intro x1 i5
      obtain ⟨e6, e7, e8⟩ := i5
      try dsimp only at *
      refine run_seq ?_
      refine run_region (q_move .n (.t rfl) rfl <|
          q_strcat .n (.c rfl) (.t rfl) (fun _ => by (simp only [List.length_append, List.length_cons, List.length_nil, List.length_replicate, put_len] at * <;> omega)) rfl <|
          q_assign .n (.t rfl) rfl <|
          Lex.nil) ?_
      exact run_ret [] (.cons (.t rfl rfl) .nil) rfl trivial rfl
    · intro rec1 k1 hk2 x1 i3
      obtain ⟨e9, e10, e11⟩ := i3
      try dsimp only at *
      refine run_seq ?_
      refine run_seq ?_
      refine run_region (q_move .n (.t rfl) rfl <|
          q_int .n (.t rfl) (.c rfl) rfl rfl <|
          Lex.nil) ?_
      refine run_cond (.t rfl) rfl (fun h4 => ?_) (fun h4 => ?_)
      · try simp only [Bool.and_eq_true, Bool.or_eq_true, Bool.not_eq_true', Bool.and_eq_false_iff, Bool.or_eq_false_iff, Bool.not_eq_false', decide_eq_true_eq, decide_eq_false_iff_not, beq_iff_eq, bne_iff_ne, beq_eq_false_iff_ne, bne_eq_false_iff_eq, Bool.true_and, ne_eq, Decidable.not_not, Int.not_lt, Int.not_le, Nat.not_lt, Nat.not_le, strB_nil, strB_nil', strB_nnil, strB_nnil'] at h4
        refine run_skip ?_
        refine run_block ?_
        refine run_seq ?_
        refine run_region (q_move .n (.t rfl) rfl <|
            q_rem .n (.t rfl) (.c rfl) (fun _ => by decide) rfl <|
            q_int .n (.c rfl) (.t rfl) rfl rfl <|
            q_conv .n (.t rfl) cv_3_5 rfl <|
            q_bslicem ([IntKind.wrap .u8 (IntKind.wrap .i64 (48 + (Int.tmod x1.1 10)))] : List Int) (f := V.int .u8) (l := 200) .n rfl rfl (.cons (.t rfl) .nil) rfl si_154 zv_5 rfl rfl rfl <|
            q_b2s (xs := ([IntKind.wrap .u8 (IntKind.wrap .i64 (48 + (Int.tmod x1.1 10)))] : List Int)) .n (.ow (.t rfl) rfl (take_all (by simp only [len_map, put_len] <;> rfl)) (by simp only [len_map, put_len] <;> rfl)) bs_154_9 rfl <|
            q_move .n (.t rfl) rfl <|
            q_strcat .n (.t rfl) (.t rfl) (fun _ => by ((simp only [chars, List.length_map, List.length_cons, List.length_nil, List.length_append] at *; omega))) rfl <|
            q_assign .n (.t rfl) rfl <|
            Lex.nil) ?_
        refine run_region (q_move .n (.t rfl) rfl <|
            q_quo .n (.t rfl) (.c rfl) (fun _ => by decide) rfl <|
            q_assign .n (.t rfl) rfl <|
            Lex.nil) ?_
        refine run_endB ?_
        exact run_again (IntKind.wrap .i64 (Int.tdiv x1.1 10), (chars ([IntKind.wrap .u8 (IntKind.wrap .i64 (48 + (Int.tmod x1.1 10)))] : List Int)) ++ x1.2) ⟨by ((rw [tdiv10 (by omega) (by omega)]; simp only [List.length_append, List.length_cons, List.length_nil, List.length_replicate, put_len, chars, List.length_map] at *; omega)), by ((rw [tdiv10 (by omega) (by omega)]; simp only [List.length_append, List.length_cons, List.length_nil, List.length_replicate, put_len, chars, List.length_map] at *; omega)), by ((rw [tdiv10 (by omega) (by omega)]; simp only [List.length_append, List.length_cons, List.length_nil, List.length_replicate, put_len, chars, List.length_map] at *; omega))⟩ (by ((rw [tdiv10 (by omega) (by omega)]; simp only [List.length_append, List.length_cons, List.length_nil, List.length_replicate, put_len, chars, List.length_map] at *; omega))) (sub_of [] ⟨rfl, rfl, trivial⟩ trivial rfl)
      · try simp only [Bool.and_eq_true, Bool.or_eq_true, Bool.not_eq_true', Bool.and_eq_false_iff, Bool.or_eq_false_iff, Bool.not_eq_false', decide_eq_true_eq, decide_eq_false_iff_not, beq_iff_eq, bne_iff_ne, beq_eq_false_iff_ne, bne_eq_false_iff_eq, Bool.true_and, ne_eq, Decidable.not_not, Int.not_lt, Int.not_le, Nat.not_lt, Nat.not_le, strB_nil, strB_nil', strB_nnil, strB_nnil'] at h4
        refine run_exit rfl ?_
        exact run_cont hk2 (x1.1, x1.2) ⟨by omega, by omega, by omega⟩ (sub_of [] ⟨rfl, trivial⟩ trivial rfl)

/-! ### laws_markDrillS -/
theorem c_laws_markDrillS (a : List gDrill) (k_ : Int) (hp1 : k_ ≤ 9223372036854775807) : Con Try.prog 13 [.os 0 a.length, .int .i64 k_] [(0, some (.row 85 5 (a.map gDrill.v)))] (.int .i64 (m_laws_markDrillS a k_).1) ([(0, some (.row 85 5 ((m_laws_markDrillS a k_).2.map gDrill.v)))]) := by
  refine con_intro (out := fun r : Int × (List gDrill) => ((.int .i64 r.1 : V), ([(0, some (.row 85 5 (r.2.map gDrill.v)))] : List (Nat × Option O)))) (r := (m_laws_markDrillS a k_)) Try.func13 rfl Try.ntmps13 rfl ?_
  refine run_factH (l := 0) rfl fun hl => ?_
  have l1 := hl; clear hl; simp only [List.length_map] at l1
  refine run_seq ?_
  refine run_region (q_assign .n (.c rfl) rfl <|
      Lex.nil) ?_
  refine run_seq ?_
  refine run_seq ?_
  refine run_region (q_assign .n (.c rfl) rfl <|
      Lex.nil) ?_
  refine run_block ?_
  refine run_LOOP (m_laws_markDrillS_b1 a k_) _ _ _ rfl (fun (x1 : (List gDrill) × Int × Int) => 0 ≤ x1.2.2 ∧ x1.1.length = a.length ∧ x1.2.1 ≤ 9223372036854775807) (fun x1 => 0 ≤ x1.2.2 ∧ x1.1.length = a.length ∧ x1.2.1 ≤ 9223372036854775807 ∧ (x1.1.length : Int) ≤ x1.2.2) (fun x1 => ((x1.1.length : Int) - x1.2.2 : Int).toNat) (fun x1 => ⟨[(0, some (true, .os 0 x1.1.length)), (1, some (true, .int .i64 x1.2.1)), (5, some (true, .int .i64 x1.2.2))], [(0, some (.row 85 5 (x1.1.map gDrill.v)))]⟩) (fun x1 => ⟨[(1, some (true, .int .i64 x1.2.1))], [(0, some (.row 85 5 (x1.1.map gDrill.v)))]⟩) ⟨by (simp only [List.length_append, List.length_cons, List.length_nil, List.length_replicate, put_len] at * <;> omega), by (simp only [List.length_append, List.length_cons, List.length_nil, List.length_replicate, put_len] at * <;> omega), by omega⟩ (by (simp only [List.length_append, List.length_cons, List.length_nil, List.length_replicate, put_len] at * <;> omega)) (sub_of [] ⟨rfl, rfl, rfl, trivial⟩ ⟨rfl, trivial⟩ rfl) ?_ ?_
  · intro x1 i5
    obtain ⟨e6, e7, e8, e9⟩ := i5
    try dsimp only at *
    refine run_seq ?_
    refine run_region (q_move .n (.t rfl) rfl <|
        q_assign .n (.t rfl) rfl <|
        Lex.nil) ?_
    exact run_ret [] (.cons (.t rfl rfl) .nil) rfl ⟨rfl, trivial⟩ rfl
  · intro rec1 k1 hk2 x1 i3
    obtain ⟨e10, e11, e12⟩ := i3
    try dsimp only at *
    refine run_seq ?_
    refine run_seq ?_
    refine run_region (q_move .n (.t rfl) rfl <|
        q_move .n (.t rfl) rfl <|
        q_len .n (.t rfl) rfl rfl ss_27 rfl <|
        q_int .n (.t rfl) (.t rfl) rfl rfl <|
        Lex.nil) ?_
    refine run_cond (.t rfl) rfl (fun h4 => ?_) (fun h4 => ?_)
    · try simp only [Bool.and_eq_true, Bool.or_eq_true, Bool.not_eq_true', Bool.and_eq_false_iff, Bool.or_eq_false_iff, Bool.not_eq_false', decide_eq_true_eq, decide_eq_false_iff_not, beq_iff_eq, bne_iff_ne, beq_eq_false_iff_ne, bne_eq_false_iff_eq, Bool.true_and, ne_eq, Decidable.not_not, Int.not_lt, Int.not_le, Nat.not_lt, Nat.not_le, strB_nil, strB_nil', strB_nnil, strB_nnil'] at h4
      refine run_skip ?_
      refine run_seq ?_
      refine run_block ?_
      refine run_seq ?_
      refine run_region (q_move .n (.t rfl) rfl <|
          q_move .n (.t rfl) rfl <|
          q_move .n (.t rfl) rfl <|
          q_idx_ow .n (.t rfl) (.t rfl) sl_27 (fun _ => by omega) rfl <|
          q_fld_ow .n (.t rfl) fo_85_0 rfl <|
          q_st_rowm (gDrill.mk x1.2.1 (at' x1.1 x1.2.2).Crew (at' x1.1 x1.2.2).Persons (at' x1.1 x1.2.2).Seconds (at' x1.1 x1.2.2).Missing) .n rfl (.t rfl) (.t rfl) rfl ts_2 (by omega) rfl rfl <|
          Lex.nil) ?_
      refine run_seq ?_
      refine run_region (q_move .n (.t rfl) rfl <|
          q_int .n (.t rfl) (.c rfl) rfl rfl <|
          q_assign .n (.t rfl) rfl <|
          Lex.nil) ?_
      refine run_seq ?_
      refine run_region (q_move .n (.t rfl) rfl <|
          q_move .n (.t rfl) rfl <|
          q_move .n (.t rfl) rfl <|
          q_call0 (full := false) .n .f en_57 (.cons (.t rfl) .nil) (.cons (.b (.a (.same rfl))) .nil) (fun hg => c_laws_markText (IntKind.wrap .i64 (x1.2.1 + 1)) (by (exact wr64_le))) rfl (fun h => Bool.noConfusion h) rfl <|
          q_idx_ow .n (.t rfl) (.t rfl) sl_27 (fun _ => by omega) rfl <|
          q_fld_ow .n (.t rfl) fo_85_1 rfl <|
          q_st_rowp (gDrill.mk x1.2.1 (at' x1.1 x1.2.2).Crew (at' x1.1 x1.2.2).Persons (at' x1.1 x1.2.2).Seconds (at' x1.1 x1.2.2).Missing) (gDrill.mk x1.2.1 (m_laws_markText (IntKind.wrap .i64 (x1.2.1 + 1))) (at' x1.1 x1.2.2).Persons (at' x1.1 x1.2.2).Seconds (at' x1.1 x1.2.2).Missing) .n rfl (.t rfl) (.t rfl) rfl ts_9 (by omega) rfl rfl <|
          Lex.nil) ?_
      refine run_seq ?_
      refine run_region (q_move .n (.t rfl) rfl <|
          q_int .n (.t rfl) (.c rfl) rfl rfl <|
          q_assign .n (.t rfl) rfl <|
          Lex.nil) ?_
      refine run_seq ?_
      refine run_region (q_move .n (.t rfl) rfl <|
          q_move .n (.t rfl) rfl <|
          q_move .n (.t rfl) rfl <|
          q_idx_ow .n (.t rfl) (.t rfl) sl_27 (fun _ => by omega) rfl <|
          q_fld_ow .n (.t rfl) fo_85_2 rfl <|
          q_st_rowp (gDrill.mk x1.2.1 (m_laws_markText (IntKind.wrap .i64 (x1.2.1 + 1))) (at' x1.1 x1.2.2).Persons (at' x1.1 x1.2.2).Seconds (at' x1.1 x1.2.2).Missing) (gDrill.mk x1.2.1 (m_laws_markText (IntKind.wrap .i64 (x1.2.1 + 1))) (IntKind.wrap .i64 ((IntKind.wrap .i64 (x1.2.1 + 1)) + 1)) (at' x1.1 x1.2.2).Seconds (at' x1.1 x1.2.2).Missing) .n rfl (.t rfl) (.t rfl) rfl ts_2 (by omega) rfl rfl <|
          Lex.nil) ?_
      refine run_seq ?_
      refine run_region (q_move .n (.t rfl) rfl <|
          q_int .n (.t rfl) (.c rfl) rfl rfl <|
          q_assign .n (.t rfl) rfl <|
          Lex.nil) ?_
      refine run_seq ?_
      refine run_region (q_move .n (.t rfl) rfl <|
          q_move .n (.t rfl) rfl <|
          q_move .n (.t rfl) rfl <|
          q_idx_ow .n (.t rfl) (.t rfl) sl_27 (fun _ => by omega) rfl <|
          q_fld_ow .n (.t rfl) fo_85_3 rfl <|
          q_st_rowp (gDrill.mk x1.2.1 (m_laws_markText (IntKind.wrap .i64 (x1.2.1 + 1))) (IntKind.wrap .i64 ((IntKind.wrap .i64 (x1.2.1 + 1)) + 1)) (at' x1.1 x1.2.2).Seconds (at' x1.1 x1.2.2).Missing) (gDrill.mk x1.2.1 (m_laws_markText (IntKind.wrap .i64 (x1.2.1 + 1))) (IntKind.wrap .i64 ((IntKind.wrap .i64 (x1.2.1 + 1)) + 1)) (IntKind.wrap .i64 ((IntKind.wrap .i64 ((IntKind.wrap .i64 (x1.2.1 + 1)) + 1)) + 1)) (at' x1.1 x1.2.2).Missing) .n rfl (.t rfl) (.t rfl) rfl ts_2 (by omega) rfl rfl <|
          Lex.nil) ?_
      refine run_seq ?_
      refine run_region (q_move .n (.t rfl) rfl <|
          q_int .n (.t rfl) (.c rfl) rfl rfl <|
          q_assign .n (.t rfl) rfl <|
          Lex.nil) ?_
      refine run_seq ?_
      refine run_region (q_move .n (.t rfl) rfl <|
          q_move .n (.t rfl) rfl <|
          q_move .n (.t rfl) rfl <|
          q_idx_ow .n (.t rfl) (.t rfl) sl_27 (fun _ => by omega) rfl <|
          q_fld_ow .n (.t rfl) fo_85_4 rfl <|
          q_st_rowp (gDrill.mk x1.2.1 (m_laws_markText (IntKind.wrap .i64 (x1.2.1 + 1))) (IntKind.wrap .i64 ((IntKind.wrap .i64 (x1.2.1 + 1)) + 1)) (IntKind.wrap .i64 ((IntKind.wrap .i64 ((IntKind.wrap .i64 (x1.2.1 + 1)) + 1)) + 1)) (at' x1.1 x1.2.2).Missing) (gDrill.mk x1.2.1 (m_laws_markText (IntKind.wrap .i64 (x1.2.1 + 1))) (IntKind.wrap .i64 ((IntKind.wrap .i64 (x1.2.1 + 1)) + 1)) (IntKind.wrap .i64 ((IntKind.wrap .i64 ((IntKind.wrap .i64 (x1.2.1 + 1)) + 1)) + 1)) (IntKind.wrap .i64 ((IntKind.wrap .i64 ((IntKind.wrap .i64 ((IntKind.wrap .i64 (x1.2.1 + 1)) + 1)) + 1)) + 1))) .n rfl (.t rfl) (.t rfl) rfl ts_2 (by omega) rfl rfl <|
          Lex.nil) ?_
      refine run_region (q_move .n (.t rfl) rfl <|
          q_int .n (.t rfl) (.c rfl) rfl rfl <|
          q_assign .n (.t rfl) rfl <|
          Lex.nil) ?_
      refine run_endB ?_
      refine run_region (q_move .n (.t rfl) rfl <|
          q_add .n (.t rfl) (.c rfl) (fun _ => by omega) rfl <|
          q_assign .n (.t rfl) rfl <|
          Lex.nil) ?_
      exact run_again (put' x1.1 x1.2.2 (gDrill.mk x1.2.1 (m_laws_markText (IntKind.wrap .i64 (x1.2.1 + 1))) (IntKind.wrap .i64 ((IntKind.wrap .i64 (x1.2.1 + 1)) + 1)) (IntKind.wrap .i64 ((IntKind.wrap .i64 ((IntKind.wrap .i64 (x1.2.1 + 1)) + 1)) + 1)) (IntKind.wrap .i64 ((IntKind.wrap .i64 ((IntKind.wrap .i64 ((IntKind.wrap .i64 (x1.2.1 + 1)) + 1)) + 1)) + 1))), IntKind.wrap .i64 ((IntKind.wrap .i64 ((IntKind.wrap .i64 ((IntKind.wrap .i64 ((IntKind.wrap .i64 (x1.2.1 + 1)) + 1)) + 1)) + 1)) + 1), x1.2.2 + 1) ⟨by (simp only [List.length_append, List.length_cons, List.length_nil, List.length_replicate, put_len] at * <;> omega), by (simp only [List.length_append, List.length_cons, List.length_nil, List.length_replicate, put_len] at * <;> omega), by (exact wr64_le)⟩ (by (simp only [List.length_append, List.length_cons, List.length_nil, List.length_replicate, put_len] at * <;> omega)) (sub_of [] ⟨os_len rfl (by first | (simp only [put_len]; done) | (first | omega | assumption | (simp only [List.length_append, List.length_cons, List.length_nil, List.length_replicate, put_len] at * <;> omega) | ((exact wr64_le); done))), rfl, rfl, trivial⟩ ⟨rfl, trivial⟩ rfl)
    · try simp only [Bool.and_eq_true, Bool.or_eq_true, Bool.not_eq_true', Bool.and_eq_false_iff, Bool.or_eq_false_iff, Bool.not_eq_false', decide_eq_true_eq, decide_eq_false_iff_not, beq_iff_eq, bne_iff_ne, beq_eq_false_iff_ne, bne_eq_false_iff_eq, Bool.true_and, ne_eq, Decidable.not_not, Int.not_lt, Int.not_le, Nat.not_lt, Nat.not_le, strB_nil, strB_nil', strB_nnil, strB_nnil'] at h4
      refine run_exit rfl ?_
      exact run_cont hk2 (x1.1, x1.2.1, x1.2.2) ⟨by omega, by omega, by omega, by omega⟩ (sub_of [] ⟨rfl, trivial⟩ ⟨rfl, trivial⟩ rfl)

/-! ### laws_markStringS -/
theorem c_laws_markStringS (a : List (List UInt8)) (k_ : Int) (hp1 : k_ ≤ 9223372036854775807) : Con Try.prog 14 [.os 0 a.length, .int .i64 k_] [(0, some (.row 9 1 (a.map V.str)))] (.int .i64 (m_laws_markStringS a k_).1) ([(0, some (.row 9 1 ((m_laws_markStringS a k_).2.map V.str)))]) := by
  refine con_intro (out := fun r : Int × (List (List UInt8)) => ((.int .i64 r.1 : V), ([(0, some (.row 9 1 (r.2.map V.str)))] : List (Nat × Option O)))) (r := (m_laws_markStringS a k_)) Try.func14 rfl Try.ntmps14 rfl ?_
  refine run_factH (l := 0) rfl fun hl => ?_
  have l1 := hl; clear hl; simp only [List.length_map] at l1
  refine run_seq ?_
  refine run_region (q_assign .n (.c rfl) rfl <|
      Lex.nil) ?_
  refine run_seq ?_
  refine run_seq ?_
  refine run_region (q_assign .n (.c rfl) rfl <|
      Lex.nil) ?_
  refine run_block ?_
  refine run_LOOP (m_laws_markStringS_b1 a k_) _ _ _ rfl (fun (x1 : (List (List UInt8)) × Int × Int) => 0 ≤ x1.2.2 ∧ x1.1.length = a.length ∧ x1.2.1 ≤ 9223372036854775807) (fun x1 => 0 ≤ x1.2.2 ∧ x1.1.length = a.length ∧ x1.2.1 ≤ 9223372036854775807 ∧ (x1.1.length : Int) ≤ x1.2.2) (fun x1 => ((x1.1.length : Int) - x1.2.2 : Int).toNat) (fun x1 => ⟨[(0, some (true, .os 0 x1.1.length)), (1, some (true, .int .i64 x1.2.1)), (5, some (true, .int .i64 x1.2.2))], [(0, some (.row 9 1 (x1.1.map V.str)))]⟩) (fun x1 => ⟨[(1, some (true, .int .i64 x1.2.1))], [(0, some (.row 9 1 (x1.1.map V.str)))]⟩) ⟨by (simp only [List.length_append, List.length_cons, List.length_nil, List.length_replicate, put_len] at * <;> omega), by (simp only [List.length_append, List.length_cons, List.length_nil, List.length_replicate, put_len] at * <;> omega), by omega⟩ (by (simp only [List.length_append, List.length_cons, List.length_nil, List.length_replicate, put_len] at * <;> omega)) (sub_of [] ⟨rfl, rfl, rfl, trivial⟩ ⟨rfl, trivial⟩ rfl) ?_ ?_
  · intro x1 i5
    obtain ⟨e6, e7, e8, e9⟩ := i5
    try dsimp only at *
    refine run_seq ?_
    refine run_region (q_move .n (.t rfl) rfl <|
        q_assign .n (.t rfl) rfl <|
        Lex.nil) ?_
    exact run_ret [] (.cons (.t rfl rfl) .nil) rfl ⟨rfl, trivial⟩ rfl
  · intro rec1 k1 hk2 x1 i3
    obtain ⟨e10, e11, e12⟩ := i3
    try dsimp only at *
    refine run_seq ?_
    refine run_seq ?_
    refine run_region (q_move .n (.t rfl) rfl <|
        q_move .n (.t rfl) rfl <|
        q_len .n (.t rfl) rfl rfl ss_24 rfl <|
        q_int .n (.t rfl) (.t rfl) rfl rfl <|
        Lex.nil) ?_
    refine run_cond (.t rfl) rfl (fun h4 => ?_) (fun h4 => ?_)
    · try simp only [Bool.and_eq_true, Bool.or_eq_true, Bool.not_eq_true', Bool.and_eq_false_iff, Bool.or_eq_false_iff, Bool.not_eq_false', decide_eq_true_eq, decide_eq_false_iff_not, beq_iff_eq, bne_iff_ne, beq_eq_false_iff_ne, bne_eq_false_iff_eq, Bool.true_and, ne_eq, Decidable.not_not, Int.not_lt, Int.not_le, Nat.not_lt, Nat.not_le, strB_nil, strB_nil', strB_nnil, strB_nnil'] at h4
      refine run_skip ?_
      refine run_seq ?_
      refine run_block ?_
      refine run_seq ?_
      refine run_region (q_move .n (.t rfl) rfl <|
          q_move .n (.t rfl) rfl <|
          q_move .n (.t rfl) rfl <|
          q_call0 (full := false) .n .f en_57 (.cons (.t rfl) .nil) (.cons (.b (.a (.same rfl))) .nil) (fun hg => c_laws_markText x1.2.1 (by omega)) rfl (fun h => Bool.noConfusion h) rfl <|
          q_idx_ow .n (.t rfl) (.t rfl) sl_24 (fun _ => by omega) rfl <|
          q_st_rowm (m_laws_markText x1.2.1) .n rfl (.t rfl) (.t rfl) rfl ts_9 (by omega) rfl rfl <|
          Lex.nil) ?_
      refine run_region (q_move .n (.t rfl) rfl <|
          q_int .n (.t rfl) (.c rfl) rfl rfl <|
          q_assign .n (.t rfl) rfl <|
          Lex.nil) ?_
      refine run_endB ?_
      refine run_region (q_move .n (.t rfl) rfl <|
          q_add .n (.t rfl) (.c rfl) (fun _ => by omega) rfl <|
          q_assign .n (.t rfl) rfl <|
          Lex.nil) ?_
      exact run_again (put' x1.1 x1.2.2 (m_laws_markText x1.2.1), IntKind.wrap .i64 (x1.2.1 + 1), x1.2.2 + 1) ⟨by (simp only [List.length_append, List.length_cons, List.length_nil, List.length_replicate, put_len] at * <;> omega), by (simp only [List.length_append, List.length_cons, List.length_nil, List.length_replicate, put_len] at * <;> omega), by (exact wr64_le)⟩ (by (simp only [List.length_append, List.length_cons, List.length_nil, List.length_replicate, put_len] at * <;> omega)) (sub_of [] ⟨os_len rfl (by first | (simp only [put_len]; done) | (first | omega | assumption | (simp only [List.length_append, List.length_cons, List.length_nil, List.length_replicate, put_len] at * <;> omega) | ((exact wr64_le); done))), rfl, rfl, trivial⟩ ⟨rfl, trivial⟩ rfl)
    · try simp only [Bool.and_eq_true, Bool.or_eq_true, Bool.not_eq_true', Bool.and_eq_false_iff, Bool.or_eq_false_iff, Bool.not_eq_false', decide_eq_true_eq, decide_eq_false_iff_not, beq_iff_eq, bne_iff_ne, beq_eq_false_iff_ne, bne_eq_false_iff_eq, Bool.true_and, ne_eq, Decidable.not_not, Int.not_lt, Int.not_le, Nat.not_lt, Nat.not_le, strB_nil, strB_nil', strB_nnil, strB_nnil'] at h4
      refine run_exit rfl ?_
      exact run_cont hk2 (x1.1, x1.2.1, x1.2.2) ⟨by omega, by omega, by omega, by omega⟩ (sub_of [] ⟨rfl, trivial⟩ ⟨rfl, trivial⟩ rfl)

/-! ### laws_heldStringS -/
theorem c_laws_heldStringS (a : List (List UInt8)) (k_ : Int) (hp1 : k_ ≤ 9223372036854775807) : Con Try.prog 15 [.sl 1 (a.map V.str), .int .i64 k_] [] (.int .i64 (m_laws_heldStringS a k_)) ([]) := by
  refine con_intro (out := fun r : Int => ((.int .i64 r : V), ([] : List (Nat × Option O)))) (r := (m_laws_heldStringS a k_)) Try.func15 rfl Try.ntmps15 rfl ?_
  refine run_fact (t := 0) rfl fun hl => ?_
  have l1 := hl; clear hl; simp only [List.length_map] at l1
  refine run_seq ?_
  refine run_region (q_assign .n (.c rfl) rfl <|
      Lex.nil) ?_
  refine run_seq ?_
  refine run_seq ?_
  refine run_region (q_assign .n (.c rfl) rfl <|
      Lex.nil) ?_
  refine run_block ?_
  refine run_LOOP (m_laws_heldStringS_b1 a k_) _ _ _ rfl (fun (x1 : Int × Int) => 0 ≤ x1.2 ∧ x1.2 ≤ (a.length : Int) ∧ x1.1 ≤ 9223372036854775807) (fun x1 => 0 ≤ x1.2 ∧ x1.2 ≤ (a.length : Int) ∧ x1.1 ≤ 9223372036854775807 ∧ (a.length : Int) ≤ x1.2) (fun x1 => ((a.length : Int) - x1.2 : Int).toNat) (fun x1 => ⟨[(0, some (true, .sl 1 (a.map V.str))), (1, some (true, .int .i64 x1.1)), (5, some (true, .int .i64 x1.2))], []⟩) (fun x1 => ⟨[(1, some (true, .int .i64 x1.1))], []⟩) ⟨by omega, by omega, by omega⟩ (by omega) (sub_of [] ⟨rfl, rfl, rfl, trivial⟩ trivial rfl) ?_ ?_
  · intro x1 i6
    obtain ⟨e7, e8, e9, e10⟩ := i6
    try dsimp only at *
    refine run_seq ?_
    refine run_region (q_move .n (.t rfl) rfl <|
        q_assign .n (.t rfl) rfl <|
        Lex.nil) ?_
    exact run_ret [] (.cons (.t rfl rfl) .nil) rfl trivial rfl
  · intro rec1 k1 hk2 x1 i3
    obtain ⟨e11, e12, e13⟩ := i3
    try dsimp only at *
    refine run_seq ?_
    refine run_seq ?_
    refine run_region (q_move .n (.t rfl) rfl <|
        q_move .n (.t rfl) rfl <|
        q_len .n (.t rfl) rfl len_map ss_24 rfl <|
        q_int .n (.t rfl) (.t rfl) rfl rfl <|
        Lex.nil) ?_
    refine run_cond (.t rfl) rfl (fun h4 => ?_) (fun h4 => ?_)
    · try simp only [Bool.and_eq_true, Bool.or_eq_true, Bool.not_eq_true', Bool.and_eq_false_iff, Bool.or_eq_false_iff, Bool.not_eq_false', decide_eq_true_eq, decide_eq_false_iff_not, beq_iff_eq, bne_iff_ne, beq_eq_false_iff_ne, bne_eq_false_iff_eq, Bool.true_and, ne_eq, Decidable.not_not, Int.not_lt, Int.not_le, Nat.not_lt, Nat.not_le, strB_nil, strB_nil', strB_nnil, strB_nnil'] at h4
      refine run_skip ?_
      refine run_seq ?_
      refine run_block ?_
      refine run_seq ?_
      refine run_seq ?_
      refine run_draw fmo (q_move .n (.t rfl) rfl <|
          q_move .n (.t rfl) rfl <|
          q_idx_rm .n (.t rfl) (.t rfl) sl_24 (fun _ => by omega) rfl <|
          q_ld1_ro .n (.t rfl) rfl ic_9 rfl <|
          q_move .n (.t rfl) rfl <|
          q_call0 (full := false) .n .f en_57 (.cons (.t rfl) .nil) (.cons (.b (.a (.same rfl))) .nil) (fun hg => c_laws_markText x1.1 (by omega)) rfl (fun h => Bool.noConfusion h) rfl <|
          q_strcmp .n (.t rfl) (.t rfl) rfl rfl <|
          Lex.nil) (by kernel_rfl) ?_
      refine run_cond (.t rfl) rfl (fun h5 => ?_) (fun h5 => ?_)
      · try simp only [Bool.and_eq_true, Bool.or_eq_true, Bool.not_eq_true', Bool.and_eq_false_iff, Bool.or_eq_false_iff, Bool.not_eq_false', decide_eq_true_eq, decide_eq_false_iff_not, beq_iff_eq, bne_iff_ne, beq_eq_false_iff_ne, bne_eq_false_iff_eq, Bool.true_and, ne_eq, Decidable.not_not, Int.not_lt, Int.not_le, Nat.not_lt, Nat.not_le, strB_nil, strB_nil', strB_nnil, strB_nnil'] at h5
        refine run_seq ?_
        refine run_region (q_assign .n (.c rfl) rfl <|
            Lex.nil) ?_
        exact run_ret [] (.cons (.t rfl rfl) .nil) rfl trivial rfl
      · try simp only [Bool.and_eq_true, Bool.or_eq_true, Bool.not_eq_true', Bool.and_eq_false_iff, Bool.or_eq_false_iff, Bool.not_eq_false', decide_eq_true_eq, decide_eq_false_iff_not, beq_iff_eq, bne_iff_ne, beq_eq_false_iff_ne, bne_eq_false_iff_eq, Bool.true_and, ne_eq, Decidable.not_not, Int.not_lt, Int.not_le, Nat.not_lt, Nat.not_le, strB_nil, strB_nil', strB_nnil, strB_nnil'] at h5
        refine run_skip ?_
        refine run_region (q_move .n (.t rfl) rfl <|
            q_int .n (.t rfl) (.c rfl) rfl rfl <|
            q_assign .n (.t rfl) rfl <|
            Lex.nil) ?_
        refine run_endB ?_
        refine run_region (q_move .n (.t rfl) rfl <|
            q_add .n (.t rfl) (.c rfl) (fun _ => by omega) rfl <|
            q_assign .n (.t rfl) rfl <|
            Lex.nil) ?_
        exact run_again (IntKind.wrap .i64 (x1.1 + 1), x1.2 + 1) ⟨by omega, by omega, by (exact wr64_le)⟩ (by omega) (sub_of [] ⟨rfl, rfl, rfl, trivial⟩ trivial rfl)
    · try simp only [Bool.and_eq_true, Bool.or_eq_true, Bool.not_eq_true', Bool.and_eq_false_iff, Bool.or_eq_false_iff, Bool.not_eq_false', decide_eq_true_eq, decide_eq_false_iff_not, beq_iff_eq, bne_iff_ne, beq_eq_false_iff_ne, bne_eq_false_iff_eq, Bool.true_and, ne_eq, Decidable.not_not, Int.not_lt, Int.not_le, Nat.not_lt, Nat.not_le, strB_nil, strB_nil', strB_nnil, strB_nnil'] at h4
      refine run_exit rfl ?_
      exact run_cont hk2 (x1.1, x1.2) ⟨by omega, by omega, by omega, by omega⟩ (sub_of [] ⟨rfl, trivial⟩ trivial rfl)

/-! ### laws_FnExactRankCrews -/
theorem c_laws_FnExactRankCrews (aList : List gDrill) (hp1 : aList.length ≤ 9223372036854775807 ∧ ∀ y ∈ aList, gDrill.ok y) : Con Try.prog 3 [.sl 5 (aList.map gDrill.v)] [] (.bool (m_laws_FnExactRankCrews aList)) ([]) := by
  refine con_intro (out := fun r : Bool => ((.bool r : V), ([] : List (Nat × Option O)))) (r := (m_laws_FnExactRankCrews aList)) Try.func3 rfl Try.ntmps3 rfl ?_
  refine run_fact (t := 0) rfl fun hl => ?_
  have l1 := hl; clear hl; simp only [List.length_map] at l1
  refine run_seq ?_
  refine run_region (q_assign .n (.c rfl) rfl <|
      Lex.nil) ?_
  refine run_seq ?_
  refine run_region (q_assign .n (.c rfl) rfl <|
      Lex.nil) ?_
  refine run_seq ?_
  refine run_region (q_move .n (.t rfl) rfl <|
      q_move .n (.t rfl) rfl <|
      q_call0 (full := false) .n .f en_7 (.cons (.t rfl) (.cons (.t rfl) .nil)) (.cons (.b (.a (.same rfl))) (.cons (.b (.a (.same rfl))) .nil)) (fun hg => c_laws_szDrillS aList 1048576) rfl (fun h => Bool.noConfusion h) rfl <|
      q_assign .n (.t rfl) rfl <|
      Lex.nil) ?_
  refine run_seq ?_
  refine run_seq ?_
  refine run_region (q_move .n (.t rfl) rfl <|
      q_int .n (.t rfl) (.c rfl) rfl rfl <|
      Lex.nil) ?_
  refine run_cond (.t rfl) rfl (fun h2 => ?_) (fun h2 => ?_)
  · try simp only [Bool.and_eq_true, Bool.or_eq_true, Bool.not_eq_true', Bool.and_eq_false_iff, Bool.or_eq_false_iff, Bool.not_eq_false', decide_eq_true_eq, decide_eq_false_iff_not, beq_iff_eq, bne_iff_ne, beq_eq_false_iff_ne, bne_eq_false_iff_eq, Bool.true_and, ne_eq, Decidable.not_not, Int.not_lt, Int.not_le, Nat.not_lt, Nat.not_le, strB_nil, strB_nil', strB_nnil, strB_nnil'] at h2
    try have hf0h2 := szDrillS_impA (by assumption) (by omega) (by omega) h2
    try have hf1h2 := szDrillS_impA (by assumption) (by omega) (by omega) h2.1
    try have hf2h2 := szDrillS_impA (by assumption) (by omega) (by omega) h2.2
    try have hf3h2 := szDrillS_impA (by assumption) (by omega) (by omega) h2.1.1
    try have hf4h2 := szDrillS_impA (by assumption) (by omega) (by omega) h2.1.2
    try have hf5h2 := szDrillS_impA (by assumption) (by omega) (by omega) h2.2.1
    try have hf6h2 := szDrillS_impA (by assumption) (by omega) (by omega) h2.2.2
    try have hf7h2 := szDrillS_impB (by assumption) (by omega) (by omega) h2
    try have hf8h2 := szDrillS_impB (by assumption) (by omega) (by omega) h2.1
    try have hf9h2 := szDrillS_impB (by assumption) (by omega) (by omega) h2.2
    try have hf10h2 := szDrillS_impB (by assumption) (by omega) (by omega) h2.1.1
    try have hf11h2 := szDrillS_impB (by assumption) (by omega) (by omega) h2.1.2
    try have hf12h2 := szDrillS_impB (by assumption) (by omega) (by omega) h2.2.1
    try have hf13h2 := szDrillS_impB (by assumption) (by omega) (by omega) h2.2.2
    refine run_seq ?_
    refine run_region (q_assign .n (.c rfl) rfl <|
        Lex.nil) ?_
    exact run_ret [] (.cons (.t rfl rfl) .nil) rfl trivial rfl
  · try simp only [Bool.and_eq_true, Bool.or_eq_true, Bool.not_eq_true', Bool.and_eq_false_iff, Bool.or_eq_false_iff, Bool.not_eq_false', decide_eq_true_eq, decide_eq_false_iff_not, beq_iff_eq, bne_iff_ne, beq_eq_false_iff_ne, bne_eq_false_iff_eq, Bool.true_and, ne_eq, Decidable.not_not, Int.not_lt, Int.not_le, Nat.not_lt, Nat.not_le, strB_nil, strB_nil', strB_nnil, strB_nnil'] at h2
    try have hf0h2 := szDrillS_impA (by assumption) (by omega) (by omega) h2
    try have hf1h2 := szDrillS_impA (by assumption) (by omega) (by omega) h2.1
    try have hf2h2 := szDrillS_impA (by assumption) (by omega) (by omega) h2.2
    try have hf3h2 := szDrillS_impA (by assumption) (by omega) (by omega) h2.1.1
    try have hf4h2 := szDrillS_impA (by assumption) (by omega) (by omega) h2.1.2
    try have hf5h2 := szDrillS_impA (by assumption) (by omega) (by omega) h2.2.1
    try have hf6h2 := szDrillS_impA (by assumption) (by omega) (by omega) h2.2.2
    try have hf7h2 := szDrillS_impB (by assumption) (by omega) (by omega) h2
    try have hf8h2 := szDrillS_impB (by assumption) (by omega) (by omega) h2.1
    try have hf9h2 := szDrillS_impB (by assumption) (by omega) (by omega) h2.2
    try have hf10h2 := szDrillS_impB (by assumption) (by omega) (by omega) h2.1.1
    try have hf11h2 := szDrillS_impB (by assumption) (by omega) (by omega) h2.1.2
    try have hf12h2 := szDrillS_impB (by assumption) (by omega) (by omega) h2.2.1
    try have hf13h2 := szDrillS_impB (by assumption) (by omega) (by omega) h2.2.2
    refine run_skip ?_
    refine run_seq ?_
    refine run_region (q_move .n (.t rfl) rfl <|
        q_callM (full := false) [] [(100, 200)] .n rfl .f en_9 (.cons (.t rfl) .nil) (.cons (.b (.a (.same rfl))) .nil) (c_laws_toDrillS aList (by omega)) trivial rfl rfl (fun h => Bool.noConfusion h) (fun h => Bool.noConfusion h) rfl <|
        q_callM (full := true) [] [(100, 201)] .n rfl .f en_8 (.cons (.t rfl) .nil) (.cons (.b (.a (.own rfl rfl rfl (take_all (by simp only [len_map, put_len, markDrillS_len, markStringS_len] <;> rfl)) (by simp only [len_map, put_len, markDrillS_len, markStringS_len] <;> rfl)))) .nil) (c_spec_RankCrews (m_laws_toDrillS aList)) trivial rfl rfl (fun _ => rfl) (fun _ => (hr_row (fun _ => rfl) hr_nil)) rfl <|
        q_move .n (.t rfl) rfl <|
        q_ext .n (.t rfl) rfl rfl rfl <|
        q_ext .n (.t rfl) rfl rfl rfl <|
        q_assign .n (.t rfl) rfl <|
        q_assign .n (.t rfl) rfl <|
        Lex.nil) ?_
    refine run_seq ?_
    refine run_region (q_move .n (.t rfl) rfl <|
        q_callM (full := false) [] [(100, 202)] .n rfl .f en_9 (.cons (.t rfl) .nil) (.cons (.b (.a (.same rfl))) .nil) (c_laws_toDrillS aList (by omega)) trivial rfl rfl (fun h => Bool.noConfusion h) (fun h => Bool.noConfusion h) rfl <|
        q_assign .n (.t rfl) rfl <|
        Lex.nil) ?_
    refine run_seq ?_
    refine run_region (q_move .n (.t rfl) rfl <|
        q_callM (full := true) [] [(100, 203)] .n rfl .f en_10 (.cons (.t rfl) .nil) (.cons (.b (.a (.own rfl rfl rfl (take_all (by simp only [len_map, put_len, markDrillS_len, markStringS_len] <;> rfl)) (by simp only [len_map, put_len, markDrillS_len, markStringS_len] <;> rfl)))) .nil) (c_impl_RankCrews (m_laws_toDrillS aList)) trivial rfl rfl (fun _ => rfl) (fun _ => (hr_row (fun _ => rfl) hr_nil)) rfl <|
        q_move .n (.t rfl) rfl <|
        q_ext .n (.t rfl) rfl rfl rfl <|
        q_ext .n (.t rfl) rfl rfl rfl <|
        q_assign .n (.t rfl) rfl <|
        q_assign .n (.t rfl) rfl <|
        Lex.nil) ?_
    refine run_seq ?_
    refine run_seq ?_
    refine run_region (q_move .n (.t rfl) rfl <|
        q_move .n (.t rfl) rfl <|
        q_call0 (full := true) .n .f en_11 (.cons (.t rfl) (.cons (.t rfl) .nil)) (.cons (.b (.a (.own rfl rfl rfl (take_all (by simp only [len_map, put_len, markDrillS_len, markStringS_len] <;> rfl)) (by simp only [len_map, put_len, markDrillS_len, markStringS_len] <;> rfl)))) (.cons (.b (.a (.own rfl rfl rfl (take_all (by simp only [len_map, put_len, markDrillS_len, markStringS_len] <;> rfl)) (by simp only [len_map, put_len, markDrillS_len, markStringS_len] <;> rfl)))) .nil)) (fun hg => c_laws_eqStringS (m_impl_RankCrews (m_laws_toDrillS aList)).1 (m_spec_RankCrews (m_laws_toDrillS aList)).1) rfl (fun _ => rfl) rfl <|
        q_not .n (.t rfl) rfl <|
        q_move .n (.t rfl) rfl <|
        q_move (.f rfl rfl) (.t rfl) rfl <|
        q_move (.f rfl rfl) (.t rfl) rfl <|
        q_int (.f rfl rfl) (.u rfl id) (.u rfl id) rfl rfl <|
        q_or .n (.t rfl) (.u rfl id) rfl <|
        Lex.nil) ?_
    refine run_cond (.t rfl) rfl (fun h3 => ?_) (fun h3 => ?_)
    · try simp only [Bool.and_eq_true, Bool.or_eq_true, Bool.not_eq_true', Bool.and_eq_false_iff, Bool.or_eq_false_iff, Bool.not_eq_false', decide_eq_true_eq, decide_eq_false_iff_not, beq_iff_eq, bne_iff_ne, beq_eq_false_iff_ne, bne_eq_false_iff_eq, Bool.true_and, ne_eq, Decidable.not_not, Int.not_lt, Int.not_le, Nat.not_lt, Nat.not_le, strB_nil, strB_nil', strB_nnil, strB_nnil'] at h3
      refine run_seq ?_
      refine run_region (q_assign .n (.c rfl) rfl <|
          Lex.nil) ?_
      exact run_ret [] (.cons (.t rfl rfl) .nil) rfl trivial rfl
    · try simp only [Bool.and_eq_true, Bool.or_eq_true, Bool.not_eq_true', Bool.and_eq_false_iff, Bool.or_eq_false_iff, Bool.not_eq_false', decide_eq_true_eq, decide_eq_false_iff_not, beq_iff_eq, bne_iff_ne, beq_eq_false_iff_ne, bne_eq_false_iff_eq, Bool.true_and, ne_eq, Decidable.not_not, Int.not_lt, Int.not_le, Nat.not_lt, Nat.not_le, strB_nil, strB_nil', strB_nnil, strB_nnil'] at h3
      refine run_skip ?_
      refine run_seq ?_
      refine run_seq ?_
      refine run_region (q_move .n (.t rfl) rfl <|
          q_move .n (.t rfl) rfl <|
          q_callM (full := false) [] [(100, 204)] .n rfl .f en_9 (.cons (.t rfl) .nil) (.cons (.b (.a (.same rfl))) .nil) (c_laws_toDrillS aList (by omega)) trivial rfl rfl (fun h => Bool.noConfusion h) (fun h => Bool.noConfusion h) rfl <|
          q_call0 (full := true) .n .f en_12 (.cons (.t rfl) (.cons (.t rfl) .nil)) (.cons (.b (.a (.own rfl rfl rfl (take_all (by simp only [len_map, put_len, markDrillS_len, markStringS_len] <;> rfl)) (by simp only [len_map, put_len, markDrillS_len, markStringS_len] <;> rfl)))) (.cons (.b (.a (.own rfl rfl rfl (take_all (by simp only [len_map, put_len, markDrillS_len, markStringS_len] <;> rfl)) (by simp only [len_map, put_len, markDrillS_len, markStringS_len] <;> rfl)))) .nil)) (fun hg => c_laws_eqDrillS (m_laws_toDrillS aList) (m_laws_toDrillS aList)) rfl (fun _ => rfl) rfl <|
          q_not .n (.t rfl) rfl <|
          Lex.nil) ?_
      refine run_cond (.t rfl) rfl (fun h4 => ?_) (fun h4 => ?_)
      · try simp only [Bool.and_eq_true, Bool.or_eq_true, Bool.not_eq_true', Bool.and_eq_false_iff, Bool.or_eq_false_iff, Bool.not_eq_false', decide_eq_true_eq, decide_eq_false_iff_not, beq_iff_eq, bne_iff_ne, beq_eq_false_iff_ne, bne_eq_false_iff_eq, Bool.true_and, ne_eq, Decidable.not_not, Int.not_lt, Int.not_le, Nat.not_lt, Nat.not_le, strB_nil, strB_nil', strB_nnil, strB_nnil'] at h4
        refine run_seq ?_
        refine run_region (q_assign .n (.c rfl) rfl <|
            Lex.nil) ?_
        exact run_ret [] (.cons (.t rfl rfl) .nil) rfl trivial rfl
      · try simp only [Bool.and_eq_true, Bool.or_eq_true, Bool.not_eq_true', Bool.and_eq_false_iff, Bool.or_eq_false_iff, Bool.not_eq_false', decide_eq_true_eq, decide_eq_false_iff_not, beq_iff_eq, bne_iff_ne, beq_eq_false_iff_ne, bne_eq_false_iff_eq, Bool.true_and, ne_eq, Decidable.not_not, Int.not_lt, Int.not_le, Nat.not_lt, Nat.not_le, strB_nil, strB_nil', strB_nnil, strB_nnil'] at h4
        refine run_skip ?_
        refine run_seq ?_
        refine run_region (q_assign .n (.c rfl) rfl <|
            Lex.nil) ?_
        refine run_seq ?_
        refine run_region (q_move .n (.t rfl) rfl <|
            q_move .n (.t rfl) rfl <|
            q_callM (full := false) [(0, 202)] [] .n rfl .f en_13 (.cons (.t rfl) (.cons (.t rfl) .nil)) (.cons (.b (.muts rfl)) (.cons (.b (.a (.same rfl))) .nil)) (c_laws_markDrillS (m_laws_toDrillS aList) 1 (by omega)) ⟨rfl, trivial⟩ rfl rfl (fun h => Bool.noConfusion h) (fun h => Bool.noConfusion h) rfl <|
            q_assign .n (.t rfl) rfl <|
            Lex.nil) ?_
        refine run_seq ?_
        refine run_seq ?_
        refine run_region (q_move .n (.t rfl) rfl <|
            q_int .n (.t rfl) (.c rfl) rfl rfl <|
            q_move .n (.t rfl) rfl <|
            q_move (.f rfl rfl) (.t rfl) rfl <|
            q_move (.f rfl rfl) (.t rfl) rfl <|
            q_call0 (full := true) (.f rfl rfl) .f en_11 (.cons (.u rfl id) (.cons (.u rfl id) .nil)) (.cons (.b (.a (.own rfl rfl rfl (take_all (by simp only [len_map, put_len, markDrillS_len, markStringS_len] <;> rfl)) (by simp only [len_map, put_len, markDrillS_len, markStringS_len] <;> rfl)))) (.cons (.b (.a (.own rfl rfl rfl (take_all (by simp only [len_map, put_len, markDrillS_len, markStringS_len] <;> rfl)) (by simp only [len_map, put_len, markDrillS_len, markStringS_len] <;> rfl)))) .nil)) (fun hg => c_laws_eqStringS (m_impl_RankCrews (m_laws_toDrillS aList)).1 (m_spec_RankCrews (m_laws_toDrillS aList)).1) rfl (fun _ => rfl) rfl <|
            q_not (.f rfl rfl) (.u rfl id) rfl <|
            q_or .n (.t rfl) (.u rfl id) rfl <|
            q_move .n (.t rfl) rfl <|
            q_move (.f rfl rfl) (.t rfl) rfl <|
            q_move (.f rfl rfl) (.t rfl) rfl <|
            q_int (.f rfl rfl) (.u rfl id) (.u rfl id) rfl rfl <|
            q_or .n (.t rfl) (.u rfl id) rfl <|
            Lex.nil) ?_
        refine run_cond (.t rfl) rfl (fun h5 => ?_) (fun h5 => ?_)
        · try simp only [Bool.and_eq_true, Bool.or_eq_true, Bool.not_eq_true', Bool.and_eq_false_iff, Bool.or_eq_false_iff, Bool.not_eq_false', decide_eq_true_eq, decide_eq_false_iff_not, beq_iff_eq, bne_iff_ne, beq_eq_false_iff_ne, bne_eq_false_iff_eq, Bool.true_and, ne_eq, Decidable.not_not, Int.not_lt, Int.not_le, Nat.not_lt, Nat.not_le, strB_nil, strB_nil', strB_nnil, strB_nnil'] at h5
          refine run_seq ?_
          refine run_region (q_assign .n (.c rfl) rfl <|
              Lex.nil) ?_
          exact run_ret [] (.cons (.t rfl rfl) .nil) rfl trivial rfl
        · try simp only [Bool.and_eq_true, Bool.or_eq_true, Bool.not_eq_true', Bool.and_eq_false_iff, Bool.or_eq_false_iff, Bool.not_eq_false', decide_eq_true_eq, decide_eq_false_iff_not, beq_iff_eq, bne_iff_ne, beq_eq_false_iff_ne, bne_eq_false_iff_eq, Bool.true_and, ne_eq, Decidable.not_not, Int.not_lt, Int.not_le, Nat.not_lt, Nat.not_le, strB_nil, strB_nil', strB_nnil, strB_nnil'] at h5
          refine run_skip ?_
          refine run_seq ?_
          refine run_region (q_assign .n (.c rfl) rfl <|
              Lex.nil) ?_
          refine run_seq ?_
          refine run_region (q_move .n (.t rfl) rfl <|
              q_move .n (.t rfl) rfl <|
              q_callM (full := false) [(0, 203)] [] .n rfl .f en_14 (.cons (.t rfl) (.cons (.t rfl) .nil)) (.cons (.b (.muts rfl)) (.cons (.b (.a (.same rfl))) .nil)) (c_laws_markStringS (m_impl_RankCrews (m_laws_toDrillS aList)).1 1 (by omega)) ⟨rfl, trivial⟩ rfl rfl (fun h => Bool.noConfusion h) (fun h => Bool.noConfusion h) rfl <|
              q_assign .n (.t rfl) rfl <|
              Lex.nil) ?_
          refine run_seq ?_
          refine run_region (q_assign .n (.c rfl) rfl <|
              Lex.nil) ?_
          refine run_seq ?_
          refine run_region (q_move .n (.t rfl) rfl <|
              q_move .n (.t rfl) rfl <|
              q_call0 (full := true) .n .f en_15 (.cons (.t rfl) (.cons (.t rfl) .nil)) (.cons (.b (.a (.own rfl rfl rfl (take_all (by simp only [len_map, put_len, markDrillS_len, markStringS_len] <;> rfl)) (by simp only [len_map, put_len, markDrillS_len, markStringS_len] <;> rfl)))) (.cons (.b (.a (.same rfl))) .nil)) (fun hg => c_laws_heldStringS (m_laws_markStringS (m_impl_RankCrews (m_laws_toDrillS aList)).1 1).2 1 (by omega)) rfl (fun _ => rfl) rfl <|
              q_assign .n (.t rfl) rfl <|
              Lex.nil) ?_
          refine run_seq ?_
          refine run_seq ?_
          refine run_region (q_move .n (.t rfl) rfl <|
              q_int .n (.t rfl) (.c rfl) rfl rfl <|
              Lex.nil) ?_
          refine run_cond (.t rfl) rfl (fun h6 => ?_) (fun h6 => ?_)
          · try simp only [Bool.and_eq_true, Bool.or_eq_true, Bool.not_eq_true', Bool.and_eq_false_iff, Bool.or_eq_false_iff, Bool.not_eq_false', decide_eq_true_eq, decide_eq_false_iff_not, beq_iff_eq, bne_iff_ne, beq_eq_false_iff_ne, bne_eq_false_iff_eq, Bool.true_and, ne_eq, Decidable.not_not, Int.not_lt, Int.not_le, Nat.not_lt, Nat.not_le, strB_nil, strB_nil', strB_nnil, strB_nnil'] at h6
            refine run_seq ?_
            refine run_region (q_assign .n (.c rfl) rfl <|
                Lex.nil) ?_
            exact run_ret [] (.cons (.t rfl rfl) .nil) rfl trivial rfl
          · try simp only [Bool.and_eq_true, Bool.or_eq_true, Bool.not_eq_true', Bool.and_eq_false_iff, Bool.or_eq_false_iff, Bool.not_eq_false', decide_eq_true_eq, decide_eq_false_iff_not, beq_iff_eq, bne_iff_ne, beq_eq_false_iff_ne, bne_eq_false_iff_eq, Bool.true_and, ne_eq, Decidable.not_not, Int.not_lt, Int.not_le, Nat.not_lt, Nat.not_le, strB_nil, strB_nil', strB_nnil, strB_nnil'] at h6
            refine run_skip ?_
            refine run_seq ?_
            refine run_seq ?_
            refine run_region (q_move .n (.t rfl) rfl <|
                q_move .n (.t rfl) rfl <|
                q_int .n (.t rfl) (.t rfl) rfl rfl <|
                Lex.nil) ?_
            refine run_cond (.t rfl) rfl (fun h7 => ?_) (fun h7 => ?_)
            · try simp only [Bool.and_eq_true, Bool.or_eq_true, Bool.not_eq_true', Bool.and_eq_false_iff, Bool.or_eq_false_iff, Bool.not_eq_false', decide_eq_true_eq, decide_eq_false_iff_not, beq_iff_eq, bne_iff_ne, beq_eq_false_iff_ne, bne_eq_false_iff_eq, Bool.true_and, ne_eq, Decidable.not_not, Int.not_lt, Int.not_le, Nat.not_lt, Nat.not_le, strB_nil, strB_nil', strB_nnil, strB_nnil'] at h7
              refine run_seq ?_
              refine run_region (q_assign .n (.c rfl) rfl <|
                  Lex.nil) ?_
              exact run_ret [] (.cons (.t rfl rfl) .nil) rfl trivial rfl
            · try simp only [Bool.and_eq_true, Bool.or_eq_true, Bool.not_eq_true', Bool.and_eq_false_iff, Bool.or_eq_false_iff, Bool.not_eq_false', decide_eq_true_eq, decide_eq_false_iff_not, beq_iff_eq, bne_iff_ne, beq_eq_false_iff_ne, bne_eq_false_iff_eq, Bool.true_and, ne_eq, Decidable.not_not, Int.not_lt, Int.not_le, Nat.not_lt, Nat.not_le, strB_nil, strB_nil', strB_nnil, strB_nnil'] at h7
              refine run_skip ?_
              refine run_seq ?_
              refine run_region (q_move .n (.t rfl) rfl <|
                  q_callM (full := false) [] [(100, 205)] .n rfl .f en_9 (.cons (.t rfl) .nil) (.cons (.b (.a (.same rfl))) .nil) (c_laws_toDrillS aList (by omega)) trivial rfl rfl (fun h => Bool.noConfusion h) (fun h => Bool.noConfusion h) rfl <|
                  q_callM (full := true) [] [(100, 206)] .n rfl .f en_10 (.cons (.t rfl) .nil) (.cons (.b (.a (.own rfl rfl rfl (take_all (by simp only [len_map, put_len, markDrillS_len, markStringS_len] <;> rfl)) (by simp only [len_map, put_len, markDrillS_len, markStringS_len] <;> rfl)))) .nil) (c_impl_RankCrews (m_laws_toDrillS aList)) trivial rfl rfl (fun _ => rfl) (fun _ => (hr_row (fun _ => rfl) hr_nil)) rfl <|
                  q_move .n (.t rfl) rfl <|
                  q_ext .n (.t rfl) rfl rfl rfl <|
                  q_ext .n (.t rfl) rfl rfl rfl <|
                  q_assign .n (.t rfl) rfl <|
                  q_assign .n (.t rfl) rfl <|
                  Lex.nil) ?_
              refine run_seq ?_
              refine run_seq ?_
              refine run_region (q_move .n (.t rfl) rfl <|
                  q_move .n (.t rfl) rfl <|
                  q_call0 (full := true) .n .f en_11 (.cons (.t rfl) (.cons (.t rfl) .nil)) (.cons (.b (.a (.own rfl rfl rfl (take_all (by simp only [len_map, put_len, markDrillS_len, markStringS_len] <;> rfl)) (by simp only [len_map, put_len, markDrillS_len, markStringS_len] <;> rfl)))) (.cons (.b (.a (.own rfl rfl rfl (take_all (by simp only [len_map, put_len, markDrillS_len, markStringS_len] <;> rfl)) (by simp only [len_map, put_len, markDrillS_len, markStringS_len] <;> rfl)))) .nil)) (fun hg => c_laws_eqStringS (m_impl_RankCrews (m_laws_toDrillS aList)).1 (m_spec_RankCrews (m_laws_toDrillS aList)).1) rfl (fun _ => rfl) rfl <|
                  q_not .n (.t rfl) rfl <|
                  q_move .n (.t rfl) rfl <|
                  q_move (.f rfl rfl) (.t rfl) rfl <|
                  q_move (.f rfl rfl) (.t rfl) rfl <|
                  q_int (.f rfl rfl) (.u rfl id) (.u rfl id) rfl rfl <|
                  q_or .n (.t rfl) (.u rfl id) rfl <|
                  Lex.nil) ?_
              refine run_cond (.t rfl) rfl (fun h8 => ?_) (fun h8 => ?_)
              · try simp only [Bool.and_eq_true, Bool.or_eq_true, Bool.not_eq_true', Bool.and_eq_false_iff, Bool.or_eq_false_iff, Bool.not_eq_false', decide_eq_true_eq, decide_eq_false_iff_not, beq_iff_eq, bne_iff_ne, beq_eq_false_iff_ne, bne_eq_false_iff_eq, Bool.true_and, ne_eq, Decidable.not_not, Int.not_lt, Int.not_le, Nat.not_lt, Nat.not_le, strB_nil, strB_nil', strB_nnil, strB_nnil'] at h8
                refine run_seq ?_
                refine run_region (q_assign .n (.c rfl) rfl <|
                    Lex.nil) ?_
                exact run_ret [] (.cons (.t rfl rfl) .nil) rfl trivial rfl
              · try simp only [Bool.and_eq_true, Bool.or_eq_true, Bool.not_eq_true', Bool.and_eq_false_iff, Bool.or_eq_false_iff, Bool.not_eq_false', decide_eq_true_eq, decide_eq_false_iff_not, beq_iff_eq, bne_iff_ne, beq_eq_false_iff_ne, bne_eq_false_iff_eq, Bool.true_and, ne_eq, Decidable.not_not, Int.not_lt, Int.not_le, Nat.not_lt, Nat.not_le, strB_nil, strB_nil', strB_nnil, strB_nnil'] at h8
                refine run_skip ?_
                refine run_seq ?_
                refine run_region (q_assign .n (.c rfl) rfl <|
                    Lex.nil) ?_
                refine run_seq ?_
                refine run_region (q_move .n (.t rfl) rfl <|
                    q_move .n (.t rfl) rfl <|
                    q_call0 (full := true) .n .f en_15 (.cons (.t rfl) (.cons (.t rfl) .nil)) (.cons (.b (.a (.own rfl rfl rfl (take_all (by simp only [len_map, put_len, markDrillS_len, markStringS_len] <;> rfl)) (by simp only [len_map, put_len, markDrillS_len, markStringS_len] <;> rfl)))) (.cons (.b (.a (.same rfl))) .nil)) (fun hg => c_laws_heldStringS (m_laws_markStringS (m_impl_RankCrews (m_laws_toDrillS aList)).1 1).2 1 (by omega)) rfl (fun _ => rfl) rfl <|
                    q_assign .n (.t rfl) rfl <|
                    Lex.nil) ?_
                refine run_seq ?_
                refine run_seq ?_
                refine run_region (q_move .n (.t rfl) rfl <|
                    q_int .n (.t rfl) (.c rfl) rfl rfl <|
                    Lex.nil) ?_
                refine run_cond (.t rfl) rfl (fun h9 => ?_) (fun h9 => ?_)
                · try simp only [Bool.and_eq_true, Bool.or_eq_true, Bool.not_eq_true', Bool.and_eq_false_iff, Bool.or_eq_false_iff, Bool.not_eq_false', decide_eq_true_eq, decide_eq_false_iff_not, beq_iff_eq, bne_iff_ne, beq_eq_false_iff_ne, bne_eq_false_iff_eq, Bool.true_and, ne_eq, Decidable.not_not, Int.not_lt, Int.not_le, Nat.not_lt, Nat.not_le, strB_nil, strB_nil', strB_nnil, strB_nnil'] at h9
                  refine run_seq ?_
                  refine run_region (q_assign .n (.c rfl) rfl <|
                      Lex.nil) ?_
                  exact run_ret [] (.cons (.t rfl rfl) .nil) rfl trivial rfl
                · try simp only [Bool.and_eq_true, Bool.or_eq_true, Bool.not_eq_true', Bool.and_eq_false_iff, Bool.or_eq_false_iff, Bool.not_eq_false', decide_eq_true_eq, decide_eq_false_iff_not, beq_iff_eq, bne_iff_ne, beq_eq_false_iff_ne, bne_eq_false_iff_eq, Bool.true_and, ne_eq, Decidable.not_not, Int.not_lt, Int.not_le, Nat.not_lt, Nat.not_le, strB_nil, strB_nil', strB_nnil, strB_nnil'] at h9
                  refine run_skip ?_
                  refine run_seq ?_
                  refine run_seq ?_
                  refine run_region (q_move .n (.t rfl) rfl <|
                      q_move .n (.t rfl) rfl <|
                      q_int .n (.t rfl) (.t rfl) rfl rfl <|
                      Lex.nil) ?_
                  refine run_cond (.t rfl) rfl (fun h10 => ?_) (fun h10 => ?_)
                  · try simp only [Bool.and_eq_true, Bool.or_eq_true, Bool.not_eq_true', Bool.and_eq_false_iff, Bool.or_eq_false_iff, Bool.not_eq_false', decide_eq_true_eq, decide_eq_false_iff_not, beq_iff_eq, bne_iff_ne, beq_eq_false_iff_ne, bne_eq_false_iff_eq, Bool.true_and, ne_eq, Decidable.not_not, Int.not_lt, Int.not_le, Nat.not_lt, Nat.not_le, strB_nil, strB_nil', strB_nnil, strB_nnil'] at h10
                    refine run_seq ?_
                    refine run_region (q_assign .n (.c rfl) rfl <|
                        Lex.nil) ?_
                    exact run_ret [] (.cons (.t rfl rfl) .nil) rfl trivial rfl
                  · try simp only [Bool.and_eq_true, Bool.or_eq_true, Bool.not_eq_true', Bool.and_eq_false_iff, Bool.or_eq_false_iff, Bool.not_eq_false', decide_eq_true_eq, decide_eq_false_iff_not, beq_iff_eq, bne_iff_ne, beq_eq_false_iff_ne, bne_eq_false_iff_eq, Bool.true_and, ne_eq, Decidable.not_not, Int.not_lt, Int.not_le, Nat.not_lt, Nat.not_le, strB_nil, strB_nil', strB_nnil, strB_nnil'] at h10
                    refine run_skip ?_
                    refine run_seq ?_
                    refine run_region (q_assign .n (.c rfl) rfl <|
                        Lex.nil) ?_
                    exact run_ret [] (.cons (.t rfl rfl) .nil) rfl trivial rfl

end Go.Proofs.Ytbflomopgofkgaa
