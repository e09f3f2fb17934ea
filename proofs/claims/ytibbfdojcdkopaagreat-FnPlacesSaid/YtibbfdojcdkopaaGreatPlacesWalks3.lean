/-
  THE WALKS: each Go function computes its model. Conditions: as each theorem states them (hp1, hp2 ..).
-/
import Derived.Test.YtibbfdojcdkopaaGreatPlacesWalks2
set_option linter.unusedVariables false
set_option linter.unusedSimpArgs false
set_option linter.unusedSectionVars false
set_option linter.unnecessarySimpa false
namespace Go.Proofs.YtibbfdojcdkopaaGreat
open Go Go.RowKit Go.Proofs Go.Proofs.YtibbfdojcdkopaaGreat.E
/-! ### impl_escape_mayBe -/
theorem c_impl_escape_mayBe (e : Co) (junction : Int) (second : Int) (hp1 : 0 ≤ junction ∧ junction < e.arrivals.length) : Con Tryz.prog 66 [.st [.int .i64 e.mine.Junctions, .sl 7 (e.mine.Airways.map Ar.v), .sl 1 (e.arrivals.map (V.int .i64)), .int .i64 e.blocked], .int .i64 junction, .int .i64 second] [] (.bool (B8 e junction second)) ([]) := by
  refine con_intro (out := fun r : Bool => ((.bool r : V), ([] : List (Nat × Option O)))) (r := (B8 e junction second)) Tryz.func66 rfl Tryz.ntmps66 rfl ?_
  refine Ch (t := 0) 1 rfl rfl fun hl => ?_
  have l1 := hl; clear hl; simp only [List.length_map] at l1
  refine Ch (t := 0) 2 rfl rfl fun hl => ?_
  have l2 := hl; clear hl; simp only [List.length_map] at l2
  refine Af ?_
  refine Ad (Du (l := 200) .n rfl (.t rfl) rfl rfl rfl rfl <| Ah .n (.c rfl) rfl <| Lex.nil) ?_
  refine Af ?_
  refine Ad (AE .n (.t rfl) fo_67_1 rfl <| AP .n (.t rfl) rfl (.inr rfl) (fun _ => rfl) rfl ic_27 rfl <| Ag .n (.t rfl) rfl <| A8 .n (.t rfl) (.t rfl) sl_27 (fun _ => by omega) rfl <| Ap .n (.t rfl) rfl ic_2 rfl <| AF .n (.t rfl) (.c rfl) rfl rfl <| Ag .n (.t rfl) rfl <| AE (.f rfl rfl) (.t rfl) fo_67_1 rfl <| AP (.f rfl rfl) (.u rfl id) rfl (.inr rfl) (fun _ => rfl) rfl ic_27 rfl <| Ag (.f rfl rfl) (.t rfl) rfl <| A8 (.f rfl rfl) (.u rfl id) (.u rfl id) sl_27 (fun hg => by simp only [tst] at hg; omega) rfl <| Ap (.f rfl rfl) (.u rfl id) rfl ic_2 rfl <| Ag (.f rfl rfl) (.t rfl) rfl <| AF (.f rfl rfl) (.u rfl id) (.u rfl id) rfl rfl <| q_or .n (.t rfl) (.u rfl id) rfl <| Ah .n (.t rfl) rfl <| Lex.nil) ?_
  exact Au [] (.cons (.t rfl rfl) .nil) rfl trivial rfl

/-! ### impl_divUp -/
theorem c_impl_divUp (a : Int) (b : Int) (hp1 : ¬ b = 0) : Con Tryz.prog 99 [.int .i64 a, .int .i64 b] [] (.int .i64 (BN a b)) ([]) := by
  refine con_intro (out := fun r : Int => ((.int .i64 r : V), ([] : List (Nat × Option O)))) (r := (BN a b)) Tryz.func99 rfl Tryz.ntmps99 rfl ?_
  refine Af ?_
  refine Ad (Ah .n (.c rfl) rfl <| Lex.nil) ?_
  refine Af ?_
  refine Ad (Ag .n (.t rfl) rfl <| Ag .n (.t rfl) rfl <| AF .n (.t rfl) (.t rfl) rfl rfl <| AF .n (.t rfl) (.c rfl) rfl rfl <| Ag .n (.t rfl) rfl <| q_quo .n (.t rfl) (.t rfl) (fun hg => by omega) rfl <| Ah .n (.t rfl) rfl <| Lex.nil) ?_
  exact Au [] (.cons (.t rfl rfl) .nil) rfl trivial rfl

/-! ### impl_Airway_walkTime -/
theorem c_impl_Airway_walkTime (a : Ar) (speed : Int) (hp1 : 10 ≤ speed ∧ speed ≤ 300) : Con Tryz.prog 67 [.st [.str a.Id, .int .i64 a.From, .int .i64 a.To, .int .i64 a.Length, .int .i64 a.Section, .int .i64 a.Friction, .int .i64 a.Shock], .int .i64 speed] [] (.int .i64 (A7 a speed)) ([]) := by
  refine con_intro (out := fun r : Int => ((.int .i64 r : V), ([] : List (Nat × Option O)))) (r := (A7 a speed)) Tryz.func67 rfl Tryz.ntmps67 rfl ?_
  refine Af ?_
  refine Ad (Du (l := 200) .n rfl (.t rfl) rfl rfl rfl rfl <| Ah .n (.c rfl) rfl <| Lex.nil) ?_
  refine Af ?_
  refine Ad (AE .n (.t rfl) fo_112_3 rfl <| AP .n (.t rfl) rfl (.inr rfl) (fun _ => rfl) rfl ic_2 rfl <| AF .n (.c rfl) (.t rfl) rfl rfl <| Ag .n (.t rfl) rfl <| AJ (full := false) .n .f en_99 (.cons (.t rfl) (.cons (.t rfl) .nil)) (.cons (.b (.a (.same rfl))) (.cons (.b (.a (.same rfl))) .nil)) (fun hg => c_impl_divUp (IntKind.wrap .i64 (100 * a.Length)) speed (by omega)) rfl (fun h => Bool.noConfusion h) rfl <| Ah .n (.t rfl) rfl <| Lex.nil) ?_
  exact Au [] (.cons (.t rfl rfl) .nil) rfl trivial rfl

/-! ### impl_escape_times -/
set_option maxHeartbeats 4000000 in
theorem c_impl_escape_times (e : Co) (c_ : Bu) (start : Int) (hp1 : MineIn e.mine) (hp2 : (e.arrivals.length : Int) = e.mine.Junctions) (hp3 : CrewIn e.mine c_) (hp4 : 0 ≤ start ∧ start ≤ 36000) : Con Tryz.prog 30 [.st [.int .i64 e.mine.Junctions, .sl 7 (e.mine.Airways.map Ar.v), .sl 1 (e.arrivals.map (V.int .i64)), .int .i64 e.blocked], .st [.str c_.Id, .int .i64 c_.Junction, .int .i64 c_.Speed], .int .i64 start] [] (.os 100 (Bj e c_ start).length) ([(100, some (.row 2 1 ((Bj e c_ start).map (V.int .i64))))]) := by
  refine con_intro (out := fun r : (List Int) => ((.os 100 r.length : V), ([(100, some (.row 2 1 (r.map (V.int .i64))))] : List (Nat × Option O)))) (r := (Bj e c_ start)) Tryz.func30 rfl Tryz.ntmps30 rfl ?_
  have hRl := rep_len hp1.1
  have hJ := hp1.1
  have hA := hp1.2.1
  have hC1 := hp3.1
  have hC2 := hp3.2
  have hJ1 := hp1.1
  have hA1 := hp1.2.1
  refine Ch (t := 0) 1 rfl rfl fun hl => ?_
  have l1 := hl; clear hl; simp only [List.length_map] at l1
  refine Ch (t := 0) 2 rfl rfl fun hl => ?_
  have l2 := hl; clear hl; simp only [List.length_map] at l2
  refine Af ?_
  refine Ad (Du (l := 200) .n rfl (.t rfl) rfl rfl rfl rfl <| Du (l := 201) .n rfl (.t rfl) rfl rfl rfl rfl <| Ah .n (.c rfl) rfl <| Lex.nil) ?_
  refine Af ?_
  refine Ad (AV K_6 (f := V.int .i64) (l := 202) .n rfl rfl (.cons (.c rfl) .nil) rfl si_27 zv_2 rfl rfl rfl <| AE .n (.t rfl) fo_67_0 rfl <| AE .n (.t rfl) fo_26_0 rfl <| AP .n (.t rfl) rfl (.inr rfl) (fun _ => rfl) rfl ic_2 rfl <| AW (full := true) [] [(100, 203)] .n rfl .f en_65 (.cons (.t rfl) (.cons (.t rfl) .nil)) (.cons (.b (.a (.own rfl rfl rfl (take_all (by simp only [len_map, put_len] <;> rfl)) (by simp only [len_map, put_len] <;> rfl)))) (.cons (.b (.a (.same rfl))) .nil)) (c_slices_Repeat_int64 K_6 e.mine.Junctions (by (simp only [lens] at * <;> omega)) (by omega)) trivial rfl rfl (fun _ => rfl) (fun _ => (hr_row (fun _ => rfl) hr_nil)) rfl <| Ah .n (.t rfl) rfl <| Lex.nil) ?_
  refine Af ?_
  refine Af ?_
  refine Ad (Ba .n (.t rfl) rfl (.inr rfl) ag_67 (fun _ => rfl) rfl rfl <| AE .n (.t rfl) fo_37_1 rfl <| AP .n (.t rfl) rfl (.inr rfl) (fun _ => rfl) rfl ic_2 rfl <| Ag .n (.t rfl) rfl <| AJ (full := false) .n .f en_66 (.cons (.t rfl) (.cons (.t rfl) (.cons (.t rfl) .nil))) (.cons (.sts rfl) (.cons (.b (.a (.same rfl))) (.cons (.b (.a (.same rfl))) .nil))) (fun hg => c_impl_escape_mayBe e c_.Junction start (by omega)) rfl (fun h => Bool.noConfusion h) rfl <| Cg .n (.t rfl) rfl <| Lex.nil) ?_
  refine Aq (.t rfl) rfl (fun h3 => ?_) (fun h3 => ?_)
  · try simp only [tst] at h3
    refine Af ?_
    refine Ad (Ag .n (.t rfl) rfl <| Ah .n (.t rfl) rfl <| Lex.nil) ?_
    exact Au [(100, 203)] (.cons (.t rfl rfl) .nil) (by first | rfl | (simp only [put_len]; rfl)) ⟨rfl, trivial⟩ rfl
  · try simp only [tst] at h3
    refine As ?_
    refine Af ?_
    refine Ad (Ag .n (.t rfl) rfl <| AE .n (.t rfl) fo_37_1 rfl <| AP .n (.t rfl) rfl (.inr rfl) (fun _ => rfl) rfl ic_2 rfl <| Ag .n (.t rfl) rfl <| AZ .n (.t rfl) (.t rfl) sl_27 (fun _ => by omega) rfl <| B0 start .n rfl (.t rfl) (.t rfl) rfl ts_2 (by omega) rfl rfl <| Lex.nil) ?_
    refine Af ?_
    refine Af ?_
    refine Ad (Ah .n (.c rfl) rfl <| Lex.nil) ?_
    refine Aw ?_
    refine Bp (CB e c_ start) _ _ _ rfl (fun (x1 : (List Int) × Bool) => SmB e.mine.Junctions x1.1) (fun x1 => SmB e.mine.Junctions x1.1) (fun x1 => pot x1.1 + (bif x1.2 then 1 else 0)) (fun x1 => ⟨[(3, some (true, .op 200 0 0 0)), (4, some (true, .op 201 0 0 0)), (7, some (true, .os 203 x1.1.length)), (8, some (true, .bool x1.2))], [(200, some (.box 67 [.int .i64 e.mine.Junctions, .sl 7 (e.mine.Airways.map Ar.v), .sl 1 (e.arrivals.map (V.int .i64)), .int .i64 e.blocked])), (201, some (.box 37 [.str c_.Id, .int .i64 c_.Junction, .int .i64 c_.Speed])), (203, some (.row 2 1 (x1.1.map (V.int .i64))))]⟩) (fun x1 => ⟨[(7, some (true, .os 203 x1.1.length))], [(203, some (.row 2 1 (x1.1.map (V.int .i64))))]⟩) (by (exact cw_start hp1 hp3 hp4)) (by (exact cw_pot hp1 hp3 hp4)) (sub_of [] ⟨rfl, rfl, os_len rfl (by first | (simp only [put_len]; done) | (first | omega | assumption | (simp only [lens] at * <;> omega) | ((exact cw_start hp1 hp3 hp4); done) | ((exact cw_pot hp1 hp3 hp4); done) | ((exact SmI.refl (by assumption)); done) | ((exact SmI.mu (by assumption) (by assumption)); done) | ((exact And.left (by assumption)); done) | (((have hS : SmI e.mine.Junctions x1.1 x3.1 x3.2.1 := (by assumption); have hl := hS.1.1; have hw0 := hp1.at (i := x2.2.2) (by omega); unfold AirIn at hw0; have hw1 := at2 hw0 (q := x3.2.2) (by omega); omega)); done) | (((have hS : SmI e.mine.Junctions x1.1 x3.1 x3.2.1 := (by assumption); have hl := hS.1.1; exact times_put hp1 hp3.2 hS (by omega) (by omega) (by assumption))); done))), rfl, trivial⟩ ⟨rfl, rfl, rfl, trivial⟩ rfl) ?_ ?_
    · intro x1 i32
      have e33 := i32
      try dsimp only at *
      refine Af ?_
      refine Ad (Ag .n (.t rfl) rfl <| Ah .n (.t rfl) rfl <| Lex.nil) ?_
      exact Au [(100, 203)] (.cons (.t rfl rfl) .nil) (by first | rfl | (simp only [put_len]; rfl)) ⟨rfl, trivial⟩ rfl
    · intro rec1 k1 hk4 x1 i5
      have e34 := i5
      try dsimp only at *
      refine Af ?_
      refine Af ?_
      refine Ad (Ag .n (.t rfl) rfl <| Lex.nil) ?_
      refine Aq (.t rfl) rfl (fun h6 => ?_) (fun h6 => ?_)
      · try simp only [tst] at h6
        refine As ?_
        refine Aw ?_
        refine Af ?_
        refine Ad (Ah .n (.c rfl) rfl <| Lex.nil) ?_
        refine Af ?_
        refine Ad (AE .n (.t rfl) fo_67_0 rfl <| AE .n (.t rfl) fo_26_1 rfl <| AP .n (.t rfl) rfl (.inr rfl) (fun _ => rfl) rfl ic_24 rfl <| BS .n (.t rfl) rfl len_map ss_24 rfl <| Ag .n (.c rfl) rfl <| Lex.nil) ?_
        refine Aw ?_
        refine Bp (B6 e c_ start rec1 k1 x1) _ _ _ rfl (fun (x2 : (List Int) × Bool × Int) => 0 ≤ x2.2.2 ∧ x2.2.2 ≤ (e.mine.Airways.length : Int) ∧ SmI e.mine.Junctions x1.1 x2.1 x2.2.1) (fun x2 => 0 ≤ x2.2.2 ∧ x2.2.2 ≤ (e.mine.Airways.length : Int) ∧ SmI e.mine.Junctions x1.1 x2.1 x2.2.1 ∧ (e.mine.Airways.length : Int) ≤ x2.2.2) (fun x2 => ((e.mine.Airways.length : Int) - x2.2.2 : Int).toNat) (fun x2 => ⟨[(3, some (true, .op 200 0 0 0)), (4, some (true, .op 201 0 0 0)), (7, some (true, .os 203 x2.1.length)), (8, some (true, .bool x2.2.1)), (35, some (true, .sl 7 (e.mine.Airways.map Ar.v))), (36, some (true, .int .i64 (e.mine.Airways.length : Int))), (37, some (true, .int .i64 x2.2.2))], [(200, some (.box 67 [.int .i64 e.mine.Junctions, .sl 7 (e.mine.Airways.map Ar.v), .sl 1 (e.arrivals.map (V.int .i64)), .int .i64 e.blocked])), (201, some (.box 37 [.str c_.Id, .int .i64 c_.Junction, .int .i64 c_.Speed])), (203, some (.row 2 1 (x2.1.map (V.int .i64))))]⟩) (fun x2 => ⟨[(3, some (true, .op 200 0 0 0)), (4, some (true, .op 201 0 0 0)), (7, some (true, .os 203 x2.1.length)), (8, some (true, .bool x2.2.1))], [(200, some (.box 67 [.int .i64 e.mine.Junctions, .sl 7 (e.mine.Airways.map Ar.v), .sl 1 (e.arrivals.map (V.int .i64)), .int .i64 e.blocked])), (201, some (.box 37 [.str c_.Id, .int .i64 c_.Junction, .int .i64 c_.Speed])), (203, some (.row 2 1 (x2.1.map (V.int .i64))))]⟩) ⟨by (simp only [lens] at * <;> omega), by (simp only [lens] at * <;> omega), by (exact SmI.refl (by assumption))⟩ (by (simp only [lens] at * <;> omega)) (sub_of [] ⟨rfl, rfl, rfl, rfl, rfl, rfl, rfl, trivial⟩ ⟨rfl, rfl, rfl, trivial⟩ rfl) ?_ ?_
        · intro x2 i24
          obtain ⟨e25, e26, e27, e28⟩ := i24
          try dsimp only at *
          refine AK ?_
          exact A5 (x2.1, x2.2.1) (by (exact And.left (by assumption))) (by (exact SmI.mu (by assumption) (by assumption))) (sub_of [] ⟨rfl, rfl, rfl, rfl, trivial⟩ ⟨rfl, rfl, rfl, trivial⟩ rfl)
        · intro rec2 k2 hk7 x2 i8
          obtain ⟨e29, e30, e31⟩ := i8
          try dsimp only at *
          refine Af ?_
          refine Ad (AF .n (.t rfl) (.t rfl) rfl rfl <| Lex.nil) ?_
          refine Af ?_
          refine Aq (.t rfl) rfl (fun h9 => ?_) (fun h9 => ?_)
          · try simp only [tst] at h9
            refine As ?_
            refine Af ?_
            refine Aw ?_
            refine Af ?_
            refine Ad (Ag .n (.t rfl) rfl <| A8 .n (.t rfl) (.t rfl) sl_24 (fun _ => by omega) rfl <| q_ldN_ro .n (.t rfl) ag_112 rfl rfl rfl <| BE (l := 204) .n rfl zv_112 rfl rfl <| Ah .n (.t rfl) rfl <| AG [.str (at' e.mine.Airways x2.2.2).Id, .int .i64 (at' e.mine.Airways x2.2.2).From, .int .i64 (at' e.mine.Airways x2.2.2).To, .int .i64 (at' e.mine.Airways x2.2.2).Length, .int .i64 (at' e.mine.Airways x2.2.2).Section, .int .i64 (at' e.mine.Airways x2.2.2).Friction, .int .i64 (at' e.mine.Airways x2.2.2).Shock] .n rfl (.t rfl) (.t rfl) rfl ts_112 rfl rfl <| Lex.nil) ?_
            refine Af ?_
            refine Ad (AE .n (.t rfl) fo_112_1 rfl <| AP .n (.t rfl) rfl (.inr rfl) (fun _ => rfl) rfl ic_2 rfl <| AE .n (.t rfl) fo_112_2 rfl <| AP .n (.t rfl) rfl (.inr rfl) (fun _ => rfl) rfl ic_2 rfl <| q_builda (us := [.int .i64 (at' e.mine.Airways x2.2.2).From, .int .i64 (at' e.mine.Airways x2.2.2).To]) .n (.cons (.t rfl) (.cons (.t rfl) .nil)) zv_113 ae_113 rfl rfl rfl <| AE .n (.t rfl) fo_112_2 rfl <| AP .n (.t rfl) rfl (.inr rfl) (fun _ => rfl) rfl ic_2 rfl <| AE .n (.t rfl) fo_112_1 rfl <| AP .n (.t rfl) rfl (.inr rfl) (fun _ => rfl) rfl ic_2 rfl <| q_builda (us := [.int .i64 (at' e.mine.Airways x2.2.2).To, .int .i64 (at' e.mine.Airways x2.2.2).From]) .n (.cons (.t rfl) (.cons (.t rfl) .nil)) zv_113 ae_113 rfl rfl rfl <| q_builda (us := [.int .i64 (at' e.mine.Airways x2.2.2).From, .int .i64 (at' e.mine.Airways x2.2.2).To, .int .i64 (at' e.mine.Airways x2.2.2).To, .int .i64 (at' e.mine.Airways x2.2.2).From]) .n (.cons (.t rfl) (.cons (.t rfl) .nil)) zv_114 ae_114 rfl rfl rfl <| Ag .n (.c rfl) rfl <| Lex.nil) ?_
            refine Aw ?_
            refine Bp (BJ e c_ start rec1 k1 x1 rec2 k2 x2) _ _ _ rfl (fun (x3 : (List Int) × Bool × Int) => 0 ≤ x3.2.2 ∧ x3.2.2 ≤ 2 ∧ x3.1.length = x2.1.length ∧ SmI e.mine.Junctions x1.1 x3.1 x3.2.1) (fun x3 => 0 ≤ x3.2.2 ∧ x3.2.2 ≤ 2 ∧ x3.1.length = x2.1.length ∧ SmI e.mine.Junctions x1.1 x3.1 x3.2.1 ∧ 2 ≤ x3.2.2) (fun x3 => (2 - x3.2.2 : Int).toNat) (fun x3 => ⟨[(3, some (true, .op 200 0 0 0)), (4, some (true, .op 201 0 0 0)), (7, some (true, .os 203 x3.1.length)), (8, some (true, .bool x3.2.1)), (9, some (true, .int .i64 x2.2.2)), (10, some (true, .op 204 0 0 0)), (35, some (true, .sl 7 (e.mine.Airways.map Ar.v))), (36, some (true, .int .i64 (e.mine.Airways.length : Int))), (37, some (true, .int .i64 x2.2.2)), (52, some (true, .st [.int .i64 (at' e.mine.Airways x2.2.2).From, .int .i64 (at' e.mine.Airways x2.2.2).To, .int .i64 (at' e.mine.Airways x2.2.2).To, .int .i64 (at' e.mine.Airways x2.2.2).From])), (53, some (true, .int .i64 x3.2.2))], [(200, some (.box 67 [.int .i64 e.mine.Junctions, .sl 7 (e.mine.Airways.map Ar.v), .sl 1 (e.arrivals.map (V.int .i64)), .int .i64 e.blocked])), (201, some (.box 37 [.str c_.Id, .int .i64 c_.Junction, .int .i64 c_.Speed])), (203, some (.row 2 1 (x3.1.map (V.int .i64)))), (204, some (.box 112 [.str (at' e.mine.Airways x2.2.2).Id, .int .i64 (at' e.mine.Airways x2.2.2).From, .int .i64 (at' e.mine.Airways x2.2.2).To, .int .i64 (at' e.mine.Airways x2.2.2).Length, .int .i64 (at' e.mine.Airways x2.2.2).Section, .int .i64 (at' e.mine.Airways x2.2.2).Friction, .int .i64 (at' e.mine.Airways x2.2.2).Shock]))]⟩) (fun x3 => ⟨[(3, some (true, .op 200 0 0 0)), (4, some (true, .op 201 0 0 0)), (7, some (true, .os 203 x3.1.length)), (8, some (true, .bool x3.2.1)), (35, some (true, .sl 7 (e.mine.Airways.map Ar.v))), (36, some (true, .int .i64 (e.mine.Airways.length : Int))), (37, some (true, .int .i64 x2.2.2))], [(200, some (.box 67 [.int .i64 e.mine.Junctions, .sl 7 (e.mine.Airways.map Ar.v), .sl 1 (e.arrivals.map (V.int .i64)), .int .i64 e.blocked])), (201, some (.box 37 [.str c_.Id, .int .i64 c_.Junction, .int .i64 c_.Speed])), (203, some (.row 2 1 (x3.1.map (V.int .i64))))]⟩) ⟨by (simp only [lens] at * <;> omega), by (simp only [lens] at * <;> omega), by (simp only [lens] at * <;> omega), by omega⟩ (by (simp only [lens] at * <;> omega)) (sub_of [] ⟨rfl, rfl, rfl, rfl, rfl, rfl, rfl, rfl, rfl, rfl, rfl, trivial⟩ ⟨rfl, rfl, rfl, rfl, trivial⟩ rfl) ?_ ?_
            · intro x3 i14
              obtain ⟨e15, e16, e17, e18, e19⟩ := i14
              try dsimp only at *
              refine AK ?_
              refine Ad (BM .n (.t rfl) (.c rfl) (fun _ => by omega) rfl <| Ag .n (.t rfl) rfl <| Lex.nil) ?_
              exact A5 (x3.1, x3.2.1, x2.2.2 + 1) ⟨by (simp only [lens] at * <;> omega), by assumption, by omega⟩ (by (simp only [lens] at * <;> omega)) (sub_of [] ⟨rfl, rfl, rfl, rfl, rfl, rfl, rfl, trivial⟩ ⟨rfl, rfl, rfl, trivial⟩ rfl)
            · intro rec3 k3 hk10 x3 i11
              obtain ⟨e20, e21, e22, e23⟩ := i11
              try dsimp only at *
              refine Af ?_
              refine Ad (AF .n (.t rfl) (.c rfl) rfl rfl <| Lex.nil) ?_
              refine Af ?_
              refine Aq (.t rfl) rfl (fun h12 => ?_) (fun h12 => ?_)
              · try simp only [tst] at h12
                refine As ?_
                refine Af ?_
                refine Aw ?_
                refine Af ?_
                refine Ad (q_indexa [.int .i64 (at' ([(at' e.mine.Airways x2.2.2).From, (at' e.mine.Airways x2.2.2).To] : List Int) x3.2.2), .int .i64 (at' ([(at' e.mine.Airways x2.2.2).To, (at' e.mine.Airways x2.2.2).From] : List Int) x3.2.2)] .n (.t rfl) (.t rfl) ae_114 ag_113 rfl (fun _ => by omega) (fun _ => by have h : x3.2.2 = 0 ∨ x3.2.2 = 1 := (by first | omega | (simp only [lens] at *; omega)); rcases h with h | h <;> (rw [h]; rfl)) rfl <| BE (l := 205) .n rfl zv_113 rfl rfl <| AG [.int .i64 (at' ([(at' e.mine.Airways x2.2.2).From, (at' e.mine.Airways x2.2.2).To] : List Int) x3.2.2), .int .i64 (at' ([(at' e.mine.Airways x2.2.2).To, (at' e.mine.Airways x2.2.2).From] : List Int) x3.2.2)] .n rfl (.t rfl) (.t rfl) rfl ts_113 rfl rfl <| Lex.nil) ?_
                refine Af ?_
                refine Bk fmo (Ag .n (.t rfl) rfl <| q_idxa_ow .n (.t rfl) (.c rfl) ae_113 (by decide) 0 rfl rfl <| AP .n (.t rfl) rfl (.inr rfl) (fun _ => rfl) rfl ic_2 rfl <| AZ .n (.t rfl) (.t rfl) sl_27 (fun _ => by ((have hS : SmI e.mine.Junctions x1.1 x3.1 x3.2.1 := (by assumption); have hl := hS.1.1; have hw0 := hp1.at (i := x2.2.2) (by omega); unfold AirIn at hw0; have hw1 := at2 hw0 (q := x3.2.2) (by omega); omega))) rfl <| A2 .n (.t rfl) rfl (fun _ => by ((have hS : SmI e.mine.Junctions x1.1 x3.1 x3.2.1 := (by assumption); have hl := hS.1.1; have hw0 := hp1.at (i := x2.2.2) (by omega); unfold AirIn at hw0; have hw1 := at2 hw0 (q := x3.2.2) (by omega); omega))) rfl rfl rfl ic_2 rfl <| Ba .n (.t rfl) rfl (.inr rfl) ag_112 (fun _ => rfl) rfl rfl <| AE .n (.t rfl) fo_37_2 rfl <| AP .n (.t rfl) rfl (.inr rfl) (fun _ => rfl) rfl ic_2 rfl <| AJ (full := false) .n .f en_67 (.cons (.t rfl) (.cons (.t rfl) .nil)) (.cons (.sts rfl) (.cons (.b (.a (.same rfl))) .nil)) (fun hg => c_impl_Airway_walkTime (at' e.mine.Airways x2.2.2) c_.Speed (by omega)) rfl (fun h => Bool.noConfusion h) rfl <| AF .n (.t rfl) (.t rfl) rfl rfl <| Ah .n (.t rfl) rfl <| Lex.nil) (by kernel_rfl) ?_
                refine Af ?_
                refine Ad (Ag .n (.t rfl) rfl <| q_idxa_ow .n (.t rfl) (.c rfl) ae_113 (by decide) 1 rfl rfl <| AP .n (.t rfl) rfl (.inr rfl) (fun _ => rfl) rfl ic_2 rfl <| AZ .n (.t rfl) (.t rfl) sl_27 (fun _ => by ((have hS : SmI e.mine.Junctions x1.1 x3.1 x3.2.1 := (by assumption); have hl := hS.1.1; have hw0 := hp1.at (i := x2.2.2) (by omega); unfold AirIn at hw0; have hw1 := at2 hw0 (q := x3.2.2) (by omega); omega))) rfl <| A2 .n (.t rfl) rfl (fun _ => by ((have hS : SmI e.mine.Junctions x1.1 x3.1 x3.2.1 := (by assumption); have hl := hS.1.1; have hw0 := hp1.at (i := x2.2.2) (by omega); unfold AirIn at hw0; have hw1 := at2 hw0 (q := x3.2.2) (by omega); omega))) rfl rfl rfl ic_2 rfl <| AF .n (.t rfl) (.c rfl) rfl rfl <| Ag .n (.t rfl) rfl <| Ag (.f rfl rfl) (.t rfl) rfl <| Ag (.f rfl rfl) (.t rfl) rfl <| q_idxa_ow (.f rfl rfl) (.t rfl) (.c rfl) ae_113 (by decide) 1 rfl rfl <| AP (.f rfl rfl) (.u rfl id) rfl (.inr rfl) (fun _ => rfl) rfl ic_2 rfl <| AZ (.f rfl rfl) (.u rfl id) (.u rfl id) sl_27 (fun hg => by simp only [tst] at hg; ((have hS : SmI e.mine.Junctions x1.1 x3.1 x3.2.1 := (by assumption); have hl := hS.1.1; have hw0 := hp1.at (i := x2.2.2) (by omega); unfold AirIn at hw0; have hw1 := at2 hw0 (q := x3.2.2) (by omega); omega))) rfl <| A2 (.f rfl rfl) (.u rfl id) rfl (fun hg => by simp only [tst] at hg; ((have hS : SmI e.mine.Junctions x1.1 x3.1 x3.2.1 := (by assumption); have hl := hS.1.1; have hw0 := hp1.at (i := x2.2.2) (by omega); unfold AirIn at hw0; have hw1 := at2 hw0 (q := x3.2.2) (by omega); omega))) rfl rfl rfl ic_2 rfl <| AF (.f rfl rfl) (.u rfl id) (.u rfl id) rfl rfl <| q_or .n (.t rfl) (.u rfl id) rfl <| Ah .n (.t rfl) rfl <| Lex.nil) ?_
                refine Af ?_
                refine Ad (Ag .n (.t rfl) rfl <| AE .n (.t rfl) fo_67_2 rfl <| AP .n (.t rfl) rfl (.inr rfl) (fun _ => rfl) rfl ic_2 rfl <| AF .n (.t rfl) (.t rfl) rfl rfl <| Ag .n (.t rfl) rfl <| Ag (.t rfl rfl) (.t rfl) rfl <| q_idxa_ow (.t rfl rfl) (.t rfl) (.c rfl) ae_113 (by decide) 0 rfl rfl <| AP (.t rfl rfl) (.u rfl id) rfl (.inr rfl) (fun _ => rfl) rfl ic_2 rfl <| AZ (.t rfl rfl) (.u rfl id) (.u rfl id) sl_27 (fun hg => by simp only [tst] at hg; ((have hS : SmI e.mine.Junctions x1.1 x3.1 x3.2.1 := (by assumption); have hl := hS.1.1; have hw0 := hp1.at (i := x2.2.2) (by omega); unfold AirIn at hw0; have hw1 := at2 hw0 (q := x3.2.2) (by omega); omega))) rfl <| A2 (.t rfl rfl) (.u rfl id) rfl (fun hg => by simp only [tst] at hg; ((have hS : SmI e.mine.Junctions x1.1 x3.1 x3.2.1 := (by assumption); have hl := hS.1.1; have hw0 := hp1.at (i := x2.2.2) (by omega); unfold AirIn at hw0; have hw1 := at2 hw0 (q := x3.2.2) (by omega); omega))) rfl rfl rfl ic_2 rfl <| AF (.t rfl rfl) (.u rfl id) (.c rfl) rfl rfl <| B4 .n (.t rfl) (.u rfl id) rfl <| Ag .n (.t rfl) rfl <| Ag (.t rfl rfl) (.t rfl) rfl <| B4 .n (.t rfl) (.u rfl id) rfl <| Ag .n (.t rfl) rfl <| Ba (.t rfl rfl) (.t rfl) rfl (.inr rfl) ag_67 (fun _ => rfl) rfl rfl <| q_idxa_ow (.t rfl rfl) (.t rfl) (.c rfl) ae_113 (by decide) 1 rfl rfl <| AP (.t rfl rfl) (.u rfl id) rfl (.inr rfl) (fun _ => rfl) rfl ic_2 rfl <| Ag (.t rfl rfl) (.t rfl) rfl <| AJ (full := false) (.t rfl rfl) .f en_66 (.cons (.u rfl id) (.cons (.u rfl id) (.cons (.u rfl id) .nil))) (.cons (.sts rfl) (.cons (.b (.a (.same rfl))) (.cons (.b (.a (.same rfl))) .nil))) (fun hg => c_impl_escape_mayBe e (at' ([(at' e.mine.Airways x2.2.2).To, (at' e.mine.Airways x2.2.2).From] : List Int) x3.2.2) (IntKind.wrap .i64 ((at' x3.1 (at' ([(at' e.mine.Airways x2.2.2).From, (at' e.mine.Airways x2.2.2).To] : List Int) x3.2.2)) + (A7 (at' e.mine.Airways x2.2.2) c_.Speed))) (by simp only [tst] at hg; ((have hS : SmI e.mine.Junctions x1.1 x3.1 x3.2.1 := (by assumption); have hl := hS.1.1; have hw0 := hp1.at (i := x2.2.2) (by omega); unfold AirIn at hw0; have hw1 := at2 hw0 (q := x3.2.2) (by omega); omega)))) rfl (fun h => Bool.noConfusion h) rfl <| B4 .n (.t rfl) (.u rfl id) rfl <| Lex.nil) ?_
                refine Aq (.t rfl) rfl (fun h13 => ?_) (fun h13 => ?_)
                · try simp only [tst] at h13
                  refine Ad (Ag .n (.t rfl) rfl <| q_idxa_ow .n (.t rfl) (.c rfl) ae_113 (by decide) 1 rfl rfl <| AP .n (.t rfl) rfl (.inr rfl) (fun _ => rfl) rfl ic_2 rfl <| Ag .n (.t rfl) rfl <| AZ .n (.t rfl) (.t rfl) sl_27 (fun _ => by ((have hS : SmI e.mine.Junctions x1.1 x3.1 x3.2.1 := (by assumption); have hl := hS.1.1; have hw0 := hp1.at (i := x2.2.2) (by omega); unfold AirIn at hw0; have hw1 := at2 hw0 (q := x3.2.2) (by omega); omega))) rfl <| B0 (IntKind.wrap .i64 ((at' x3.1 (at' ([(at' e.mine.Airways x2.2.2).From, (at' e.mine.Airways x2.2.2).To] : List Int) x3.2.2)) + (A7 (at' e.mine.Airways x2.2.2) c_.Speed))) .n rfl (.t rfl) (.t rfl) rfl ts_2 (by ((have hS : SmI e.mine.Junctions x1.1 x3.1 x3.2.1 := (by assumption); have hl := hS.1.1; have hw0 := hp1.at (i := x2.2.2) (by omega); unfold AirIn at hw0; have hw1 := at2 hw0 (q := x3.2.2) (by omega); omega))) rfl rfl <| Ah .n (.c rfl) rfl <| Lex.nil) ?_
                  refine AK ?_
                  refine Ad (BM .n (.t rfl) (.c rfl) (fun _ => by omega) rfl <| Ag .n (.t rfl) rfl <| Lex.nil) ?_
                  exact A5 (put' x3.1 (at' ([(at' e.mine.Airways x2.2.2).To, (at' e.mine.Airways x2.2.2).From] : List Int) x3.2.2) (IntKind.wrap .i64 ((at' x3.1 (at' ([(at' e.mine.Airways x2.2.2).From, (at' e.mine.Airways x2.2.2).To] : List Int) x3.2.2)) + (A7 (at' e.mine.Airways x2.2.2) c_.Speed))), true, x3.2.2 + 1) ⟨by (simp only [lens] at * <;> omega), by assumption, by (simp only [lens] at * <;> omega), by ((have hS : SmI e.mine.Junctions x1.1 x3.1 x3.2.1 := (by assumption); have hl := hS.1.1; exact times_put hp1 hp3.2 hS (by omega) (by omega) (by assumption)))⟩ (by (simp only [lens] at * <;> omega)) (sub_of [] ⟨rfl, rfl, os_len rfl (by first | (simp only [put_len]; done) | (first | omega | assumption | (simp only [lens] at * <;> omega) | ((exact cw_start hp1 hp3 hp4); done) | ((exact cw_pot hp1 hp3 hp4); done) | ((exact SmI.refl (by assumption)); done) | ((exact SmI.mu (by assumption) (by assumption)); done) | ((exact And.left (by assumption)); done) | (((have hS : SmI e.mine.Junctions x1.1 x3.1 x3.2.1 := (by assumption); have hl := hS.1.1; have hw0 := hp1.at (i := x2.2.2) (by omega); unfold AirIn at hw0; have hw1 := at2 hw0 (q := x3.2.2) (by omega); omega)); done) | (((have hS : SmI e.mine.Junctions x1.1 x3.1 x3.2.1 := (by assumption); have hl := hS.1.1; exact times_put hp1 hp3.2 hS (by omega) (by omega) (by assumption))); done))), rfl, rfl, rfl, rfl, rfl, rfl, rfl, rfl, trivial⟩ ⟨rfl, rfl, rfl, rfl, trivial⟩ rfl)
                · try simp only [tst] at h13
                  refine As ?_
                  refine AK ?_
                  refine Ad (BM .n (.t rfl) (.c rfl) (fun _ => by omega) rfl <| Ag .n (.t rfl) rfl <| Lex.nil) ?_
                  exact A5 (x3.1, x3.2.1, x3.2.2 + 1) ⟨by (simp only [lens] at * <;> omega), by assumption, by omega, by omega⟩ (by (simp only [lens] at * <;> omega)) (sub_of [] ⟨rfl, rfl, rfl, rfl, rfl, rfl, rfl, rfl, rfl, rfl, rfl, trivial⟩ ⟨rfl, rfl, rfl, rfl, trivial⟩ rfl)
              · try simp only [tst] at h12
                refine Bb rfl ?_
                exact AY hk10 (x3.1, x3.2.1, x3.2.2) ⟨by omega, by omega, by omega, by omega, by omega⟩ (sub_of [] ⟨rfl, rfl, rfl, rfl, rfl, rfl, rfl, trivial⟩ ⟨rfl, rfl, rfl, trivial⟩ rfl)
          · try simp only [tst] at h9
            refine Bb rfl ?_
            exact AY hk7 (x2.1, x2.2.1, x2.2.2) ⟨by omega, by omega, by omega, by omega⟩ (sub_of [] ⟨rfl, rfl, rfl, rfl, trivial⟩ ⟨rfl, rfl, rfl, trivial⟩ rfl)
      · try simp only [tst] at h6
        refine Bb rfl ?_
        exact AY hk4 (x1.1, x1.2) (by omega) (sub_of [] ⟨rfl, trivial⟩ ⟨rfl, trivial⟩ rfl)

/-! ### impl_Mine_walkTimes -/
theorem c_impl_Mine_walkTimes (m_ : AB) (junction : Int) (speed : Int) (hp1 : MineIn m_) (hp2 : 0 ≤ junction ∧ junction < m_.Junctions) (hp3 : 10 ≤ speed ∧ speed ≤ 300) : Con Tryz.prog 44 [.st [.int .i64 m_.Junctions, .sl 7 (m_.Airways.map Ar.v)], .int .i64 junction, .int .i64 speed] [] (.os 100 (A9 m_ junction speed).length) ([(100, some (.row 2 1 ((A9 m_ junction speed).map (V.int .i64))))]) := by
  refine con_intro (out := fun r : (List Int) => ((.os 100 r.length : V), ([(100, some (.row 2 1 (r.map (V.int .i64))))] : List (Nat × Option O)))) (r := (A9 m_ junction speed)) Tryz.func44 rfl Tryz.ntmps44 rfl ?_
  have hJ := hp1.1
  have hR := rep_len (c := m_.Junctions) hp1.1
  have hJ1 := hp1.1
  have hA1 := hp1.2.1
  refine Ch (t := 0) 1 rfl rfl fun hl => ?_
  have l1 := hl; clear hl; simp only [List.length_map] at l1
  refine Af ?_
  refine Ad (Du (l := 200) .n rfl (.t rfl) rfl rfl rfl rfl <| Ah .n (.c rfl) rfl <| Lex.nil) ?_
  refine Af ?_
  refine Bk fmo (Ba .n (.t rfl) rfl (.inr rfl) ag_26 (fun _ => rfl) rfl rfl <| AV K_6 (f := V.int .i64) (l := 201) .n rfl rfl (.cons (.c rfl) .nil) rfl si_27 zv_2 rfl rfl rfl <| AE .n (.t rfl) fo_26_0 rfl <| AP .n (.t rfl) rfl (.inr rfl) (fun _ => rfl) rfl ic_2 rfl <| AW (full := true) [] [(100, 202)] .n rfl .f en_65 (.cons (.t rfl) (.cons (.t rfl) .nil)) (.cons (.b (.a (.own rfl rfl rfl (take_all (by simp only [len_map, put_len] <;> rfl)) (by simp only [len_map, put_len] <;> rfl)))) (.cons (.b (.a (.same rfl))) .nil)) (c_slices_Repeat_int64 K_6 m_.Junctions (by (simp only [lens] at * <;> omega)) (by omega)) trivial rfl rfl (fun _ => rfl) (fun _ => (hr_row (fun _ => rfl) hr_nil)) rfl <| Dv (us := [.int .i64 m_.Junctions, .sl 7 (m_.Airways.map Ar.v), .os 202 (Bg K_6 m_.Junctions).length, .int .i64 (-1)]) .n (.cons (.t rfl) (.cons (.t rfl) (.cons (.c rfl) .nil))) zv_67 pl_67 rfl rfl rfl <| BE (l := 203) .n rfl zv_67 rfl rfl <| AG [.int .i64 m_.Junctions, .sl 7 (m_.Airways.map Ar.v), .os 202 (Bg K_6 m_.Junctions).length, .int .i64 (-1)] .n rfl (.t rfl) (.t rfl) rfl ts_67 rfl rfl <| Lex.nil) (by kernel_rfl) ?_
  refine Af ?_
  refine Ad (Ba .n (.t rfl) rfl (.inr rfl) ag_67 (fun _ => rfl) rfl rfl <| Ag .n (.t rfl) rfl <| Ag .n (.t rfl) rfl <| Dv (us := [.str ([] : List UInt8), .int .i64 junction, .int .i64 speed]) .n (.cons (.t rfl) (.cons (.t rfl) .nil)) zv_37 pl_37 rfl rfl rfl <| AW (full := true) [] [(100, 204)] .n rfl .f en_30 (.cons (.t rfl) (.cons (.t rfl) (.cons (.c rfl) .nil))) (.cons (.st (.cons (.a (.same rfl)) (.cons (.a (.same rfl)) (.cons (.a (.own rfl rfl rfl (take_all (by simp only [len_map, put_len] <;> rfl)) (by simp only [len_map, put_len] <;> rfl))) (.cons (.a (.same rfl)) .nil))))) (.cons (.sts rfl) (.cons (.b (.a (.same rfl))) .nil))) (c_impl_escape_times (Co.mk m_ (Bg K_6 m_.Junctions) (-1)) (Bu.mk ([] : List UInt8) junction speed) 0 (by omega) (by omega) (by (exact ⟨hp2, hp3⟩)) (by omega)) trivial rfl rfl (fun _ => rfl) (fun _ => (hr_row (fun _ => rfl) hr_nil)) rfl <| Ah .n (.t rfl) rfl <| Lex.nil) ?_
  exact Au [(100, 204)] (.cons (.t rfl rfl) .nil) (by first | rfl | (simp only [put_len]; rfl)) ⟨rfl, trivial⟩ rfl

/-! ### slices_IndexFunc_int64 -/
theorem c_slices_IndexFunc_int64 (s_ : List Int) (f : Int → Bool) (F_f : FuncId) (C_f : List V) (he_f : entB Tryz.prog F_f = true) (hr_f : C_f.all V.ro = true) (Q_f : Int → Prop) (hc_f : ∀ (a0 : Int), Q_f a0 → Con Tryz.prog F_f ([.int .i64 a0] ++ C_f) [] (.bool (f a0)) []) (hp1 : ∀ x ∈ s_, Q_f x) : Con Tryz.prog 86 [.sl 1 (s_.map (V.int .i64)), .clo F_f C_f] [] (.int .i64 (Cm s_ f)) ([]) := by
  refine con_intro (out := fun r : Int => ((.int .i64 r : V), ([] : List (Nat × Option O)))) (r := (Cm s_ f)) Tryz.func86 rfl Tryz.ntmps86 rfl ?_
  refine Br (t := 0) rfl fun hl => ?_
  have l1 := hl; clear hl; simp only [List.length_map] at l1
  refine Af ?_
  refine Ad (Ah .n (.c rfl) rfl <| Lex.nil) ?_
  refine Af ?_
  refine Af ?_
  refine Ad (Ag .n (.t rfl) rfl <| BS .n (.t rfl) rfl len_map ss_27 rfl <| Ag .n (.c rfl) rfl <| Lex.nil) ?_
  refine Aw ?_
  refine Bp (Bn s_ f) _ _ _ rfl (fun (x1 : Int) => 0 ≤ x1 ∧ x1 ≤ (s_.length : Int)) (fun x1 => 0 ≤ x1 ∧ x1 ≤ (s_.length : Int) ∧ (s_.length : Int) ≤ x1) (fun x1 => ((s_.length : Int) - x1 : Int).toNat) (fun x1 => ⟨[(0, some (true, .sl 1 (s_.map (V.int .i64)))), (1, some (true, .clo F_f C_f)), (7, some (true, .int .i64 (s_.length : Int))), (8, some (true, .int .i64 x1))], []⟩) (fun x1 => ⟨[], []⟩) ⟨by omega, by omega⟩ (by omega) (sub_of [] ⟨rfl, clo_ren hr_f rfl, rfl, rfl, trivial⟩ trivial rfl) ?_ ?_
  · intro x1 i6
    obtain ⟨e7, e8, e9⟩ := i6
    try dsimp only at *
    refine Af ?_
    refine Ad (Ah .n (.c rfl) rfl <| Lex.nil) ?_
    exact Au [] (.cons (.t rfl rfl) .nil) rfl trivial rfl
  · intro rec1 k1 hk2 x1 i3
    obtain ⟨e10, e11⟩ := i3
    try dsimp only at *
    refine Af ?_
    refine Ad (AF .n (.t rfl) (.t rfl) rfl rfl <| Lex.nil) ?_
    refine Af ?_
    refine Aq (.t rfl) rfl (fun h4 => ?_) (fun h4 => ?_)
    · try simp only [tst] at h4
      refine As ?_
      refine Af ?_
      refine Aw ?_
      refine Af ?_
      refine Ad (Ag .n (.t rfl) rfl <| Ah .n (.t rfl) rfl <| Lex.nil) ?_
      refine Af ?_
      refine Ad (Ag .n (.t rfl) rfl <| Ag .n (.t rfl) rfl <| Ag .n (.t rfl) rfl <| A8 .n (.t rfl) (.t rfl) sl_27 (fun _ => by omega) rfl <| Ap .n (.t rfl) rfl ic_2 rfl <| AJ (full := false) .n (.c (.t rfl)) he_f (.cons (.t rfl) .nil) (passes_app hr_f (.cons (.b (.a (.same rfl))) .nil)) (fun hg => hc_f (at' s_ x1) (by exact at_all hp1 (by omega))) rfl (fun h => Bool.noConfusion h) rfl <| Lex.nil) ?_
      refine Aq (.t rfl) rfl (fun h5 => ?_) (fun h5 => ?_)
      · try simp only [tst] at h5
        refine Af ?_
        refine Ad (Ag .n (.t rfl) rfl <| Ah .n (.t rfl) rfl <| Lex.nil) ?_
        exact Au [] (.cons (.t rfl rfl) .nil) rfl trivial rfl
      · try simp only [tst] at h5
        refine As ?_
        refine AK ?_
        refine Ad (BM .n (.t rfl) (.c rfl) (fun _ => by omega) rfl <| Ag .n (.t rfl) rfl <| Lex.nil) ?_
        exact A5 (x1 + 1) ⟨by omega, by omega⟩ (by omega) (sub_of [] ⟨rfl, clo_ren hr_f rfl, rfl, rfl, trivial⟩ trivial rfl)
    · try simp only [tst] at h4
      refine Bb rfl ?_
      exact AY hk2 x1 ⟨by omega, by omega, by omega⟩ (sub_of [] trivial trivial rfl)

/-! ### slices_ContainsFunc_int64 -/
theorem CA (s_ : List Int) (f : Int → Bool) (F_f : FuncId) (C_f : List V) (he_f : entB Tryz.prog F_f = true) (hr_f : C_f.all V.ro = true) (Q_f : Int → Prop) (hc_f : ∀ (a0 : Int), Q_f a0 → Con Tryz.prog F_f ([.int .i64 a0] ++ C_f) [] (.bool (f a0)) []) (hp1 : ∀ x ∈ s_, Q_f x) : Con Tryz.prog 47 [.sl 1 (s_.map (V.int .i64)), .clo F_f C_f] [] (.bool (Bo s_ f)) ([]) := by
  refine con_intro (out := fun r : Bool => ((.bool r : V), ([] : List (Nat × Option O)))) (r := (Bo s_ f)) Tryz.func47 rfl Tryz.ntmps47 rfl ?_
  refine Br (t := 0) rfl fun hl => ?_
  have l1 := hl; clear hl; simp only [List.length_map] at l1
  refine Af ?_
  refine Ad (Ah .n (.c rfl) rfl <| Lex.nil) ?_
  refine Af ?_
  refine Ad (Ag .n (.t rfl) rfl <| Ag .n (.t rfl) rfl <| AJ (full := false) .n .f en_86 (.cons (.t rfl) (.cons (.t rfl) .nil)) (.cons (.b (.a (.same rfl))) (.cons (.clo (passBs_ro hr_f)) .nil)) (fun hg => c_slices_IndexFunc_int64 s_ f F_f C_f he_f hr_f Q_f hc_f (by omega)) rfl (fun h => Bool.noConfusion h) rfl <| AF .n (.t rfl) (.c rfl) rfl rfl <| Ah .n (.t rfl) rfl <| Lex.nil) ?_
  exact Au [] (.cons (.t rfl rfl) .nil) rfl trivial rfl

/-! ### impl_FewestRefuges_1_1_1 -/
theorem c_impl_FewestRefuges_1_1_1 (to : Int) (p1 : List (List Int)) (p2 : Int) (p3 : Int) (hp1 : 0 ≤ p2 ∧ p2 < p1.length) (hp2 : 0 ≤ to ∧ to < (at' p1 p2).length) : Con Tryz.prog 48 [.int .i64 to, .rp [.sl 1 (p1.map (slv 1 (V.int .i64)))], .rp [.int .i64 p2], .rp [.int .i64 p3]] [] (.bool (BR to p1 p2 p3)) ([]) := by
  refine con_intro (out := fun r : Bool => ((.bool r : V), ([] : List (Nat × Option O)))) (r := (BR to p1 p2 p3)) Tryz.func48 rfl Tryz.ntmps48 rfl ?_
  refine BH (t := 1) 0 rfl rfl fun hl => ?_
  have l1 := hl; clear hl; simp only [List.length_map] at l1
  refine Af ?_
  refine Ad (Ah .n (.c rfl) rfl <| Lex.nil) ?_
  refine Af ?_
  refine Bk fmo (Ap .n (.t rfl) rfl ic_71 rfl <| Ap .n (.t rfl) rfl ic_2 rfl <| A8 .n (.t rfl) (.t rfl) sl_71 (fun _ => by omega) rfl <| Ap .n (.t rfl) rfl ic_27 rfl <| Ag .n (.t rfl) rfl <| A8 .n (.t rfl) (.t rfl) sl_27 (fun _ => by omega) rfl <| Ap .n (.t rfl) rfl ic_2 rfl <| Ap .n (.t rfl) rfl ic_2 rfl <| AJ (full := false) .n .f en_37 (.cons (.t rfl) (.cons (.c rfl) (.cons (.t rfl) .nil))) (.cons (.b (.a (.same rfl))) (.cons (.b (.a (.same rfl))) (.cons (.b (.a (.same rfl))) .nil))) (fun hg => BC (at' (at' p1 p2) to) 0 p3) rfl (fun h => Bool.noConfusion h) rfl <| Ah .n (.t rfl) rfl <| Lex.nil) (by kernel_rfl) ?_
  exact Au [] (.cons (.t rfl rfl) .nil) rfl trivial rfl

/-! ### impl_FewestRefuges_1_1 -/
theorem c_impl_FewestRefuges_1_1 (from_ : Int) (p1 : List Int) (p2 : List (List Int)) (p3 : Int) (hp1 : 0 ≤ from_ ∧ from_ < p2.length) (hp2 : ∀ r ∈ p2, r.length = p2.length) (hp3 : ∀ y ∈ p1, 0 ≤ y ∧ y < (p2.length : Int)) : Con Tryz.prog 46 [.int .i64 from_, .rp [.sl 1 (p1.map (V.int .i64))], .rp [.sl 1 (p2.map (slv 1 (V.int .i64)))], .rp [.int .i64 p3]] [] (.bool (BK from_ p1 p2 p3)) ([]) := by
  refine con_intro (out := fun r : Bool => ((.bool r : V), ([] : List (Nat × Option O)))) (r := (BK from_ p1 p2 p3)) Tryz.func46 rfl Tryz.ntmps46 rfl ?_
  have hR := at_all hp2 hp1
  refine BH (t := 1) 0 rfl rfl fun hl => ?_
  have l1 := hl; clear hl; simp only [List.length_map] at l1
  refine BH (t := 2) 0 rfl rfl fun hl => ?_
  have l2 := hl; clear hl; simp only [List.length_map] at l2
  refine Af ?_
  refine Ad (Du (l := 200) .n rfl (.t rfl) rfl rfl rfl rfl <| Ah .n (.c rfl) rfl <| Lex.nil) ?_
  refine Af ?_
  refine Ad (Ap .n (.t rfl) rfl ic_27 rfl <| q_clo .n (.cons (.t rfl) (.cons (.t rfl) (.cons (.t rfl) .nil))) rfl rfl <| AJ (full := true) .n .f en_47 (.cons (.t rfl) (.cons (.t rfl) .nil)) (.cons (.b (.a (.same rfl))) (.cons (.clo (.cons (.a (.same rfl)) (.cons (.ptr rfl rfl (.inr rfl) rfl rfl (.cons (.same rfl) .nil)) (.cons (.a (.same rfl)) .nil)))) .nil)) (fun hg => CA p1 (fun (a0 : Int) => BR a0 p2 from_ p3) 48 [.rp [.sl 1 (p2.map (slv 1 (V.int .i64)))], .rp [.int .i64 from_], .rp [.int .i64 p3]] en_48 rfl (fun y => 0 ≤ y ∧ y < (p2.length : Int)) (fun a0 hq0 => c_impl_FewestRefuges_1_1_1 a0 p2 from_ p3 (by (try dsimp only at *); omega) (by (try dsimp only at *); omega)) (by omega)) rfl (fun _ => rfl) rfl <| Cg .n (.t rfl) rfl <| Ah .n (.t rfl) rfl <| Lex.nil) ?_
  exact Au [] (.cons (.t rfl rfl) .nil) rfl trivial rfl

/-! ### impl_FewestRefuges_1 -/
theorem c_impl_FewestRefuges_1 (some_ : List Int) (p1 : List (List Int)) (p2 : Int) (p3 : List Int) (hp1 : ∀ r ∈ p1, r.length = p1.length) (hp2 : ∀ y ∈ some_, 0 ≤ y ∧ y < (p1.length : Int)) (hp3 : ∀ y ∈ p3, 0 ≤ y ∧ y < (p1.length : Int)) : Con Tryz.prog 45 [.sl 1 (some_.map (V.int .i64)), .rp [.sl 1 (p1.map (slv 1 (V.int .i64)))], .rp [.int .i64 p2], .rp [.sl 1 (p3.map (V.int .i64))]] [] (.bool (B7 some_ p1 p2 p3)) ([]) := by
  refine con_intro (out := fun r : Bool => ((.bool r : V), ([] : List (Nat × Option O)))) (r := (B7 some_ p1 p2 p3)) Tryz.func45 rfl Tryz.ntmps45 rfl ?_
  refine Br (t := 0) rfl fun hl => ?_
  have l1 := hl; clear hl; simp only [List.length_map] at l1
  refine BH (t := 1) 0 rfl rfl fun hl => ?_
  have l2 := hl; clear hl; simp only [List.length_map] at l2
  refine BH (t := 3) 0 rfl rfl fun hl => ?_
  have l3 := hl; clear hl; simp only [List.length_map] at l3
  refine Af ?_
  refine Ad (Du (l := 200) .n rfl (.t rfl) rfl rfl rfl rfl <| Ah .n (.c rfl) rfl <| Lex.nil) ?_
  refine Af ?_
  refine Ad (q_clo .n (.cons (.t rfl) (.cons (.t rfl) (.cons (.t rfl) .nil))) rfl rfl <| Ah .n (.t rfl) rfl <| Lex.nil) ?_
  refine Af ?_
  refine Ad (Ap .n (.t rfl) rfl ic_27 rfl <| Ag .n (.t rfl) rfl <| AJ (full := true) .n .f en_47 (.cons (.t rfl) (.cons (.t rfl) .nil)) (.cons (.b (.a (.same rfl))) (.cons (.clo (.cons (.ptr rfl rfl (.inr rfl) rfl rfl (.cons (.same rfl) .nil)) (.cons (.a (.same rfl)) (.cons (.a (.same rfl)) .nil)))) .nil)) (fun hg => CA p3 (fun (a0 : Int) => BK a0 some_ p1 p2) 46 [.rp [.sl 1 (some_.map (V.int .i64))], .rp [.sl 1 (p1.map (slv 1 (V.int .i64)))], .rp [.int .i64 p2]] en_46 rfl (fun y => 0 ≤ y ∧ y < (p1.length : Int)) (fun a0 hq0 => c_impl_FewestRefuges_1_1 a0 some_ p1 p2 (by (try dsimp only at *); omega) (by (try dsimp only at *); omega) (by (try dsimp only at *); omega)) (by omega)) rfl (fun _ => rfl) rfl <| Cg .n (.t rfl) rfl <| Ah .n (.t rfl) rfl <| Lex.nil) ?_
  exact Au [] (.cons (.t rfl rfl) .nil) rfl trivial rfl

/-! ### impl_setSearch_extend -/
set_option maxRecDepth 100000 in
set_option maxHeartbeats 4000000 in
theorem c_impl_setSearch_extend_n : ∀ (fuel : Nat) (s_ : AA) (from_ : Int) (more : Int) (hp1 : SetOk s_) (hp2 : 0 ≤ from_ ∧ from_ ≤ s_.list.length) (hp3 : 0 ≤ more ∧ more ≤ 17) (hp4 : 0 ≤ s_.budget ∧ s_.budget ≤ 20000) (hp5 : (s_.some_.length : Int) + more ≤ 40) (hmu : more.toNat < fuel), Con Tryz.prog 87 [.op 0 0 0 0, .int .i64 from_, .int .i64 more] [(0, some (.box 91 [.sl 1 (s_.list.map (V.int .i64)), .clo 45 [.rp [.sl 1 (s_.right.c0.map (slv 1 (V.int .i64)))], .rp [.int .i64 s_.right.c1], .rp [.sl 1 (s_.right.c2.map (V.int .i64))]], .int .i64 s_.budget, .os 13 s_.some_.length])), (13, some (.row 2 1 (s_.some_.map (V.int .i64))))] (.bool (m_impl_setSearch_extend_n fuel s_ from_ more).1) ([(100, some (.row 2 1 ((m_impl_setSearch_extend_n fuel s_ from_ more).2.some_.map (V.int .i64)))), (0, some (.box 91 [.sl 1 (s_.list.map (V.int .i64)), .clo 45 [.rp [.sl 1 (s_.right.c0.map (slv 1 (V.int .i64)))], .rp [.int .i64 s_.right.c1], .rp [.sl 1 (s_.right.c2.map (V.int .i64))]], .int .i64 (m_impl_setSearch_extend_n fuel s_ from_ more).2.budget, .os 100 (m_impl_setSearch_extend_n fuel s_ from_ more).2.some_.length]))]) := by
  intro fuel
  induction fuel with
  | zero => intro s_ from_ more hp1 hp2 hp3 hp4 hp5 hmu; exact absurd hmu (Nat.not_lt_zero _)
  | succ fuel ih =>
  intro s_ from_ more hp1 hp2 hp3 hp4 hp5 hmu
  simp only [m_impl_setSearch_extend_n]
  have hself := post_impl_setSearch_extend fuel
  generalize m_impl_setSearch_extend_n fuel = self_ at ih hself ⊢
  refine con_intro (out := fun r : Bool × AA => ((.bool r.1 : V), ([(100, some (.row 2 1 (r.2.some_.map (V.int .i64)))), (0, some (.box 91 [.sl 1 (s_.list.map (V.int .i64)), .clo 45 [.rp [.sl 1 (s_.right.c0.map (slv 1 (V.int .i64)))], .rp [.int .i64 s_.right.c1], .rp [.sl 1 (s_.right.c2.map (V.int .i64))]], .int .i64 r.2.budget, .os 100 r.2.some_.length]))] : List (Nat × Option O)))) (r := (m_impl_setSearch_extend_body self_ s_ from_ more)) Tryz.func87 rfl Tryz.ntmps87 rfl ?_
  have hL := hp1.len
  refine C1 (s' := ⟨[(0, some (true, .op 0 0 0 0)), (1, some (true, .int .i64 from_)), (2, some (true, .int .i64 more))], [(0, some (.box 91 [.sl 1 (s_.list.map (V.int .i64)), .clo 45 [.rp [.sl 1 (s_.right.c0.map (slv 1 (V.int .i64)))], .rp [.int .i64 s_.right.c1], .rp [.sl 1 (s_.right.c2.map (V.int .i64))]], .int .i64 s_.budget, .os 200 s_.some_.length])), (200, some (.row 2 1 (s_.some_.map (V.int .i64))))]⟩) (sub_of [(200, 13)] ⟨rfl, rfl, rfl, trivial⟩ ⟨rfl, rfl, trivial⟩ rfl) ?_
  refine run_factH (l := 200) rfl fun hl => ?_
  have l1 := hl; clear hl; simp only [List.length_map] at l1
  refine Af ?_
  refine Ad (Ah .n (.c rfl) rfl <| Lex.nil) ?_
  refine Af ?_
  refine Af ?_
  refine Ad (Ag .n (.t rfl) rfl <| AF .n (.t rfl) (.c rfl) rfl rfl <| Lex.nil) ?_
  refine Aq (.t rfl) rfl (fun h2 => ?_) (fun h2 => ?_)
  · try simp only [tst] at h2
    refine Af ?_
    refine Ad (Ag .n (.t rfl) rfl <| BD .n (.t rfl) rfl <| AE .n (.t rfl) fo_91_2 rfl <| AP .n (.t rfl) rfl (.inr rfl) (fun _ => rfl) rfl ic_2 rfl <| AF .n (.t rfl) (.c rfl) rfl rfl <| BD .n (.t rfl) rfl <| AE .n (.t rfl) fo_91_2 rfl <| AG [.sl 1 (s_.list.map (V.int .i64)), .clo 45 [.rp [.sl 1 (s_.right.c0.map (slv 1 (V.int .i64)))], .rp [.int .i64 s_.right.c1], .rp [.sl 1 (s_.right.c2.map (V.int .i64))]], .int .i64 (IntKind.wrap .i64 (s_.budget - 1)), .os 200 s_.some_.length] .n rfl (.t rfl) (.t rfl) rfl ts_2 rfl rfl <| Lex.nil) ?_
    refine Af ?_
    refine Bk fmo (Ag .n (.t rfl) rfl <| BD .n (.t rfl) rfl <| AE .n (.t rfl) fo_91_2 rfl <| AP .n (.t rfl) rfl (.inr rfl) (fun _ => rfl) rfl ic_2 rfl <| AF .n (.t rfl) (.c rfl) rfl rfl <| Ag .n (.t rfl) rfl <| Ag (.t rfl rfl) (.t rfl) rfl <| BD (.t rfl rfl) (.u rfl id) rfl <| AE (.t rfl rfl) (.u rfl id) fo_91_1 rfl <| AP (.t rfl rfl) (.u rfl id) rfl (.inr rfl) (fun _ => rfl) rfl ic_89 rfl <| Ag (.t rfl rfl) (.t rfl) rfl <| BD (.t rfl rfl) (.u rfl id) rfl <| AE (.t rfl rfl) (.u rfl id) fo_91_3 rfl <| AP (.t rfl rfl) (.u rfl id) rfl (.inr rfl) (fun _ => rfl) rfl ic_27 rfl <| AJ (full := true) (.t rfl rfl) (.c (.u rfl id)) en_45 (.cons (.u rfl id) .nil) (.cons (.b (.a (.own rfl rfl rfl (take_all (by simp only [len_map, put_len] <;> rfl)) (by simp only [len_map, put_len] <;> rfl)))) (.cons (.b (.a (.same rfl))) (.cons (.b (.a (.same rfl))) (.cons (.b (.a (.same rfl))) .nil)))) (fun hg => c_impl_FewestRefuges_1 s_.some_ s_.right.c0 s_.right.c1 s_.right.c2 (by simp only [tst] at hg; (exact env_rows hp1.env)) (by simp only [tst] at hg; (exact env_some hp1)) (by simp only [tst] at hg; (exact env_jun hp1.env))) rfl (fun _ => rfl) rfl <| B4 .n (.t rfl) (.u rfl id) rfl <| Ah .n (.t rfl) rfl <| Lex.nil) (by kernel_rfl) ?_
    exact Au [(100, 200)] (.cons (.t rfl rfl) .nil) rfl ⟨rfl, rfl, trivial⟩ rfl
  · try simp only [tst] at h2
    refine As ?_
    refine Af ?_
    refine Af ?_
    refine Ad (Ag .n (.t rfl) rfl <| Ah .n (.t rfl) rfl <| Lex.nil) ?_
    refine Aw ?_
    refine Bp (B5 self_ s_ from_ more) _ _ _ rfl (fun (x1 : Int × (List Int) × Int) => from_ ≤ x1.2.2 ∧ (from_ ≤ x1.2.2 ∧ x1.2.2 ≤ s_.list.length) ∧ x1.2.1 = s_.some_ ∧ (0 ≤ x1.1 ∧ x1.1 ≤ 20000)) (fun x1 => from_ ≤ x1.2.2 ∧ (from_ ≤ x1.2.2 ∧ x1.2.2 ≤ s_.list.length) ∧ x1.2.1 = s_.some_ ∧ (0 ≤ x1.1 ∧ x1.1 ≤ 20000)) (fun x1 => ((s_.list.length : Int) - x1.2.2).toNat) (fun x1 => ⟨[(0, some (true, .op 0 0 0 0)), (2, some (true, .int .i64 more)), (7, some (true, .int .i64 x1.2.2))], [(0, some (.box 91 [.sl 1 (s_.list.map (V.int .i64)), .clo 45 [.rp [.sl 1 (s_.right.c0.map (slv 1 (V.int .i64)))], .rp [.int .i64 s_.right.c1], .rp [.sl 1 (s_.right.c2.map (V.int .i64))]], .int .i64 x1.1, .os 200 x1.2.1.length])), (200, some (.row 2 1 (x1.2.1.map (V.int .i64))))]⟩) (fun x1 => ⟨[], [(0, some (.box 91 [.sl 1 (s_.list.map (V.int .i64)), .clo 45 [.rp [.sl 1 (s_.right.c0.map (slv 1 (V.int .i64)))], .rp [.int .i64 s_.right.c1], .rp [.sl 1 (s_.right.c2.map (V.int .i64))]], .int .i64 x1.1, .os 200 x1.2.1.length])), (200, some (.row 2 1 (x1.2.1.map (V.int .i64))))]⟩) ⟨by (simp only [lens] at * <;> omega), by (simp only [lens] at * <;> omega), by (simp only [lens] at * <;> omega), by omega⟩ (by (simp only [lens] at * <;> omega)) (sub_of [] ⟨rfl, rfl, rfl, trivial⟩ ⟨rfl, rfl, trivial⟩ rfl) ?_ ?_
    · intro x1 i9
      obtain ⟨e10, e11, e12, e13⟩ := i9
      try dsimp only at *
      refine Af ?_
      refine Ad (Ah .n (.c rfl) rfl <| Lex.nil) ?_
      exact Au [(100, 200)] (.cons (.t rfl rfl) .nil) rfl ⟨rfl, rfl, trivial⟩ rfl
    · intro rec1 k1 hk3 x1 i4
      obtain ⟨e14, e15, e16, e17⟩ := i4
      try dsimp only at *
      refine Af ?_
      refine Af ?_
      refine Ad (Ag .n (.t rfl) rfl <| Ag .n (.t rfl) rfl <| AF .n (.t rfl) (.t rfl) rfl rfl <| Ag .n (.t rfl) rfl <| BD .n (.t rfl) rfl <| AE .n (.t rfl) fo_91_0 rfl <| AP .n (.t rfl) rfl (.inr rfl) (fun _ => rfl) rfl ic_27 rfl <| BS .n (.t rfl) rfl len_map ss_27 rfl <| AF .n (.t rfl) (.t rfl) rfl rfl <| Lex.nil) ?_
      refine Br (t := 40) rfl fun hl => ?_
      have l5 := hl; clear hl; simp only [List.length_map] at l5
      refine Aq (.t rfl) rfl (fun h6 => ?_) (fun h6 => ?_)
      · try simp only [tst] at h6
        refine As ?_
        refine Af ?_
        refine Aw ?_
        refine Af ?_
        refine Bk fmo (Ag .n (.t rfl) rfl <| Ag .n (.t rfl) rfl <| BD .n (.t rfl) rfl <| AE .n (.t rfl) fo_91_3 rfl <| AP .n (.t rfl) rfl (.inr rfl) (fun _ => rfl) rfl ic_27 rfl <| Ag .n (.t rfl) rfl <| BD .n (.t rfl) rfl <| AE .n (.t rfl) fo_91_0 rfl <| AP .n (.t rfl) rfl (.inr rfl) (fun _ => rfl) rfl ic_27 rfl <| Ag .n (.t rfl) rfl <| A8 .n (.t rfl) (.t rfl) sl_27 (fun _ => by ((have hw := wr64 (n := x1.2.2 + more) (by omega); have hw1 := wr64 (n := more - 1) (by omega); have hs := (show x1.2.1 = s_.some_ by assumption); (try dsimp only); (try simp only [List.length_append, List.length_cons, List.length_nil, hs]); omega))) rfl <| Ap .n (.t rfl) rfl ic_2 rfl <| AV ([at' s_.list x1.2.2] : List Int) (f := V.int .i64) (l := 201) .n rfl rfl (.cons (.t rfl) .nil) rfl si_27 zv_2 rfl rfl rfl <| CX (xs := x1.2.1) (ys := ([at' s_.list x1.2.2] : List Int)) (f := V.int .i64) (l := 202) .n rfl (.ow (.t rfl) rfl (take_all (by simp only [len_map, put_len] <;> rfl)) (by simp only [len_map, put_len] <;> rfl)) (.ow (.t rfl) rfl (take_all (by simp only [len_map, put_len] <;> rfl)) (by simp only [len_map, put_len] <;> rfl)) si_27 zv_2 rfl (by ((have hw := wr64 (n := x1.2.2 + more) (by omega); have hw1 := wr64 (n := more - 1) (by omega); have hs := (show x1.2.1 = s_.some_ by assumption); (try dsimp only); (try simp only [List.length_append, List.length_cons, List.length_nil, hs]); omega))) rfl rfl <| BD .n (.t rfl) rfl <| AE .n (.t rfl) fo_91_3 rfl <| AG [.sl 1 (s_.list.map (V.int .i64)), .clo 45 [.rp [.sl 1 (s_.right.c0.map (slv 1 (V.int .i64)))], .rp [.int .i64 s_.right.c1], .rp [.sl 1 (s_.right.c2.map (V.int .i64))]], .int .i64 x1.1, .os 202 (x1.2.1 ++ ([at' s_.list x1.2.2] : List Int)).length] .n rfl (.t rfl) (.t rfl) rfl ts_27 rfl rfl <| Lex.nil) (by kernel_rfl) ?_
        refine Af ?_
        refine Af ?_
        refine Ad (Ag .n (.t rfl) rfl <| Ag .n (.t rfl) rfl <| BM .n (.t rfl) (.c rfl) (fun _ => by omega) rfl <| Ag .n (.t rfl) rfl <| AF .n (.t rfl) (.c rfl) rfl rfl <| AW (full := false) [(0, 0), (13, 202)] [(100, 203)] .n rfl .f en_87 (.cons (.t rfl) (.cons (.t rfl) (.cons (.t rfl) .nil))) (.cons (.b (.mutp rfl)) (.cons (.b (.a (.same rfl))) (.cons (.b (.a (.same rfl))) .nil))) (ih (AA.mk s_.list s_.right x1.1 (x1.2.1 ++ ([at' s_.list x1.2.2] : List Int))) (x1.2.2 + 1) (IntKind.wrap .i64 (more - 1)) (by ((have hw := wr64 (n := x1.2.2 + more) (by omega); have hw1 := wr64 (n := more - 1) (by omega); have hs := (show x1.2.1 = s_.some_ by assumption); rw [hs]; exact hp1.push (by omega)))) (by ((have hw := wr64 (n := x1.2.2 + more) (by omega); have hw1 := wr64 (n := more - 1) (by omega); have hs := (show x1.2.1 = s_.some_ by assumption); (try dsimp only); (try simp only [List.length_append, List.length_cons, List.length_nil, hs]); omega))) (by ((have hw := wr64 (n := x1.2.2 + more) (by omega); have hw1 := wr64 (n := more - 1) (by omega); have hs := (show x1.2.1 = s_.some_ by assumption); (try dsimp only); (try simp only [List.length_append, List.length_cons, List.length_nil, hs]); omega))) (by omega) (by ((have hw := wr64 (n := x1.2.2 + more) (by omega); have hw1 := wr64 (n := more - 1) (by omega); have hs := (show x1.2.1 = s_.some_ by assumption); (try dsimp only); (try simp only [List.length_append, List.length_cons, List.length_nil, hs]); omega))) (by ((have hw := wr64 (n := x1.2.2 + more) (by omega); have hw1 := wr64 (n := more - 1) (by omega); have hs := (show x1.2.1 = s_.some_ by assumption); (try dsimp only); (try simp only [List.length_append, List.length_cons, List.length_nil, hs]); omega)))) ⟨rfl, rfl, trivial⟩ rfl rfl (fun h => Bool.noConfusion h) (fun h => Bool.noConfusion h) rfl <| Lex.nil) ?_
        refine Aq (.t rfl) rfl (fun h7 => ?_) (fun h7 => ?_)
        · try simp only [tst] at h7
          refine Af ?_
          refine Ad (Ah .n (.c rfl) rfl <| Lex.nil) ?_
          exact Au [(100, 203)] (.cons (.t rfl rfl) .nil) rfl ⟨rfl, rfl, trivial⟩ rfl
        · try simp only [tst] at h7
          refine As ?_
          refine Af ?_
          refine Bk fmo (Ag .n (.t rfl) rfl <| Ag .n (.t rfl) rfl <| BD .n (.t rfl) rfl <| AE .n (.t rfl) fo_91_3 rfl <| AP .n (.t rfl) rfl (.inr rfl) (fun _ => rfl) rfl ic_27 rfl <| Ag .n (.t rfl) rfl <| BD .n (.t rfl) rfl <| AE .n (.t rfl) fo_91_3 rfl <| AP .n (.t rfl) rfl (.inr rfl) (fun _ => rfl) rfl ic_27 rfl <| BS .n (.t rfl) rfl rfl ss_27 rfl <| AF .n (.t rfl) (.c rfl) rfl rfl <| q_cut_owm (xs := (self_ (AA.mk s_.list s_.right x1.1 (x1.2.1 ++ ([at' s_.list x1.2.2] : List Int))) (x1.2.2 + 1) (IntKind.wrap .i64 (more - 1))).2.some_) (b := (IntKind.wrap .i64 (((self_ (AA.mk s_.list s_.right x1.1 (x1.2.1 ++ ([at' s_.list x1.2.2] : List Int))) (x1.2.2 + 1) (IntKind.wrap .i64 (more - 1))).2.some_.length : Int) - 1))) .n (.t rfl) (.s (.t rfl)) sl_27 (fun _ => by ((have hw := wr64 (n := x1.2.2 + more) (by omega); have hw1 := wr64 (n := more - 1) (by omega); have hs := (show x1.2.1 = s_.some_ by assumption); have hq := ext_some (s := s_) (so := x1.2.1) (b := x1.1) (i := x1.2.2) (more := more) hself hp1 (by omega) (by omega) (by omega) (by omega) (by assumption) (by omega); obtain ⟨q1, q2⟩ := hq; have q3 := (q2 (by assumption)).1; rw [q3]; simp only [List.length_append, List.length_cons, List.length_nil, hs]; rw [wr64 (by omega)]; omega))) rfl <| BD .n (.t rfl) rfl <| AE .n (.t rfl) fo_91_3 rfl <| AG [.sl 1 (s_.list.map (V.int .i64)), .clo 45 [.rp [.sl 1 (s_.right.c0.map (slv 1 (V.int .i64)))], .rp [.int .i64 s_.right.c1], .rp [.sl 1 (s_.right.c2.map (V.int .i64))]], .int .i64 (self_ (AA.mk s_.list s_.right x1.1 (x1.2.1 ++ ([at' s_.list x1.2.2] : List Int))) (x1.2.2 + 1) (IntKind.wrap .i64 (more - 1))).2.budget, .os 203 (pre' (self_ (AA.mk s_.list s_.right x1.1 (x1.2.1 ++ ([at' s_.list x1.2.2] : List Int))) (x1.2.2 + 1) (IntKind.wrap .i64 (more - 1))).2.some_ (IntKind.wrap .i64 (((self_ (AA.mk s_.list s_.right x1.1 (x1.2.1 ++ ([at' s_.list x1.2.2] : List Int))) (x1.2.2 + 1) (IntKind.wrap .i64 (more - 1))).2.some_.length : Int) - 1))).length] .n rfl (.t rfl) (.t rfl) rfl ts_27 rfl rfl <| Lex.nil) (by kernel_rfl) ?_
          refine run_shrink (f := V.int .i64) (xs := (self_ (AA.mk s_.list s_.right x1.1 (x1.2.1 ++ ([at' s_.list x1.2.2] : List Int))) (x1.2.2 + 1) (IntKind.wrap .i64 (more - 1))).2.some_) (l := 203) (IntKind.wrap .i64 (((self_ (AA.mk s_.list s_.right x1.1 (x1.2.1 ++ ([at' s_.list x1.2.2] : List Int))) (x1.2.2 + 1) (IntKind.wrap .i64 (more - 1))).2.some_.length : Int) - 1)) rfl ?_
          refine Af ?_
          refine Ad (Ag .n (.t rfl) rfl <| BD .n (.t rfl) rfl <| AE .n (.t rfl) fo_91_2 rfl <| AP .n (.t rfl) rfl (.inr rfl) (fun _ => rfl) rfl ic_2 rfl <| AF .n (.t rfl) (.c rfl) rfl rfl <| Lex.nil) ?_
          refine Aq (.t rfl) rfl (fun h8 => ?_) (fun h8 => ?_)
          · try simp only [tst] at h8
            refine Af ?_
            refine Ad (Ah .n (.c rfl) rfl <| Lex.nil) ?_
            exact Au [(100, 203)] (.cons (.t rfl rfl) .nil) rfl ⟨rfl, rfl, trivial⟩ rfl
          · try simp only [tst] at h8
            refine As ?_
            refine AK ?_
            refine Ad (Ag .n (.t rfl) rfl <| BM .n (.t rfl) (.c rfl) (fun _ => by omega) rfl <| Ah .n (.t rfl) rfl <| Lex.nil) ?_
            exact A5 ((self_ (AA.mk s_.list s_.right x1.1 (x1.2.1 ++ ([at' s_.list x1.2.2] : List Int))) (x1.2.2 + 1) (IntKind.wrap .i64 (more - 1))).2.budget, pre' (self_ (AA.mk s_.list s_.right x1.1 (x1.2.1 ++ ([at' s_.list x1.2.2] : List Int))) (x1.2.2 + 1) (IntKind.wrap .i64 (more - 1))).2.some_ (IntKind.wrap .i64 (((self_ (AA.mk s_.list s_.right x1.1 (x1.2.1 ++ ([at' s_.list x1.2.2] : List Int))) (x1.2.2 + 1) (IntKind.wrap .i64 (more - 1))).2.some_.length : Int) - 1)), x1.2.2 + 1) ⟨by (simp only [lens] at * <;> omega), by ((have hw := wr64 (n := x1.2.2 + more) (by omega); have hw1 := wr64 (n := more - 1) (by omega); have hs := (show x1.2.1 = s_.some_ by assumption); (try dsimp only); (try simp only [List.length_append, List.length_cons, List.length_nil, hs]); omega)), by ((have hq := ext_some (s := s_) (so := x1.2.1) (b := x1.1) (i := x1.2.2) (more := more) hself hp1 (by omega) (by omega) (by omega) (by omega) (by assumption) (by omega); obtain ⟨q1, q2⟩ := hq; (try dsimp only); exact (q2 (by assumption)).2)), by ((have hq := ext_some (s := s_) (so := x1.2.1) (b := x1.1) (i := x1.2.2) (more := more) hself hp1 (by omega) (by omega) (by omega) (by omega) (by assumption) (by omega); obtain ⟨q1, q2⟩ := hq; (try dsimp only); omega))⟩ (by ((have hw := wr64 (n := x1.2.2 + more) (by omega); have hw1 := wr64 (n := more - 1) (by omega); have hs := (show x1.2.1 = s_.some_ by assumption); (try dsimp only); (try simp only [List.length_append, List.length_cons, List.length_nil, hs]); omega))) (sub_of [(200, 203)] ⟨rfl, rfl, rfl, trivial⟩ ⟨rfl, rfl, trivial⟩ rfl)
      · try simp only [tst] at h6
        refine Bb rfl ?_
        exact AY hk3 (x1.1, x1.2.1, x1.2.2) ⟨by omega, by omega, by omega, by omega⟩ (sub_of [] trivial ⟨rfl, rfl, trivial⟩ rfl)
theorem c_impl_setSearch_extend (s_ : AA) (from_ : Int) (more : Int) (hp1 : SetOk s_) (hp2 : 0 ≤ from_ ∧ from_ ≤ s_.list.length) (hp3 : 0 ≤ more ∧ more ≤ 17) (hp4 : 0 ≤ s_.budget ∧ s_.budget ≤ 20000) (hp5 : (s_.some_.length : Int) + more ≤ 40) : Con Tryz.prog 87 [.op 0 0 0 0, .int .i64 from_, .int .i64 more] [(0, some (.box 91 [.sl 1 (s_.list.map (V.int .i64)), .clo 45 [.rp [.sl 1 (s_.right.c0.map (slv 1 (V.int .i64)))], .rp [.int .i64 s_.right.c1], .rp [.sl 1 (s_.right.c2.map (V.int .i64))]], .int .i64 s_.budget, .os 13 s_.some_.length])), (13, some (.row 2 1 (s_.some_.map (V.int .i64))))] (.bool (A3 s_ from_ more).1) ([(100, some (.row 2 1 ((A3 s_ from_ more).2.some_.map (V.int .i64)))), (0, some (.box 91 [.sl 1 (s_.list.map (V.int .i64)), .clo 45 [.rp [.sl 1 (s_.right.c0.map (slv 1 (V.int .i64)))], .rp [.int .i64 s_.right.c1], .rp [.sl 1 (s_.right.c2.map (V.int .i64))]], .int .i64 (A3 s_ from_ more).2.budget, .os 100 (A3 s_ from_ more).2.some_.length]))]) := by
  exact c_impl_setSearch_extend_n (more.toNat + 1) s_ from_ more hp1 hp2 hp3 hp4 hp5 (by omega)


/-! ### impl_setSearch_first -/
set_option maxRecDepth 100000 in
set_option maxHeartbeats 4000000 in
theorem c_impl_setSearch_first (s_ : AA) (hp1 : SetOk s_) (hp2 : 0 ≤ s_.budget ∧ s_.budget ≤ 20000) (hp3 : s_.some_ = []) : Con Tryz.prog 49 [.op 0 0 0 0] [(0, some (.box 91 [.sl 1 (s_.list.map (V.int .i64)), .clo 45 [.rp [.sl 1 (s_.right.c0.map (slv 1 (V.int .i64)))], .rp [.int .i64 s_.right.c1], .rp [.sl 1 (s_.right.c2.map (V.int .i64))]], .int .i64 s_.budget, .os 13 s_.some_.length])), (13, some (.row 2 1 (s_.some_.map (V.int .i64))))] (.tup [.os 100 (BA s_).1.length, .int .i64 (BA s_).2]) ([(100, some (.row 2 1 ((BA s_).1.map (V.int .i64))))]) := by
  refine con_intro (out := fun r : (List Int) × Int => ((.tup [.os 100 r.1.length, .int .i64 r.2] : V), ([(100, some (.row 2 1 (r.1.map (V.int .i64))))] : List (Nat × Option O)))) (r := (BA s_)) Tryz.func49 rfl Tryz.ntmps49 rfl ?_
  have hL := hp1.len
  refine C1 (s' := ⟨[(0, some (true, .op 0 0 0 0))], [(0, some (.box 91 [.sl 1 (s_.list.map (V.int .i64)), .clo 45 [.rp [.sl 1 (s_.right.c0.map (slv 1 (V.int .i64)))], .rp [.int .i64 s_.right.c1], .rp [.sl 1 (s_.right.c2.map (V.int .i64))]], .int .i64 s_.budget, .os 200 s_.some_.length])), (200, some (.row 2 1 (s_.some_.map (V.int .i64))))]⟩) (sub_of [(200, 13)] ⟨rfl, trivial⟩ ⟨rfl, rfl, trivial⟩ rfl) ?_
  refine run_factH (l := 200) rfl fun hl => ?_
  have l1 := hl; clear hl; simp only [List.length_map] at l1
  refine Af ?_
  refine Ad (Ah .n (.c rfl) rfl <| Ah .n (.c rfl) rfl <| Lex.nil) ?_
  refine Af ?_
  refine Af ?_
  refine Ad (Ag .n (.t rfl) rfl <| BD .n (.t rfl) rfl <| AE .n (.t rfl) fo_91_0 rfl <| AP .n (.t rfl) rfl (.inr rfl) (fun _ => rfl) rfl ic_27 rfl <| BS .n (.t rfl) rfl len_map ss_27 rfl <| BM .n (.t rfl) (.c rfl) (fun _ => by omega) rfl <| Ag .n (.c rfl) rfl <| Lex.nil) ?_
  refine Br (t := 8) rfl fun hl => ?_
  have l2 := hl; clear hl; simp only [List.length_map] at l2
  refine Aw ?_
  refine Bp (Cc s_) _ _ _ rfl (fun (x1 : Int × (List Int) × Int) => 0 ≤ x1.2.2 ∧ x1.2.2 ≤ ((s_.list.length : Int) + 1) ∧ x1.2.1 = s_.some_ ∧ (0 ≤ x1.1 ∧ x1.1 ≤ 20000)) (fun x1 => 0 ≤ x1.2.2 ∧ x1.2.2 ≤ ((s_.list.length : Int) + 1) ∧ x1.2.1 = s_.some_ ∧ (0 ≤ x1.1 ∧ x1.1 ≤ 20000) ∧ ((s_.list.length : Int) + 1) ≤ x1.2.2) (fun x1 => (((s_.list.length : Int) + 1) - x1.2.2 : Int).toNat) (fun x1 => ⟨[(0, some (true, .op 0 0 0 0)), (10, some (true, .int .i64 ((s_.list.length : Int) + 1))), (11, some (true, .int .i64 x1.2.2))], [(0, some (.box 91 [.sl 1 (s_.list.map (V.int .i64)), .clo 45 [.rp [.sl 1 (s_.right.c0.map (slv 1 (V.int .i64)))], .rp [.int .i64 s_.right.c1], .rp [.sl 1 (s_.right.c2.map (V.int .i64))]], .int .i64 x1.1, .os 200 x1.2.1.length])), (200, some (.row 2 1 (x1.2.1.map (V.int .i64))))]⟩) (fun x1 => ⟨[], [(0, some (.box 91 [.sl 1 (s_.list.map (V.int .i64)), .clo 45 [.rp [.sl 1 (s_.right.c0.map (slv 1 (V.int .i64)))], .rp [.int .i64 s_.right.c1], .rp [.sl 1 (s_.right.c2.map (V.int .i64))]], .int .i64 x1.1, .os 200 x1.2.1.length])), (200, some (.row 2 1 (x1.2.1.map (V.int .i64))))]⟩) ⟨by (simp only [lens] at * <;> omega), by (simp only [lens] at * <;> omega), by (simp only [lens] at * <;> omega), by omega⟩ (by (simp only [lens] at * <;> omega)) (sub_of [] ⟨rfl, rfl, rfl, trivial⟩ ⟨rfl, rfl, trivial⟩ rfl) ?_ ?_
  · intro x1 i8
    obtain ⟨e9, e10, e11, e12, e13⟩ := i8
    try dsimp only at *
    refine Af ?_
    refine Ad (Ah .n (.c rfl) rfl <| Ah .n (.c rfl) rfl <| Lex.nil) ?_
    refine C1 (sub_adopt (t := 2) (l := 203) (el := 2) (sz := 1) rfl rfl) ?_
    exact Au [(100, 203)] (.cons (.t rfl rfl) (.cons (.t rfl rfl) .nil)) (by first | rfl | (simp only [put_len]; rfl)) ⟨rfl, trivial⟩ rfl
  · intro rec1 k1 hk3 x1 i4
    obtain ⟨e14, e15, e16, e17⟩ := i4
    try dsimp only at *
    refine Af ?_
    refine Ad (AF .n (.t rfl) (.t rfl) rfl rfl <| Lex.nil) ?_
    refine Af ?_
    refine Aq (.t rfl) rfl (fun h5 => ?_) (fun h5 => ?_)
    · try simp only [tst] at h5
      refine As ?_
      refine Af ?_
      refine Aw ?_
      refine Af ?_
      refine Ad (Ag .n (.t rfl) rfl <| Ah .n (.t rfl) rfl <| Lex.nil) ?_
      refine Af ?_
      refine Af ?_
      refine Ad (Ag .n (.t rfl) rfl <| Ag .n (.t rfl) rfl <| AW (full := false) [(0, 0), (13, 200)] [(100, 201)] .n rfl .f en_87 (.cons (.t rfl) (.cons (.c rfl) (.cons (.t rfl) .nil))) (.cons (.b (.mutp rfl)) (.cons (.b (.a (.same rfl))) (.cons (.b (.a (.same rfl))) .nil))) (c_impl_setSearch_extend (AA.mk s_.list s_.right x1.1 x1.2.1) 0 x1.2.2 (by ((have hs := (show x1.2.1 = s_.some_ by assumption); rw [hs]; exact ⟨hp1.len, hp1.num, hp1.env, hp1.som⟩))) (by omega) (by omega) (by omega) (by ((have hs := (show x1.2.1 = s_.some_ by assumption); (try dsimp only); rw [hs, hp3]; simp only [List.length_nil]; omega)))) ⟨rfl, rfl, trivial⟩ rfl rfl (fun h => Bool.noConfusion h) (fun h => Bool.noConfusion h) rfl <| Lex.nil) ?_
      refine Aq (.t rfl) rfl (fun h6 => ?_) (fun h6 => ?_)
      · try simp only [tst] at h6
        refine Af ?_
        refine Ad (Ag .n (.t rfl) rfl <| BD .n (.t rfl) rfl <| AE .n (.t rfl) fo_91_3 rfl <| AP .n (.t rfl) rfl (.inr rfl) (fun _ => rfl) rfl ic_27 rfl <| Ah .n (.t rfl) rfl <| Ah .n (.c rfl) rfl <| Lex.nil) ?_
        exact Au [(100, 201)] (.cons (.t rfl rfl) (.cons (.t rfl rfl) .nil)) (by first | rfl | (simp only [put_len]; rfl)) ⟨rfl, trivial⟩ rfl
      · try simp only [tst] at h6
        refine As ?_
        refine Af ?_
        refine Ad (Ag .n (.t rfl) rfl <| BD .n (.t rfl) rfl <| AE .n (.t rfl) fo_91_2 rfl <| AP .n (.t rfl) rfl (.inr rfl) (fun _ => rfl) rfl ic_2 rfl <| AF .n (.t rfl) (.c rfl) rfl rfl <| Lex.nil) ?_
        refine Aq (.t rfl) rfl (fun h7 => ?_) (fun h7 => ?_)
        · try simp only [tst] at h7
          refine Af ?_
          refine Ad (Ah .n (.c rfl) rfl <| Ah .n (.c rfl) rfl <| Lex.nil) ?_
          refine C1 (sub_adopt (t := 2) (l := 202) (el := 2) (sz := 1) rfl rfl) ?_
          exact Au [(100, 202)] (.cons (.t rfl rfl) (.cons (.t rfl rfl) .nil)) (by first | rfl | (simp only [put_len]; rfl)) ⟨rfl, trivial⟩ rfl
        · try simp only [tst] at h7
          refine As ?_
          refine AK ?_
          refine Ad (BM .n (.t rfl) (.c rfl) (fun _ => by omega) rfl <| Ag .n (.t rfl) rfl <| Lex.nil) ?_
          exact A5 ((A3 (AA.mk s_.list s_.right x1.1 x1.2.1) 0 x1.2.2).2.budget, (A3 (AA.mk s_.list s_.right x1.1 x1.2.1) 0 x1.2.2).2.some_, x1.2.2 + 1) ⟨by (simp only [lens] at * <;> omega), by assumption, by (((try dsimp only); have hq := ext_fst (so := x1.2.1) (b := x1.1) (n := x1.2.2) hp1 hp3 (by assumption) (by omega) (by omega); first | exact hq.2 (by assumption) | omega)), by (((try dsimp only); have hq := ext_fst (so := x1.2.1) (b := x1.1) (n := x1.2.2) hp1 hp3 (by assumption) (by omega) (by omega); first | exact hq.2 (by assumption) | omega))⟩ (by (simp only [lens] at * <;> omega)) (sub_of [(200, 201)] ⟨rfl, rfl, rfl, trivial⟩ ⟨rfl, rfl, trivial⟩ rfl)
    · try simp only [tst] at h5
      refine Bb rfl ?_
      exact AY hk3 (x1.1, x1.2.1, x1.2.2) ⟨by omega, by omega, by omega, by omega, by omega⟩ (sub_of [] trivial ⟨rfl, rfl, trivial⟩ rfl)

/-! ### impl_FewestRefuges -/
set_option maxRecDepth 100000 in
set_option maxHeartbeats 4000000 in
theorem c_impl_FewestRefuges (m_ : AB) (speed : Int) (limit : Int) (budget : Int) : Con Tryz.prog 13 [.st [.int .i64 m_.Junctions, .sl 7 (m_.Airways.map Ar.v)], .int .i64 speed, .int .i64 limit, .int .i64 budget] [] (.tup [.os 100 (Ao m_ speed limit budget).1.length, .int .i64 (Ao m_ speed limit budget).2]) ([(100, some (.row 2 1 ((Ao m_ speed limit budget).1.map (V.int .i64))))]) := by
  refine ConG.con ?_ rfl (hr_row (fun _ => rfl) hr_nil)
  refine con_introG (out := fun r : (List Int) × Int => ((.tup [.os 100 r.1.length, .int .i64 r.2] : V), ([(100, some (.row 2 1 (r.1.map (V.int .i64))))] : List (Nat × Option O)))) (r := (Ao m_ speed limit budget)) Tryz.func13 rfl Tryz.ntmps13 rfl ?_
  refine Ch (t := 0) 1 rfl rfl fun hl => ?_
  have l1 := hl; clear hl; simp only [List.length_map] at l1
  refine Af ?_
  refine Ad (Du (l := 200) .n rfl (.t rfl) rfl rfl rfl rfl <| Du (l := 201) .n rfl (.t rfl) rfl rfl rfl rfl <| Ah .n (.c rfl) rfl <| Ah .n (.c rfl) rfl <| Lex.nil) ?_
  refine Af ?_
  refine Aw ?_
  refine Af ?_
  refine Ad (Ba .n (.t rfl) rfl (.inr rfl) ag_26 (fun _ => rfl) rfl rfl <| AJ (full := false) .n .f en_42 (.cons (.t rfl) .nil) (.cons (.sts rfl) .nil) (fun hg => c_impl_ValidMine m_) rfl (fun h => Bool.noConfusion h) rfl <| Cg .n (.t rfl) rfl <| Ah .n (.t rfl) rfl <| Lex.nil) ?_
  refine Aq (.t rfl) rfl (fun h2 => ?_) (fun h2 => ?_)
  · try simp only [tst] at h2
    try have hf0h2 := ValidMine_imp h2
    try have hf1h2 := ValidMine_imp h2.1
    try have hf2h2 := ValidMine_imp h2.2
    try have hf3h2 := ValidMine_imp h2.1.1
    try have hf4h2 := ValidMine_imp h2.1.2
    try have hf5h2 := ValidMine_imp h2.2.1
    try have hf6h2 := ValidMine_imp h2.2.2
    refine Af ?_
    refine Ad (Ah .n (.c rfl) rfl <| Ah .n (.c rfl) rfl <| Lex.nil) ?_
    refine C1 (sub_adopt (t := 8) (l := 202) (el := 2) (sz := 1) rfl rfl) ?_
    exact Au [(100, 202)] (.cons (.t rfl rfl) (.cons (.t rfl rfl) .nil)) (by first | rfl | (simp only [put_len]; rfl)) ⟨rfl, trivial⟩ rfl
  · try simp only [tst] at h2
    try have hf0h2 := ValidMine_imp h2
    try have hf1h2 := ValidMine_imp h2.1
    try have hf2h2 := ValidMine_imp h2.2
    try have hf3h2 := ValidMine_imp h2.1.1
    try have hf4h2 := ValidMine_imp h2.1.2
    try have hf5h2 := ValidMine_imp h2.2.1
    try have hf6h2 := ValidMine_imp h2.2.2
    refine Af ?_
    refine Ad (Ag .n (.t rfl) rfl <| AJ (full := false) .n .f en_37 (.cons (.t rfl) (.cons (.c rfl) (.cons (.c rfl) .nil))) (.cons (.b (.a (.same rfl))) (.cons (.b (.a (.same rfl))) (.cons (.b (.a (.same rfl))) .nil))) (fun hg => BC speed 10 300) rfl (fun h => Bool.noConfusion h) rfl <| Cg .n (.t rfl) rfl <| Ag .n (.t rfl) rfl <| AP (.f rfl rfl) (.t rfl) rfl (.inr rfl) (fun _ => rfl) rfl ic_2 rfl <| AF (.f rfl rfl) (.u rfl id) (.c rfl) rfl rfl <| q_or .n (.t rfl) (.u rfl id) rfl <| Ag .n (.t rfl) rfl <| Ag (.f rfl rfl) (.t rfl) rfl <| AJ (full := false) (.f rfl rfl) .f en_28 (.cons (.u rfl id) .nil) (.cons (.b (.a (.same rfl))) .nil) (fun hg => c_impl_budgetValid budget) rfl (fun h => Bool.noConfusion h) rfl <| Cg (.f rfl rfl) (.u rfl id) rfl <| q_or .n (.t rfl) (.u rfl id) rfl <| Ah .n (.t rfl) rfl <| Lex.nil) ?_
    refine Aq (.t rfl) rfl (fun h3 => ?_) (fun h3 => ?_)
    · try simp only [tst] at h3
      try have hf0h3 := within_imp h3
      try have hf1h3 := within_imp h3.1
      try have hf2h3 := within_imp h3.2
      try have hf3h3 := within_imp h3.1.1
      try have hf4h3 := within_imp h3.1.2
      try have hf5h3 := within_imp h3.2.1
      try have hf6h3 := within_imp h3.2.2
      try have hf7h3 := budget_imp h3
      try have hf8h3 := budget_imp h3.1
      try have hf9h3 := budget_imp h3.2
      try have hf10h3 := budget_imp h3.1.1
      try have hf11h3 := budget_imp h3.1.2
      try have hf12h3 := budget_imp h3.2.1
      try have hf13h3 := budget_imp h3.2.2
      refine Af ?_
      refine Ad (Ah .n (.c rfl) rfl <| Ah .n (.c rfl) rfl <| Lex.nil) ?_
      refine C1 (sub_adopt (t := 8) (l := 203) (el := 2) (sz := 1) rfl rfl) ?_
      exact Au [(100, 203)] (.cons (.t rfl rfl) (.cons (.t rfl rfl) .nil)) (by first | rfl | (simp only [put_len]; rfl)) ⟨rfl, trivial⟩ rfl
    · try simp only [tst] at h3
      try have hf0h3 := within_imp h3
      try have hf1h3 := within_imp h3.1
      try have hf2h3 := within_imp h3.2
      try have hf3h3 := within_imp h3.1.1
      try have hf4h3 := within_imp h3.1.2
      try have hf5h3 := within_imp h3.2.1
      try have hf6h3 := within_imp h3.2.2
      try have hf7h3 := budget_imp h3
      try have hf8h3 := budget_imp h3.1
      try have hf9h3 := budget_imp h3.2
      try have hf10h3 := budget_imp h3.1.1
      try have hf11h3 := budget_imp h3.1.2
      try have hf12h3 := budget_imp h3.2.1
      try have hf13h3 := budget_imp h3.2.2
      refine As ?_
      refine AK ?_
      refine Af ?_
      refine Ad (BE (l := 204) .n rfl zv_27 rfl rfl <| Lex.nil) ?_
      refine Af ?_
      refine Ad (BE (l := 205) .n rfl zv_71 rfl rfl <| Lex.nil) ?_
      refine Af ?_
      refine Af ?_
      refine Ad (AE .n (.t rfl) fo_26_0 rfl <| AP .n (.t rfl) rfl (.inr rfl) (fun _ => rfl) rfl ic_2 rfl <| Ag .n (.c rfl) rfl <| Lex.nil) ?_
      refine Aw ?_
      refine C1 (sub_adoptb (b := 204) (l := 206) (el := 2) (sz := 1) 0 rfl rfl rfl rfl) ?_
      refine C1 (sub_adoptb (b := 205) (l := 207) (el := 27) (sz := 1) 0 rfl rfl rfl rfl) ?_
      refine Dw (Cr m_ speed limit budget) _ _ _ rfl (fun (x1 : (List Int) × (List (List Int)) × Int) => 0 ≤ x1.2.2 ∧ x1.2.2 ≤ m_.Junctions ∧ (x1.1.length : Int) + 0 ≤ x1.2.2 + (K_5.length : Int) ∧ (x1.2.1.length : Int) + 0 ≤ x1.2.2 + (([] : List (List Int)).length : Int) ∧ Made m_ speed x1.2.2 x1.1 x1.2.1) (fun x1 => 0 ≤ x1.2.2 ∧ x1.2.2 ≤ m_.Junctions ∧ (x1.1.length : Int) + 0 ≤ x1.2.2 + (K_5.length : Int) ∧ (x1.2.1.length : Int) + 0 ≤ x1.2.2 + (([] : List (List Int)).length : Int) ∧ Made m_ speed x1.2.2 x1.1 x1.2.1 ∧ m_.Junctions ≤ x1.2.2) (fun x1 => (m_.Junctions - x1.2.2 : Int).toNat) (fun x1 => ⟨[(1, some (true, .int .i64 speed)), (3, some (true, .int .i64 budget)), (4, some (true, .op 200 0 0 0)), (6, some (true, .op 201 0 0 0)), (10, some (true, .op 204 0 0 0)), (11, some (true, .op 205 0 0 0)), (32, some (true, .int .i64 m_.Junctions)), (33, some (true, .int .i64 x1.2.2))], [(200, some (.box 26 [.int .i64 m_.Junctions, .sl 7 (m_.Airways.map Ar.v)])), (201, some (.box 2 [.int .i64 limit])), (204, some (.box 27 [.os 206 x1.1.length])), (205, some (.box 71 [.os 207 x1.2.1.length])), (206, some (.row 2 1 (x1.1.map (V.int .i64)))), (207, some (.row 27 1 (x1.2.1.map (slv 1 (V.int .i64)))))]⟩) (fun x1 => ⟨[(3, some (true, .int .i64 budget)), (6, some (true, .op 201 0 0 0)), (10, some (true, .op 204 0 0 0)), (11, some (true, .op 205 0 0 0))], [(201, some (.box 2 [.int .i64 limit])), (204, some (.box 27 [.os 206 x1.1.length])), (205, some (.box 71 [.os 207 x1.2.1.length])), (206, some (.row 2 1 (x1.1.map (V.int .i64)))), (207, some (.row 27 1 (x1.2.1.map (slv 1 (V.int .i64)))))]⟩) ⟨by (simp only [lens] at * <;> omega), by ((have hJ := (by assumption : MineIn m_).1; (try dsimp only); omega)), by (simp only [lens] at * <;> omega), by (simp only [lens] at * <;> omega), by (exact Made.start m_ speed)⟩ (by (simp only [lens] at * <;> omega)) (sub_of [] ⟨rfl, rfl, rfl, rfl, rfl, rfl, rfl, rfl, trivial⟩ ⟨rfl, rfl, rfl, rfl, rfl, rfl, trivial⟩ rfl) rfl ?_ ?_
      · intro x1 i7
        obtain ⟨e8, e9, e10, e11, e12, e13⟩ := i7
        try dsimp only at *
        refine Af ?_
        refine run_freezeC (l := 204) (lb := 206) 0 rfl rfl rfl rfl (take_all (by simp only [len_map, put_len] <;> rfl)) (by simp only [len_map, put_len] <;> rfl) rfl ?_
        refine run_freezeB (t := 10) rfl rfl rfl rfl ?_
        refine run_freezeC (l := 205) (lb := 207) 0 rfl rfl rfl rfl (take_all (by simp only [len_map, put_len] <;> rfl)) (by simp only [len_map, put_len] <;> rfl) rfl ?_
        refine run_freezeB (t := 11) rfl rfl rfl rfl ?_
        refine run_freezeB (t := 6) rfl rfl rfl rfl ?_
        refine Ad (Ap .n (.t rfl) rfl ic_27 rfl <| Ag .n (.t rfl) rfl <| Dv (us := [.sl 1 (x1.1.map (V.int .i64)), .any, .int .i64 budget, .nls]) .n (.cons (.t rfl) (.cons (.t rfl) .nil)) zv_91 pl_91 rfl rfl rfl <| BE (l := 212) .n rfl zv_91 rfl rfl <| AG [.sl 1 (x1.1.map (V.int .i64)), .any, .int .i64 budget, .nls] .n rfl (.t rfl) (.t rfl) rfl ts_91 rfl rfl <| Lex.nil) ?_
        refine Af ?_
        refine Ad (q_clo .n (.cons (.t rfl) (.cons (.t rfl) (.cons (.t rfl) .nil))) rfl rfl <| AE .n (.t rfl) fo_91_1 rfl <| AG [.sl 1 (x1.1.map (V.int .i64)), .clo 45 [.rp [.sl 1 (x1.2.1.map (slv 1 (V.int .i64)))], .rp [.int .i64 limit], .rp [.sl 1 (x1.1.map (V.int .i64))]], .int .i64 budget, .nls] .n rfl (.t rfl) (.t rfl) rfl ts_89 rfl rfl <| Lex.nil) ?_
        refine Af ?_
        refine C1 (sub_adoptb (b := 212) (l := 213) (el := 2) (sz := 1) 3 rfl rfl rfl rfl) ?_
        refine Ad (AW (full := false) [(0, 212), (13, 213)] [(100, 214)] .n rfl .f en_49 (.cons (.t rfl) .nil) (.cons (.b (.mutp rfl)) .nil) (c_impl_setSearch_first (AA.mk x1.1 (gEnv45.mk x1.2.1 limit x1.1) budget K_5) (by (exact Made.ok' (n := x1.2.2) (by assumption) (by assumption) (by omega) (by assumption))) (by (simp only [lens] at * <;> omega)) (by (simp only [lens] at * <;> omega))) ⟨rfl, rfl, trivial⟩ rfl rfl (fun h => Bool.noConfusion h) (fun h => Bool.noConfusion h) rfl <| C9 .n (.t rfl) rfl rfl rfl <| C9 .n (.t rfl) rfl rfl rfl <| Ah .n (.t rfl) rfl <| Ah .n (.t rfl) rfl <| Lex.nil) ?_
        exact Au [(100, 214)] (.cons (.t rfl rfl) (.cons (.t rfl rfl) .nil)) (by first | rfl | (simp only [put_len]; rfl)) ⟨rfl, trivial⟩ rfl
      · intro rec1 k1 hk4 x1 i5
        obtain ⟨e14, e15, e16, e17, e18⟩ := i5
        try dsimp only at *
        refine Af ?_
        refine Ad (AF .n (.t rfl) (.t rfl) rfl rfl <| Lex.nil) ?_
        refine Af ?_
        refine Aq (.t rfl) rfl (fun h6 => ?_) (fun h6 => ?_)
        · try simp only [tst] at h6
          refine As ?_
          refine Af ?_
          refine Aw ?_
          refine Af ?_
          refine Ad (Ag .n (.t rfl) rfl <| Ah .n (.t rfl) rfl <| Lex.nil) ?_
          refine run_drawG fmo (Lex.appG (l1 := [_, _, _, _, _, _, _, _]) (AP .n (.t rfl) rfl (.inr rfl) (fun _ => rfl) rfl ic_27 rfl <| Ag .n (.t rfl) rfl <| AV ([x1.2.2] : List Int) (f := V.int .i64) (l := 208) .n rfl rfl (.cons (.t rfl) .nil) rfl si_27 zv_2 rfl rfl rfl <| CX (xs := x1.1) (ys := ([x1.2.2] : List Int)) (f := V.int .i64) (l := 209) .n rfl (.ow (.t rfl) rfl (take_all (by simp only [len_map, put_len] <;> rfl)) (by simp only [len_map, put_len] <;> rfl)) (.ow (.t rfl) rfl (take_all (by simp only [len_map, put_len] <;> rfl)) (by simp only [len_map, put_len] <;> rfl)) si_27 zv_2 rfl (by ((have hM : Made m_ speed x1.2.2 x1.1 x1.2.1 := (by assumption); have h1 := hM.l1; have h2 := hM.l2; have hJ := (by assumption : MineIn m_).1; (try simp only [List.length_append, List.length_cons, List.length_nil]); omega))) rfl rfl <| AP .n (.t rfl) rfl (.inr rfl) (fun _ => rfl) rfl ic_71 rfl <| Ba .n (.t rfl) rfl (.inr rfl) ag_26 (fun _ => rfl) rfl rfl <| Ag .n (.t rfl) rfl <| Ag .n (.t rfl) rfl <| Lex.nil) <| g_callG [] .f en_44 (.cons (.t rfl) (.cons (.t rfl) (.cons (.t rfl) .nil))) (.cons (.sts rfl) (.cons (.b (.a (.same rfl))) (.cons (.b (.a (.same rfl))) .nil))) (Con.frz (c_impl_Mine_walkTimes m_ x1.2.2 speed (by omega) (by omega) (by omega)) (take_all (by simp only [len_map] <;> rfl)) (by simp only [len_map] <;> rfl)) rfl rfl rfl rfl <| Lex.appG (l1 := [_, _, _, _]) (AV ([A9 m_ x1.2.2 speed] : List (List Int)) (f := slv 1 (V.int .i64)) (l := 210) .n rfl rfl (.cons (.t rfl) .nil) rfl si_71 zv_27 rfl rfl rfl <| CX (xs := x1.2.1) (ys := ([A9 m_ x1.2.2 speed] : List (List Int))) (f := slv 1 (V.int .i64)) (l := 211) .n rfl (.ow (.t rfl) rfl (take_all (by simp only [len_map, put_len] <;> rfl)) (by simp only [len_map, put_len] <;> rfl)) (.ow (.t rfl) rfl (take_all (by simp only [len_map, put_len] <;> rfl)) (by simp only [len_map, put_len] <;> rfl)) si_71 zv_27 rfl (by ((have hM : Made m_ speed x1.2.2 x1.1 x1.2.1 := (by assumption); have h1 := hM.l1; have h2 := hM.l2; have hJ := (by assumption : MineIn m_).1; (try simp only [List.length_append, List.length_cons, List.length_nil]); omega))) rfl rfl <| AG [.os 209 (x1.1 ++ ([x1.2.2] : List Int)).length] .n rfl (.t rfl) (.t rfl) rfl ts_27 rfl rfl <| AG [.os 211 (x1.2.1 ++ ([A9 m_ x1.2.2 speed] : List (List Int))).length] .n rfl (.t rfl) (.t rfl) rfl ts_71 rfl rfl <| Lex.nil) <| LexG.nil) (by kernel_rfl) rfl ?_
          refine AK ?_
          refine Ad (BM .n (.t rfl) (.c rfl) (fun _ => by ((have hM : Made m_ speed x1.2.2 x1.1 x1.2.1 := (by assumption); have h1 := hM.l1; have h2 := hM.l2; have hJ := (by assumption : MineIn m_).1; (try simp only [List.length_append, List.length_cons, List.length_nil]); omega))) rfl <| Ag .n (.t rfl) rfl <| Lex.nil) ?_
          exact CC (x1.1 ++ ([x1.2.2] : List Int), x1.2.1 ++ ([A9 m_ x1.2.2 speed] : List (List Int)), x1.2.2 + 1) ⟨by (simp only [lens] at * <;> omega), by assumption, by (simp only [lens] at * <;> omega), by (simp only [lens] at * <;> omega), by (exact Made.next (by assumption) (by omega))⟩ (by (simp only [lens] at * <;> omega)) (sub_of [(206, 209), (207, 211)] ⟨rfl, rfl, rfl, rfl, rfl, rfl, rfl, rfl, trivial⟩ ⟨rfl, rfl, rfl, rfl, rfl, rfl, trivial⟩ rfl)
        · try simp only [tst] at h6
          refine Bb rfl ?_
          exact AY hk4 (x1.1, x1.2.1, x1.2.2) ⟨by omega, by omega, by omega, by omega, by omega, by omega⟩ (sub_of [] ⟨rfl, rfl, rfl, rfl, trivial⟩ ⟨rfl, rfl, rfl, rfl, rfl, trivial⟩ rfl)

/-! ### laws_b10Rises -/
theorem c_laws_b10Rises (list : List Int) (n_ : Int) : Con Tryz.prog 14 [.sl 1 (list.map (V.int .i64)), .int .i64 n_] [] (.bool (CR list n_)) ([]) := by
  refine con_intro (out := fun r : Bool => ((.bool r : V), ([] : List (Nat × Option O)))) (r := (CR list n_)) Tryz.func14 rfl Tryz.ntmps14 rfl ?_
  refine Br (t := 0) rfl fun hl => ?_
  have l1 := hl; clear hl; simp only [List.length_map] at l1
  refine Af ?_
  refine Ad (Ah .n (.c rfl) rfl <| Lex.nil) ?_
  refine Af ?_
  refine Af ?_
  refine Ad (Ah .n (.c rfl) rfl <| Lex.nil) ?_
  refine Aw ?_
  refine Bp (C6 list n_) _ _ _ rfl (fun (x1 : Int) => 0 ≤ x1 ∧ x1 ≤ (list.length : Int)) (fun x1 => 0 ≤ x1 ∧ x1 ≤ (list.length : Int) ∧ (list.length : Int) ≤ x1) (fun x1 => ((list.length : Int) - x1 : Int).toNat) (fun x1 => ⟨[(0, some (true, .sl 1 (list.map (V.int .i64)))), (1, some (true, .int .i64 n_)), (5, some (true, .int .i64 x1))], []⟩) (fun x1 => ⟨[], []⟩) ⟨by omega, by omega⟩ (by omega) (sub_of [] ⟨rfl, rfl, rfl, trivial⟩ trivial rfl) ?_ ?_
  · intro x1 i6
    obtain ⟨e7, e8, e9⟩ := i6
    try dsimp only at *
    refine Af ?_
    refine Ad (Ah .n (.c rfl) rfl <| Lex.nil) ?_
    exact Au [] (.cons (.t rfl rfl) .nil) rfl trivial rfl
  · intro rec1 k1 hk2 x1 i3
    obtain ⟨e10, e11⟩ := i3
    try dsimp only at *
    refine Af ?_
    refine Af ?_
    refine Ad (Ag .n (.t rfl) rfl <| Ag .n (.t rfl) rfl <| BS .n (.t rfl) rfl len_map ss_27 rfl <| AF .n (.t rfl) (.t rfl) rfl rfl <| Lex.nil) ?_
    refine Aq (.t rfl) rfl (fun h4 => ?_) (fun h4 => ?_)
    · try simp only [tst] at h4
      refine As ?_
      refine Af ?_
      refine Aw ?_
      refine Af ?_
      refine Bk fmo (Ag .n (.t rfl) rfl <| Ag .n (.t rfl) rfl <| A8 .n (.t rfl) (.t rfl) sl_27 (fun _ => by omega) rfl <| Ap .n (.t rfl) rfl ic_2 rfl <| AF .n (.t rfl) (.c rfl) rfl rfl <| Ag .n (.t rfl) rfl <| Ag (.f rfl rfl) (.t rfl) rfl <| Ag (.f rfl rfl) (.t rfl) rfl <| A8 (.f rfl rfl) (.u rfl id) (.u rfl id) sl_27 (fun hg => by simp only [tst] at hg; omega) rfl <| Ap (.f rfl rfl) (.u rfl id) rfl ic_2 rfl <| Ag (.f rfl rfl) (.t rfl) rfl <| AF (.f rfl rfl) (.u rfl id) (.u rfl id) rfl rfl <| q_or .n (.t rfl) (.u rfl id) rfl <| Ag .n (.t rfl) rfl <| Ag (.f rfl rfl) (.t rfl) rfl <| AF (.f rfl rfl) (.u rfl id) (.c rfl) rfl rfl <| Ag (.f rfl rfl) (.u rfl id) rfl <| Ag (.t rfl rfl) (.t rfl) rfl <| Ag (.t rfl rfl) (.t rfl) rfl <| q_sub (.t rfl rfl) (.u rfl id) (.c rfl) (fun hg => by simp only [tst] at hg; omega) rfl <| A8 (.t rfl rfl) (.u rfl id) (.u rfl id) sl_27 (fun hg => by simp only [tst] at hg; omega) rfl <| Ap (.t rfl rfl) (.u rfl id) rfl ic_2 rfl <| Ag (.t rfl rfl) (.t rfl) rfl <| Ag (.t rfl rfl) (.t rfl) rfl <| A8 (.t rfl rfl) (.u rfl id) (.u rfl id) sl_27 (fun hg => by simp only [tst] at hg; omega) rfl <| Ap (.t rfl rfl) (.u rfl id) rfl ic_2 rfl <| AF (.t rfl rfl) (.u rfl id) (.u rfl id) rfl rfl <| B4 (.f rfl rfl) (.u rfl id) (.u rfl id) rfl <| q_or .n (.t rfl) (.u rfl id) rfl <| Lex.nil) (by kernel_rfl) ?_
      refine Aq (.t rfl) rfl (fun h5 => ?_) (fun h5 => ?_)
      · try simp only [tst] at h5
        refine Af ?_
        refine Ad (Ah .n (.c rfl) rfl <| Lex.nil) ?_
        exact Au [] (.cons (.t rfl rfl) .nil) rfl trivial rfl
      · try simp only [tst] at h5
        refine As ?_
        refine AK ?_
        refine Ad (Ag .n (.t rfl) rfl <| BM .n (.t rfl) (.c rfl) (fun _ => by omega) rfl <| Ah .n (.t rfl) rfl <| Lex.nil) ?_
        exact A5 (x1 + 1) ⟨by omega, by omega⟩ (by omega) (sub_of [] ⟨rfl, rfl, rfl, trivial⟩ trivial rfl)
    · try simp only [tst] at h4
      refine Bb rfl ?_
      exact AY hk2 x1 ⟨by omega, by omega, by omega⟩ (sub_of [] trivial trivial rfl)

/-! ### spec_l20Speed -/
theorem c_spec_l20Speed (speed : Int) : Con Tryz.prog 52 [.int .i64 speed] [] (.bool (Cz speed)) ([]) := by
  refine con_intro (out := fun r : Bool => ((.bool r : V), ([] : List (Nat × Option O)))) (r := (Cz speed)) Tryz.func52 rfl Tryz.ntmps52 rfl ?_
  refine Af ?_
  refine Ad (Ah .n (.c rfl) rfl <| Lex.nil) ?_
  refine Af ?_
  refine Ad (Ag .n (.t rfl) rfl <| AJ (full := false) .n .f en_72 (.cons (.t rfl) (.cons (.c rfl) (.cons (.c rfl) .nil))) (.cons (.b (.a (.same rfl))) (.cons (.b (.a (.same rfl))) (.cons (.b (.a (.same rfl))) .nil))) (fun hg => Bt speed 10 300) rfl (fun h => Bool.noConfusion h) rfl <| Ah .n (.t rfl) rfl <| Lex.nil) ?_
  exact Au [] (.cons (.t rfl rfl) .nil) rfl trivial rfl

/-! ### spec_l20Walks -/
set_option maxRecDepth 100000 in
set_option maxHeartbeats 4000000 in
theorem c_spec_l20Walks (m_ : AB) (junction : Int) (speed : Int) (hp1 : MineIn m_) (hp2 : 0 ≤ junction ∧ junction < m_.Junctions) (hp3 : 10 ≤ speed ∧ speed ≤ 300) : Con Tryz.prog 53 [.rp [.int .i64 m_.Junctions, .sl 7 (m_.Airways.map Ar.v)], .int .i64 junction, .int .i64 speed] [] (.os 100 (Cj m_ junction speed).length) ([(100, some (.row 2 1 ((Cj m_ junction speed).map (V.int .i64))))]) := by
  refine con_intro (out := fun r : (List Int) => ((.os 100 r.length : V), ([(100, some (.row 2 1 (r.map (V.int .i64))))] : List (Nat × Option O)))) (r := (Cj m_ junction speed)) Tryz.func53 rfl Tryz.ntmps53 rfl ?_
  have hJ1 := hp1.1
  have hA1 := hp1.2.1
  refine BH (t := 0) 1 rfl rfl fun hl => ?_
  have l1 := hl; clear hl; simp only [List.length_map] at l1
  refine Af ?_
  refine Ad (Ah .n (.c rfl) rfl <| Lex.nil) ?_
  refine Af ?_
  refine Ad (AV K_5 (f := V.int .i64) (l := 200) .n rfl rfl .nil rfl si_27 zv_2 rfl rfl rfl <| Ah .n (.t rfl) rfl <| Lex.nil) ?_
  refine Af ?_
  refine Af ?_
  refine Ad (Ah .n (.c rfl) rfl <| Lex.nil) ?_
  refine Aw ?_
  refine Bp (CI m_ junction speed) _ _ _ rfl (fun (x1 : (List Int) × Int) => 0 ≤ x1.2 ∧ x1.2 ≤ m_.Junctions ∧ (x1.1.length : Int) + 0 ≤ x1.2 + (K_5.length : Int) ∧ (x1.1.length : Int) = x1.2) (fun x1 => 0 ≤ x1.2 ∧ x1.2 ≤ m_.Junctions ∧ (x1.1.length : Int) + 0 ≤ x1.2 + (K_5.length : Int) ∧ (x1.1.length : Int) = x1.2 ∧ m_.Junctions ≤ x1.2) (fun x1 => (m_.Junctions - x1.2 : Int).toNat) (fun x1 => ⟨[(0, some (true, .rp [.int .i64 m_.Junctions, .sl 7 (m_.Airways.map Ar.v)])), (1, some (true, .int .i64 junction)), (2, some (true, .int .i64 speed)), (7, some (true, .os 200 x1.1.length)), (8, some (true, .int .i64 x1.2))], [(200, some (.row 2 1 (x1.1.map (V.int .i64))))]⟩) (fun x1 => ⟨[(0, some (true, .rp [.int .i64 m_.Junctions, .sl 7 (m_.Airways.map Ar.v)])), (1, some (true, .int .i64 junction)), (2, some (true, .int .i64 speed)), (7, some (true, .os 200 x1.1.length))], [(200, some (.row 2 1 (x1.1.map (V.int .i64))))]⟩) ⟨by omega, by omega, by (simp only [lens] at * <;> omega), by (simp only [lens] at * <;> omega)⟩ (by omega) (sub_of [] ⟨rfl, rfl, rfl, rfl, rfl, trivial⟩ ⟨rfl, trivial⟩ rfl) ?_ ?_
  · intro x1 i5
    obtain ⟨e35, e36, e37, e38, e39⟩ := i5
    try dsimp only at *
    refine Af ?_
    refine Ad (Ag .n (.t rfl) rfl <| Ag .n (.t rfl) rfl <| AZ .n (.t rfl) (.t rfl) sl_27 (fun _ => by omega) rfl <| B0 0 .n rfl (.t rfl) (.c rfl) rfl ts_2 (by omega) rfl rfl <| Lex.nil) ?_
    refine Af ?_
    refine Af ?_
    refine Ad (Ah .n (.c rfl) rfl <| Lex.nil) ?_
    refine Aw ?_
    refine Bp (Cn m_ junction speed x1) _ _ _ rfl (fun (x2 : (List Int) × Int) => 0 ≤ x2.2 ∧ x2.2 ≤ m_.Junctions ∧ (x2.1.length : Int) = m_.Junctions) (fun x2 => 0 ≤ x2.2 ∧ x2.2 ≤ m_.Junctions ∧ (x2.1.length : Int) = m_.Junctions ∧ m_.Junctions ≤ x2.2) (fun x2 => (m_.Junctions - x2.2 : Int).toNat) (fun x2 => ⟨[(0, some (true, .rp [.int .i64 m_.Junctions, .sl 7 (m_.Airways.map Ar.v)])), (2, some (true, .int .i64 speed)), (7, some (true, .os 200 x2.1.length)), (9, some (true, .int .i64 x2.2))], [(200, some (.row 2 1 (x2.1.map (V.int .i64))))]⟩) (fun x2 => ⟨[(7, some (true, .os 200 x2.1.length))], [(200, some (.row 2 1 (x2.1.map (V.int .i64))))]⟩) ⟨by omega, by omega, by (simp only [lens] at * <;> omega)⟩ (by omega) (sub_of [] ⟨rfl, rfl, os_len rfl (by first | (simp only [put_len]; done) | (first | omega | assumption | (simp only [lens] at * <;> omega) | (((simp only [put_len] at * <;> omega)); done) | (((have hw0 := hp1.at (i := x3.2) (by omega); unfold AirIn at hw0; (try simp only [put_len] at *); omega)); done))), rfl, trivial⟩ ⟨rfl, trivial⟩ rfl) ?_ ?_
    · intro x2 i27
      obtain ⟨e28, e29, e30, e31⟩ := i27
      try dsimp only at *
      refine Af ?_
      refine Ad (Ag .n (.t rfl) rfl <| Ah .n (.t rfl) rfl <| Lex.nil) ?_
      exact Au [(100, 200)] (.cons (.t rfl rfl) .nil) (by first | rfl | (simp only [put_len]; rfl)) ⟨rfl, trivial⟩ rfl
    · intro rec2 k2 hk6 x2 i7
      obtain ⟨e32, e33, e34⟩ := i7
      try dsimp only at *
      refine Af ?_
      refine Af ?_
      refine Ad (Ag .n (.t rfl) rfl <| Ag .n (.t rfl) rfl <| Av .n (.t rfl) rfl <| Az .n (.t rfl) fo_26_0 rfl <| Ap .n (.t rfl) rfl ic_2 rfl <| AF .n (.t rfl) (.t rfl) rfl rfl <| Lex.nil) ?_
      refine Aq (.t rfl) rfl (fun h8 => ?_) (fun h8 => ?_)
      · try simp only [tst] at h8
        refine As ?_
        refine Af ?_
        refine Aw ?_
        refine Af ?_
        refine Ad (Ah .n (.c rfl) rfl <| Lex.nil) ?_
        refine Aw ?_
        refine Bp (CH m_ junction speed x1 rec2 k2 x2) _ _ _ rfl (fun (x3 : (List Int) × Int) => 0 ≤ x3.2 ∧ x3.2 ≤ (m_.Airways.length : Int) ∧ (x3.1.length : Int) = m_.Junctions) (fun x3 => 0 ≤ x3.2 ∧ x3.2 ≤ (m_.Airways.length : Int) ∧ (x3.1.length : Int) = m_.Junctions ∧ (m_.Airways.length : Int) ≤ x3.2) (fun x3 => ((m_.Airways.length : Int) - x3.2 : Int).toNat) (fun x3 => ⟨[(0, some (true, .rp [.int .i64 m_.Junctions, .sl 7 (m_.Airways.map Ar.v)])), (2, some (true, .int .i64 speed)), (7, some (true, .os 200 x3.1.length)), (9, some (true, .int .i64 x2.2)), (10, some (true, .int .i64 x3.2))], [(200, some (.row 2 1 (x3.1.map (V.int .i64))))]⟩) (fun x3 => ⟨[(0, some (true, .rp [.int .i64 m_.Junctions, .sl 7 (m_.Airways.map Ar.v)])), (2, some (true, .int .i64 speed)), (7, some (true, .os 200 x3.1.length)), (9, some (true, .int .i64 x2.2))], [(200, some (.row 2 1 (x3.1.map (V.int .i64))))]⟩) ⟨by omega, by omega, by omega⟩ (by omega) (sub_of [] ⟨rfl, rfl, rfl, rfl, rfl, trivial⟩ ⟨rfl, trivial⟩ rfl) ?_ ?_
        · intro x3 i19
          obtain ⟨e20, e21, e22, e23⟩ := i19
          try dsimp only at *
          refine AK ?_
          refine Ad (Ag .n (.t rfl) rfl <| BM .n (.t rfl) (.c rfl) (fun _ => by omega) rfl <| Ah .n (.t rfl) rfl <| Lex.nil) ?_
          exact A5 (x3.1, x2.2 + 1) ⟨by omega, by omega, by omega⟩ (by omega) (sub_of [] ⟨rfl, rfl, rfl, rfl, trivial⟩ ⟨rfl, trivial⟩ rfl)
        · intro rec3 k3 hk9 x3 i10
          obtain ⟨e24, e25, e26⟩ := i10
          try dsimp only at *
          refine Af ?_
          refine Af ?_
          refine Ad (Ag .n (.t rfl) rfl <| Ag .n (.t rfl) rfl <| Av .n (.t rfl) rfl <| Az .n (.t rfl) fo_26_1 rfl <| Ap .n (.t rfl) rfl ic_24 rfl <| BS .n (.t rfl) rfl len_map ss_24 rfl <| AF .n (.t rfl) (.t rfl) rfl rfl <| Lex.nil) ?_
          refine Aq (.t rfl) rfl (fun h11 => ?_) (fun h11 => ?_)
          · try simp only [tst] at h11
            refine As ?_
            refine Af ?_
            refine Aw ?_
            refine Af ?_
            refine Ad (Ag .n (.t rfl) rfl <| Av .n (.t rfl) rfl <| Az .n (.t rfl) fo_26_1 rfl <| Ap .n (.t rfl) rfl ic_24 rfl <| Ag .n (.t rfl) rfl <| A8 .n (.t rfl) (.t rfl) sl_24 (fun _ => by omega) rfl <| Ah .n (.t rfl) rfl <| Lex.nil) ?_
            refine Af ?_
            refine Ad (Ag .n (.t rfl) rfl <| Ag .n (.t rfl) rfl <| AJ (full := false) .n .f en_76 (.cons (.t rfl) (.cons (.t rfl) .nil)) (.cons (.b (.a (.same rfl))) (.cons (.b (.a (.same rfl))) .nil)) (fun hg => c_spec_l19Walk (at' m_.Airways x3.2) speed (by omega)) rfl (fun h => Bool.noConfusion h) rfl <| Ah .n (.t rfl) rfl <| Lex.nil) ?_
            refine Af ?_
            refine Af ?_
            refine Bk fmo (Ag .n (.t rfl) rfl <| Ag .n (.t rfl) rfl <| Av .n (.t rfl) rfl <| Az .n (.t rfl) fo_112_1 rfl <| Ap .n (.t rfl) rfl ic_2 rfl <| AZ .n (.t rfl) (.t rfl) sl_27 (fun _ => by ((have hw0 := hp1.at (i := x3.2) (by omega); unfold AirIn at hw0; (try simp only [put_len] at *); omega))) rfl <| A2 .n (.t rfl) rfl (fun _ => by ((have hw0 := hp1.at (i := x3.2) (by omega); unfold AirIn at hw0; (try simp only [put_len] at *); omega))) rfl rfl rfl ic_2 rfl <| AF .n (.t rfl) (.c rfl) rfl rfl <| Ag .n (.t rfl) rfl <| Ag (.t rfl rfl) (.t rfl) rfl <| Ag (.t rfl rfl) (.t rfl) rfl <| Av (.t rfl rfl) (.u rfl id) rfl <| Az (.t rfl rfl) (.u rfl id) fo_112_2 rfl <| Ap (.t rfl rfl) (.u rfl id) rfl ic_2 rfl <| AZ (.t rfl rfl) (.u rfl id) (.u rfl id) sl_27 (fun hg => by simp only [tst] at hg; ((have hw0 := hp1.at (i := x3.2) (by omega); unfold AirIn at hw0; (try simp only [put_len] at *); omega))) rfl <| A2 (.t rfl rfl) (.u rfl id) rfl (fun hg => by simp only [tst] at hg; ((have hw0 := hp1.at (i := x3.2) (by omega); unfold AirIn at hw0; (try simp only [put_len] at *); omega))) rfl rfl rfl ic_2 rfl <| AF (.t rfl rfl) (.u rfl id) (.c rfl) rfl rfl <| Ag (.t rfl rfl) (.u rfl id) rfl <| Ag (.f rfl rfl) (.t rfl) rfl <| Ag (.f rfl rfl) (.t rfl) rfl <| Av (.f rfl rfl) (.u rfl id) rfl <| Az (.f rfl rfl) (.u rfl id) fo_112_2 rfl <| Ap (.f rfl rfl) (.u rfl id) rfl ic_2 rfl <| AZ (.f rfl rfl) (.u rfl id) (.u rfl id) sl_27 (fun hg => by simp only [tst] at hg; ((have hw0 := hp1.at (i := x3.2) (by omega); unfold AirIn at hw0; (try simp only [put_len] at *); omega))) rfl <| A2 (.f rfl rfl) (.u rfl id) rfl (fun hg => by simp only [tst] at hg; ((have hw0 := hp1.at (i := x3.2) (by omega); unfold AirIn at hw0; (try simp only [put_len] at *); omega))) rfl rfl rfl ic_2 rfl <| Ag (.f rfl rfl) (.t rfl) rfl <| Ag (.f rfl rfl) (.t rfl) rfl <| Av (.f rfl rfl) (.u rfl id) rfl <| Az (.f rfl rfl) (.u rfl id) fo_112_1 rfl <| Ap (.f rfl rfl) (.u rfl id) rfl ic_2 rfl <| AZ (.f rfl rfl) (.u rfl id) (.u rfl id) sl_27 (fun hg => by simp only [tst] at hg; ((have hw0 := hp1.at (i := x3.2) (by omega); unfold AirIn at hw0; (try simp only [put_len] at *); omega))) rfl <| A2 (.f rfl rfl) (.u rfl id) rfl (fun hg => by simp only [tst] at hg; ((have hw0 := hp1.at (i := x3.2) (by omega); unfold AirIn at hw0; (try simp only [put_len] at *); omega))) rfl rfl rfl ic_2 rfl <| Ag (.f rfl rfl) (.t rfl) rfl <| AF (.f rfl rfl) (.u rfl id) (.u rfl id) rfl rfl <| AF (.f rfl rfl) (.u rfl id) (.u rfl id) rfl rfl <| q_or (.t rfl rfl) (.u rfl id) (.u rfl id) rfl <| B4 .n (.t rfl) (.u rfl id) rfl <| Lex.nil) (by kernel_rfl) ?_
            refine Dn _ _ rfl (fun v12 : (List Int) => (v12.length : Int) = m_.Junctions) (fun v12 => ⟨[(0, some (true, .rp [.int .i64 m_.Junctions, .sl 7 (m_.Airways.map Ar.v)])), (2, some (true, .int .i64 speed)), (7, some (true, .os 200 v12.length)), (9, some (true, .int .i64 x2.2)), (10, some (true, .int .i64 x3.2)), (11, some (true, .rp [.str (at' m_.Airways x3.2).Id, .int .i64 (at' m_.Airways x3.2).From, .int .i64 (at' m_.Airways x3.2).To, .int .i64 (at' m_.Airways x3.2).Length, .int .i64 (at' m_.Airways x3.2).Section, .int .i64 (at' m_.Airways x3.2).Friction, .int .i64 (at' m_.Airways x3.2).Shock])), (12, some (true, .int .i64 (Bf (at' m_.Airways x3.2) speed)))], [(200, some (.row 2 1 (v12.map (V.int .i64))))]⟩) (fun v12 hv17 => ?_) (fun j13 hj14 => ?_)
            · have e18 := hv17
              refine Af ?_
              refine Bk fmo (Ag .n (.t rfl) rfl <| Ag .n (.t rfl) rfl <| Av .n (.t rfl) rfl <| Az .n (.t rfl) fo_112_2 rfl <| Ap .n (.t rfl) rfl ic_2 rfl <| AZ .n (.t rfl) (.t rfl) sl_27 (fun _ => by ((have hw0 := hp1.at (i := x3.2) (by omega); unfold AirIn at hw0; (try simp only [put_len] at *); omega))) rfl <| A2 .n (.t rfl) rfl (fun _ => by ((have hw0 := hp1.at (i := x3.2) (by omega); unfold AirIn at hw0; (try simp only [put_len] at *); omega))) rfl rfl rfl ic_2 rfl <| AF .n (.t rfl) (.c rfl) rfl rfl <| Ag .n (.t rfl) rfl <| Ag (.t rfl rfl) (.t rfl) rfl <| Ag (.t rfl rfl) (.t rfl) rfl <| Av (.t rfl rfl) (.u rfl id) rfl <| Az (.t rfl rfl) (.u rfl id) fo_112_1 rfl <| Ap (.t rfl rfl) (.u rfl id) rfl ic_2 rfl <| AZ (.t rfl rfl) (.u rfl id) (.u rfl id) sl_27 (fun hg => by simp only [tst] at hg; ((have hw0 := hp1.at (i := x3.2) (by omega); unfold AirIn at hw0; (try simp only [put_len] at *); omega))) rfl <| A2 (.t rfl rfl) (.u rfl id) rfl (fun hg => by simp only [tst] at hg; ((have hw0 := hp1.at (i := x3.2) (by omega); unfold AirIn at hw0; (try simp only [put_len] at *); omega))) rfl rfl rfl ic_2 rfl <| AF (.t rfl rfl) (.u rfl id) (.c rfl) rfl rfl <| Ag (.t rfl rfl) (.u rfl id) rfl <| Ag (.f rfl rfl) (.t rfl) rfl <| Ag (.f rfl rfl) (.t rfl) rfl <| Av (.f rfl rfl) (.u rfl id) rfl <| Az (.f rfl rfl) (.u rfl id) fo_112_1 rfl <| Ap (.f rfl rfl) (.u rfl id) rfl ic_2 rfl <| AZ (.f rfl rfl) (.u rfl id) (.u rfl id) sl_27 (fun hg => by simp only [tst] at hg; ((have hw0 := hp1.at (i := x3.2) (by omega); unfold AirIn at hw0; (try simp only [put_len] at *); omega))) rfl <| A2 (.f rfl rfl) (.u rfl id) rfl (fun hg => by simp only [tst] at hg; ((have hw0 := hp1.at (i := x3.2) (by omega); unfold AirIn at hw0; (try simp only [put_len] at *); omega))) rfl rfl rfl ic_2 rfl <| Ag (.f rfl rfl) (.t rfl) rfl <| Ag (.f rfl rfl) (.t rfl) rfl <| Av (.f rfl rfl) (.u rfl id) rfl <| Az (.f rfl rfl) (.u rfl id) fo_112_2 rfl <| Ap (.f rfl rfl) (.u rfl id) rfl ic_2 rfl <| AZ (.f rfl rfl) (.u rfl id) (.u rfl id) sl_27 (fun hg => by simp only [tst] at hg; ((have hw0 := hp1.at (i := x3.2) (by omega); unfold AirIn at hw0; (try simp only [put_len] at *); omega))) rfl <| A2 (.f rfl rfl) (.u rfl id) rfl (fun hg => by simp only [tst] at hg; ((have hw0 := hp1.at (i := x3.2) (by omega); unfold AirIn at hw0; (try simp only [put_len] at *); omega))) rfl rfl rfl ic_2 rfl <| Ag (.f rfl rfl) (.t rfl) rfl <| AF (.f rfl rfl) (.u rfl id) (.u rfl id) rfl rfl <| AF (.f rfl rfl) (.u rfl id) (.u rfl id) rfl rfl <| q_or (.t rfl rfl) (.u rfl id) (.u rfl id) rfl <| B4 .n (.t rfl) (.u rfl id) rfl <| Lex.nil) (by kernel_rfl) ?_
              refine Aq (.t rfl) rfl (fun h16 => ?_) (fun h16 => ?_)
              · try simp only [tst] at h16
                refine Bk fmo (Ag .n (.t rfl) rfl <| Ag .n (.t rfl) rfl <| Av .n (.t rfl) rfl <| Az .n (.t rfl) fo_112_1 rfl <| Ap .n (.t rfl) rfl ic_2 rfl <| Ag .n (.t rfl) rfl <| Ag .n (.t rfl) rfl <| Av .n (.t rfl) rfl <| Az .n (.t rfl) fo_112_2 rfl <| Ap .n (.t rfl) rfl ic_2 rfl <| AZ .n (.t rfl) (.t rfl) sl_27 (fun _ => by ((have hw0 := hp1.at (i := x3.2) (by omega); unfold AirIn at hw0; (try simp only [put_len] at *); omega))) rfl <| A2 .n (.t rfl) rfl (fun _ => by ((have hw0 := hp1.at (i := x3.2) (by omega); unfold AirIn at hw0; (try simp only [put_len] at *); omega))) rfl rfl rfl ic_2 rfl <| Ag .n (.t rfl) rfl <| AF .n (.t rfl) (.t rfl) rfl rfl <| AZ .n (.t rfl) (.t rfl) sl_27 (fun _ => by ((have hw0 := hp1.at (i := x3.2) (by omega); unfold AirIn at hw0; (try simp only [put_len] at *); omega))) rfl <| B0 (IntKind.wrap .i64 ((at' v12 (at' m_.Airways x3.2).To) + (Bf (at' m_.Airways x3.2) speed))) .n rfl (.t rfl) (.t rfl) rfl ts_2 (by ((have hw0 := hp1.at (i := x3.2) (by omega); unfold AirIn at hw0; (try simp only [put_len] at *); omega))) rfl rfl <| Lex.nil) (by kernel_rfl) ?_
                refine AK ?_
                refine Ad (Ag .n (.t rfl) rfl <| BM .n (.t rfl) (.c rfl) (fun _ => by omega) rfl <| Ah .n (.t rfl) rfl <| Lex.nil) ?_
                exact A5 (put' v12 (at' m_.Airways x3.2).From (IntKind.wrap .i64 ((at' v12 (at' m_.Airways x3.2).To) + (Bf (at' m_.Airways x3.2) speed))), x3.2 + 1) ⟨by omega, by omega, by (simp only [lens] at * <;> omega)⟩ (by omega) (sub_of [] ⟨rfl, rfl, os_len rfl (by first | (simp only [put_len]; done) | (first | omega | assumption | (simp only [lens] at * <;> omega) | (((simp only [put_len] at * <;> omega)); done) | (((have hw0 := hp1.at (i := x3.2) (by omega); unfold AirIn at hw0; (try simp only [put_len] at *); omega)); done))), rfl, rfl, trivial⟩ ⟨rfl, trivial⟩ rfl)
              · try simp only [tst] at h16
                refine As ?_
                refine AK ?_
                refine Ad (Ag .n (.t rfl) rfl <| BM .n (.t rfl) (.c rfl) (fun _ => by omega) rfl <| Ah .n (.t rfl) rfl <| Lex.nil) ?_
                exact A5 (v12, x3.2 + 1) ⟨by omega, by omega, by omega⟩ (by omega) (sub_of [] ⟨rfl, rfl, rfl, rfl, rfl, trivial⟩ ⟨rfl, trivial⟩ rfl)
            · refine Aq (.t rfl) rfl (fun h15 => ?_) (fun h15 => ?_)
              · try simp only [tst] at h15
                refine Bk fmo (Ag .n (.t rfl) rfl <| Ag .n (.t rfl) rfl <| Av .n (.t rfl) rfl <| Az .n (.t rfl) fo_112_2 rfl <| Ap .n (.t rfl) rfl ic_2 rfl <| Ag .n (.t rfl) rfl <| Ag .n (.t rfl) rfl <| Av .n (.t rfl) rfl <| Az .n (.t rfl) fo_112_1 rfl <| Ap .n (.t rfl) rfl ic_2 rfl <| AZ .n (.t rfl) (.t rfl) sl_27 (fun _ => by ((have hw0 := hp1.at (i := x3.2) (by omega); unfold AirIn at hw0; (try simp only [put_len] at *); omega))) rfl <| A2 .n (.t rfl) rfl (fun _ => by ((have hw0 := hp1.at (i := x3.2) (by omega); unfold AirIn at hw0; (try simp only [put_len] at *); omega))) rfl rfl rfl ic_2 rfl <| Ag .n (.t rfl) rfl <| AF .n (.t rfl) (.t rfl) rfl rfl <| AZ .n (.t rfl) (.t rfl) sl_27 (fun _ => by ((have hw0 := hp1.at (i := x3.2) (by omega); unfold AirIn at hw0; (try simp only [put_len] at *); omega))) rfl <| B0 (IntKind.wrap .i64 ((at' x3.1 (at' m_.Airways x3.2).From) + (Bf (at' m_.Airways x3.2) speed))) .n rfl (.t rfl) (.t rfl) rfl ts_2 (by ((have hw0 := hp1.at (i := x3.2) (by omega); unfold AirIn at hw0; (try simp only [put_len] at *); omega))) rfl rfl <| Lex.nil) (by kernel_rfl) ?_
                exact AY hj14 (put' x3.1 (at' m_.Airways x3.2).To (IntKind.wrap .i64 ((at' x3.1 (at' m_.Airways x3.2).From) + (Bf (at' m_.Airways x3.2) speed)))) (by (simp only [lens] at * <;> omega)) (sub_of [] ⟨rfl, rfl, os_len rfl (by first | (simp only [put_len]; done) | (first | omega | assumption | (simp only [lens] at * <;> omega) | (((simp only [put_len] at * <;> omega)); done) | (((have hw0 := hp1.at (i := x3.2) (by omega); unfold AirIn at hw0; (try simp only [put_len] at *); omega)); done))), rfl, rfl, rfl, rfl, trivial⟩ ⟨rfl, trivial⟩ rfl)
              · try simp only [tst] at h15
                refine As ?_
                exact AY hj14 x3.1 (by omega) (sub_of [] ⟨rfl, rfl, rfl, rfl, rfl, rfl, rfl, trivial⟩ ⟨rfl, trivial⟩ rfl)
          · try simp only [tst] at h11
            refine Bb rfl ?_
            exact AY hk9 (x3.1, x3.2) ⟨by omega, by omega, by omega, by omega⟩ (sub_of [] ⟨rfl, rfl, rfl, rfl, trivial⟩ ⟨rfl, trivial⟩ rfl)
      · try simp only [tst] at h8
        refine Bb rfl ?_
        exact AY hk6 (x2.1, x2.2) ⟨by omega, by omega, by omega, by omega⟩ (sub_of [] ⟨rfl, trivial⟩ ⟨rfl, trivial⟩ rfl)
  · intro rec1 k1 hk2 x1 i3
    obtain ⟨e40, e41, e42, e43⟩ := i3
    try dsimp only at *
    refine Af ?_
    refine Af ?_
    refine Ad (Ag .n (.t rfl) rfl <| Ag .n (.t rfl) rfl <| Av .n (.t rfl) rfl <| Az .n (.t rfl) fo_26_0 rfl <| Ap .n (.t rfl) rfl ic_2 rfl <| AF .n (.t rfl) (.t rfl) rfl rfl <| Lex.nil) ?_
    refine Aq (.t rfl) rfl (fun h4 => ?_) (fun h4 => ?_)
    · try simp only [tst] at h4
      refine As ?_
      refine Af ?_
      refine Aw ?_
      refine Ad (Ag .n (.t rfl) rfl <| AV K_6 (f := V.int .i64) (l := 201) .n rfl rfl (.cons (.c rfl) .nil) rfl si_27 zv_2 rfl rfl rfl <| CX (xs := x1.1) (ys := K_6) (f := V.int .i64) (l := 202) .n rfl (.ow (.t rfl) rfl (take_all (by simp only [len_map, put_len] <;> rfl)) (by simp only [len_map, put_len] <;> rfl)) (.ow (.t rfl) rfl (take_all (by simp only [len_map, put_len] <;> rfl)) (by simp only [len_map, put_len] <;> rfl)) si_27 zv_2 rfl (by (simp only [lens] at * <;> omega)) rfl rfl <| Ah .n (.t rfl) rfl <| Lex.nil) ?_
      refine AK ?_
      refine Ad (Ag .n (.t rfl) rfl <| BM .n (.t rfl) (.c rfl) (fun _ => by omega) rfl <| Ah .n (.t rfl) rfl <| Lex.nil) ?_
      exact A5 (x1.1 ++ K_6, x1.2 + 1) ⟨by omega, by omega, by (simp only [lens] at * <;> omega), by (simp only [lens] at * <;> omega)⟩ (by omega) (sub_of [(200, 202)] ⟨rfl, rfl, rfl, rfl, rfl, trivial⟩ ⟨rfl, trivial⟩ rfl)
    · try simp only [tst] at h4
      refine Bb rfl ?_
      exact AY hk2 (x1.1, x1.2) ⟨by omega, by omega, by omega, by omega, by omega⟩ (sub_of [] ⟨rfl, rfl, rfl, rfl, trivial⟩ ⟨rfl, trivial⟩ rfl)

/-! ### spec_WalkTimes -/
set_option maxRecDepth 100000 in
set_option maxHeartbeats 4000000 in
theorem c_spec_WalkTimes (m_ : AB) (junction : Int) (speed : Int) : Con Tryz.prog 15 [.st [.int .i64 m_.Junctions, .sl 7 (m_.Airways.map Ar.v)], .int .i64 junction, .int .i64 speed] [] (.tup [.os 100 (A6 m_ junction speed).1.length, .int .i64 (A6 m_ junction speed).2]) ([(100, some (.row 2 1 ((A6 m_ junction speed).1.map (V.int .i64))))]) := by
  refine con_intro (out := fun r : (List Int) × Int => ((.tup [.os 100 r.1.length, .int .i64 r.2] : V), ([(100, some (.row 2 1 (r.1.map (V.int .i64))))] : List (Nat × Option O)))) (r := (A6 m_ junction speed)) Tryz.func15 rfl Tryz.ntmps15 rfl ?_
  refine Ch (t := 0) 1 rfl rfl fun hl => ?_
  have l1 := hl; clear hl; simp only [List.length_map] at l1
  refine Af ?_
  refine Ad (Du (l := 200) .n rfl (.t rfl) rfl rfl rfl rfl <| Ah .n (.c rfl) rfl <| Ah .n (.c rfl) rfl <| Lex.nil) ?_
  refine Af ?_
  refine Af ?_
  refine Ad (AJ (full := true) .n .f en_50 (.cons (.t rfl) .nil) (.cons (.b (.ptr rfl rfl (.inr rfl) rfl rfl (.cons (.same rfl) (.cons (.same rfl) .nil)))) .nil) (fun hg => Dt m_) rfl (fun _ => rfl) rfl <| Cg .n (.t rfl) rfl <| Lex.nil) ?_
  refine Aq (.t rfl) rfl (fun h2 => ?_) (fun h2 => ?_)
  · try simp only [tst] at h2
    try have hf0h2 := l04Ok_imp h2
    try have hf1h2 := l04Ok_imp h2.1
    try have hf2h2 := l04Ok_imp h2.2
    try have hf3h2 := l04Ok_imp h2.1.1
    try have hf4h2 := l04Ok_imp h2.1.2
    try have hf5h2 := l04Ok_imp h2.2.1
    try have hf6h2 := l04Ok_imp h2.2.2
    refine Af ?_
    refine Ad (Ah .n (.c rfl) rfl <| Ah .n (.c rfl) rfl <| Lex.nil) ?_
    refine C1 (sub_adopt (t := 6) (l := 201) (el := 2) (sz := 1) rfl rfl) ?_
    exact Au [(100, 201)] (.cons (.t rfl rfl) (.cons (.t rfl rfl) .nil)) (by first | rfl | (simp only [put_len]; rfl)) ⟨rfl, trivial⟩ rfl
  · try simp only [tst] at h2
    try have hf0h2 := l04Ok_imp h2
    try have hf1h2 := l04Ok_imp h2.1
    try have hf2h2 := l04Ok_imp h2.2
    try have hf3h2 := l04Ok_imp h2.1.1
    try have hf4h2 := l04Ok_imp h2.1.2
    try have hf5h2 := l04Ok_imp h2.2.1
    try have hf6h2 := l04Ok_imp h2.2.2
    refine As ?_
    refine Af ?_
    refine Af ?_
    refine Ad (Ag .n (.t rfl) rfl <| AJ (full := true) .n .f en_51 (.cons (.t rfl) (.cons (.t rfl) .nil)) (.cons (.b (.ptr rfl rfl (.inr rfl) rfl rfl (.cons (.same rfl) (.cons (.same rfl) .nil)))) (.cons (.b (.a (.same rfl))) .nil)) (fun hg => DE m_ junction) rfl (fun _ => rfl) rfl <| Cg .n (.t rfl) rfl <| Ag .n (.t rfl) rfl <| Ag (.f rfl rfl) (.t rfl) rfl <| AJ (full := false) (.f rfl rfl) .f en_52 (.cons (.u rfl id) .nil) (.cons (.b (.a (.same rfl))) .nil) (fun hg => c_spec_l20Speed speed) rfl (fun h => Bool.noConfusion h) rfl <| Cg (.f rfl rfl) (.u rfl id) rfl <| q_or .n (.t rfl) (.u rfl id) rfl <| Lex.nil) ?_
    refine Aq (.t rfl) rfl (fun h3 => ?_) (fun h3 => ?_)
    · try simp only [tst] at h3
      refine Af ?_
      refine Ad (Ah .n (.c rfl) rfl <| Ah .n (.c rfl) rfl <| Lex.nil) ?_
      refine C1 (sub_adopt (t := 6) (l := 202) (el := 2) (sz := 1) rfl rfl) ?_
      exact Au [(100, 202)] (.cons (.t rfl rfl) (.cons (.t rfl rfl) .nil)) (by first | rfl | (simp only [put_len]; rfl)) ⟨rfl, trivial⟩ rfl
    · try simp only [tst] at h3
      refine As ?_
      refine Af ?_
      refine Ad (Ag .n (.t rfl) rfl <| Ag .n (.t rfl) rfl <| AW (full := true) [] [(100, 203)] .n rfl .f en_53 (.cons (.t rfl) (.cons (.t rfl) (.cons (.t rfl) .nil))) (.cons (.b (.ptr rfl rfl (.inr rfl) rfl rfl (.cons (.same rfl) (.cons (.same rfl) .nil)))) (.cons (.b (.a (.same rfl))) (.cons (.b (.a (.same rfl))) .nil))) (c_spec_l20Walks m_ junction speed (by omega) (by (exact junS_in (by assumption) (And.left (by assumption)))) (by (exact spdS_in (And.right (by assumption))))) trivial rfl rfl (fun _ => rfl) (fun _ => (hr_row (fun _ => rfl) hr_nil)) rfl <| Ah .n (.t rfl) rfl <| Ah .n (.c rfl) rfl <| Lex.nil) ?_
      exact Au [(100, 203)] (.cons (.t rfl rfl) (.cons (.t rfl rfl) .nil)) (by first | rfl | (simp only [put_len]; rfl)) ⟨rfl, trivial⟩ rfl

/-! ### spec_l00Max -/
theorem DH (a : Int) (b : Int) : Con Tryz.prog 59 [.int .i64 a, .int .i64 b] [] (.int .i64 (AC a b)) ([]) := by
  refine con_intro (out := fun r : Int => ((.int .i64 r : V), ([] : List (Nat × Option O)))) (r := (AC a b)) Tryz.func59 rfl Tryz.ntmps59 rfl ?_
  refine Af ?_
  refine Ad (Ah .n (.c rfl) rfl <| Lex.nil) ?_
  refine Af ?_
  refine Af ?_
  refine Ad (Ag .n (.t rfl) rfl <| Ag .n (.t rfl) rfl <| AF .n (.t rfl) (.t rfl) rfl rfl <| Lex.nil) ?_
  refine Aq (.t rfl) rfl (fun h1 => ?_) (fun h1 => ?_)
  · try simp only [tst] at h1
    refine Af ?_
    refine Ad (Ag .n (.t rfl) rfl <| Ah .n (.t rfl) rfl <| Lex.nil) ?_
    exact Au [] (.cons (.t rfl rfl) .nil) rfl trivial rfl
  · try simp only [tst] at h1
    refine As ?_
    refine Af ?_
    refine Ad (Ag .n (.t rfl) rfl <| Ah .n (.t rfl) rfl <| Lex.nil) ?_
    exact Au [] (.cons (.t rfl rfl) .nil) rfl trivial rfl

/-! ### spec_l00Min -/
theorem c_spec_l00Min (a : Int) (b : Int) : Con Tryz.prog 94 [.int .i64 a, .int .i64 b] [] (.int .i64 (A4 a b)) ([]) := by
  refine con_intro (out := fun r : Int => ((.int .i64 r : V), ([] : List (Nat × Option O)))) (r := (A4 a b)) Tryz.func94 rfl Tryz.ntmps94 rfl ?_
  refine Af ?_
  refine Ad (Ah .n (.c rfl) rfl <| Lex.nil) ?_
  refine Af ?_
  refine Af ?_
  refine Ad (Ag .n (.t rfl) rfl <| Ag .n (.t rfl) rfl <| AF .n (.t rfl) (.t rfl) rfl rfl <| Lex.nil) ?_
  refine Aq (.t rfl) rfl (fun h1 => ?_) (fun h1 => ?_)
  · try simp only [tst] at h1
    refine Af ?_
    refine Ad (Ag .n (.t rfl) rfl <| Ah .n (.t rfl) rfl <| Lex.nil) ?_
    exact Au [] (.cons (.t rfl rfl) .nil) rfl trivial rfl
  · try simp only [tst] at h1
    refine As ?_
    refine Af ?_
    refine Ad (Ag .n (.t rfl) rfl <| Ah .n (.t rfl) rfl <| Lex.nil) ?_
    exact Au [] (.cons (.t rfl rfl) .nil) rfl trivial rfl

/-! ### spec_l04Parts -/
theorem c_spec_l04Parts (m_ : AB) (list : List Int) (hp1 : MineIn m_) (hp2 : ListIn m_ list) : Con Tryz.prog 119 [.rp [.int .i64 m_.Junctions, .sl 7 (m_.Airways.map Ar.v)], .sl 1 (list.map (V.int .i64))] [] (.os 100 (B2 m_ list).length) ([(100, some (.row 2 1 ((B2 m_ list).map (V.int .i64))))]) := by
  refine con_intro (out := fun r : (List Int) => ((.os 100 r.length : V), ([(100, some (.row 2 1 (r.map (V.int .i64))))] : List (Nat × Option O)))) (r := (B2 m_ list)) Tryz.func119 rfl Tryz.ntmps119 rfl ?_
  have hJ := hp1.1
  have hJ1 := hp1.1
  have hA1 := hp1.2.1
  refine BH (t := 0) 1 rfl rfl fun hl => ?_
  have l1 := hl; clear hl; simp only [List.length_map] at l1
  refine Br (t := 1) rfl fun hl => ?_
  have l2 := hl; clear hl; simp only [List.length_map] at l2
  refine Af ?_
  refine Ad (Ah .n (.c rfl) rfl <| Lex.nil) ?_
  refine Af ?_
  refine Ad (AV K_5 (f := V.int .i64) (l := 200) .n rfl rfl .nil rfl si_27 zv_2 rfl rfl rfl <| Ah .n (.t rfl) rfl <| Lex.nil) ?_
  refine Af ?_
  refine Af ?_
  refine Ad (Ah .n (.c rfl) rfl <| Lex.nil) ?_
  refine Aw ?_
  refine Bp (DA m_ list) _ _ _ rfl (fun (x1 : (List Int) × Int) => 0 ≤ x1.2 ∧ x1.2 ≤ m_.Junctions ∧ (x1.1.length : Int) + 0 ≤ x1.2 + (K_5.length : Int) ∧ (x1.1.length : Int) = x1.2) (fun x1 => 0 ≤ x1.2 ∧ x1.2 ≤ m_.Junctions ∧ (x1.1.length : Int) + 0 ≤ x1.2 + (K_5.length : Int) ∧ (x1.1.length : Int) = x1.2 ∧ m_.Junctions ≤ x1.2) (fun x1 => (m_.Junctions - x1.2 : Int).toNat) (fun x1 => ⟨[(0, some (true, .rp [.int .i64 m_.Junctions, .sl 7 (m_.Airways.map Ar.v)])), (1, some (true, .sl 1 (list.map (V.int .i64)))), (5, some (true, .os 200 x1.1.length)), (6, some (true, .int .i64 x1.2))], [(200, some (.row 2 1 (x1.1.map (V.int .i64))))]⟩) (fun x1 => ⟨[(0, some (true, .rp [.int .i64 m_.Junctions, .sl 7 (m_.Airways.map Ar.v)])), (1, some (true, .sl 1 (list.map (V.int .i64)))), (5, some (true, .os 200 x1.1.length))], [(200, some (.row 2 1 (x1.1.map (V.int .i64))))]⟩) ⟨by omega, by omega, by (simp only [lens] at * <;> omega), by (simp only [lens] at * <;> omega)⟩ (by omega) (sub_of [] ⟨rfl, rfl, rfl, rfl, trivial⟩ ⟨rfl, trivial⟩ rfl) ?_ ?_
  · intro x1 i6
    obtain ⟨e28, e29, e30, e31, e32⟩ := i6
    try dsimp only at *
    refine Af ?_
    refine Af ?_
    refine Ad (Ah .n (.c rfl) rfl <| Lex.nil) ?_
    refine Aw ?_
    refine Bp (Dz m_ list x1) _ _ _ rfl (fun (x2 : (List Int) × Int) => 0 ≤ x2.2 ∧ x2.2 ≤ (list.length : Int) ∧ (x2.1.length : Int) = m_.Junctions) (fun x2 => 0 ≤ x2.2 ∧ x2.2 ≤ (list.length : Int) ∧ (x2.1.length : Int) = m_.Junctions ∧ (list.length : Int) ≤ x2.2) (fun x2 => ((list.length : Int) - x2.2 : Int).toNat) (fun x2 => ⟨[(0, some (true, .rp [.int .i64 m_.Junctions, .sl 7 (m_.Airways.map Ar.v)])), (1, some (true, .sl 1 (list.map (V.int .i64)))), (5, some (true, .os 200 x2.1.length)), (7, some (true, .int .i64 x2.2))], [(200, some (.row 2 1 (x2.1.map (V.int .i64))))]⟩) (fun x2 => ⟨[(5, some (true, .os 200 x2.1.length))], [(200, some (.row 2 1 (x2.1.map (V.int .i64))))]⟩) ⟨by omega, by omega, by (simp only [lens] at * <;> omega)⟩ (by omega) (sub_of [] ⟨rfl, rfl, rfl, rfl, trivial⟩ ⟨rfl, trivial⟩ rfl) ?_ ?_
    · intro x2 i20
      obtain ⟨e21, e22, e23, e24⟩ := i20
      try dsimp only at *
      refine Af ?_
      refine Ad (Ag .n (.t rfl) rfl <| Ah .n (.t rfl) rfl <| Lex.nil) ?_
      exact Au [(100, 200)] (.cons (.t rfl rfl) .nil) (by first | rfl | (simp only [put_len]; rfl)) ⟨rfl, trivial⟩ rfl
    · intro rec2 k2 hk7 x2 i8
      obtain ⟨e25, e26, e27⟩ := i8
      try dsimp only at *
      refine Af ?_
      refine Af ?_
      refine Ad (Ag .n (.t rfl) rfl <| Ag .n (.t rfl) rfl <| BS .n (.t rfl) rfl len_map ss_27 rfl <| AF .n (.t rfl) (.t rfl) rfl rfl <| Lex.nil) ?_
      refine Aq (.t rfl) rfl (fun h9 => ?_) (fun h9 => ?_)
      · try simp only [tst] at h9
        refine As ?_
        refine Af ?_
        refine Aw ?_
        refine Af ?_
        refine Bk fmo (Ag .n (.t rfl) rfl <| Av .n (.t rfl) rfl <| Az .n (.t rfl) fo_26_1 rfl <| Ap .n (.t rfl) rfl ic_24 rfl <| Ag .n (.t rfl) rfl <| Ag .n (.t rfl) rfl <| A8 .n (.t rfl) (.t rfl) sl_27 (fun _ => by omega) rfl <| Ap .n (.t rfl) rfl ic_2 rfl <| A8 .n (.t rfl) (.t rfl) sl_24 (fun _ => by ((have hq := ListIn.air (list := list) hp1 hp2 (i := x2.2) (by omega); have hr := ListIn.at (list := list) hp2 (i := x2.2) (by omega); first | omega | (dsimp only; omega)))) rfl <| Ah .n (.t rfl) rfl <| Lex.nil) (by kernel_rfl) ?_
        refine Af ?_
        refine Bk fmo (Ag .n (.t rfl) rfl <| Ag .n (.t rfl) rfl <| Av .n (.t rfl) rfl <| Az .n (.t rfl) fo_112_1 rfl <| Ap .n (.t rfl) rfl ic_2 rfl <| AZ .n (.t rfl) (.t rfl) sl_27 (fun _ => by ((have hq := ListIn.air (list := list) hp1 hp2 (i := x2.2) (by omega); have hr := ListIn.at (list := list) hp2 (i := x2.2) (by omega); first | omega | (dsimp only; omega)))) rfl <| A2 .n (.t rfl) rfl (fun _ => by ((have hq := ListIn.air (list := list) hp1 hp2 (i := x2.2) (by omega); have hr := ListIn.at (list := list) hp2 (i := x2.2) (by omega); first | omega | (dsimp only; omega)))) rfl rfl rfl ic_2 rfl <| Ag .n (.t rfl) rfl <| Ag .n (.t rfl) rfl <| Av .n (.t rfl) rfl <| Az .n (.t rfl) fo_112_2 rfl <| Ap .n (.t rfl) rfl ic_2 rfl <| AZ .n (.t rfl) (.t rfl) sl_27 (fun _ => by ((have hq := ListIn.air (list := list) hp1 hp2 (i := x2.2) (by omega); have hr := ListIn.at (list := list) hp2 (i := x2.2) (by omega); first | omega | (dsimp only; omega)))) rfl <| A2 .n (.t rfl) rfl (fun _ => by ((have hq := ListIn.air (list := list) hp1 hp2 (i := x2.2) (by omega); have hr := ListIn.at (list := list) hp2 (i := x2.2) (by omega); first | omega | (dsimp only; omega)))) rfl rfl rfl ic_2 rfl <| AJ (full := false) .n .f en_94 (.cons (.t rfl) (.cons (.t rfl) .nil)) (.cons (.b (.a (.same rfl))) (.cons (.b (.a (.same rfl))) .nil)) (fun hg => c_spec_l00Min (at' x2.1 (at' m_.Airways (at' list x2.2)).From) (at' x2.1 (at' m_.Airways (at' list x2.2)).To)) rfl (fun h => Bool.noConfusion h) rfl <| Ah .n (.t rfl) rfl <| Lex.nil) (by kernel_rfl) ?_
        refine Af ?_
        refine Bk fmo (Ag .n (.t rfl) rfl <| Ag .n (.t rfl) rfl <| Av .n (.t rfl) rfl <| Az .n (.t rfl) fo_112_1 rfl <| Ap .n (.t rfl) rfl ic_2 rfl <| AZ .n (.t rfl) (.t rfl) sl_27 (fun _ => by ((have hq := ListIn.air (list := list) hp1 hp2 (i := x2.2) (by omega); have hr := ListIn.at (list := list) hp2 (i := x2.2) (by omega); first | omega | (dsimp only; omega)))) rfl <| A2 .n (.t rfl) rfl (fun _ => by ((have hq := ListIn.air (list := list) hp1 hp2 (i := x2.2) (by omega); have hr := ListIn.at (list := list) hp2 (i := x2.2) (by omega); first | omega | (dsimp only; omega)))) rfl rfl rfl ic_2 rfl <| Ag .n (.t rfl) rfl <| Ag .n (.t rfl) rfl <| Av .n (.t rfl) rfl <| Az .n (.t rfl) fo_112_2 rfl <| Ap .n (.t rfl) rfl ic_2 rfl <| AZ .n (.t rfl) (.t rfl) sl_27 (fun _ => by ((have hq := ListIn.air (list := list) hp1 hp2 (i := x2.2) (by omega); have hr := ListIn.at (list := list) hp2 (i := x2.2) (by omega); first | omega | (dsimp only; omega)))) rfl <| A2 .n (.t rfl) rfl (fun _ => by ((have hq := ListIn.air (list := list) hp1 hp2 (i := x2.2) (by omega); have hr := ListIn.at (list := list) hp2 (i := x2.2) (by omega); first | omega | (dsimp only; omega)))) rfl rfl rfl ic_2 rfl <| AJ (full := false) .n .f en_59 (.cons (.t rfl) (.cons (.t rfl) .nil)) (.cons (.b (.a (.same rfl))) (.cons (.b (.a (.same rfl))) .nil)) (fun hg => DH (at' x2.1 (at' m_.Airways (at' list x2.2)).From) (at' x2.1 (at' m_.Airways (at' list x2.2)).To)) rfl (fun h => Bool.noConfusion h) rfl <| Ah .n (.t rfl) rfl <| Lex.nil) (by kernel_rfl) ?_
        refine Af ?_
        refine Ad (Ah .n (.c rfl) rfl <| Lex.nil) ?_
        refine Aw ?_
        refine Bp (Dy m_ list x1 rec2 k2 x2) _ _ _ rfl (fun (x3 : (List Int) × Int) => 0 ≤ x3.2 ∧ x3.1.length = x2.1.length) (fun x3 => 0 ≤ x3.2 ∧ x3.1.length = x2.1.length ∧ (x3.1.length : Int) ≤ x3.2) (fun x3 => ((x3.1.length : Int) - x3.2 : Int).toNat) (fun x3 => ⟨[(0, some (true, .rp [.int .i64 m_.Junctions, .sl 7 (m_.Airways.map Ar.v)])), (1, some (true, .sl 1 (list.map (V.int .i64)))), (5, some (true, .os 200 x3.1.length)), (7, some (true, .int .i64 x2.2)), (9, some (true, .int .i64 (A4 (at' x2.1 (at' m_.Airways (at' list x2.2)).From) (at' x2.1 (at' m_.Airways (at' list x2.2)).To)))), (10, some (true, .int .i64 (AC (at' x2.1 (at' m_.Airways (at' list x2.2)).From) (at' x2.1 (at' m_.Airways (at' list x2.2)).To)))), (11, some (true, .int .i64 x3.2))], [(200, some (.row 2 1 (x3.1.map (V.int .i64))))]⟩) (fun x3 => ⟨[(0, some (true, .rp [.int .i64 m_.Junctions, .sl 7 (m_.Airways.map Ar.v)])), (1, some (true, .sl 1 (list.map (V.int .i64)))), (5, some (true, .os 200 x3.1.length)), (7, some (true, .int .i64 x2.2))], [(200, some (.row 2 1 (x3.1.map (V.int .i64))))]⟩) ⟨by omega, by (simp only [lens] at * <;> omega)⟩ (by (simp only [lens] at * <;> omega)) (sub_of [] ⟨rfl, rfl, rfl, rfl, rfl, rfl, rfl, trivial⟩ ⟨rfl, trivial⟩ rfl) ?_ ?_
        · intro x3 i14
          obtain ⟨e15, e16, e17⟩ := i14
          try dsimp only at *
          refine AK ?_
          refine Ad (Ag .n (.t rfl) rfl <| BM .n (.t rfl) (.c rfl) (fun _ => by omega) rfl <| Ah .n (.t rfl) rfl <| Lex.nil) ?_
          exact A5 (x3.1, x2.2 + 1) ⟨by omega, by omega, by (simp only [lens] at * <;> omega)⟩ (by omega) (sub_of [] ⟨rfl, rfl, rfl, rfl, trivial⟩ ⟨rfl, trivial⟩ rfl)
        · intro rec3 k3 hk10 x3 i11
          obtain ⟨e18, e19⟩ := i11
          try dsimp only at *
          refine Af ?_
          refine Af ?_
          refine Ad (Ag .n (.t rfl) rfl <| Ag .n (.t rfl) rfl <| BS .n (.t rfl) rfl rfl ss_27 rfl <| AF .n (.t rfl) (.t rfl) rfl rfl <| Lex.nil) ?_
          refine Aq (.t rfl) rfl (fun h12 => ?_) (fun h12 => ?_)
          · try simp only [tst] at h12
            refine As ?_
            refine Af ?_
            refine Aw ?_
            refine Af ?_
            refine Ad (Ag .n (.t rfl) rfl <| Ag .n (.t rfl) rfl <| AZ .n (.t rfl) (.t rfl) sl_27 (fun _ => by omega) rfl <| A2 .n (.t rfl) rfl (fun _ => by omega) rfl rfl rfl ic_2 rfl <| Ag .n (.t rfl) rfl <| AF .n (.t rfl) (.t rfl) rfl rfl <| Lex.nil) ?_
            refine Aq (.t rfl) rfl (fun h13 => ?_) (fun h13 => ?_)
            · try simp only [tst] at h13
              refine Ad (Ag .n (.t rfl) rfl <| Ag .n (.t rfl) rfl <| Ag .n (.t rfl) rfl <| AZ .n (.t rfl) (.t rfl) sl_27 (fun _ => by omega) rfl <| B0 (A4 (at' x2.1 (at' m_.Airways (at' list x2.2)).From) (at' x2.1 (at' m_.Airways (at' list x2.2)).To)) .n rfl (.t rfl) (.t rfl) rfl ts_2 (by omega) rfl rfl <| Lex.nil) ?_
              refine AK ?_
              refine Ad (Ag .n (.t rfl) rfl <| BM .n (.t rfl) (.c rfl) (fun _ => by omega) rfl <| Ah .n (.t rfl) rfl <| Lex.nil) ?_
              exact A5 (put' x3.1 x3.2 (A4 (at' x2.1 (at' m_.Airways (at' list x2.2)).From) (at' x2.1 (at' m_.Airways (at' list x2.2)).To)), x3.2 + 1) ⟨by omega, by (simp only [lens] at * <;> omega)⟩ (by (simp only [lens] at * <;> omega)) (sub_of [] ⟨rfl, rfl, os_len rfl (by first | (simp only [put_len]; done) | (first | omega | assumption | (simp only [lens] at * <;> omega) | (((have hq := ListIn.air (list := list) hp1 hp2 (i := x2.2) (by omega); have hr := ListIn.at (list := list) hp2 (i := x2.2) (by omega); first | omega | (dsimp only; omega))); done))), rfl, rfl, rfl, rfl, trivial⟩ ⟨rfl, trivial⟩ rfl)
            · try simp only [tst] at h13
              refine As ?_
              refine AK ?_
              refine Ad (Ag .n (.t rfl) rfl <| BM .n (.t rfl) (.c rfl) (fun _ => by omega) rfl <| Ah .n (.t rfl) rfl <| Lex.nil) ?_
              exact A5 (x3.1, x3.2 + 1) ⟨by omega, by omega⟩ (by (simp only [lens] at * <;> omega)) (sub_of [] ⟨rfl, rfl, rfl, rfl, rfl, rfl, rfl, trivial⟩ ⟨rfl, trivial⟩ rfl)
          · try simp only [tst] at h12
            refine Bb rfl ?_
            exact AY hk10 (x3.1, x3.2) ⟨by omega, by omega, by omega⟩ (sub_of [] ⟨rfl, rfl, rfl, rfl, trivial⟩ ⟨rfl, trivial⟩ rfl)
      · try simp only [tst] at h9
        refine Bb rfl ?_
        exact AY hk7 (x2.1, x2.2) ⟨by omega, by omega, by omega, by omega⟩ (sub_of [] ⟨rfl, trivial⟩ ⟨rfl, trivial⟩ rfl)
  · intro rec1 k1 hk3 x1 i4
    obtain ⟨e33, e34, e35, e36⟩ := i4
    try dsimp only at *
    refine Af ?_
    refine Af ?_
    refine Ad (Ag .n (.t rfl) rfl <| Ag .n (.t rfl) rfl <| Av .n (.t rfl) rfl <| Az .n (.t rfl) fo_26_0 rfl <| Ap .n (.t rfl) rfl ic_2 rfl <| AF .n (.t rfl) (.t rfl) rfl rfl <| Lex.nil) ?_
    refine Aq (.t rfl) rfl (fun h5 => ?_) (fun h5 => ?_)
    · try simp only [tst] at h5
      refine As ?_
      refine Af ?_
      refine Aw ?_
      refine Ad (Ag .n (.t rfl) rfl <| Ag .n (.t rfl) rfl <| AV ([x1.2] : List Int) (f := V.int .i64) (l := 201) .n rfl rfl (.cons (.t rfl) .nil) rfl si_27 zv_2 rfl rfl rfl <| CX (xs := x1.1) (ys := ([x1.2] : List Int)) (f := V.int .i64) (l := 202) .n rfl (.ow (.t rfl) rfl (take_all (by simp only [len_map, put_len] <;> rfl)) (by simp only [len_map, put_len] <;> rfl)) (.ow (.t rfl) rfl (take_all (by simp only [len_map, put_len] <;> rfl)) (by simp only [len_map, put_len] <;> rfl)) si_27 zv_2 rfl (by (simp only [lens] at * <;> omega)) rfl rfl <| Ah .n (.t rfl) rfl <| Lex.nil) ?_
      refine AK ?_
      refine Ad (Ag .n (.t rfl) rfl <| BM .n (.t rfl) (.c rfl) (fun _ => by omega) rfl <| Ah .n (.t rfl) rfl <| Lex.nil) ?_
      exact A5 (x1.1 ++ ([x1.2] : List Int), x1.2 + 1) ⟨by omega, by omega, by (simp only [lens] at * <;> omega), by (simp only [lens] at * <;> omega)⟩ (by omega) (sub_of [(200, 202)] ⟨rfl, rfl, rfl, rfl, trivial⟩ ⟨rfl, trivial⟩ rfl)
    · try simp only [tst] at h5
      refine Bb rfl ?_
      exact AY hk3 (x1.1, x1.2) ⟨by omega, by omega, by omega, by omega, by omega⟩ (sub_of [] ⟨rfl, rfl, rfl, trivial⟩ ⟨rfl, trivial⟩ rfl)

/-! ### spec_l04Tree -/
theorem c_spec_l04Tree (m_ : AB) (hp1 : MineIn m_) : Con Tryz.prog 113 [.rp [.int .i64 m_.Junctions, .sl 7 (m_.Airways.map Ar.v)]] [] (.os 100 (Bs m_).length) ([(100, some (.row 2 1 ((Bs m_).map (V.int .i64))))]) := by
  refine con_intro (out := fun r : (List Int) => ((.os 100 r.length : V), ([(100, some (.row 2 1 (r.map (V.int .i64))))] : List (Nat × Option O)))) (r := (Bs m_)) Tryz.func113 rfl Tryz.ntmps113 rfl ?_
  have hJ := hp1.1
  have hA := hp1.2.1
  have hJ1 := hp1.1
  have hA1 := hp1.2.1
  refine BH (t := 0) 1 rfl rfl fun hl => ?_
  have l1 := hl; clear hl; simp only [List.length_map] at l1
  refine Af ?_
  refine Ad (Ah .n (.c rfl) rfl <| Lex.nil) ?_
  refine Af ?_
  refine Ad (AV K_5 (f := V.int .i64) (l := 200) .n rfl rfl .nil rfl si_27 zv_2 rfl rfl rfl <| Ah .n (.t rfl) rfl <| Lex.nil) ?_
  refine Af ?_
  refine Af ?_
  refine Ad (Ah .n (.c rfl) rfl <| Lex.nil) ?_
  refine Aw ?_
  refine Bp (m_spec_l04Tree_b1 m_) _ _ _ rfl (fun (x1 : (List Int) × Int) => 0 ≤ x1.2 ∧ x1.2 ≤ (m_.Airways.length : Int) ∧ (x1.1.length : Int) + 0 ≤ x1.2 + (K_5.length : Int) ∧ (x1.1.length : Int) ≤ x1.2 ∧ ListIn m_ x1.1) (fun x1 => 0 ≤ x1.2 ∧ x1.2 ≤ (m_.Airways.length : Int) ∧ (x1.1.length : Int) + 0 ≤ x1.2 + (K_5.length : Int) ∧ (x1.1.length : Int) ≤ x1.2 ∧ ListIn m_ x1.1 ∧ (m_.Airways.length : Int) ≤ x1.2) (fun x1 => ((m_.Airways.length : Int) - x1.2 : Int).toNat) (fun x1 => ⟨[(0, some (true, .rp [.int .i64 m_.Junctions, .sl 7 (m_.Airways.map Ar.v)])), (3, some (true, .os 200 x1.1.length)), (4, some (true, .int .i64 x1.2))], [(200, some (.row 2 1 (x1.1.map (V.int .i64))))]⟩) (fun x1 => ⟨[(3, some (true, .os 200 x1.1.length))], [(200, some (.row 2 1 (x1.1.map (V.int .i64))))]⟩) ⟨by omega, by omega, by (simp only [lens] at * <;> omega), by (simp only [lens] at * <;> omega), by ((intro y hy; exact absurd hy (List.not_mem_nil)))⟩ (by omega) (sub_of [] ⟨rfl, rfl, rfl, trivial⟩ ⟨rfl, trivial⟩ rfl) ?_ ?_
  · intro x1 i6
    obtain ⟨e7, e8, e9, e10, e11, e12⟩ := i6
    try dsimp only at *
    refine Af ?_
    refine Ad (Ag .n (.t rfl) rfl <| Ah .n (.t rfl) rfl <| Lex.nil) ?_
    exact Au [(100, 200)] (.cons (.t rfl rfl) .nil) (by first | rfl | (simp only [put_len]; rfl)) ⟨rfl, trivial⟩ rfl
  · intro rec1 k1 hk2 x1 i3
    obtain ⟨e13, e14, e15, e16, e17⟩ := i3
    try dsimp only at *
    refine Af ?_
    refine Af ?_
    refine Ad (Ag .n (.t rfl) rfl <| Ag .n (.t rfl) rfl <| Av .n (.t rfl) rfl <| Az .n (.t rfl) fo_26_1 rfl <| Ap .n (.t rfl) rfl ic_24 rfl <| BS .n (.t rfl) rfl len_map ss_24 rfl <| AF .n (.t rfl) (.t rfl) rfl rfl <| Lex.nil) ?_
    refine Aq (.t rfl) rfl (fun h4 => ?_) (fun h4 => ?_)
    · try simp only [tst] at h4
      refine As ?_
      refine Af ?_
      refine Aw ?_
      refine Af ?_
      refine Ad (Ag .n (.t rfl) rfl <| Ag .n (.t rfl) rfl <| AW (full := true) [] [(100, 201)] .n rfl .f en_119 (.cons (.t rfl) (.cons (.t rfl) .nil)) (.cons (.b (.a (.same rfl))) (.cons (.b (.a (.own rfl rfl rfl (take_all (by simp only [len_map, put_len] <;> rfl)) (by simp only [len_map, put_len] <;> rfl)))) .nil)) (c_spec_l04Parts m_ x1.1 (by omega) (by omega)) trivial rfl rfl (fun _ => rfl) (fun _ => (hr_row (fun _ => rfl) hr_nil)) rfl <| Ah .n (.t rfl) rfl <| Lex.nil) ?_
      refine Af ?_
      refine Bk fmo (Ag .n (.t rfl) rfl <| Ag .n (.t rfl) rfl <| Av .n (.t rfl) rfl <| Az .n (.t rfl) fo_26_1 rfl <| Ap .n (.t rfl) rfl ic_24 rfl <| Ag .n (.t rfl) rfl <| A8 .n (.t rfl) (.t rfl) sl_24 (fun _ => by omega) rfl <| Az .n (.t rfl) fo_112_1 rfl <| Ap .n (.t rfl) rfl ic_2 rfl <| AZ .n (.t rfl) (.t rfl) sl_27 (fun _ => by ((have hq := parts_len (m := m_) (list := x1.1) hJ.1; have hr := hp1.at (i := x1.2) (by omega); unfold AirIn at hr; omega))) rfl <| A2 .n (.t rfl) rfl (fun _ => by ((have hq := parts_len (m := m_) (list := x1.1) hJ.1; have hr := hp1.at (i := x1.2) (by omega); unfold AirIn at hr; omega))) rfl rfl rfl ic_2 rfl <| Ag .n (.t rfl) rfl <| Ag .n (.t rfl) rfl <| Av .n (.t rfl) rfl <| Az .n (.t rfl) fo_26_1 rfl <| Ap .n (.t rfl) rfl ic_24 rfl <| Ag .n (.t rfl) rfl <| A8 .n (.t rfl) (.t rfl) sl_24 (fun _ => by omega) rfl <| Az .n (.t rfl) fo_112_2 rfl <| Ap .n (.t rfl) rfl ic_2 rfl <| AZ .n (.t rfl) (.t rfl) sl_27 (fun _ => by ((have hq := parts_len (m := m_) (list := x1.1) hJ.1; have hr := hp1.at (i := x1.2) (by omega); unfold AirIn at hr; omega))) rfl <| A2 .n (.t rfl) rfl (fun _ => by ((have hq := parts_len (m := m_) (list := x1.1) hJ.1; have hr := hp1.at (i := x1.2) (by omega); unfold AirIn at hr; omega))) rfl rfl rfl ic_2 rfl <| AF .n (.t rfl) (.t rfl) rfl rfl <| Lex.nil) (by kernel_rfl) ?_
      refine Aq (.t rfl) rfl (fun h5 => ?_) (fun h5 => ?_)
      · try simp only [tst] at h5
        refine Ad (Ag .n (.t rfl) rfl <| Ag .n (.t rfl) rfl <| AV ([x1.2] : List Int) (f := V.int .i64) (l := 202) .n rfl rfl (.cons (.t rfl) .nil) rfl si_27 zv_2 rfl rfl rfl <| CX (xs := x1.1) (ys := ([x1.2] : List Int)) (f := V.int .i64) (l := 203) .n rfl (.ow (.t rfl) rfl (take_all (by simp only [len_map, put_len] <;> rfl)) (by simp only [len_map, put_len] <;> rfl)) (.ow (.t rfl) rfl (take_all (by simp only [len_map, put_len] <;> rfl)) (by simp only [len_map, put_len] <;> rfl)) si_27 zv_2 rfl (by (simp only [lens] at * <;> omega)) rfl rfl <| Ah .n (.t rfl) rfl <| Lex.nil) ?_
        refine AK ?_
        refine Ad (Ag .n (.t rfl) rfl <| BM .n (.t rfl) (.c rfl) (fun _ => by omega) rfl <| Ah .n (.t rfl) rfl <| Lex.nil) ?_
        exact A5 (x1.1 ++ ([x1.2] : List Int), x1.2 + 1) ⟨by omega, by omega, by (simp only [lens] at * <;> omega), by (simp only [lens] at * <;> omega), by ((dsimp only; exact tree_add (by assumption) (by omega)))⟩ (by omega) (sub_of [(200, 203)] ⟨rfl, rfl, rfl, trivial⟩ ⟨rfl, trivial⟩ rfl)
      · try simp only [tst] at h5
        refine As ?_
        refine AK ?_
        refine Ad (Ag .n (.t rfl) rfl <| BM .n (.t rfl) (.c rfl) (fun _ => by omega) rfl <| Ah .n (.t rfl) rfl <| Lex.nil) ?_
        exact A5 (x1.1, x1.2 + 1) ⟨by omega, by omega, by (simp only [lens] at * <;> omega), by (simp only [lens] at * <;> omega), by omega⟩ (by omega) (sub_of [] ⟨rfl, rfl, rfl, trivial⟩ ⟨rfl, trivial⟩ rfl)
    · try simp only [tst] at h4
      refine Bb rfl ?_
      exact AY hk2 (x1.1, x1.2) ⟨by omega, by omega, by omega, by omega, by omega, by omega⟩ (sub_of [] ⟨rfl, trivial⟩ ⟨rfl, trivial⟩ rfl)

/-! ### spec_l00Has -/
theorem c_spec_l00Has (list : List Int) (n_ : Int) : Con Tryz.prog 114 [.sl 1 (list.map (V.int .i64)), .int .i64 n_] [] (.bool (CW list n_)) ([]) := by
  refine con_intro (out := fun r : Bool => ((.bool r : V), ([] : List (Nat × Option O)))) (r := (CW list n_)) Tryz.func114 rfl Tryz.ntmps114 rfl ?_
  refine Br (t := 0) rfl fun hl => ?_
  have l1 := hl; clear hl; simp only [List.length_map] at l1
  refine Af ?_
  refine Ad (Ah .n (.c rfl) rfl <| Lex.nil) ?_
  refine Af ?_
  refine Af ?_
  refine Ad (Ah .n (.c rfl) rfl <| Lex.nil) ?_
  refine Aw ?_
  refine Bp (m_spec_l00Has_b1 list n_) _ _ _ rfl (fun (x1 : Int) => 0 ≤ x1 ∧ x1 ≤ (list.length : Int)) (fun x1 => 0 ≤ x1 ∧ x1 ≤ (list.length : Int) ∧ (list.length : Int) ≤ x1) (fun x1 => ((list.length : Int) - x1 : Int).toNat) (fun x1 => ⟨[(0, some (true, .sl 1 (list.map (V.int .i64)))), (1, some (true, .int .i64 n_)), (5, some (true, .int .i64 x1))], []⟩) (fun x1 => ⟨[], []⟩) ⟨by omega, by omega⟩ (by omega) (sub_of [] ⟨rfl, rfl, rfl, trivial⟩ trivial rfl) ?_ ?_
  · intro x1 i6
    obtain ⟨e7, e8, e9⟩ := i6
    try dsimp only at *
    refine Af ?_
    refine Ad (Ah .n (.c rfl) rfl <| Lex.nil) ?_
    exact Au [] (.cons (.t rfl rfl) .nil) rfl trivial rfl
  · intro rec1 k1 hk2 x1 i3
    obtain ⟨e10, e11⟩ := i3
    try dsimp only at *
    refine Af ?_
    refine Af ?_
    refine Ad (Ag .n (.t rfl) rfl <| Ag .n (.t rfl) rfl <| BS .n (.t rfl) rfl len_map ss_27 rfl <| AF .n (.t rfl) (.t rfl) rfl rfl <| Lex.nil) ?_
    refine Aq (.t rfl) rfl (fun h4 => ?_) (fun h4 => ?_)
    · try simp only [tst] at h4
      refine As ?_
      refine Af ?_
      refine Aw ?_
      refine Af ?_
      refine Ad (Ag .n (.t rfl) rfl <| Ag .n (.t rfl) rfl <| A8 .n (.t rfl) (.t rfl) sl_27 (fun _ => by omega) rfl <| Ap .n (.t rfl) rfl ic_2 rfl <| Ag .n (.t rfl) rfl <| AF .n (.t rfl) (.t rfl) rfl rfl <| Lex.nil) ?_
      refine Aq (.t rfl) rfl (fun h5 => ?_) (fun h5 => ?_)
      · try simp only [tst] at h5
        refine Af ?_
        refine Ad (Ah .n (.c rfl) rfl <| Lex.nil) ?_
        exact Au [] (.cons (.t rfl rfl) .nil) rfl trivial rfl
      · try simp only [tst] at h5
        refine As ?_
        refine AK ?_
        refine Ad (Ag .n (.t rfl) rfl <| BM .n (.t rfl) (.c rfl) (fun _ => by omega) rfl <| Ah .n (.t rfl) rfl <| Lex.nil) ?_
        exact A5 (x1 + 1) ⟨by omega, by omega⟩ (by omega) (sub_of [] ⟨rfl, rfl, rfl, trivial⟩ trivial rfl)
    · try simp only [tst] at h4
      refine Bb rfl ?_
      exact AY hk2 x1 ⟨by omega, by omega, by omega⟩ (sub_of [] trivial trivial rfl)


end Go.Proofs.YtibbfdojcdkopaaGreat
