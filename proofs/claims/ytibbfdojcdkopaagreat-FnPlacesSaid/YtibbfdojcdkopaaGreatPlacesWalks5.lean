/-
  THE WALKS: each Go function computes its model. Conditions: as each theorem states them (hp1, hp2 ..).
-/
import Derived.Test.YtibbfdojcdkopaaGreatPlacesWalks4
set_option linter.unusedVariables false
set_option linter.unusedSimpArgs false
set_option linter.unusedSectionVars false
set_option linter.unnecessarySimpa false
namespace Go.Proofs.YtibbfdojcdkopaaGreat
open Go Go.RowKit Go.Proofs Go.Proofs.YtibbfdojcdkopaaGreat.E
/-! ### spec_l19DrawArrivals -/
set_option maxRecDepth 100000 in
set_option maxHeartbeats 4000000 in
theorem c_spec_l19DrawArrivals (s_ : Ak) (m_ : AB) (hp1 : Lim s_ 200000) (hp2 : m_.Airways.length ≤ 30) : ConG Tryz.prog 55 [.op 0 0 0 0, .rp [.int .i64 m_.Junctions, .sl 7 (m_.Airways.map Ar.v)]] [(0, some (.box 100 [.sl 1 (s_.code.map (V.int .u8)), .int .i64 s_.at_, .int .u64 s_.seed]))] (.os 100 (Ay s_ m_).1.length) ([(100, some (.row 2 1 ((Ay s_ m_).1.map (V.int .i64)))), (0, some (.box 100 [.sl 1 ((Ay s_ m_).2.code.map (V.int .u8)), .int .i64 (Ay s_ m_).2.at_, .int .u64 (Ay s_ m_).2.seed]))]) := by
  refine con_introG (out := fun r : (List Int) × Ak => ((.os 100 r.1.length : V), ([(100, some (.row 2 1 (r.1.map (V.int .i64)))), (0, some (.box 100 [.sl 1 (r.2.code.map (V.int .u8)), .int .i64 r.2.at_, .int .u64 r.2.seed]))] : List (Nat × Option O)))) (r := (Ay s_ m_)) Tryz.func55 rfl Tryz.ntmps55 rfl ?_
  have hM := min17 (a := m_.Junctions)
  refine BH (t := 1) 1 rfl rfl fun hl => ?_
  have l1 := hl; clear hl; simp only [List.length_map] at l1
  refine Af ?_
  refine Ad (Ah .n (.c rfl) rfl <| Lex.nil) ?_
  refine Af ?_
  refine Af ?_
  refine Ad (Ag .n (.t rfl) rfl <| AJ (full := false) .n .f en_50 (.cons (.t rfl) .nil) (.cons (.b (.a (.same rfl))) .nil) (fun hg => Dt m_) rfl (fun h => Bool.noConfusion h) rfl <| Ag .n (.t rfl) rfl <| Ag (.t rfl rfl) (.t rfl) rfl <| Av (.t rfl rfl) (.u rfl id) rfl <| Az (.t rfl rfl) (.u rfl id) fo_26_1 rfl <| Ap (.t rfl rfl) (.u rfl id) rfl ic_24 rfl <| BS (.t rfl rfl) (.u rfl id) rfl len_map ss_24 rfl <| AF (.t rfl rfl) (.u rfl id) (.c rfl) rfl rfl <| B4 .n (.t rfl) (.u rfl id) rfl <| Ag .n (.t rfl) rfl <| Ag (.t rfl rfl) (.t rfl) rfl <| q_callGM (full := false) (m0 := 0) (L := 0) (v := .int .i64 (Aa s_ 3).1) (o' := .box 100 [.sl 1 ((bif ((AD m_) && (decide (0 < (m_.Airways.length : Int)))) then (Aa s_ 3).2 else s_).code.map (V.int .u8)), .int .i64 (bif ((AD m_) && (decide (0 < (m_.Airways.length : Int)))) then (Aa s_ 3).2 else s_).at_, .int .u64 (bif ((AD m_) && (decide (0 < (m_.Airways.length : Int)))) then (Aa s_ 3).2 else s_).seed]) (.t rfl rfl) (fun hg => .f) en_22 (fun hg => (.cons (.u rfl (fun _ => id hg)) (.cons (.c rfl) .nil))) (.cons (.b (.mutp rfl)) (.cons (.b (.a (.same rfl))) .nil)) (fun hg => AI s_ 3 (by (try dsimp only); (with_reducible (first | apply Lim.mono | apply Lim.out | apply LimA.mono)); (repeat (with_reducible (first | assumption | apply Lim.bif1 | apply Lim.bifp | apply Lim.among | apply Lim.pick | apply Lim.arr19 | apply Lim.fire17 | apply Lim.flows7 | apply Lim.mk))); omega)) ⟨rfl, trivial⟩ rfl (fun h => Bool.noConfusion h) (fun h => Bool.noConfusion h) rfl (fun hg => by simp only [Bool.true_and] at hg; rw [hg]; exact ⟨rfl, rfl⟩) (fun hg => by simp only [Bool.true_and] at hg; rw [hg]; rfl) <| AF (.t rfl rfl) (.u rfl id) (.c rfl) rfl rfl <| B4 .n (.t rfl) (.u rfl id) rfl <| Lex.nil) ?_
  refine Dn _ _ rfl (fun v2 : (List Int) × Int × Int => LimA v2.1 v2.2.1 200200) (fun v2 => ⟨[(0, some (true, .op 0 0 0 0)), (1, some (true, .rp [.int .i64 m_.Junctions, .sl 7 (m_.Airways.map Ar.v)]))], [(0, some (.box 100 [.sl 1 (v2.1.map (V.int .u8)), .int .i64 v2.2.1, .int .u64 v2.2.2]))]⟩) (fun v2 hv24 => ?_) (fun j3 hj4 => ?_)
  · have e25 := hv24
    refine Af ?_
    refine Ad (AV K_5 (f := V.int .i64) (l := 203) .n rfl rfl .nil rfl si_27 zv_2 rfl rfl rfl <| Ah .n (.t rfl) rfl <| Lex.nil) ?_
    refine Af ?_
    refine Af ?_
    refine Ad (Ah .n (.c rfl) rfl <| Lex.nil) ?_
    refine Aw ?_
    refine Dw (Ce s_ m_ v2) _ _ _ rfl (fun (x1 : (List Int) × Int × Int × (List Int) × Int) => 0 ≤ x1.2.2.2.2 ∧ (x1.2.2.2.1.length : Int) + 0 ≤ x1.2.2.2.2 + (K_5.length : Int) ∧ (0 ≤ x1.2.2.2.2 ∧ x1.2.2.2.2 ≤ 17) ∧ (x1.2.2.2.1.length : Int) = x1.2.2.2.2 ∧ LimA x1.1 x1.2.1 (200200 + 4 * x1.2.2.2.2)) (fun x1 => 0 ≤ x1.2.2.2.2 ∧ (x1.2.2.2.1.length : Int) + 0 ≤ x1.2.2.2.2 + (K_5.length : Int) ∧ (0 ≤ x1.2.2.2.2 ∧ x1.2.2.2.2 ≤ 17) ∧ (x1.2.2.2.1.length : Int) = x1.2.2.2.2 ∧ LimA x1.1 x1.2.1 (200200 + 4 * x1.2.2.2.2)) (fun x1 => ((A4 m_.Junctions 17) - x1.2.2.2.2 : Int).toNat) (fun x1 => ⟨[(0, some (true, .op 0 0 0 0)), (1, some (true, .rp [.int .i64 m_.Junctions, .sl 7 (m_.Airways.map Ar.v)])), (7, some (true, .os 203 x1.2.2.2.1.length)), (8, some (true, .int .i64 x1.2.2.2.2))], [(0, some (.box 100 [.sl 1 (x1.1.map (V.int .u8)), .int .i64 x1.2.1, .int .u64 x1.2.2.1])), (203, some (.row 2 1 (x1.2.2.2.1.map (V.int .i64))))]⟩) (fun x1 => ⟨[(0, some (true, .op 0 0 0 0)), (7, some (true, .os 203 x1.2.2.2.1.length))], [(0, some (.box 100 [.sl 1 (x1.1.map (V.int .u8)), .int .i64 x1.2.1, .int .u64 x1.2.2.1])), (203, some (.row 2 1 (x1.2.2.2.1.map (V.int .i64))))]⟩) ⟨by (simp only [lens] at * <;> omega), by (simp only [lens] at * <;> omega), by (simp only [lens] at * <;> omega), by (simp only [lens] at * <;> omega), by (try dsimp only); (with_reducible (first | apply Lim.mono | apply Lim.out | apply LimA.mono)); (repeat (with_reducible (first | assumption | apply Lim.bif1 | apply Lim.bifp | apply Lim.among | apply Lim.pick | apply Lim.arr19 | apply Lim.fire17 | apply Lim.flows7 | apply Lim.mk))); omega⟩ (by (simp only [lens] at * <;> omega)) (sub_of [] ⟨rfl, rfl, rfl, rfl, trivial⟩ ⟨rfl, rfl, trivial⟩ rfl) rfl ?_ ?_
    · intro x1 i10
      obtain ⟨e14, e15, e16, e17, e18⟩ := i10
      try dsimp only at *
      refine Af ?_
      refine Af ?_
      refine Ad (Ag .n (.t rfl) rfl <| AW (full := false) [(0, 0)] [] .n rfl .f en_22 (.cons (.t rfl) (.cons (.c rfl) .nil)) (.cons (.b (.mutp rfl)) (.cons (.b (.a (.same rfl))) .nil)) (AI (Ak.mk x1.1 x1.2.1 x1.2.2.1) 16 (by (try dsimp only); (with_reducible (first | apply Lim.mono | apply Lim.out | apply LimA.mono)); (repeat (with_reducible (first | assumption | apply Lim.bif1 | apply Lim.bifp | apply Lim.among | apply Lim.pick | apply Lim.arr19 | apply Lim.fire17 | apply Lim.flows7 | apply Lim.mk))); omega)) ⟨rfl, trivial⟩ rfl rfl (fun h => Bool.noConfusion h) (fun h => Bool.noConfusion h) rfl <| Lex.nil) ?_
      refine Aw ?_
      refine Af ?_
      refine Ad (AF .n (.t rfl) (.c rfl) rfl rfl <| Ah .n (.t rfl) rfl <| Lex.nil) ?_
      refine Aq (.t rfl) rfl (fun h11 => ?_) (fun h11 => ?_)
      · try simp only [tst] at h11
        refine Ad (Ag .n (.t rfl) rfl <| AV K_6 (f := V.int .i64) (l := 207) .n rfl rfl (.cons (.c rfl) .nil) rfl si_27 zv_2 rfl rfl rfl <| CX (xs := x1.2.2.2.1) (ys := K_6) (f := V.int .i64) (l := 208) .n rfl (.ow (.t rfl) rfl (take_all (by simp only [len_map, put_len] <;> rfl)) (by simp only [len_map, put_len] <;> rfl)) (.ow (.t rfl) rfl (take_all (by simp only [len_map, put_len] <;> rfl)) (by simp only [len_map, put_len] <;> rfl)) si_27 zv_2 rfl (by (simp only [lens] at * <;> omega)) rfl rfl <| Ah .n (.t rfl) rfl <| Lex.nil) ?_
        refine AK ?_
        refine Af ?_
        refine Ad (Ag .n (.t rfl) rfl <| Ah .n (.t rfl) rfl <| Lex.nil) ?_
        exact Au [(100, 208)] (.cons (.t rfl rfl) .nil) (by first | rfl | (simp only [put_len]; rfl)) ⟨rfl, rfl, trivial⟩ rfl
      · try simp only [tst] at h11
        refine Af ?_
        refine Ad (AF .n (.t rfl) (.c rfl) rfl rfl <| Ah .n (.t rfl) rfl <| Lex.nil) ?_
        refine Aq (.t rfl) rfl (fun h12 => ?_) (fun h12 => ?_)
        · try simp only [tst] at h12
          refine Af ?_
          refine Ad (Ag .n (.t rfl) rfl <| BS .n (.t rfl) rfl rfl ss_27 rfl <| AF .n (.t rfl) (.c rfl) rfl rfl <| Lex.nil) ?_
          refine Aq (.t rfl) rfl (fun h13 => ?_) (fun h13 => ?_)
          · try simp only [tst] at h13
            refine Ad (Ag .n (.t rfl) rfl <| AZ .n (.t rfl) (.c rfl) sl_27 (fun _ => by omega) rfl <| B0 (-2) .n rfl (.t rfl) (.c rfl) rfl ts_2 (by omega) rfl rfl <| Lex.nil) ?_
            refine AK ?_
            refine Af ?_
            refine Ad (Ag .n (.t rfl) rfl <| Ah .n (.t rfl) rfl <| Lex.nil) ?_
            exact Au [(100, 203)] (.cons (.t rfl rfl) .nil) (by first | rfl | (simp only [put_len]; rfl)) ⟨rfl, rfl, trivial⟩ rfl
          · try simp only [tst] at h13
            refine As ?_
            refine AK ?_
            refine Af ?_
            refine Ad (Ag .n (.t rfl) rfl <| Ah .n (.t rfl) rfl <| Lex.nil) ?_
            exact Au [(100, 203)] (.cons (.t rfl rfl) .nil) (by first | rfl | (simp only [put_len]; rfl)) ⟨rfl, rfl, trivial⟩ rfl
        · try simp only [tst] at h12
          refine As ?_
          refine AK ?_
          refine Af ?_
          refine Ad (Ag .n (.t rfl) rfl <| Ah .n (.t rfl) rfl <| Lex.nil) ?_
          exact Au [(100, 203)] (.cons (.t rfl rfl) .nil) (by first | rfl | (simp only [put_len]; rfl)) ⟨rfl, rfl, trivial⟩ rfl
    · intro rec1 k1 hk7 x1 i8
      obtain ⟨e19, e20, e21, e22, e23⟩ := i8
      try dsimp only at *
      refine Af ?_
      refine Af ?_
      refine Ad (Ag .n (.t rfl) rfl <| Ag .n (.t rfl) rfl <| Av .n (.t rfl) rfl <| Az .n (.t rfl) fo_26_0 rfl <| Ap .n (.t rfl) rfl ic_2 rfl <| AJ (full := false) .n .f en_94 (.cons (.t rfl) (.cons (.c rfl) .nil)) (.cons (.b (.a (.same rfl))) (.cons (.b (.a (.same rfl))) .nil)) (fun hg => c_spec_l00Min m_.Junctions 17) rfl (fun h => Bool.noConfusion h) rfl <| AF .n (.t rfl) (.t rfl) rfl rfl <| Lex.nil) ?_
      refine Aq (.t rfl) rfl (fun h9 => ?_) (fun h9 => ?_)
      · try simp only [tst] at h9
        refine As ?_
        refine Af ?_
        refine Aw ?_
        refine Af ?_
        refine Ad (Ag .n (.t rfl) rfl <| AW (full := false) [(0, 0)] [] .n rfl .f en_22 (.cons (.t rfl) (.cons (.c rfl) .nil)) (.cons (.b (.mutp rfl)) (.cons (.b (.a (.same rfl))) .nil)) (AI (Ak.mk x1.1 x1.2.1 x1.2.2.1) 60 (by (try dsimp only); (with_reducible (first | apply Lim.mono | apply Lim.out | apply LimA.mono)); (repeat (with_reducible (first | assumption | apply Lim.bif1 | apply Lim.bifp | apply Lim.among | apply Lim.pick | apply Lim.arr19 | apply Lim.fire17 | apply Lim.flows7 | apply Lim.mk))); omega)) ⟨rfl, trivial⟩ rfl rfl (fun h => Bool.noConfusion h) (fun h => Bool.noConfusion h) rfl <| AF .n (.c rfl) (.t rfl) rfl rfl <| Ah .n (.t rfl) rfl <| Lex.nil) ?_
        refine Ad (Ag .n (.t rfl) rfl <| Ag .n (.t rfl) rfl <| Ag .n (.t rfl) rfl <| Ag .n (.t rfl) rfl <| Ag .n (.t rfl) rfl <| AV ([(-1), (-1), IntKind.wrap .i64 (30 * (Aa (Ak.mk x1.1 x1.2.1 x1.2.2.1) 60).1), IntKind.wrap .i64 (30 * (Aa (Ak.mk x1.1 x1.2.1 x1.2.2.1) 60).1), IntKind.wrap .i64 (30 * (Aa (Ak.mk x1.1 x1.2.1 x1.2.2.1) 60).1)] : List Int) (f := V.int .i64) (l := 204) .n rfl rfl (.cons (.c rfl) (.cons (.c rfl) (.cons (.t rfl) (.cons (.t rfl) (.cons (.t rfl) .nil))))) rfl si_27 zv_2 rfl rfl rfl <| AW (full := false) [(0, 0), (1, 204)] [] .n rfl .f en_24 (.cons (.t rfl) (.cons (.t rfl) .nil)) (.cons (.b (.mutp rfl)) (.cons (.b (.muts rfl)) .nil)) (A0 (Aa (Ak.mk x1.1 x1.2.1 x1.2.2.1) 60).2 ([(-1), (-1), IntKind.wrap .i64 (30 * (Aa (Ak.mk x1.1 x1.2.1 x1.2.2.1) 60).1), IntKind.wrap .i64 (30 * (Aa (Ak.mk x1.1 x1.2.1 x1.2.2.1) 60).1), IntKind.wrap .i64 (30 * (Aa (Ak.mk x1.1 x1.2.1 x1.2.2.1) 60).1)] : List Int) (by (try dsimp only); (with_reducible (first | apply Lim.mono | apply Lim.out | apply LimA.mono)); (repeat (with_reducible (first | assumption | apply Lim.bif1 | apply Lim.bifp | apply Lim.among | apply Lim.pick | apply Lim.arr19 | apply Lim.fire17 | apply Lim.flows7 | apply Lim.mk))); omega) (by (simp only [lens] at * <;> omega))) ⟨rfl, rfl, trivial⟩ rfl rfl (fun h => Bool.noConfusion h) (fun h => Bool.noConfusion h) rfl <| AV ([(Aj (Aa (Ak.mk x1.1 x1.2.1 x1.2.2.1) 60).2 ([(-1), (-1), IntKind.wrap .i64 (30 * (Aa (Ak.mk x1.1 x1.2.1 x1.2.2.1) 60).1), IntKind.wrap .i64 (30 * (Aa (Ak.mk x1.1 x1.2.1 x1.2.2.1) 60).1), IntKind.wrap .i64 (30 * (Aa (Ak.mk x1.1 x1.2.1 x1.2.2.1) 60).1)] : List Int)).1] : List Int) (f := V.int .i64) (l := 205) .n rfl rfl (.cons (.t rfl) .nil) rfl si_27 zv_2 rfl rfl rfl <| CX (xs := x1.2.2.2.1) (ys := ([(Aj (Aa (Ak.mk x1.1 x1.2.1 x1.2.2.1) 60).2 ([(-1), (-1), IntKind.wrap .i64 (30 * (Aa (Ak.mk x1.1 x1.2.1 x1.2.2.1) 60).1), IntKind.wrap .i64 (30 * (Aa (Ak.mk x1.1 x1.2.1 x1.2.2.1) 60).1), IntKind.wrap .i64 (30 * (Aa (Ak.mk x1.1 x1.2.1 x1.2.2.1) 60).1)] : List Int)).1] : List Int)) (f := V.int .i64) (l := 206) .n rfl (.ow (.t rfl) rfl (take_all (by simp only [len_map, put_len] <;> rfl)) (by simp only [len_map, put_len] <;> rfl)) (.ow (.t rfl) rfl (take_all (by simp only [len_map, put_len] <;> rfl)) (by simp only [len_map, put_len] <;> rfl)) si_27 zv_2 rfl (by (simp only [lens] at * <;> omega)) rfl rfl <| Ah .n (.t rfl) rfl <| Lex.nil) ?_
        refine AK ?_
        refine Ad (Ag .n (.t rfl) rfl <| BM .n (.t rfl) (.c rfl) (fun _ => by omega) rfl <| Ah .n (.t rfl) rfl <| Lex.nil) ?_
        exact CC ((Aj (Aa (Ak.mk x1.1 x1.2.1 x1.2.2.1) 60).2 ([(-1), (-1), IntKind.wrap .i64 (30 * (Aa (Ak.mk x1.1 x1.2.1 x1.2.2.1) 60).1), IntKind.wrap .i64 (30 * (Aa (Ak.mk x1.1 x1.2.1 x1.2.2.1) 60).1), IntKind.wrap .i64 (30 * (Aa (Ak.mk x1.1 x1.2.1 x1.2.2.1) 60).1)] : List Int)).2.1.code, (Aj (Aa (Ak.mk x1.1 x1.2.1 x1.2.2.1) 60).2 ([(-1), (-1), IntKind.wrap .i64 (30 * (Aa (Ak.mk x1.1 x1.2.1 x1.2.2.1) 60).1), IntKind.wrap .i64 (30 * (Aa (Ak.mk x1.1 x1.2.1 x1.2.2.1) 60).1), IntKind.wrap .i64 (30 * (Aa (Ak.mk x1.1 x1.2.1 x1.2.2.1) 60).1)] : List Int)).2.1.at_, (Aj (Aa (Ak.mk x1.1 x1.2.1 x1.2.2.1) 60).2 ([(-1), (-1), IntKind.wrap .i64 (30 * (Aa (Ak.mk x1.1 x1.2.1 x1.2.2.1) 60).1), IntKind.wrap .i64 (30 * (Aa (Ak.mk x1.1 x1.2.1 x1.2.2.1) 60).1), IntKind.wrap .i64 (30 * (Aa (Ak.mk x1.1 x1.2.1 x1.2.2.1) 60).1)] : List Int)).2.1.seed, x1.2.2.2.1 ++ ([(Aj (Aa (Ak.mk x1.1 x1.2.1 x1.2.2.1) 60).2 ([(-1), (-1), IntKind.wrap .i64 (30 * (Aa (Ak.mk x1.1 x1.2.1 x1.2.2.1) 60).1), IntKind.wrap .i64 (30 * (Aa (Ak.mk x1.1 x1.2.1 x1.2.2.1) 60).1), IntKind.wrap .i64 (30 * (Aa (Ak.mk x1.1 x1.2.1 x1.2.2.1) 60).1)] : List Int)).1] : List Int), x1.2.2.2.2 + 1) ⟨by (simp only [lens] at * <;> omega), by (simp only [lens] at * <;> omega), by (simp only [lens] at * <;> omega), by (simp only [lens] at * <;> omega), by (try dsimp only); (with_reducible (first | apply Lim.mono | apply Lim.out | apply LimA.mono)); (repeat (with_reducible (first | assumption | apply Lim.bif1 | apply Lim.bifp | apply Lim.among | apply Lim.pick | apply Lim.arr19 | apply Lim.fire17 | apply Lim.flows7 | apply Lim.mk))); omega⟩ (by (simp only [lens] at * <;> omega)) (sub_of [(203, 206)] ⟨rfl, rfl, rfl, rfl, trivial⟩ ⟨rfl, rfl, trivial⟩ rfl)
      · try simp only [tst] at h9
        refine Bb rfl ?_
        exact AY hk7 (x1.1, x1.2.1, x1.2.2.1, x1.2.2.2.1, x1.2.2.2.2) ⟨by omega, by omega, by omega, by omega, by (try dsimp only); (with_reducible (first | apply Lim.mono | apply Lim.out | apply LimA.mono)); (repeat (with_reducible (first | assumption | apply Lim.bif1 | apply Lim.bifp | apply Lim.among | apply Lim.pick | apply Lim.arr19 | apply Lim.fire17 | apply Lim.flows7 | apply Lim.mk))); omega⟩ (sub_of [] ⟨rfl, rfl, trivial⟩ ⟨rfl, rfl, trivial⟩ rfl)
  · refine Aq (.t rfl) rfl (fun h5 => ?_) (fun h5 => ?_)
    · try simp only [tst] at h5
      try have hf0h5 := l04Ok_imp h5
      try have hf1h5 := l04Ok_imp h5.1
      try have hf2h5 := l04Ok_imp h5.2
      try have hf3h5 := l04Ok_imp h5.1.1
      try have hf4h5 := l04Ok_imp h5.1.2
      try have hf5h5 := l04Ok_imp h5.2.1
      try have hf6h5 := l04Ok_imp h5.2.2
      refine Af ?_
      refine run_ro <| ro_lex (l1 := [_, _]) (l2 := [_, _]) rfl (Ag .n (.t rfl) rfl <| Ag .n (.t rfl) rfl <| Lex.nil) <| ro_callGM [(0, 0)] [(100, 200)] .f en_90 (.cons (.t rfl) (.cons (.t rfl) .nil)) (.cons (.b (.mutp rfl)) (.cons (.b (.a (.same rfl))) .nil)) (c_spec_l07DrawFlows (bif ((AD m_) && (decide (0 < (m_.Airways.length : Int)))) then (Aa s_ 3).2 else s_) m_ (by (try dsimp only); (with_reducible (first | apply Lim.mono | apply Lim.out | apply LimA.mono)); (repeat (with_reducible (first | assumption | apply Lim.bif1 | apply Lim.bifp | apply Lim.among | apply Lim.pick | apply Lim.arr19 | apply Lim.fire17 | apply Lim.flows7 | apply Lim.mk))); omega) (by omega)) ⟨rfl, trivial⟩ rfl rfl rfl rfl rfl <| ro_lex (l1 := [_]) (l2 := []) rfl (Ah .n (.t rfl) rfl <| Lex.nil) <| ro_end ?_
      refine Af ?_
      refine Ad (Ag .n (.t rfl) rfl <| Ag .n (.t rfl) rfl <| AW (full := false) [(0, 0)] [] .n rfl .f en_91 (.cons (.t rfl) (.cons (.t rfl) .nil)) (.cons (.b (.mutp rfl)) (.cons (.b (.a (.same rfl))) .nil)) (c_spec_l17DrawFire (AM (bif ((AD m_) && (decide (0 < (m_.Airways.length : Int)))) then (Aa s_ 3).2 else s_) m_).2 m_ (by (try dsimp only); (with_reducible (first | apply Lim.mono | apply Lim.out | apply LimA.mono)); (repeat (with_reducible (first | assumption | apply Lim.bif1 | apply Lim.bifp | apply Lim.among | apply Lim.pick | apply Lim.arr19 | apply Lim.fire17 | apply Lim.flows7 | apply Lim.mk))); omega)) ⟨rfl, trivial⟩ rfl rfl (fun h => Bool.noConfusion h) (fun h => Bool.noConfusion h) rfl <| BE (l := 201) .n rfl zv_135 rfl rfl <| AG [.int .i64 (A1 (AM (bif ((AD m_) && (decide (0 < (m_.Airways.length : Int)))) then (Aa s_ 3).2 else s_) m_).2 m_).1.Airway, .int .i64 (A1 (AM (bif ((AD m_) && (decide (0 < (m_.Airways.length : Int)))) then (Aa s_ 3).2 else s_) m_).2 m_).1.At, .int .i64 (A1 (AM (bif ((AD m_) && (decide (0 < (m_.Airways.length : Int)))) then (Aa s_ 3).2 else s_) m_).2 m_).1.Start] .n rfl (.t rfl) (.t rfl) rfl ts_135 rfl rfl <| Lex.nil) ?_
      refine Af ?_
      refine Ad (Ag .n (.t rfl) rfl <| Ag .n (.t rfl) rfl <| AJ (full := true) .n .f en_92 (.cons (.t rfl) (.cons (.t rfl) (.cons (.t rfl) .nil))) (.cons (.b (.a (.same rfl))) (.cons (.b (.a (.own rfl rfl rfl (take_all (by simp only [len_map, put_len] <;> rfl)) (by simp only [len_map, put_len] <;> rfl)))) (.cons (.b (.ptr rfl rfl (.inr rfl) rfl rfl (.cons (.same rfl) (.cons (.same rfl) (.cons (.same rfl) .nil))))) .nil))) (fun hg => c_spec_l17Ask m_ (AM (bif ((AD m_) && (decide (0 < (m_.Airways.length : Int)))) then (Aa s_ 3).2 else s_) m_).1 (A1 (AM (bif ((AD m_) && (decide (0 < (m_.Airways.length : Int)))) then (Aa s_ 3).2 else s_) m_).2 m_).1) rfl (fun _ => rfl) rfl <| AF .n (.t rfl) (.c rfl) rfl rfl <| Lex.nil) ?_
      refine Aq (.t rfl) rfl (fun h6 => ?_) (fun h6 => ?_)
      · try simp only [tst] at h6
        try have hf0h6 := l17Ask_impM h6
        try have hf1h6 := l17Ask_impM h6.1
        try have hf2h6 := l17Ask_impM h6.2
        try have hf3h6 := l17Ask_impM h6.1.1
        try have hf4h6 := l17Ask_impM h6.1.2
        try have hf5h6 := l17Ask_impM h6.2.1
        try have hf6h6 := l17Ask_impM h6.2.2
        try have hf7h6 := l17Ask_impF h6
        try have hf8h6 := l17Ask_impF h6.1
        try have hf9h6 := l17Ask_impF h6.2
        try have hf10h6 := l17Ask_impF h6.1.1
        try have hf11h6 := l17Ask_impF h6.1.2
        try have hf12h6 := l17Ask_impF h6.2.1
        try have hf13h6 := l17Ask_impF h6.2.2
        try have hf14h6 := l17Ask_impS h6
        try have hf15h6 := l17Ask_impS h6.1
        try have hf16h6 := l17Ask_impS h6.2
        try have hf17h6 := l17Ask_impS h6.1.1
        try have hf18h6 := l17Ask_impS h6.1.2
        try have hf19h6 := l17Ask_impS h6.2.1
        try have hf20h6 := l17Ask_impS h6.2.2
        try have hf21h6 := l17Ask_impJ h6
        try have hf22h6 := l17Ask_impJ h6.1
        try have hf23h6 := l17Ask_impJ h6.2
        try have hf24h6 := l17Ask_impJ h6.1.1
        try have hf25h6 := l17Ask_impJ h6.1.2
        try have hf26h6 := l17Ask_impJ h6.2.1
        try have hf27h6 := l17Ask_impJ h6.2.2
        refine Af ?_
        refine Ad (Ag .n (.t rfl) rfl <| Ag .n (.t rfl) rfl <| AW (full := true) [] [(100, 202)] .n rfl .f en_93 (.cons (.t rfl) (.cons (.t rfl) (.cons (.t rfl) .nil))) (.cons (.b (.a (.same rfl))) (.cons (.b (.a (.own rfl rfl rfl (take_all (by simp only [len_map, put_len] <;> rfl)) (by simp only [len_map, put_len] <;> rfl)))) (.cons (.b (.ptr rfl rfl (.inr rfl) rfl rfl (.cons (.same rfl) (.cons (.same rfl) (.cons (.same rfl) .nil))))) .nil))) (c_spec_l17Arrival m_ (AM (bif ((AD m_) && (decide (0 < (m_.Airways.length : Int)))) then (Aa s_ 3).2 else s_) m_).1 (A1 (AM (bif ((AD m_) && (decide (0 < (m_.Airways.length : Int)))) then (Aa s_ 3).2 else s_) m_).2 m_).1 (by omega) (by omega) (by omega)) trivial rfl rfl (fun _ => rfl) (fun _ => (hr_row (fun _ => rfl) hr_nil)) rfl <| Ah .n (.t rfl) rfl <| Lex.nil) ?_
        exact Au [(100, 202)] (.cons (.t rfl rfl) .nil) (by first | rfl | (simp only [put_len]; rfl)) ⟨rfl, rfl, trivial⟩ rfl
      · try simp only [tst] at h6
        try have hf0h6 := l17Ask_impM h6
        try have hf1h6 := l17Ask_impM h6.1
        try have hf2h6 := l17Ask_impM h6.2
        try have hf3h6 := l17Ask_impM h6.1.1
        try have hf4h6 := l17Ask_impM h6.1.2
        try have hf5h6 := l17Ask_impM h6.2.1
        try have hf6h6 := l17Ask_impM h6.2.2
        try have hf7h6 := l17Ask_impF h6
        try have hf8h6 := l17Ask_impF h6.1
        try have hf9h6 := l17Ask_impF h6.2
        try have hf10h6 := l17Ask_impF h6.1.1
        try have hf11h6 := l17Ask_impF h6.1.2
        try have hf12h6 := l17Ask_impF h6.2.1
        try have hf13h6 := l17Ask_impF h6.2.2
        try have hf14h6 := l17Ask_impS h6
        try have hf15h6 := l17Ask_impS h6.1
        try have hf16h6 := l17Ask_impS h6.2
        try have hf17h6 := l17Ask_impS h6.1.1
        try have hf18h6 := l17Ask_impS h6.1.2
        try have hf19h6 := l17Ask_impS h6.2.1
        try have hf20h6 := l17Ask_impS h6.2.2
        try have hf21h6 := l17Ask_impJ h6
        try have hf22h6 := l17Ask_impJ h6.1
        try have hf23h6 := l17Ask_impJ h6.2
        try have hf24h6 := l17Ask_impJ h6.1.1
        try have hf25h6 := l17Ask_impJ h6.1.2
        try have hf26h6 := l17Ask_impJ h6.2.1
        try have hf27h6 := l17Ask_impJ h6.2.2
        refine As ?_
        exact AY hj4 ((A1 (AM (bif ((AD m_) && (decide (0 < (m_.Airways.length : Int)))) then (Aa s_ 3).2 else s_) m_).2 m_).2.code, (A1 (AM (bif ((AD m_) && (decide (0 < (m_.Airways.length : Int)))) then (Aa s_ 3).2 else s_) m_).2 m_).2.at_, (A1 (AM (bif ((AD m_) && (decide (0 < (m_.Airways.length : Int)))) then (Aa s_ 3).2 else s_) m_).2 m_).2.seed) (by (try dsimp only); (with_reducible (first | apply Lim.mono | apply Lim.out | apply LimA.mono)); (repeat (with_reducible (first | assumption | apply Lim.bif1 | apply Lim.bifp | apply Lim.among | apply Lim.pick | apply Lim.arr19 | apply Lim.fire17 | apply Lim.flows7 | apply Lim.mk))); omega) (sub_of [] ⟨rfl, rfl, trivial⟩ ⟨rfl, trivial⟩ rfl)
    · try simp only [tst] at h5
      try have hf0h5 := l04Ok_imp h5
      try have hf1h5 := l04Ok_imp h5.1
      try have hf2h5 := l04Ok_imp h5.2
      try have hf3h5 := l04Ok_imp h5.1.1
      try have hf4h5 := l04Ok_imp h5.1.2
      try have hf5h5 := l04Ok_imp h5.2.1
      try have hf6h5 := l04Ok_imp h5.2.2
      refine As ?_
      exact AY hj4 ((bif ((AD m_) && (decide (0 < (m_.Airways.length : Int)))) then (Aa s_ 3).2 else s_).code, (bif ((AD m_) && (decide (0 < (m_.Airways.length : Int)))) then (Aa s_ 3).2 else s_).at_, (bif ((AD m_) && (decide (0 < (m_.Airways.length : Int)))) then (Aa s_ 3).2 else s_).seed) (by (try dsimp only); (with_reducible (first | apply Lim.mono | apply Lim.out | apply LimA.mono)); (repeat (with_reducible (first | assumption | apply Lim.bif1 | apply Lim.bifp | apply Lim.among | apply Lim.pick | apply Lim.arr19 | apply Lim.fire17 | apply Lim.flows7 | apply Lim.mk))); omega) (sub_of [] ⟨rfl, rfl, trivial⟩ ⟨rfl, trivial⟩ rfl)

/-! ### spec_l19DrawCrew -/
set_option maxRecDepth 100000 in
set_option maxHeartbeats 4000000 in
theorem c_spec_l19DrawCrew (s_ : Ak) (m_ : AB) (hp1 : Lim s_ 300000) : Con Tryz.prog 56 [.op 0 0 0 0, .rp [.int .i64 m_.Junctions, .sl 7 (m_.Airways.map Ar.v)]] [(0, some (.box 100 [.sl 1 (s_.code.map (V.int .u8)), .int .i64 s_.at_, .int .u64 s_.seed]))] (.st [.str (AN s_ m_).1.Id, .int .i64 (AN s_ m_).1.Junction, .int .i64 (AN s_ m_).1.Speed]) ([(0, some (.box 100 [.sl 1 ((AN s_ m_).2.code.map (V.int .u8)), .int .i64 (AN s_ m_).2.at_, .int .u64 (AN s_ m_).2.seed]))]) := by
  refine con_intro (out := fun r : Bu × Ak => ((.st [.str r.1.Id, .int .i64 r.1.Junction, .int .i64 r.1.Speed] : V), ([(0, some (.box 100 [.sl 1 (r.2.code.map (V.int .u8)), .int .i64 r.2.at_, .int .u64 r.2.seed]))] : List (Nat × Option O)))) (r := (AN s_ m_)) Tryz.func56 rfl Tryz.ntmps56 rfl ?_
  refine BH (t := 1) 1 rfl rfl fun hl => ?_
  have l1 := hl; clear hl; simp only [List.length_map] at l1
  refine Af ?_
  refine Ad (BE (l := 200) .n rfl zv_37 rfl rfl <| Lex.nil) ?_
  refine Af ?_
  refine Ad (Ag .n (.t rfl) rfl <| AV K_1 (f := V.str) (l := 201) .n rfl rfl (.cons (.c rfl) (.cons (.c rfl) (.cons (.c rfl) .nil))) rfl si_103 zv_9 rfl rfl rfl <| AW (full := false) [(0, 0), (1, 201)] [] .n rfl .f en_95 (.cons (.t rfl) (.cons (.t rfl) .nil)) (.cons (.b (.mutp rfl)) (.cons (.b (.muts rfl)) .nil)) (DG s_ K_1 (by (try dsimp only); (with_reducible (first | apply Lim.mono | apply Lim.out | apply LimA.mono)); (repeat (with_reducible (first | assumption | apply Lim.among | apply Lim.text | apply Lim.pick | apply Lim.crew19 | apply Lim.mk))); omega) (by (simp only [lens] at * <;> omega))) ⟨rfl, rfl, trivial⟩ rfl rfl (fun h => Bool.noConfusion h) (fun h => Bool.noConfusion h) rfl <| Ag .n (.t rfl) rfl <| AW (full := false) [(0, 0)] [] .n rfl .f en_22 (.cons (.t rfl) (.cons (.c rfl) .nil)) (.cons (.b (.mutp rfl)) (.cons (.b (.a (.same rfl))) .nil)) (AI (Ab s_ K_1).2.1 150 (by (try dsimp only); (with_reducible (first | apply Lim.mono | apply Lim.out | apply LimA.mono)); (repeat (with_reducible (first | assumption | apply Lim.among | apply Lim.text | apply Lim.pick | apply Lim.crew19 | apply Lim.mk))); omega)) ⟨rfl, trivial⟩ rfl rfl (fun h => Bool.noConfusion h) (fun h => Bool.noConfusion h) rfl <| AF .n (.c rfl) (.t rfl) rfl rfl <| Dv (us := [.str (Ab s_ K_1).1, .int .i64 0, .int .i64 (IntKind.wrap .i64 (30 + (Aa (Ab s_ K_1).2.1 150).1))]) .n (.cons (.t rfl) (.cons (.t rfl) .nil)) zv_37 pl_37 rfl rfl rfl <| BE (l := 202) .n rfl zv_37 rfl rfl <| AG [.str (Ab s_ K_1).1, .int .i64 0, .int .i64 (IntKind.wrap .i64 (30 + (Aa (Ab s_ K_1).2.1 150).1))] .n rfl (.t rfl) (.t rfl) rfl ts_37 rfl rfl <| Lex.nil) ?_
  refine Af ?_
  refine Ad (Ag .n (.t rfl) rfl <| Ag .n (.t rfl) rfl <| Av .n (.t rfl) rfl <| Az .n (.t rfl) fo_26_0 rfl <| Ap .n (.t rfl) rfl ic_2 rfl <| AJ (full := false) .n .f en_94 (.cons (.t rfl) (.cons (.c rfl) .nil)) (.cons (.b (.a (.same rfl))) (.cons (.b (.a (.same rfl))) .nil)) (fun hg => c_spec_l00Min m_.Junctions 16) rfl (fun h => Bool.noConfusion h) rfl <| AJ (full := false) .n .f en_59 (.cons (.c rfl) (.cons (.t rfl) .nil)) (.cons (.b (.a (.same rfl))) (.cons (.b (.a (.same rfl))) .nil)) (fun hg => DH 1 (A4 m_.Junctions 16)) rfl (fun h => Bool.noConfusion h) rfl <| AW (full := false) [(0, 0)] [] .n rfl .f en_22 (.cons (.t rfl) (.cons (.t rfl) .nil)) (.cons (.b (.mutp rfl)) (.cons (.b (.a (.same rfl))) .nil)) (AI (Aa (Ab s_ K_1).2.1 150).2 (AC 1 (A4 m_.Junctions 16)) (by (try dsimp only); (with_reducible (first | apply Lim.mono | apply Lim.out | apply LimA.mono)); (repeat (with_reducible (first | assumption | apply Lim.among | apply Lim.text | apply Lim.pick | apply Lim.crew19 | apply Lim.mk))); omega)) ⟨rfl, trivial⟩ rfl rfl (fun h => Bool.noConfusion h) (fun h => Bool.noConfusion h) rfl <| AE .n (.t rfl) fo_37_1 rfl <| AG [.str (Ab s_ K_1).1, .int .i64 (Aa (Aa (Ab s_ K_1).2.1 150).2 (AC 1 (A4 m_.Junctions 16))).1, .int .i64 (IntKind.wrap .i64 (30 + (Aa (Ab s_ K_1).2.1 150).1))] .n rfl (.t rfl) (.t rfl) rfl ts_2 rfl rfl <| Lex.nil) ?_
  refine Af ?_
  refine Af ?_
  refine Ad (Ag .n (.t rfl) rfl <| AW (full := false) [(0, 0)] [] .n rfl .f en_22 (.cons (.t rfl) (.cons (.c rfl) .nil)) (.cons (.b (.mutp rfl)) (.cons (.b (.a (.same rfl))) .nil)) (AI (Aa (Aa (Ab s_ K_1).2.1 150).2 (AC 1 (A4 m_.Junctions 16))).2 20 (by (try dsimp only); (with_reducible (first | apply Lim.mono | apply Lim.out | apply LimA.mono)); (repeat (with_reducible (first | assumption | apply Lim.among | apply Lim.text | apply Lim.pick | apply Lim.crew19 | apply Lim.mk))); omega)) ⟨rfl, trivial⟩ rfl rfl (fun h => Bool.noConfusion h) (fun h => Bool.noConfusion h) rfl <| Lex.nil) ?_
  refine Aw ?_
  refine Af ?_
  refine Ad (AF .n (.t rfl) (.c rfl) rfl rfl <| Ah .n (.t rfl) rfl <| Lex.nil) ?_
  refine Aq (.t rfl) rfl (fun h2 => ?_) (fun h2 => ?_)
  · try simp only [tst] at h2
    refine Ad (Ag .n (.t rfl) rfl <| Ag .n (.t rfl) rfl <| Av .n (.t rfl) rfl <| Az .n (.t rfl) fo_26_0 rfl <| Ap .n (.t rfl) rfl ic_2 rfl <| AV ([(-1), m_.Junctions, 15, 16] : List Int) (f := V.int .i64) (l := 203) .n rfl rfl (.cons (.c rfl) (.cons (.t rfl) (.cons (.c rfl) (.cons (.c rfl) .nil)))) rfl si_27 zv_2 rfl rfl rfl <| AW (full := false) [(0, 0), (1, 203)] [] .n rfl .f en_24 (.cons (.t rfl) (.cons (.t rfl) .nil)) (.cons (.b (.mutp rfl)) (.cons (.b (.muts rfl)) .nil)) (A0 (Aa (Aa (Aa (Ab s_ K_1).2.1 150).2 (AC 1 (A4 m_.Junctions 16))).2 20).2 ([(-1), m_.Junctions, 15, 16] : List Int) (by (try dsimp only); (with_reducible (first | apply Lim.mono | apply Lim.out | apply LimA.mono)); (repeat (with_reducible (first | assumption | apply Lim.among | apply Lim.text | apply Lim.pick | apply Lim.crew19 | apply Lim.mk))); omega) (by (simp only [lens] at * <;> omega))) ⟨rfl, rfl, trivial⟩ rfl rfl (fun h => Bool.noConfusion h) (fun h => Bool.noConfusion h) rfl <| AE .n (.t rfl) fo_37_1 rfl <| AG [.str (Ab s_ K_1).1, .int .i64 (Aj (Aa (Aa (Aa (Ab s_ K_1).2.1 150).2 (AC 1 (A4 m_.Junctions 16))).2 20).2 ([(-1), m_.Junctions, 15, 16] : List Int)).1, .int .i64 (IntKind.wrap .i64 (30 + (Aa (Ab s_ K_1).2.1 150).1))] .n rfl (.t rfl) (.t rfl) rfl ts_2 rfl rfl <| Lex.nil) ?_
    refine AK ?_
    refine Af ?_
    refine Ad (Ba .n (.t rfl) rfl (.inr rfl) ag_37 (fun _ => rfl) rfl rfl <| AG [.str (Ab s_ K_1).1, .int .i64 (Aj (Aa (Aa (Aa (Ab s_ K_1).2.1 150).2 (AC 1 (A4 m_.Junctions 16))).2 20).2 ([(-1), m_.Junctions, 15, 16] : List Int)).1, .int .i64 (IntKind.wrap .i64 (30 + (Aa (Ab s_ K_1).2.1 150).1))] .n rfl (.t rfl) (.t rfl) rfl ts_37 rfl rfl <| Lex.nil) ?_
    exact Au [] (.cons (.cN rfl rfl ag_37 rfl rfl) .nil) (by first | rfl | (simp only [put_len]; rfl)) ⟨rfl, trivial⟩ rfl
  · try simp only [tst] at h2
    refine Af ?_
    refine Ad (AF .n (.t rfl) (.c rfl) rfl rfl <| Ah .n (.t rfl) rfl <| Lex.nil) ?_
    refine Aq (.t rfl) rfl (fun h3 => ?_) (fun h3 => ?_)
    · try simp only [tst] at h3
      refine Ad (Ag .n (.t rfl) rfl <| AV ([9, 10, 300, 301] : List Int) (f := V.int .i64) (l := 204) .n rfl rfl (.cons (.c rfl) (.cons (.c rfl) (.cons (.c rfl) (.cons (.c rfl) .nil)))) rfl si_27 zv_2 rfl rfl rfl <| AW (full := false) [(0, 0), (1, 204)] [] .n rfl .f en_24 (.cons (.t rfl) (.cons (.t rfl) .nil)) (.cons (.b (.mutp rfl)) (.cons (.b (.muts rfl)) .nil)) (A0 (Aa (Aa (Aa (Ab s_ K_1).2.1 150).2 (AC 1 (A4 m_.Junctions 16))).2 20).2 ([9, 10, 300, 301] : List Int) (by (try dsimp only); (with_reducible (first | apply Lim.mono | apply Lim.out | apply LimA.mono)); (repeat (with_reducible (first | assumption | apply Lim.among | apply Lim.text | apply Lim.pick | apply Lim.crew19 | apply Lim.mk))); omega) (by (simp only [lens] at * <;> omega))) ⟨rfl, rfl, trivial⟩ rfl rfl (fun h => Bool.noConfusion h) (fun h => Bool.noConfusion h) rfl <| AE .n (.t rfl) fo_37_2 rfl <| AG [.str (Ab s_ K_1).1, .int .i64 (Aa (Aa (Ab s_ K_1).2.1 150).2 (AC 1 (A4 m_.Junctions 16))).1, .int .i64 (Aj (Aa (Aa (Aa (Ab s_ K_1).2.1 150).2 (AC 1 (A4 m_.Junctions 16))).2 20).2 ([9, 10, 300, 301] : List Int)).1] .n rfl (.t rfl) (.t rfl) rfl ts_2 rfl rfl <| Lex.nil) ?_
      refine AK ?_
      refine Af ?_
      refine Ad (Ba .n (.t rfl) rfl (.inr rfl) ag_37 (fun _ => rfl) rfl rfl <| AG [.str (Ab s_ K_1).1, .int .i64 (Aa (Aa (Ab s_ K_1).2.1 150).2 (AC 1 (A4 m_.Junctions 16))).1, .int .i64 (Aj (Aa (Aa (Aa (Ab s_ K_1).2.1 150).2 (AC 1 (A4 m_.Junctions 16))).2 20).2 ([9, 10, 300, 301] : List Int)).1] .n rfl (.t rfl) (.t rfl) rfl ts_37 rfl rfl <| Lex.nil) ?_
      exact Au [] (.cons (.cN rfl rfl ag_37 rfl rfl) .nil) (by first | rfl | (simp only [put_len]; rfl)) ⟨rfl, trivial⟩ rfl
    · try simp only [tst] at h3
      refine As ?_
      refine AK ?_
      refine Af ?_
      refine Ad (Ba .n (.t rfl) rfl (.inr rfl) ag_37 (fun _ => rfl) rfl rfl <| AG [.str (Ab s_ K_1).1, .int .i64 (Aa (Aa (Ab s_ K_1).2.1 150).2 (AC 1 (A4 m_.Junctions 16))).1, .int .i64 (IntKind.wrap .i64 (30 + (Aa (Ab s_ K_1).2.1 150).1))] .n rfl (.t rfl) (.t rfl) rfl ts_37 rfl rfl <| Lex.nil) ?_
      exact Au [] (.cons (.cN rfl rfl ag_37 rfl rfl) .nil) (by first | rfl | (simp only [put_len]; rfl)) ⟨rfl, trivial⟩ rfl

/-! ### spec_l19DrawAll -/
set_option maxRecDepth 100000 in
set_option maxHeartbeats 4000000 in
theorem c_spec_l19DrawAll (s_ : Ak) (hp1 : Lim s_ 100000) : ConG Tryz.prog 20 [.op 0 0 0 0] [(0, some (.box 100 [.sl 1 (s_.code.map (V.int .u8)), .int .i64 s_.at_, .int .u64 s_.seed]))] (.tup [.st [.int .i64 (AL s_).1.Junctions, .sl 7 ((AL s_).1.Airways.map Ar.v)], .os 100 (AL s_).2.1.length, .int .i64 (AL s_).2.2.1, .st [.str (AL s_).2.2.2.1.Id, .int .i64 (AL s_).2.2.2.1.Junction, .int .i64 (AL s_).2.2.2.1.Speed], .int .i64 (AL s_).2.2.2.2.1]) ([(100, some (.row 2 1 ((AL s_).2.1.map (V.int .i64)))), (0, some (.box 100 [.sl 1 ((AL s_).2.2.2.2.2.code.map (V.int .u8)), .int .i64 (AL s_).2.2.2.2.2.at_, .int .u64 (AL s_).2.2.2.2.2.seed]))]) := by
  refine con_introG (out := fun r : AB × (List Int) × Int × Bu × Int × Ak => ((.tup [.st [.int .i64 r.1.Junctions, .sl 7 (r.1.Airways.map Ar.v)], .os 100 r.2.1.length, .int .i64 r.2.2.1, .st [.str r.2.2.2.1.Id, .int .i64 r.2.2.2.1.Junction, .int .i64 r.2.2.2.1.Speed], .int .i64 r.2.2.2.2.1] : V), ([(100, some (.row 2 1 (r.2.1.map (V.int .i64)))), (0, some (.box 100 [.sl 1 (r.2.2.2.2.2.code.map (V.int .u8)), .int .i64 r.2.2.2.2.2.at_, .int .u64 r.2.2.2.2.2.seed]))] : List (Nat × Option O)))) (r := (AL s_)) Tryz.func20 rfl Tryz.ntmps20 rfl ?_
  have hD := (Lim.draw4 hp1).len
  refine Af ?_
  refine Ad (BE (l := 200) .n rfl zv_26 rfl rfl <| Ah .n (.c rfl) rfl <| Ah .n (.c rfl) rfl <| BE (l := 201) .n rfl zv_37 rfl rfl <| Ah .n (.c rfl) rfl <| Lex.nil) ?_
  refine Af ?_
  refine Ad (Ag .n (.t rfl) rfl <| AW (full := false) [(0, 0)] [(100, 202)] .n rfl .f en_39 (.cons (.t rfl) .nil) (.cons (.b (.mutp rfl)) .nil) (c_spec_l04Draw s_ (by (try dsimp only); (with_reducible (first | apply Lim.mono | apply Lim.out | apply LimA.mono)); (repeat (with_reducible (first | assumption | apply Lim.pick | apply Lim.crew19 | apply Lim.arr19 | apply Lim.dmk | apply Lim.all19 | apply Lim.mk))); omega)) ⟨rfl, trivial⟩ rfl rfl (fun h => Bool.noConfusion h) (fun h => Bool.noConfusion h) rfl <| BE (l := 203) .n rfl zv_26 rfl rfl <| AG [.int .i64 (Al s_).1.Junctions, .os 202 (Al s_).1.Airways.length] .n rfl (.t rfl) (.t rfl) rfl ts_26 rfl rfl <| Lex.nil) ?_
  refine Af ?_
  refine run_freezeC (l := 203) (lb := 202) 1 rfl rfl rfl rfl (take_all (by simp only [len_map, put_len] <;> rfl)) (by simp only [len_map, put_len] <;> rfl) rfl ?_
  refine run_freezeB (t := 7) rfl rfl rfl rfl ?_
  refine run_ro <| ro_lex (l1 := [_]) (l2 := [_, _]) rfl (Ag .n (.t rfl) rfl <| Lex.nil) <| ro_callGM [(0, 0)] [(100, 205)] .f en_55 (.cons (.t rfl) (.cons (.t rfl) .nil)) (.cons (.b (.mutp rfl)) (.cons (.b (.a (.same rfl))) .nil)) (c_spec_l19DrawArrivals (Al s_).2 (AB.mk (Al s_).1.Junctions (Al s_).1.Airways) (by (try dsimp only); (with_reducible (first | apply Lim.mono | apply Lim.out | apply LimA.mono)); (repeat (with_reducible (first | assumption | apply Lim.pick | apply Lim.crew19 | apply Lim.arr19 | apply Lim.dmk | apply Lim.all19 | apply Lim.mk))); omega) (by omega)) ⟨rfl, trivial⟩ rfl rfl rfl rfl rfl <| ro_lex (l1 := [_]) (l2 := []) rfl (Ah .n (.t rfl) rfl <| Lex.nil) <| ro_end ?_
  refine Af ?_
  refine Ad (Ag .n (.t rfl) rfl <| AW (full := false) [(0, 0)] [] .n rfl .f en_22 (.cons (.t rfl) (.cons (.c rfl) .nil)) (.cons (.b (.mutp rfl)) (.cons (.b (.a (.same rfl))) .nil)) (AI (Ay (Al s_).2 (AB.mk (Al s_).1.Junctions (Al s_).1.Airways)).2 9 (by (try dsimp only); (with_reducible (first | apply Lim.mono | apply Lim.out | apply LimA.mono)); (repeat (with_reducible (first | assumption | apply Lim.pick | apply Lim.crew19 | apply Lim.arr19 | apply Lim.dmk | apply Lim.all19 | apply Lim.mk))); omega)) ⟨rfl, trivial⟩ rfl rfl (fun h => Bool.noConfusion h) (fun h => Bool.noConfusion h) rfl <| AF .n (.t rfl) (.c rfl) rfl rfl <| Ah .n (.t rfl) rfl <| Lex.nil) ?_
  refine Af ?_
  refine Ad (Ag .n (.t rfl) rfl <| AW (full := false) [(0, 0)] [] .n rfl .f en_56 (.cons (.t rfl) (.cons (.t rfl) .nil)) (.cons (.b (.mutp rfl)) (.cons (.b (.a (.same rfl))) .nil)) (c_spec_l19DrawCrew (Aa (Ay (Al s_).2 (AB.mk (Al s_).1.Junctions (Al s_).1.Airways)).2 9).2 (AB.mk (Al s_).1.Junctions (Al s_).1.Airways) (by (try dsimp only); (with_reducible (first | apply Lim.mono | apply Lim.out | apply LimA.mono)); (repeat (with_reducible (first | assumption | apply Lim.pick | apply Lim.crew19 | apply Lim.arr19 | apply Lim.dmk | apply Lim.all19 | apply Lim.mk))); omega)) ⟨rfl, trivial⟩ rfl rfl (fun h => Bool.noConfusion h) (fun h => Bool.noConfusion h) rfl <| BE (l := 206) .n rfl zv_37 rfl rfl <| AG [.str (AN (Aa (Ay (Al s_).2 (AB.mk (Al s_).1.Junctions (Al s_).1.Airways)).2 9).2 (AB.mk (Al s_).1.Junctions (Al s_).1.Airways)).1.Id, .int .i64 (AN (Aa (Ay (Al s_).2 (AB.mk (Al s_).1.Junctions (Al s_).1.Airways)).2 9).2 (AB.mk (Al s_).1.Junctions (Al s_).1.Airways)).1.Junction, .int .i64 (AN (Aa (Ay (Al s_).2 (AB.mk (Al s_).1.Junctions (Al s_).1.Airways)).2 9).2 (AB.mk (Al s_).1.Junctions (Al s_).1.Airways)).1.Speed] .n rfl (.t rfl) (.t rfl) rfl ts_37 rfl rfl <| Lex.nil) ?_
  refine Af ?_
  refine Ad (Ag .n (.t rfl) rfl <| AW (full := false) [(0, 0)] [] .n rfl .f en_22 (.cons (.t rfl) (.cons (.c rfl) .nil)) (.cons (.b (.mutp rfl)) (.cons (.b (.a (.same rfl))) .nil)) (AI (AN (Aa (Ay (Al s_).2 (AB.mk (Al s_).1.Junctions (Al s_).1.Airways)).2 9).2 (AB.mk (Al s_).1.Junctions (Al s_).1.Airways)).2 30 (by (try dsimp only); (with_reducible (first | apply Lim.mono | apply Lim.out | apply LimA.mono)); (repeat (with_reducible (first | assumption | apply Lim.pick | apply Lim.crew19 | apply Lim.arr19 | apply Lim.dmk | apply Lim.all19 | apply Lim.mk))); omega)) ⟨rfl, trivial⟩ rfl rfl (fun h => Bool.noConfusion h) (fun h => Bool.noConfusion h) rfl <| AF .n (.c rfl) (.t rfl) rfl rfl <| Ah .n (.t rfl) rfl <| Lex.nil) ?_
  refine Af ?_
  refine Bk fmo (q_ldN_ro .n (.t rfl) ag_26 rfl rfl rfl <| Ag .n (.t rfl) rfl <| Ag .n (.t rfl) rfl <| Ba .n (.t rfl) rfl (.inr rfl) ag_37 (fun _ => rfl) rfl rfl <| Ag .n (.t rfl) rfl <| Ag .n (.t rfl) rfl <| Ag .n (.t rfl) rfl <| Ag .n (.t rfl) rfl <| AV ([IntKind.wrap .i64 (20 * (Aa (AN (Aa (Ay (Al s_).2 (AB.mk (Al s_).1.Junctions (Al s_).1.Airways)).2 9).2 (AB.mk (Al s_).1.Junctions (Al s_).1.Airways)).2 30).1), IntKind.wrap .i64 (20 * (Aa (AN (Aa (Ay (Al s_).2 (AB.mk (Al s_).1.Junctions (Al s_).1.Airways)).2 9).2 (AB.mk (Al s_).1.Junctions (Al s_).1.Airways)).2 30).1), IntKind.wrap .i64 (20 * (Aa (AN (Aa (Ay (Al s_).2 (AB.mk (Al s_).1.Junctions (Al s_).1.Airways)).2 9).2 (AB.mk (Al s_).1.Junctions (Al s_).1.Airways)).2 30).1), 0, 0, 36000, 36001, (-1)] : List Int) (f := V.int .i64) (l := 207) .n rfl rfl (.cons (.t rfl) (.cons (.t rfl) (.cons (.t rfl) (.cons (.c rfl) (.cons (.c rfl) (.cons (.c rfl) (.cons (.c rfl) (.cons (.c rfl) .nil)))))))) rfl si_27 zv_2 rfl rfl rfl <| AW (full := false) [(0, 0), (1, 207)] [] .n rfl .f en_24 (.cons (.t rfl) (.cons (.t rfl) .nil)) (.cons (.b (.mutp rfl)) (.cons (.b (.muts rfl)) .nil)) (A0 (Aa (AN (Aa (Ay (Al s_).2 (AB.mk (Al s_).1.Junctions (Al s_).1.Airways)).2 9).2 (AB.mk (Al s_).1.Junctions (Al s_).1.Airways)).2 30).2 ([IntKind.wrap .i64 (20 * (Aa (AN (Aa (Ay (Al s_).2 (AB.mk (Al s_).1.Junctions (Al s_).1.Airways)).2 9).2 (AB.mk (Al s_).1.Junctions (Al s_).1.Airways)).2 30).1), IntKind.wrap .i64 (20 * (Aa (AN (Aa (Ay (Al s_).2 (AB.mk (Al s_).1.Junctions (Al s_).1.Airways)).2 9).2 (AB.mk (Al s_).1.Junctions (Al s_).1.Airways)).2 30).1), IntKind.wrap .i64 (20 * (Aa (AN (Aa (Ay (Al s_).2 (AB.mk (Al s_).1.Junctions (Al s_).1.Airways)).2 9).2 (AB.mk (Al s_).1.Junctions (Al s_).1.Airways)).2 30).1), 0, 0, 36000, 36001, (-1)] : List Int) (by (try dsimp only); (with_reducible (first | apply Lim.mono | apply Lim.out | apply LimA.mono)); (repeat (with_reducible (first | assumption | apply Lim.pick | apply Lim.crew19 | apply Lim.arr19 | apply Lim.dmk | apply Lim.all19 | apply Lim.mk))); omega) (by (simp only [lens] at * <;> omega))) ⟨rfl, rfl, trivial⟩ rfl rfl (fun h => Bool.noConfusion h) (fun h => Bool.noConfusion h) rfl <| AG [.int .i64 (Al s_).1.Junctions, .sl 7 ((Al s_).1.Airways.map Ar.v)] .n rfl (.t rfl) (.t rfl) rfl ts_26 rfl rfl <| Ah .n (.t rfl) rfl <| Ah .n (.t rfl) rfl <| AG [.str (AN (Aa (Ay (Al s_).2 (AB.mk (Al s_).1.Junctions (Al s_).1.Airways)).2 9).2 (AB.mk (Al s_).1.Junctions (Al s_).1.Airways)).1.Id, .int .i64 (AN (Aa (Ay (Al s_).2 (AB.mk (Al s_).1.Junctions (Al s_).1.Airways)).2 9).2 (AB.mk (Al s_).1.Junctions (Al s_).1.Airways)).1.Junction, .int .i64 (AN (Aa (Ay (Al s_).2 (AB.mk (Al s_).1.Junctions (Al s_).1.Airways)).2 9).2 (AB.mk (Al s_).1.Junctions (Al s_).1.Airways)).1.Speed] .n rfl (.t rfl) (.t rfl) rfl ts_37 rfl rfl <| Ah .n (.t rfl) rfl <| Lex.nil) (by kernel_rfl) ?_
  exact Au [(100, 205)] (.cons (.cN rfl rfl ag_26 rfl rfl) (.cons (.t rfl rfl) (.cons (.t rfl rfl) (.cons (.cN rfl rfl ag_37 rfl rfl) (.cons (.t rfl rfl) .nil))))) (by first | rfl | (simp only [put_len]; rfl)) ⟨rfl, rfl, trivial⟩ rfl

/-! ### spec_l20DrawOne -/
theorem c_spec_l20DrawOne (s_ : Ak) (id : List UInt8) (junction : Int) (hp1 : Lim s_ 700000) : Con Tryz.prog 58 [.op 0 0 0 0, .str id, .int .i64 junction] [(0, some (.box 100 [.sl 1 (s_.code.map (V.int .u8)), .int .i64 s_.at_, .int .u64 s_.seed]))] (.st [.str (AH s_ id junction).1.Id, .int .i64 (AH s_ id junction).1.Junction, .int .i64 (AH s_ id junction).1.Places, .int .i64 (AH s_ id junction).1.Air]) ([(0, some (.box 100 [.sl 1 ((AH s_ id junction).2.code.map (V.int .u8)), .int .i64 (AH s_ id junction).2.at_, .int .u64 (AH s_ id junction).2.seed]))]) := by
  refine con_intro (out := fun r : AS × Ak => ((.st [.str r.1.Id, .int .i64 r.1.Junction, .int .i64 r.1.Places, .int .i64 r.1.Air] : V), ([(0, some (.box 100 [.sl 1 (r.2.code.map (V.int .u8)), .int .i64 r.2.at_, .int .u64 r.2.seed]))] : List (Nat × Option O)))) (r := (AH s_ id junction)) Tryz.func58 rfl Tryz.ntmps58 rfl ?_
  refine Af ?_
  refine Ad (BE (l := 200) .n rfl zv_39 rfl rfl <| Lex.nil) ?_
  refine Af ?_
  refine Ad (Ag .n (.t rfl) rfl <| Ag .n (.t rfl) rfl <| Ag .n (.t rfl) rfl <| AW (full := false) [(0, 0)] [] .n rfl .f en_22 (.cons (.t rfl) (.cons (.c rfl) .nil)) (.cons (.b (.mutp rfl)) (.cons (.b (.a (.same rfl))) .nil)) (AI s_ 20 (by (try dsimp only); (with_reducible (first | apply Lim.mono | apply Lim.out | apply LimA.mono)); (repeat (with_reducible (first | assumption | apply Lim.among | apply Lim.pick | apply Lim.one20 | apply Lim.mk))); omega)) ⟨rfl, trivial⟩ rfl rfl (fun h => Bool.noConfusion h) (fun h => Bool.noConfusion h) rfl <| AF .n (.c rfl) (.t rfl) rfl rfl <| Dv (us := [.str id, .int .i64 junction, .int .i64 (IntKind.wrap .i64 (1 + (Aa s_ 20).1)), .int .i64 0]) .n (.cons (.t rfl) (.cons (.t rfl) (.cons (.t rfl) .nil))) zv_39 pl_39 rfl rfl rfl <| BE (l := 201) .n rfl zv_39 rfl rfl <| AG [.str id, .int .i64 junction, .int .i64 (IntKind.wrap .i64 (1 + (Aa s_ 20).1)), .int .i64 0] .n rfl (.t rfl) (.t rfl) rfl ts_39 rfl rfl <| Lex.nil) ?_
  refine Af ?_
  refine Ad (Ag .n (.t rfl) rfl <| AV ([0, 1000, 5000, 40000, 10000000] : List Int) (f := V.int .i64) (l := 202) .n rfl rfl (.cons (.c rfl) (.cons (.c rfl) (.cons (.c rfl) (.cons (.c rfl) (.cons (.c rfl) .nil))))) rfl si_27 zv_2 rfl rfl rfl <| AW (full := false) [(0, 0), (1, 202)] [] .n rfl .f en_24 (.cons (.t rfl) (.cons (.t rfl) .nil)) (.cons (.b (.mutp rfl)) (.cons (.b (.muts rfl)) .nil)) (A0 (Aa s_ 20).2 ([0, 1000, 5000, 40000, 10000000] : List Int) (by (try dsimp only); (with_reducible (first | apply Lim.mono | apply Lim.out | apply LimA.mono)); (repeat (with_reducible (first | assumption | apply Lim.among | apply Lim.pick | apply Lim.one20 | apply Lim.mk))); omega) (by (simp only [lens] at * <;> omega))) ⟨rfl, rfl, trivial⟩ rfl rfl (fun h => Bool.noConfusion h) (fun h => Bool.noConfusion h) rfl <| AE .n (.t rfl) fo_39_3 rfl <| AG [.str id, .int .i64 junction, .int .i64 (IntKind.wrap .i64 (1 + (Aa s_ 20).1)), .int .i64 (Aj (Aa s_ 20).2 ([0, 1000, 5000, 40000, 10000000] : List Int)).1] .n rfl (.t rfl) (.t rfl) rfl ts_2 rfl rfl <| Lex.nil) ?_
  refine Af ?_
  refine Ad (Ba .n (.t rfl) rfl (.inr rfl) ag_39 (fun _ => rfl) rfl rfl <| AG [.str id, .int .i64 junction, .int .i64 (IntKind.wrap .i64 (1 + (Aa s_ 20).1)), .int .i64 (Aj (Aa s_ 20).2 ([0, 1000, 5000, 40000, 10000000] : List Int)).1] .n rfl (.t rfl) (.t rfl) rfl ts_39 rfl rfl <| Lex.nil) ?_
  exact Au [] (.cons (.cN rfl rfl ag_39 rfl rfl) .nil) (by first | rfl | (simp only [put_len]; rfl)) ⟨rfl, trivial⟩ rfl

/-! ### spec_l20Bend -/
set_option maxRecDepth 100000 in
set_option maxHeartbeats 4000000 in
theorem c_spec_l20Bend (s_ : Ak) (x_ : AS) (hp1 : Lim s_ 700000) : Con Tryz.prog 60 [.op 0 0 0 0, .st [.str x_.Id, .int .i64 x_.Junction, .int .i64 x_.Places, .int .i64 x_.Air]] [(0, some (.box 100 [.sl 1 (s_.code.map (V.int .u8)), .int .i64 s_.at_, .int .u64 s_.seed]))] (.st [.str (BF s_ x_).1.Id, .int .i64 (BF s_ x_).1.Junction, .int .i64 (BF s_ x_).1.Places, .int .i64 (BF s_ x_).1.Air]) ([(0, some (.box 100 [.sl 1 ((BF s_ x_).2.code.map (V.int .u8)), .int .i64 (BF s_ x_).2.at_, .int .u64 (BF s_ x_).2.seed]))]) := by
  refine con_intro (out := fun r : AS × Ak => ((.st [.str r.1.Id, .int .i64 r.1.Junction, .int .i64 r.1.Places, .int .i64 r.1.Air] : V), ([(0, some (.box 100 [.sl 1 (r.2.code.map (V.int .u8)), .int .i64 r.2.at_, .int .u64 r.2.seed]))] : List (Nat × Option O)))) (r := (BF s_ x_)) Tryz.func60 rfl Tryz.ntmps60 rfl ?_
  refine Af ?_
  refine Ad (Du (l := 200) .n rfl (.t rfl) rfl rfl rfl rfl <| BE (l := 201) .n rfl zv_39 rfl rfl <| Lex.nil) ?_
  refine Af ?_
  refine Af ?_
  refine Ad (Ag .n (.t rfl) rfl <| AW (full := false) [(0, 0)] [] .n rfl .f en_22 (.cons (.t rfl) (.cons (.c rfl) .nil)) (.cons (.b (.mutp rfl)) (.cons (.b (.a (.same rfl))) .nil)) (AI s_ 20 (by (try dsimp only); (with_reducible (first | apply Lim.mono | apply Lim.out | apply LimA.mono)); (repeat (with_reducible (first | assumption | apply Lim.among | apply Lim.text | apply Lim.pick | apply Lim.bend20 | apply Lim.mk))); omega)) ⟨rfl, trivial⟩ rfl rfl (fun h => Bool.noConfusion h) (fun h => Bool.noConfusion h) rfl <| Lex.nil) ?_
  refine Aw ?_
  refine Af ?_
  refine Ad (AF .n (.t rfl) (.c rfl) rfl rfl <| Ah .n (.t rfl) rfl <| Lex.nil) ?_
  refine Aq (.t rfl) rfl (fun h1 => ?_) (fun h1 => ?_)
  · try simp only [tst] at h1
    refine Ad (Ag .n (.t rfl) rfl <| AV ([(-1), 15, 16] : List Int) (f := V.int .i64) (l := 202) .n rfl rfl (.cons (.c rfl) (.cons (.c rfl) (.cons (.c rfl) .nil))) rfl si_27 zv_2 rfl rfl rfl <| AW (full := false) [(0, 0), (1, 202)] [] .n rfl .f en_24 (.cons (.t rfl) (.cons (.t rfl) .nil)) (.cons (.b (.mutp rfl)) (.cons (.b (.muts rfl)) .nil)) (A0 (Aa s_ 20).2 ([(-1), 15, 16] : List Int) (by (try dsimp only); (with_reducible (first | apply Lim.mono | apply Lim.out | apply LimA.mono)); (repeat (with_reducible (first | assumption | apply Lim.among | apply Lim.text | apply Lim.pick | apply Lim.bend20 | apply Lim.mk))); omega) (by (simp only [lens] at * <;> omega))) ⟨rfl, rfl, trivial⟩ rfl rfl (fun h => Bool.noConfusion h) (fun h => Bool.noConfusion h) rfl <| AE .n (.t rfl) fo_39_1 rfl <| AG [.str x_.Id, .int .i64 (Aj (Aa s_ 20).2 ([(-1), 15, 16] : List Int)).1, .int .i64 x_.Places, .int .i64 x_.Air] .n rfl (.t rfl) (.t rfl) rfl ts_2 rfl rfl <| Lex.nil) ?_
    refine AK ?_
    refine Af ?_
    refine Ad (Ba .n (.t rfl) rfl (.inr rfl) ag_39 (fun _ => rfl) rfl rfl <| AG [.str x_.Id, .int .i64 (Aj (Aa s_ 20).2 ([(-1), 15, 16] : List Int)).1, .int .i64 x_.Places, .int .i64 x_.Air] .n rfl (.t rfl) (.t rfl) rfl ts_39 rfl rfl <| Lex.nil) ?_
    exact Au [] (.cons (.cN rfl rfl ag_39 rfl rfl) .nil) (by first | rfl | (simp only [put_len]; rfl)) ⟨rfl, trivial⟩ rfl
  · try simp only [tst] at h1
    refine Af ?_
    refine Ad (AF .n (.t rfl) (.c rfl) rfl rfl <| Ah .n (.t rfl) rfl <| Lex.nil) ?_
    refine Aq (.t rfl) rfl (fun h2 => ?_) (fun h2 => ?_)
    · try simp only [tst] at h2
      refine Ad (Ag .n (.t rfl) rfl <| AV ([0, 200, 201] : List Int) (f := V.int .i64) (l := 203) .n rfl rfl (.cons (.c rfl) (.cons (.c rfl) (.cons (.c rfl) .nil))) rfl si_27 zv_2 rfl rfl rfl <| AW (full := false) [(0, 0), (1, 203)] [] .n rfl .f en_24 (.cons (.t rfl) (.cons (.t rfl) .nil)) (.cons (.b (.mutp rfl)) (.cons (.b (.muts rfl)) .nil)) (A0 (Aa s_ 20).2 ([0, 200, 201] : List Int) (by (try dsimp only); (with_reducible (first | apply Lim.mono | apply Lim.out | apply LimA.mono)); (repeat (with_reducible (first | assumption | apply Lim.among | apply Lim.text | apply Lim.pick | apply Lim.bend20 | apply Lim.mk))); omega) (by (simp only [lens] at * <;> omega))) ⟨rfl, rfl, trivial⟩ rfl rfl (fun h => Bool.noConfusion h) (fun h => Bool.noConfusion h) rfl <| AE .n (.t rfl) fo_39_2 rfl <| AG [.str x_.Id, .int .i64 x_.Junction, .int .i64 (Aj (Aa s_ 20).2 ([0, 200, 201] : List Int)).1, .int .i64 x_.Air] .n rfl (.t rfl) (.t rfl) rfl ts_2 rfl rfl <| Lex.nil) ?_
      refine AK ?_
      refine Af ?_
      refine Ad (Ba .n (.t rfl) rfl (.inr rfl) ag_39 (fun _ => rfl) rfl rfl <| AG [.str x_.Id, .int .i64 x_.Junction, .int .i64 (Aj (Aa s_ 20).2 ([0, 200, 201] : List Int)).1, .int .i64 x_.Air] .n rfl (.t rfl) (.t rfl) rfl ts_39 rfl rfl <| Lex.nil) ?_
      exact Au [] (.cons (.cN rfl rfl ag_39 rfl rfl) .nil) (by first | rfl | (simp only [put_len]; rfl)) ⟨rfl, trivial⟩ rfl
    · try simp only [tst] at h2
      refine Af ?_
      refine Ad (AF .n (.t rfl) (.c rfl) rfl rfl <| Ah .n (.t rfl) rfl <| Lex.nil) ?_
      refine Aq (.t rfl) rfl (fun h3 => ?_) (fun h3 => ?_)
      · try simp only [tst] at h3
        refine Ad (Ag .n (.t rfl) rfl <| AV ([(-1), 10000001] : List Int) (f := V.int .i64) (l := 204) .n rfl rfl (.cons (.c rfl) (.cons (.c rfl) .nil)) rfl si_27 zv_2 rfl rfl rfl <| AW (full := false) [(0, 0), (1, 204)] [] .n rfl .f en_24 (.cons (.t rfl) (.cons (.t rfl) .nil)) (.cons (.b (.mutp rfl)) (.cons (.b (.muts rfl)) .nil)) (A0 (Aa s_ 20).2 ([(-1), 10000001] : List Int) (by (try dsimp only); (with_reducible (first | apply Lim.mono | apply Lim.out | apply LimA.mono)); (repeat (with_reducible (first | assumption | apply Lim.among | apply Lim.text | apply Lim.pick | apply Lim.bend20 | apply Lim.mk))); omega) (by (simp only [lens] at * <;> omega))) ⟨rfl, rfl, trivial⟩ rfl rfl (fun h => Bool.noConfusion h) (fun h => Bool.noConfusion h) rfl <| AE .n (.t rfl) fo_39_3 rfl <| AG [.str x_.Id, .int .i64 x_.Junction, .int .i64 x_.Places, .int .i64 (Aj (Aa s_ 20).2 ([(-1), 10000001] : List Int)).1] .n rfl (.t rfl) (.t rfl) rfl ts_2 rfl rfl <| Lex.nil) ?_
        refine AK ?_
        refine Af ?_
        refine Ad (Ba .n (.t rfl) rfl (.inr rfl) ag_39 (fun _ => rfl) rfl rfl <| AG [.str x_.Id, .int .i64 x_.Junction, .int .i64 x_.Places, .int .i64 (Aj (Aa s_ 20).2 ([(-1), 10000001] : List Int)).1] .n rfl (.t rfl) (.t rfl) rfl ts_39 rfl rfl <| Lex.nil) ?_
        exact Au [] (.cons (.cN rfl rfl ag_39 rfl rfl) .nil) (by first | rfl | (simp only [put_len]; rfl)) ⟨rfl, trivial⟩ rfl
      · try simp only [tst] at h3
        refine Af ?_
        refine Ad (AF .n (.t rfl) (.c rfl) rfl rfl <| Ah .n (.t rfl) rfl <| Lex.nil) ?_
        refine Aq (.t rfl) rfl (fun h4 => ?_) (fun h4 => ?_)
        · try simp only [tst] at h4
          refine Ad (Ag .n (.t rfl) rfl <| AV K_4 (f := V.str) (l := 205) .n rfl rfl (.cons (.c rfl) (.cons (.c rfl) .nil)) rfl si_103 zv_9 rfl rfl rfl <| AW (full := false) [(0, 0), (1, 205)] [] .n rfl .f en_95 (.cons (.t rfl) (.cons (.t rfl) .nil)) (.cons (.b (.mutp rfl)) (.cons (.b (.muts rfl)) .nil)) (DG (Aa s_ 20).2 K_4 (by (try dsimp only); (with_reducible (first | apply Lim.mono | apply Lim.out | apply LimA.mono)); (repeat (with_reducible (first | assumption | apply Lim.among | apply Lim.text | apply Lim.pick | apply Lim.bend20 | apply Lim.mk))); omega) (by (simp only [lens] at * <;> omega))) ⟨rfl, rfl, trivial⟩ rfl rfl (fun h => Bool.noConfusion h) (fun h => Bool.noConfusion h) rfl <| AE .n (.t rfl) fo_39_0 rfl <| AG [.str (Ab (Aa s_ 20).2 K_4).1, .int .i64 x_.Junction, .int .i64 x_.Places, .int .i64 x_.Air] .n rfl (.t rfl) (.t rfl) rfl ts_9 rfl rfl <| Lex.nil) ?_
          refine AK ?_
          refine Af ?_
          refine Ad (Ba .n (.t rfl) rfl (.inr rfl) ag_39 (fun _ => rfl) rfl rfl <| AG [.str (Ab (Aa s_ 20).2 K_4).1, .int .i64 x_.Junction, .int .i64 x_.Places, .int .i64 x_.Air] .n rfl (.t rfl) (.t rfl) rfl ts_39 rfl rfl <| Lex.nil) ?_
          exact Au [] (.cons (.cN rfl rfl ag_39 rfl rfl) .nil) (by first | rfl | (simp only [put_len]; rfl)) ⟨rfl, trivial⟩ rfl
        · try simp only [tst] at h4
          refine As ?_
          refine AK ?_
          refine Af ?_
          refine Ad (Ba .n (.t rfl) rfl (.inr rfl) ag_39 (fun _ => rfl) rfl rfl <| AG [.str x_.Id, .int .i64 x_.Junction, .int .i64 x_.Places, .int .i64 x_.Air] .n rfl (.t rfl) (.t rfl) rfl ts_39 rfl rfl <| Lex.nil) ?_
          exact Au [] (.cons (.cN rfl rfl ag_39 rfl rfl) .nil) (by first | rfl | (simp only [put_len]; rfl)) ⟨rfl, trivial⟩ rfl

/-! ### spec_l01Dec -/
theorem c_spec_l01Dec (n_ : Int) (hp1 : -9223372036854775808 ≤ n_ ∧ n_ ≤ 9223372036854775807) : Con Tryz.prog 61 [.int .i64 n_] [] (.str (BB n_)) ([]) := by
  refine con_intro (out := fun r : (List UInt8) => ((.str r : V), ([] : List (Nat × Option O)))) (r := (BB n_)) Tryz.func61 rfl Tryz.ntmps61 rfl ?_
  refine Af ?_
  refine Ad (Ah .n (.c rfl) rfl <| Lex.nil) ?_
  refine Af ?_
  refine Af ?_
  refine Ad (Ag .n (.t rfl) rfl <| AF .n (.t rfl) (.c rfl) rfl rfl <| Lex.nil) ?_
  refine Aq (.t rfl) rfl (fun h1 => ?_) (fun h1 => ?_)
  · try simp only [tst] at h1
    refine Af ?_
    refine Ad (Ah .n (.c rfl) rfl <| Lex.nil) ?_
    exact Au [] (.cons (.t rfl rfl) .nil) rfl trivial rfl
  · try simp only [tst] at h1
    refine As ?_
    refine Af ?_
    refine Ad (AV K_5 (f := V.int .u8) (l := 200) .n rfl rfl .nil rfl si_22 zv_5 rfl rfl rfl <| Ah .n (.t rfl) rfl <| Lex.nil) ?_
    refine Af ?_
    refine Af ?_
    refine Ad (Ag .n (.t rfl) rfl <| Ah .n (.t rfl) rfl <| Lex.nil) ?_
    refine Aw ?_
    refine Bp (m_spec_l01Dec_b1 n_) _ _ _ rfl (fun (x1 : (List Int) × Int) => DecI x1.1.length x1.2) (fun x1 => DecI x1.1.length x1.2) (fun x1 => x1.2.natAbs) (fun x1 => ⟨[(0, some (true, .int .i64 n_)), (3, some (true, .os 200 x1.1.length)), (4, some (true, .int .i64 x1.2))], [(200, some (.row 5 1 (x1.1.map (V.int .u8))))]⟩) (fun x1 => ⟨[(0, some (true, .int .i64 n_)), (3, some (true, .os 200 x1.1.length))], [(200, some (.row 5 1 (x1.1.map (V.int .u8))))]⟩) (by (exact DecI.start (by assumption))) (by omega) (sub_of [] ⟨rfl, rfl, rfl, trivial⟩ ⟨rfl, trivial⟩ rfl) ?_ ?_
    · intro x1 i9
      have e26 := i9
      try dsimp only at *
      refine Af ?_
      refine Af ?_
      refine Ad (Ag .n (.t rfl) rfl <| AF .n (.t rfl) (.c rfl) rfl rfl <| Lex.nil) ?_
      refine Dn _ _ rfl (fun v10 : (List Int) => v10.length ≤ 20) (fun v10 => ⟨[(3, some (true, .os 204 v10.length))], [(204, some (.row 5 1 (v10.map (V.int .u8))))]⟩) (fun v10 hv24 => ?_) (fun j11 hj12 => ?_)
      · have e25 := hv24
        refine Af ?_
        refine Ad (AV K_5 (f := V.int .u8) (l := 205) .n rfl rfl .nil rfl si_22 zv_5 rfl rfl rfl <| Ah .n (.t rfl) rfl <| Lex.nil) ?_
        refine Af ?_
        refine Af ?_
        refine Ad (Ag .n (.t rfl) rfl <| BS .n (.t rfl) rfl rfl ss_22 rfl <| AF .n (.t rfl) (.c rfl) rfl rfl <| Ah .n (.t rfl) rfl <| Lex.nil) ?_
        refine Aw ?_
        refine Bp (Dp n_ x1 v10) _ _ _ rfl (fun (x2 : (List Int) × Int) => x2.2 ≤ IntKind.wrap .i64 ((v10.length : Int) - 1) ∧ (x2.1.length : Int) + x2.2 + 1 = v10.length ∧ -1 ≤ x2.2) (fun x2 => x2.2 ≤ IntKind.wrap .i64 ((v10.length : Int) - 1) ∧ (x2.1.length : Int) + x2.2 + 1 = v10.length ∧ -1 ≤ x2.2) (fun x2 => (x2.2 + 1 : Int).toNat) (fun x2 => ⟨[(3, some (true, .os 204 v10.length)), (6, some (true, .os 205 x2.1.length)), (7, some (true, .int .i64 x2.2))], [(204, some (.row 5 1 (v10.map (V.int .u8)))), (205, some (.row 5 1 (x2.1.map (V.int .u8))))]⟩) (fun x2 => ⟨[(6, some (true, .os 205 x2.1.length))], [(205, some (.row 5 1 (x2.1.map (V.int .u8))))]⟩) ⟨by omega, by ((rw [wr64 (by omega)]; simp only [List.length_append, List.length_cons, List.length_nil] at *; omega)), by ((rw [wr64 (by omega)]; simp only [List.length_append, List.length_cons, List.length_nil] at *; omega))⟩ (by ((rw [wr64 (by omega)]; simp only [List.length_append, List.length_cons, List.length_nil] at *; omega))) (sub_of [] ⟨rfl, rfl, rfl, trivial⟩ ⟨rfl, rfl, trivial⟩ rfl) ?_ ?_
        · intro x2 i17
          obtain ⟨e18, e19, e20⟩ := i17
          try dsimp only at *
          refine Af ?_
          refine Ad (Ag .n (.t rfl) rfl <| q_b2s (xs := x2.1) .n (.ow (.t rfl) rfl (take_all (by simp only [len_map, put_len] <;> rfl)) (by simp only [len_map, put_len] <;> rfl)) bs_22_9 rfl <| Ah .n (.t rfl) rfl <| Lex.nil) ?_
          exact Au [] (.cons (.t rfl rfl) .nil) rfl trivial rfl
        · intro rec2 k2 hk14 x2 i15
          obtain ⟨e21, e22, e23⟩ := i15
          try dsimp only at *
          refine Af ?_
          refine Af ?_
          refine Ad (Ag .n (.t rfl) rfl <| AF .n (.t rfl) (.c rfl) rfl rfl <| Lex.nil) ?_
          refine Aq (.t rfl) rfl (fun h16 => ?_) (fun h16 => ?_)
          · try simp only [tst] at h16
            refine As ?_
            refine Af ?_
            refine Aw ?_
            refine Ad (Ag .n (.t rfl) rfl <| Ag .n (.t rfl) rfl <| Ag .n (.t rfl) rfl <| AZ .n (.t rfl) (.t rfl) sl_22 (fun _ => by omega) rfl <| A2 .n (.t rfl) rfl (fun _ => by omega) rfl rfl rfl ic_5 rfl <| AV ([at' v10 x2.2] : List Int) (f := V.int .u8) (l := 206) .n rfl rfl (.cons (.t rfl) .nil) rfl si_22 zv_5 rfl rfl rfl <| CX (xs := x2.1) (ys := ([at' v10 x2.2] : List Int)) (f := V.int .u8) (l := 207) .n rfl (.ow (.t rfl) rfl (take_all (by simp only [len_map, put_len] <;> rfl)) (by simp only [len_map, put_len] <;> rfl)) (.ow (.t rfl) rfl (take_all (by simp only [len_map, put_len] <;> rfl)) (by simp only [len_map, put_len] <;> rfl)) si_22 zv_5 rfl (by (simp only [lens] at * <;> omega)) rfl rfl <| Ah .n (.t rfl) rfl <| Lex.nil) ?_
            refine AK ?_
            refine Ad (Ag .n (.t rfl) rfl <| q_sub .n (.t rfl) (.c rfl) (fun _ => by omega) rfl <| Ah .n (.t rfl) rfl <| Lex.nil) ?_
            exact A5 (x2.1 ++ ([at' v10 x2.2] : List Int), x2.2 - 1) ⟨by omega, by (simp only [lens] at * <;> omega), by omega⟩ (by omega) (sub_of [(205, 207)] ⟨rfl, rfl, rfl, trivial⟩ ⟨rfl, rfl, trivial⟩ rfl)
          · try simp only [tst] at h16
            refine Bb rfl ?_
            exact AY hk14 (x2.1, x2.2) ⟨by omega, by omega, by omega⟩ (sub_of [] ⟨rfl, trivial⟩ ⟨rfl, trivial⟩ rfl)
      · refine Aq (.t rfl) rfl (fun h13 => ?_) (fun h13 => ?_)
        · try simp only [tst] at h13
          refine Ad (Ag .n (.t rfl) rfl <| AV ([45] : List Int) (f := V.int .u8) (l := 203) .n rfl rfl (.cons (.c rfl) .nil) rfl si_22 zv_5 rfl rfl rfl <| CX (xs := x1.1) (ys := ([45] : List Int)) (f := V.int .u8) (l := 204) .n rfl (.ow (.t rfl) rfl (take_all (by simp only [len_map, put_len] <;> rfl)) (by simp only [len_map, put_len] <;> rfl)) (.ow (.t rfl) rfl (take_all (by simp only [len_map, put_len] <;> rfl)) (by simp only [len_map, put_len] <;> rfl)) si_22 zv_5 rfl (by ((have hq := DecI.len (by assumption); first | omega | (simp only [List.length_append, List.length_cons, List.length_nil] at *; omega)))) rfl rfl <| Ah .n (.t rfl) rfl <| Lex.nil) ?_
          exact AY hj12 (x1.1 ++ ([45] : List Int)) (by ((have hq := DecI.len (by assumption); first | omega | (simp only [List.length_append, List.length_cons, List.length_nil] at *; omega)))) (sub_of [] ⟨rfl, trivial⟩ ⟨rfl, trivial⟩ rfl)
        · try simp only [tst] at h13
          refine As ?_
          exact AY hj12 x1.1 (by ((have hq := DecI.len (by assumption); first | omega | (simp only [List.length_append, List.length_cons, List.length_nil] at *; omega)))) (sub_of [(204, 200)] ⟨rfl, trivial⟩ ⟨rfl, trivial⟩ rfl)
    · intro rec1 k1 hk2 x1 i3
      have e27 := i3
      try dsimp only at *
      refine Af ?_
      refine Af ?_
      refine Ad (Ag .n (.t rfl) rfl <| AF .n (.t rfl) (.c rfl) rfl rfl <| Lex.nil) ?_
      refine Aq (.t rfl) rfl (fun h4 => ?_) (fun h4 => ?_)
      · try simp only [tst] at h4
        refine As ?_
        refine Af ?_
        refine Aw ?_
        refine Af ?_
        refine Ad (Ag .n (.t rfl) rfl <| q_rem .n (.t rfl) (.c rfl) (fun _ => by decide) rfl <| Ah .n (.t rfl) rfl <| Lex.nil) ?_
        refine Af ?_
        refine Af ?_
        refine Ad (Ag .n (.t rfl) rfl <| AF .n (.t rfl) (.c rfl) rfl rfl <| Lex.nil) ?_
        refine Dn _ _ rfl (fun v5 : Int => True) (fun v5 => ⟨[(0, some (true, .int .i64 n_)), (3, some (true, .os 200 x1.1.length)), (4, some (true, .int .i64 x1.2)), (5, some (true, .int .i64 v5))], [(200, some (.row 5 1 (x1.1.map (V.int .u8))))]⟩) (fun v5 _ => ?_) (fun j6 hj7 => ?_)
        · refine Ad (Ag .n (.t rfl) rfl <| Ag .n (.t rfl) rfl <| AF .n (.c rfl) (.t rfl) rfl rfl <| q_conv .n (.t rfl) cv_2_5 rfl <| AV ([IntKind.wrap .u8 (IntKind.wrap .i64 (48 + v5))] : List Int) (f := V.int .u8) (l := 201) .n rfl rfl (.cons (.t rfl) .nil) rfl si_22 zv_5 rfl rfl rfl <| CX (xs := x1.1) (ys := ([IntKind.wrap .u8 (IntKind.wrap .i64 (48 + v5))] : List Int)) (f := V.int .u8) (l := 202) .n rfl (.ow (.t rfl) rfl (take_all (by simp only [len_map, put_len] <;> rfl)) (by simp only [len_map, put_len] <;> rfl)) (.ow (.t rfl) rfl (take_all (by simp only [len_map, put_len] <;> rfl)) (by simp only [len_map, put_len] <;> rfl)) si_22 zv_5 rfl (by ((have hq := DecI.len (by assumption); first | omega | (simp only [List.length_append, List.length_cons, List.length_nil] at *; omega)))) rfl rfl <| Ah .n (.t rfl) rfl <| Lex.nil) ?_
          refine AK ?_
          refine Ad (Ag .n (.t rfl) rfl <| q_quo .n (.t rfl) (.c rfl) (fun _ => by decide) rfl <| Ah .n (.t rfl) rfl <| Lex.nil) ?_
          exact A5 (x1.1 ++ ([IntKind.wrap .u8 (IntKind.wrap .i64 (48 + v5))] : List Int), IntKind.wrap .i64 (Int.tdiv x1.2 10)) (by (exact DecI.step (by assumption) (by assumption))) (by (exact dec_mu (by assumption) (by assumption))) (sub_of [(200, 202)] ⟨rfl, rfl, rfl, trivial⟩ ⟨rfl, trivial⟩ rfl)
        · refine Aq (.t rfl) rfl (fun h8 => ?_) (fun h8 => ?_)
          · try simp only [tst] at h8
            refine Ad (Ag .n (.t rfl) rfl <| q_neg .n (.t rfl) rfl <| Ah .n (.t rfl) rfl <| Lex.nil) ?_
            exact AY hj7 (IntKind.wrap .i64 (0 - (Int.tmod x1.2 10))) trivial (sub_of [] ⟨rfl, rfl, rfl, rfl, trivial⟩ ⟨rfl, trivial⟩ rfl)
          · try simp only [tst] at h8
            refine As ?_
            exact AY hj7 (Int.tmod x1.2 10) trivial (sub_of [] ⟨rfl, rfl, rfl, rfl, trivial⟩ ⟨rfl, trivial⟩ rfl)
      · try simp only [tst] at h4
        refine Bb rfl ?_
        exact AY hk2 (x1.1, x1.2) (by omega) (sub_of [] ⟨rfl, rfl, trivial⟩ ⟨rfl, trivial⟩ rfl)

/-! ### spec_l20DrawList -/
set_option maxRecDepth 100000 in
set_option maxHeartbeats 4000000 in
theorem c_spec_l20DrawList (s_ : Ak) (m_ : AB) (hp1 : Lim s_ 400000) : Con Tryz.prog 25 [.op 0 0 0 0, .rp [.int .i64 m_.Junctions, .sl 7 (m_.Airways.map Ar.v)]] [(0, some (.box 100 [.sl 1 (s_.code.map (V.int .u8)), .int .i64 s_.at_, .int .u64 s_.seed]))] (.os 100 (BG s_ m_).1.length) ([(100, some (.row 39 4 ((BG s_ m_).1.map AS.v))), (0, some (.box 100 [.sl 1 ((BG s_ m_).2.code.map (V.int .u8)), .int .i64 (BG s_ m_).2.at_, .int .u64 (BG s_ m_).2.seed]))]) := by
  refine con_intro (out := fun r : (List AS) × Ak => ((.os 100 r.1.length : V), ([(100, some (.row 39 4 (r.1.map AS.v))), (0, some (.box 100 [.sl 1 (r.2.code.map (V.int .u8)), .int .i64 r.2.at_, .int .u64 r.2.seed]))] : List (Nat × Option O)))) (r := (BG s_ m_)) Tryz.func25 rfl Tryz.ntmps25 rfl ?_
  have hN3 : ((K_3.length : Nat) : Int) = 3 := rfl
  refine BH (t := 1) 1 rfl rfl fun hl => ?_
  have l1 := hl; clear hl; simp only [List.length_map] at l1
  refine Af ?_
  refine Ad (Ah .n (.c rfl) rfl <| Lex.nil) ?_
  refine Af ?_
  refine Ad (AV K_3 (f := V.str) (l := 200) .n rfl rfl (.cons (.c rfl) (.cons (.c rfl) (.cons (.c rfl) .nil))) rfl si_103 zv_9 rfl rfl rfl <| Ah .n (.t rfl) rfl <| Lex.nil) ?_
  refine Af ?_
  refine Ad (AV ([] : List AS) (f := AS.v) (l := 201) .n rfl rfl .nil rfl si_29 zv_39 rfl rfl rfl <| Ah .n (.t rfl) rfl <| Lex.nil) ?_
  refine Af ?_
  refine Af ?_
  refine Ad (Ah .n (.c rfl) rfl <| Lex.nil) ?_
  refine Aw ?_
  refine Bp (Dg s_ m_) _ _ _ rfl (fun (x1 : (List Int) × Int × Int × (List AS) × Int) => 0 ≤ x1.2.2.2.2 ∧ x1.2.2.2.2 ≤ (K_3.length : Int) ∧ (x1.2.2.2.1.length : Int) + 0 ≤ x1.2.2.2.2 + (([] : List AS).length : Int) ∧ x1.2.2.2.2 ≤ 3 ∧ (x1.2.2.2.1.length : Int) ≤ x1.2.2.2.2 ∧ LimA x1.1 x1.2.1 (400000 + 10 * x1.2.2.2.2)) (fun x1 => 0 ≤ x1.2.2.2.2 ∧ x1.2.2.2.2 ≤ (K_3.length : Int) ∧ (x1.2.2.2.1.length : Int) + 0 ≤ x1.2.2.2.2 + (([] : List AS).length : Int) ∧ x1.2.2.2.2 ≤ 3 ∧ (x1.2.2.2.1.length : Int) ≤ x1.2.2.2.2 ∧ LimA x1.1 x1.2.1 (400000 + 10 * x1.2.2.2.2) ∧ (K_3.length : Int) ≤ x1.2.2.2.2) (fun x1 => ((K_3.length : Int) - x1.2.2.2.2 : Int).toNat) (fun x1 => ⟨[(0, some (true, .op 0 0 0 0)), (1, some (true, .rp [.int .i64 m_.Junctions, .sl 7 (m_.Airways.map Ar.v)])), (5, some (true, .os 200 K_3.length)), (6, some (true, .os 201 x1.2.2.2.1.length)), (7, some (true, .int .i64 x1.2.2.2.2))], [(0, some (.box 100 [.sl 1 (x1.1.map (V.int .u8)), .int .i64 x1.2.1, .int .u64 x1.2.2.1])), (200, some (.row 9 1 (K_3.map V.str))), (201, some (.row 39 4 (x1.2.2.2.1.map AS.v)))]⟩) (fun x1 => ⟨[(0, some (true, .op 0 0 0 0)), (6, some (true, .os 201 x1.2.2.2.1.length))], [(0, some (.box 100 [.sl 1 (x1.1.map (V.int .u8)), .int .i64 x1.2.1, .int .u64 x1.2.2.1])), (201, some (.row 39 4 (x1.2.2.2.1.map AS.v)))]⟩) ⟨by (simp only [lens] at * <;> omega), by (simp only [lens] at * <;> omega), by (simp only [lens] at * <;> omega), by (simp only [lens] at * <;> omega), by (simp only [lens] at * <;> omega), by (try dsimp only); (with_reducible (first | apply Lim.mono | apply Lim.out | apply LimA.mono)); (repeat (with_reducible (first | assumption | apply Lim.among | apply Lim.one | apply Lim.pick | apply Lim.one20 | apply Lim.bend20 | apply Lim.list20 | apply Lim.mk))); omega⟩ (by (simp only [lens] at * <;> omega)) (sub_of [] ⟨rfl, rfl, rfl, rfl, rfl, trivial⟩ ⟨rfl, rfl, rfl, trivial⟩ rfl) ?_ ?_
  · intro x1 i6
    obtain ⟨e26, e27, e28, e29, e30, e31, e32⟩ := i6
    try dsimp only at *
    refine Af ?_
    refine Af ?_
    refine Ad (Ag .n (.t rfl) rfl <| AW (full := false) [(0, 0)] [] .n rfl .f en_22 (.cons (.t rfl) (.cons (.c rfl) .nil)) (.cons (.b (.mutp rfl)) (.cons (.b (.a (.same rfl))) .nil)) (AI (Ak.mk x1.1 x1.2.1 x1.2.2.1) 20 (by (try dsimp only); (with_reducible (first | apply Lim.mono | apply Lim.out | apply LimA.mono)); (repeat (with_reducible (first | assumption | apply Lim.among | apply Lim.one | apply Lim.pick | apply Lim.one20 | apply Lim.bend20 | apply Lim.list20 | apply Lim.mk))); omega)) ⟨rfl, trivial⟩ rfl rfl (fun h => Bool.noConfusion h) (fun h => Bool.noConfusion h) rfl <| Lex.nil) ?_
    refine Aw ?_
    refine Af ?_
    refine Ad (AF .n (.t rfl) (.c rfl) rfl rfl <| Ah .n (.t rfl) rfl <| Lex.nil) ?_
    refine Aq (.t rfl) rfl (fun h7 => ?_) (fun h7 => ?_)
    · try simp only [tst] at h7
      refine Ad (Ag .n (.t rfl) rfl <| Ag .n (.t rfl) rfl <| Ag .n (.t rfl) rfl <| AW (full := false) [(0, 0)] [] .n rfl .f en_58 (.cons (.t rfl) (.cons (.c rfl) (.cons (.c rfl) .nil))) (.cons (.b (.mutp rfl)) (.cons (.b (.a (.same rfl))) (.cons (.b (.a (.same rfl))) .nil))) (c_spec_l20DrawOne (Aa (Ak.mk x1.1 x1.2.1 x1.2.2.1) 20).2 ([122, 122] : List UInt8) 0 (by (try dsimp only); (with_reducible (first | apply Lim.mono | apply Lim.out | apply LimA.mono)); (repeat (with_reducible (first | assumption | apply Lim.among | apply Lim.one | apply Lim.pick | apply Lim.one20 | apply Lim.bend20 | apply Lim.list20 | apply Lim.mk))); omega)) ⟨rfl, trivial⟩ rfl rfl (fun h => Bool.noConfusion h) (fun h => Bool.noConfusion h) rfl <| AW (full := false) [(0, 0)] [] .n rfl .f en_60 (.cons (.t rfl) (.cons (.t rfl) .nil)) (.cons (.b (.mutp rfl)) (.cons (.sts rfl) .nil)) (c_spec_l20Bend (AH (Aa (Ak.mk x1.1 x1.2.1 x1.2.2.1) 20).2 ([122, 122] : List UInt8) 0).2 (AH (Aa (Ak.mk x1.1 x1.2.1 x1.2.2.1) 20).2 ([122, 122] : List UInt8) 0).1 (by (try dsimp only); (with_reducible (first | apply Lim.mono | apply Lim.out | apply LimA.mono)); (repeat (with_reducible (first | assumption | apply Lim.among | apply Lim.one | apply Lim.pick | apply Lim.one20 | apply Lim.bend20 | apply Lim.list20 | apply Lim.mk))); omega)) ⟨rfl, trivial⟩ rfl rfl (fun h => Bool.noConfusion h) (fun h => Bool.noConfusion h) rfl <| AV ([(BF (AH (Aa (Ak.mk x1.1 x1.2.1 x1.2.2.1) 20).2 ([122, 122] : List UInt8) 0).2 (AH (Aa (Ak.mk x1.1 x1.2.1 x1.2.2.1) 20).2 ([122, 122] : List UInt8) 0).1).1] : List AS) (f := AS.v) (l := 204) .n rfl rfl (.cons (.t rfl) .nil) rfl si_29 zv_39 rfl rfl rfl <| CX (xs := x1.2.2.2.1) (ys := ([(BF (AH (Aa (Ak.mk x1.1 x1.2.1 x1.2.2.1) 20).2 ([122, 122] : List UInt8) 0).2 (AH (Aa (Ak.mk x1.1 x1.2.1 x1.2.2.1) 20).2 ([122, 122] : List UInt8) 0).1).1] : List AS)) (f := AS.v) (l := 205) .n rfl (.ow (.t rfl) rfl (take_all (by simp only [len_map, put_len] <;> rfl)) (by simp only [len_map, put_len] <;> rfl)) (.ow (.t rfl) rfl (take_all (by simp only [len_map, put_len] <;> rfl)) (by simp only [len_map, put_len] <;> rfl)) si_29 zv_39 rfl (by (simp only [lens] at * <;> omega)) rfl rfl <| Ah .n (.t rfl) rfl <| Lex.nil) ?_
      refine AK ?_
      refine Af ?_
      refine Ad (Ag .n (.t rfl) rfl <| Ah .n (.t rfl) rfl <| Lex.nil) ?_
      exact Au [(100, 205)] (.cons (.t rfl rfl) .nil) (by first | rfl | (simp only [put_len]; rfl)) ⟨rfl, rfl, trivial⟩ rfl
    · try simp only [tst] at h7
      refine Af ?_
      refine Ad (AF .n (.t rfl) (.c rfl) rfl rfl <| Ah .n (.t rfl) rfl <| Lex.nil) ?_
      refine Aq (.t rfl) rfl (fun h8 => ?_) (fun h8 => ?_)
      · try simp only [tst] at h8
        refine Af ?_
        refine Ad (Ag .n (.t rfl) rfl <| AV ([8, 9] : List Int) (f := V.int .i64) (l := 206) .n rfl rfl (.cons (.c rfl) (.cons (.c rfl) .nil)) rfl si_27 zv_2 rfl rfl rfl <| AW (full := false) [(0, 0), (1, 206)] [] .n rfl .f en_24 (.cons (.t rfl) (.cons (.t rfl) .nil)) (.cons (.b (.mutp rfl)) (.cons (.b (.muts rfl)) .nil)) (A0 (Aa (Ak.mk x1.1 x1.2.1 x1.2.2.1) 20).2 ([8, 9] : List Int) (by (try dsimp only); (with_reducible (first | apply Lim.mono | apply Lim.out | apply LimA.mono)); (repeat (with_reducible (first | assumption | apply Lim.among | apply Lim.one | apply Lim.pick | apply Lim.one20 | apply Lim.bend20 | apply Lim.list20 | apply Lim.mk))); omega) (by (simp only [lens] at * <;> omega))) ⟨rfl, rfl, trivial⟩ rfl rfl (fun h => Bool.noConfusion h) (fun h => Bool.noConfusion h) rfl <| Ah .n (.t rfl) rfl <| Lex.nil) ?_
        refine Af ?_
        refine Ad (AV ([] : List AS) (f := AS.v) (l := 207) .n rfl rfl .nil rfl si_29 zv_39 rfl rfl rfl <| Ah .n (.t rfl) rfl <| Lex.nil) ?_
        refine Af ?_
        refine Ad (Ah .n (.c rfl) rfl <| Lex.nil) ?_
        refine Aw ?_
        refine Bp (Df s_ m_ x1) _ _ _ rfl (fun (x2 : (List Int) × Int × Int × (List AS) × Int) => 0 ≤ x2.2.2.2.2 ∧ x2.2.2.2.2 ≤ (Aj (Aa (Ak.mk x1.1 x1.2.1 x1.2.2.1) 20).2 ([8, 9] : List Int)).1 ∧ (x2.2.2.2.1.length : Int) + 0 ≤ x2.2.2.2.2 + (([] : List AS).length : Int) ∧ (x2.2.2.2.1.length : Int) = x2.2.2.2.2 ∧ x2.2.2.2.2 ≤ 9 ∧ LimA x2.1 x2.2.1 (400050 + 4 * x2.2.2.2.2)) (fun x2 => 0 ≤ x2.2.2.2.2 ∧ x2.2.2.2.2 ≤ (Aj (Aa (Ak.mk x1.1 x1.2.1 x1.2.2.1) 20).2 ([8, 9] : List Int)).1 ∧ (x2.2.2.2.1.length : Int) + 0 ≤ x2.2.2.2.2 + (([] : List AS).length : Int) ∧ (x2.2.2.2.1.length : Int) = x2.2.2.2.2 ∧ x2.2.2.2.2 ≤ 9 ∧ LimA x2.1 x2.2.1 (400050 + 4 * x2.2.2.2.2) ∧ (Aj (Aa (Ak.mk x1.1 x1.2.1 x1.2.2.1) 20).2 ([8, 9] : List Int)).1 ≤ x2.2.2.2.2) (fun x2 => ((Aj (Aa (Ak.mk x1.1 x1.2.1 x1.2.2.1) 20).2 ([8, 9] : List Int)).1 - x2.2.2.2.2 : Int).toNat) (fun x2 => ⟨[(0, some (true, .op 0 0 0 0)), (6, some (true, .os 207 x2.2.2.2.1.length)), (8, some (true, .int .i64 (Aj (Aa (Ak.mk x1.1 x1.2.1 x1.2.2.1) 20).2 ([8, 9] : List Int)).1)), (9, some (true, .int .i64 x2.2.2.2.2))], [(0, some (.box 100 [.sl 1 (x2.1.map (V.int .u8)), .int .i64 x2.2.1, .int .u64 x2.2.2.1])), (207, some (.row 39 4 (x2.2.2.2.1.map AS.v)))]⟩) (fun x2 => ⟨[(6, some (true, .os 207 x2.2.2.2.1.length))], [(0, some (.box 100 [.sl 1 (x2.1.map (V.int .u8)), .int .i64 x2.2.1, .int .u64 x2.2.2.1])), (207, some (.row 39 4 (x2.2.2.2.1.map AS.v)))]⟩) ⟨by (simp only [lens] at * <;> omega), by ((have hM := among_rng (x := 8) (y := 9) (Lim.pick (k := 20) (Lim.mk (c := x1.1) (a := x1.2.1) (b := x1.2.2.1) (by assumption))) (by decide); (try dsimp only); (try simp only [List.length_append, List.length_cons, List.length_nil]); omega)), by (simp only [lens] at * <;> omega), by (simp only [lens] at * <;> omega), by (simp only [lens] at * <;> omega), by (try dsimp only); (with_reducible (first | apply Lim.mono | apply Lim.out | apply LimA.mono)); (repeat (with_reducible (first | assumption | apply Lim.among | apply Lim.one | apply Lim.pick | apply Lim.one20 | apply Lim.bend20 | apply Lim.list20 | apply Lim.mk))); omega⟩ (by (simp only [lens] at * <;> omega)) (sub_of [] ⟨rfl, rfl, rfl, rfl, trivial⟩ ⟨rfl, rfl, trivial⟩ rfl) ?_ ?_
        · intro x2 i12
          obtain ⟨e13, e14, e15, e16, e17, e18, e19⟩ := i12
          try dsimp only at *
          refine AK ?_
          refine Af ?_
          refine Ad (Ag .n (.t rfl) rfl <| Ah .n (.t rfl) rfl <| Lex.nil) ?_
          exact Au [(100, 207)] (.cons (.t rfl rfl) .nil) (by first | rfl | (simp only [put_len]; rfl)) ⟨rfl, rfl, trivial⟩ rfl
        · intro rec2 k2 hk9 x2 i10
          obtain ⟨e20, e21, e22, e23, e24, e25⟩ := i10
          try dsimp only at *
          refine Af ?_
          refine Af ?_
          refine Ad (Ag .n (.t rfl) rfl <| Ag .n (.t rfl) rfl <| AF .n (.t rfl) (.t rfl) rfl rfl <| Lex.nil) ?_
          refine Aq (.t rfl) rfl (fun h11 => ?_) (fun h11 => ?_)
          · try simp only [tst] at h11
            refine As ?_
            refine Af ?_
            refine Aw ?_
            refine Ad (Ag .n (.t rfl) rfl <| Ag .n (.t rfl) rfl <| Ag .n (.t rfl) rfl <| AJ (full := false) .n .f en_61 (.cons (.t rfl) .nil) (.cons (.b (.a (.same rfl))) .nil) (fun hg => c_spec_l01Dec x2.2.2.2.2 (by omega)) rfl (fun h => Bool.noConfusion h) rfl <| q_strcat .n (.c rfl) (.t rfl) (fun _ => by ((have hM := among_rng (x := 8) (y := 9) (Lim.pick (k := 20) (Lim.mk (c := x1.1) (a := x1.2.1) (b := x1.2.2.1) (by assumption))) (by decide); have hd := dec_le (n := x2.2.2.2.2) (by omega); (try simp only [List.length_append, List.length_cons, List.length_nil]); omega))) rfl <| AW (full := false) [(0, 0)] [] .n rfl .f en_58 (.cons (.t rfl) (.cons (.t rfl) (.cons (.c rfl) .nil))) (.cons (.b (.mutp rfl)) (.cons (.b (.a (.same rfl))) (.cons (.b (.a (.same rfl))) .nil))) (c_spec_l20DrawOne (Ak.mk x2.1 x2.2.1 x2.2.2.1) (K_7 ++ (BB x2.2.2.2.2)) 0 (by (try dsimp only); (with_reducible (first | apply Lim.mono | apply Lim.out | apply LimA.mono)); (repeat (with_reducible (first | assumption | apply Lim.among | apply Lim.one | apply Lim.pick | apply Lim.one20 | apply Lim.bend20 | apply Lim.list20 | apply Lim.mk))); omega)) ⟨rfl, trivial⟩ rfl rfl (fun h => Bool.noConfusion h) (fun h => Bool.noConfusion h) rfl <| AV ([(AH (Ak.mk x2.1 x2.2.1 x2.2.2.1) (K_7 ++ (BB x2.2.2.2.2)) 0).1] : List AS) (f := AS.v) (l := 208) .n rfl rfl (.cons (.t rfl) .nil) rfl si_29 zv_39 rfl rfl rfl <| CX (xs := x2.2.2.2.1) (ys := ([(AH (Ak.mk x2.1 x2.2.1 x2.2.2.1) (K_7 ++ (BB x2.2.2.2.2)) 0).1] : List AS)) (f := AS.v) (l := 209) .n rfl (.ow (.t rfl) rfl (take_all (by simp only [len_map, put_len] <;> rfl)) (by simp only [len_map, put_len] <;> rfl)) (.ow (.t rfl) rfl (take_all (by simp only [len_map, put_len] <;> rfl)) (by simp only [len_map, put_len] <;> rfl)) si_29 zv_39 rfl (by (simp only [lens] at * <;> omega)) rfl rfl <| Ah .n (.t rfl) rfl <| Lex.nil) ?_
            refine AK ?_
            refine Ad (Ag .n (.t rfl) rfl <| BM .n (.t rfl) (.c rfl) (fun _ => by omega) rfl <| Ah .n (.t rfl) rfl <| Lex.nil) ?_
            exact A5 ((AH (Ak.mk x2.1 x2.2.1 x2.2.2.1) (K_7 ++ (BB x2.2.2.2.2)) 0).2.code, (AH (Ak.mk x2.1 x2.2.1 x2.2.2.1) (K_7 ++ (BB x2.2.2.2.2)) 0).2.at_, (AH (Ak.mk x2.1 x2.2.1 x2.2.2.1) (K_7 ++ (BB x2.2.2.2.2)) 0).2.seed, x2.2.2.2.1 ++ ([(AH (Ak.mk x2.1 x2.2.1 x2.2.2.1) (K_7 ++ (BB x2.2.2.2.2)) 0).1] : List AS), x2.2.2.2.2 + 1) ⟨by (simp only [lens] at * <;> omega), by assumption, by (simp only [lens] at * <;> omega), by (simp only [lens] at * <;> omega), by ((have hM := among_rng (x := 8) (y := 9) (Lim.pick (k := 20) (Lim.mk (c := x1.1) (a := x1.2.1) (b := x1.2.2.1) (by assumption))) (by decide); (try dsimp only); (try simp only [List.length_append, List.length_cons, List.length_nil]); omega)), by (try dsimp only); (with_reducible (first | apply Lim.mono | apply Lim.out | apply LimA.mono)); (repeat (with_reducible (first | assumption | apply Lim.among | apply Lim.one | apply Lim.pick | apply Lim.one20 | apply Lim.bend20 | apply Lim.list20 | apply Lim.mk))); omega⟩ (by (simp only [lens] at * <;> omega)) (sub_of [(207, 209)] ⟨rfl, rfl, rfl, rfl, trivial⟩ ⟨rfl, rfl, trivial⟩ rfl)
          · try simp only [tst] at h11
            refine Bb rfl ?_
            exact AY hk9 (x2.1, x2.2.1, x2.2.2.1, x2.2.2.2.1, x2.2.2.2.2) ⟨by omega, by omega, by omega, by omega, by omega, by (try dsimp only); (with_reducible (first | apply Lim.mono | apply Lim.out | apply LimA.mono)); (repeat (with_reducible (first | assumption | apply Lim.among | apply Lim.one | apply Lim.pick | apply Lim.one20 | apply Lim.bend20 | apply Lim.list20 | apply Lim.mk))); omega, by omega⟩ (sub_of [] ⟨rfl, trivial⟩ ⟨rfl, rfl, trivial⟩ rfl)
      · try simp only [tst] at h8
        refine As ?_
        refine AK ?_
        refine Af ?_
        refine Ad (Ag .n (.t rfl) rfl <| Ah .n (.t rfl) rfl <| Lex.nil) ?_
        exact Au [(100, 201)] (.cons (.t rfl rfl) .nil) (by first | rfl | (simp only [put_len]; rfl)) ⟨rfl, rfl, trivial⟩ rfl
  · intro rec1 k1 hk2 x1 i3
    obtain ⟨e33, e34, e35, e36, e37, e38⟩ := i3
    try dsimp only at *
    refine Af ?_
    refine Af ?_
    refine Ad (Ag .n (.t rfl) rfl <| Ag .n (.t rfl) rfl <| BS .n (.t rfl) rfl rfl ss_103 rfl <| AF .n (.t rfl) (.t rfl) rfl rfl <| Lex.nil) ?_
    refine Aq (.t rfl) rfl (fun h4 => ?_) (fun h4 => ?_)
    · try simp only [tst] at h4
      refine As ?_
      refine Af ?_
      refine Aw ?_
      refine Af ?_
      refine Ad (Ag .n (.t rfl) rfl <| AW (full := false) [(0, 0)] [] .n rfl .f en_23 (.cons (.t rfl) (.cons (.c rfl) .nil)) (.cons (.b (.mutp rfl)) (.cons (.b (.a (.same rfl))) .nil)) (Di (Ak.mk x1.1 x1.2.1 x1.2.2.1) 3 (by (try dsimp only); (with_reducible (first | apply Lim.mono | apply Lim.out | apply LimA.mono)); (repeat (with_reducible (first | assumption | apply Lim.among | apply Lim.one | apply Lim.pick | apply Lim.one20 | apply Lim.bend20 | apply Lim.list20 | apply Lim.mk))); omega)) ⟨rfl, trivial⟩ rfl rfl (fun h => Bool.noConfusion h) (fun h => Bool.noConfusion h) rfl <| Cg .n (.t rfl) rfl <| Lex.nil) ?_
      refine Aq (.t rfl) rfl (fun h5 => ?_) (fun h5 => ?_)
      · try simp only [tst] at h5
        refine Bk fmo (Ag .n (.t rfl) rfl <| Ag .n (.t rfl) rfl <| Ag .n (.t rfl) rfl <| Ag .n (.t rfl) rfl <| AZ .n (.t rfl) (.t rfl) sl_103 (fun _ => by omega) rfl <| A2 .n (.t rfl) rfl (fun _ => by omega) rfl rfl rfl ic_9 rfl <| Ag .n (.t rfl) rfl <| Ag .n (.t rfl) rfl <| Av .n (.t rfl) rfl <| Az .n (.t rfl) fo_26_0 rfl <| Ap .n (.t rfl) rfl ic_2 rfl <| AJ (full := false) .n .f en_59 (.cons (.c rfl) (.cons (.t rfl) .nil)) (.cons (.b (.a (.same rfl))) (.cons (.b (.a (.same rfl))) .nil)) (fun hg => DH 1 m_.Junctions) rfl (fun h => Bool.noConfusion h) rfl <| AW (full := false) [(0, 0)] [] .n rfl .f en_22 (.cons (.t rfl) (.cons (.t rfl) .nil)) (.cons (.b (.mutp rfl)) (.cons (.b (.a (.same rfl))) .nil)) (AI (Am (Ak.mk x1.1 x1.2.1 x1.2.2.1) 3).2 (AC 1 m_.Junctions) (by (try dsimp only); (with_reducible (first | apply Lim.mono | apply Lim.out | apply LimA.mono)); (repeat (with_reducible (first | assumption | apply Lim.among | apply Lim.one | apply Lim.pick | apply Lim.one20 | apply Lim.bend20 | apply Lim.list20 | apply Lim.mk))); omega)) ⟨rfl, trivial⟩ rfl rfl (fun h => Bool.noConfusion h) (fun h => Bool.noConfusion h) rfl <| AW (full := false) [(0, 0)] [] .n rfl .f en_58 (.cons (.t rfl) (.cons (.t rfl) (.cons (.t rfl) .nil))) (.cons (.b (.mutp rfl)) (.cons (.b (.a (.same rfl))) (.cons (.b (.a (.same rfl))) .nil))) (c_spec_l20DrawOne (Aa (Am (Ak.mk x1.1 x1.2.1 x1.2.2.1) 3).2 (AC 1 m_.Junctions)).2 (at' K_3 x1.2.2.2.2) (Aa (Am (Ak.mk x1.1 x1.2.1 x1.2.2.1) 3).2 (AC 1 m_.Junctions)).1 (by (try dsimp only); (with_reducible (first | apply Lim.mono | apply Lim.out | apply LimA.mono)); (repeat (with_reducible (first | assumption | apply Lim.among | apply Lim.one | apply Lim.pick | apply Lim.one20 | apply Lim.bend20 | apply Lim.list20 | apply Lim.mk))); omega)) ⟨rfl, trivial⟩ rfl rfl (fun h => Bool.noConfusion h) (fun h => Bool.noConfusion h) rfl <| AV ([(AH (Aa (Am (Ak.mk x1.1 x1.2.1 x1.2.2.1) 3).2 (AC 1 m_.Junctions)).2 (at' K_3 x1.2.2.2.2) (Aa (Am (Ak.mk x1.1 x1.2.1 x1.2.2.1) 3).2 (AC 1 m_.Junctions)).1).1] : List AS) (f := AS.v) (l := 202) .n rfl rfl (.cons (.t rfl) .nil) rfl si_29 zv_39 rfl rfl rfl <| CX (xs := x1.2.2.2.1) (ys := ([(AH (Aa (Am (Ak.mk x1.1 x1.2.1 x1.2.2.1) 3).2 (AC 1 m_.Junctions)).2 (at' K_3 x1.2.2.2.2) (Aa (Am (Ak.mk x1.1 x1.2.1 x1.2.2.1) 3).2 (AC 1 m_.Junctions)).1).1] : List AS)) (f := AS.v) (l := 203) .n rfl (.ow (.t rfl) rfl (take_all (by simp only [len_map, put_len] <;> rfl)) (by simp only [len_map, put_len] <;> rfl)) (.ow (.t rfl) rfl (take_all (by simp only [len_map, put_len] <;> rfl)) (by simp only [len_map, put_len] <;> rfl)) si_29 zv_39 rfl (by (simp only [lens] at * <;> omega)) rfl rfl <| Ah .n (.t rfl) rfl <| Lex.nil) (by kernel_rfl) ?_
        refine AK ?_
        refine Ad (Ag .n (.t rfl) rfl <| BM .n (.t rfl) (.c rfl) (fun _ => by omega) rfl <| Ah .n (.t rfl) rfl <| Lex.nil) ?_
        exact A5 ((AH (Aa (Am (Ak.mk x1.1 x1.2.1 x1.2.2.1) 3).2 (AC 1 m_.Junctions)).2 (at' K_3 x1.2.2.2.2) (Aa (Am (Ak.mk x1.1 x1.2.1 x1.2.2.1) 3).2 (AC 1 m_.Junctions)).1).2.code, (AH (Aa (Am (Ak.mk x1.1 x1.2.1 x1.2.2.1) 3).2 (AC 1 m_.Junctions)).2 (at' K_3 x1.2.2.2.2) (Aa (Am (Ak.mk x1.1 x1.2.1 x1.2.2.1) 3).2 (AC 1 m_.Junctions)).1).2.at_, (AH (Aa (Am (Ak.mk x1.1 x1.2.1 x1.2.2.1) 3).2 (AC 1 m_.Junctions)).2 (at' K_3 x1.2.2.2.2) (Aa (Am (Ak.mk x1.1 x1.2.1 x1.2.2.1) 3).2 (AC 1 m_.Junctions)).1).2.seed, x1.2.2.2.1 ++ ([(AH (Aa (Am (Ak.mk x1.1 x1.2.1 x1.2.2.1) 3).2 (AC 1 m_.Junctions)).2 (at' K_3 x1.2.2.2.2) (Aa (Am (Ak.mk x1.1 x1.2.1 x1.2.2.1) 3).2 (AC 1 m_.Junctions)).1).1] : List AS), x1.2.2.2.2 + 1) ⟨by (simp only [lens] at * <;> omega), by assumption, by (simp only [lens] at * <;> omega), by assumption, by (simp only [lens] at * <;> omega), by (try dsimp only); (with_reducible (first | apply Lim.mono | apply Lim.out | apply LimA.mono)); (repeat (with_reducible (first | assumption | apply Lim.among | apply Lim.one | apply Lim.pick | apply Lim.one20 | apply Lim.bend20 | apply Lim.list20 | apply Lim.mk))); omega⟩ (by (simp only [lens] at * <;> omega)) (sub_of [(201, 203)] ⟨rfl, rfl, rfl, rfl, rfl, trivial⟩ ⟨rfl, rfl, rfl, trivial⟩ rfl)
      · try simp only [tst] at h5
        refine As ?_
        refine AK ?_
        refine Ad (Ag .n (.t rfl) rfl <| BM .n (.t rfl) (.c rfl) (fun _ => by omega) rfl <| Ah .n (.t rfl) rfl <| Lex.nil) ?_
        exact A5 ((Am (Ak.mk x1.1 x1.2.1 x1.2.2.1) 3).2.code, (Am (Ak.mk x1.1 x1.2.1 x1.2.2.1) 3).2.at_, (Am (Ak.mk x1.1 x1.2.1 x1.2.2.1) 3).2.seed, x1.2.2.2.1, x1.2.2.2.2 + 1) ⟨by (simp only [lens] at * <;> omega), by assumption, by (simp only [lens] at * <;> omega), by assumption, by (simp only [lens] at * <;> omega), by (try dsimp only); (with_reducible (first | apply Lim.mono | apply Lim.out | apply LimA.mono)); (repeat (with_reducible (first | assumption | apply Lim.among | apply Lim.one | apply Lim.pick | apply Lim.one20 | apply Lim.bend20 | apply Lim.list20 | apply Lim.mk))); omega⟩ (by (simp only [lens] at * <;> omega)) (sub_of [] ⟨rfl, rfl, rfl, rfl, rfl, trivial⟩ ⟨rfl, rfl, rfl, trivial⟩ rfl)
    · try simp only [tst] at h4
      refine Bb rfl ?_
      exact AY hk2 (x1.1, x1.2.1, x1.2.2.1, x1.2.2.2.1, x1.2.2.2.2) ⟨by omega, by omega, by omega, by omega, by omega, by (try dsimp only); (with_reducible (first | apply Lim.mono | apply Lim.out | apply LimA.mono)); (repeat (with_reducible (first | assumption | apply Lim.among | apply Lim.one | apply Lim.pick | apply Lim.one20 | apply Lim.bend20 | apply Lim.list20 | apply Lim.mk))); omega, by omega⟩ (sub_of [] ⟨rfl, rfl, trivial⟩ ⟨rfl, rfl, trivial⟩ rfl)

/-! ### spec_DrawNearestRefuge -/
set_option maxRecDepth 100000 in
set_option maxHeartbeats 4000000 in
theorem c_spec_DrawNearestRefuge (code : List Int) (hp1 : ∀ y ∈ code, 0 ≤ y ∧ y ≤ 255) : ConG Tryz.prog 16 [.sl 1 (code.map (V.int .u8))] [] (.tup [.st [.int .i64 (Ae code).1.Junctions, .sl 7 ((Ae code).1.Airways.map Ar.v)], .os 100 (Ae code).2.1.length, .int .i64 (Ae code).2.2.1, .st [.str (Ae code).2.2.2.1.Id, .int .i64 (Ae code).2.2.2.1.Junction, .int .i64 (Ae code).2.2.2.1.Speed], .int .i64 (Ae code).2.2.2.2.1, .os 101 (Ae code).2.2.2.2.2.length]) ([(100, some (.row 2 1 ((Ae code).2.1.map (V.int .i64)))), (101, some (.row 39 4 ((Ae code).2.2.2.2.2.map AS.v)))]) := by
  refine con_introG (out := fun r : AB × (List Int) × Int × Bu × Int × (List AS) => ((.tup [.st [.int .i64 r.1.Junctions, .sl 7 (r.1.Airways.map Ar.v)], .os 100 r.2.1.length, .int .i64 r.2.2.1, .st [.str r.2.2.2.1.Id, .int .i64 r.2.2.2.1.Junction, .int .i64 r.2.2.2.1.Speed], .int .i64 r.2.2.2.2.1, .os 101 r.2.2.2.2.2.length] : V), ([(100, some (.row 2 1 (r.2.1.map (V.int .i64)))), (101, some (.row 39 4 (r.2.2.2.2.2.map AS.v)))] : List (Nat × Option O)))) (r := (Ae code)) Tryz.func16 rfl Tryz.ntmps16 rfl ?_
  have hF := Lim.from hp1
  have hD := draw19 hF
  have hD1 := hD.air
  have hD2 := hD.arr
  have hC := (draw20 (m := (AL (AU code)).1) hD.lim).len
  refine Br (t := 0) rfl fun hl => ?_
  have l1 := hl; clear hl; simp only [List.length_map] at l1
  refine Af ?_
  refine Ad (BE (l := 200) .n rfl zv_26 rfl rfl <| Ah .n (.c rfl) rfl <| Ah .n (.c rfl) rfl <| BE (l := 201) .n rfl zv_37 rfl rfl <| Ah .n (.c rfl) rfl <| Ah .n (.c rfl) rfl <| Lex.nil) ?_
  refine Af ?_
  refine Ad (Ag .n (.t rfl) rfl <| AW (full := false) [] [(100, 202)] .n rfl .f en_19 (.cons (.t rfl) .nil) (.cons (.b (.a (.same rfl))) .nil) (c_spec_l00From code) trivial rfl rfl (fun h => Bool.noConfusion h) (fun h => Bool.noConfusion h) rfl <| Ah .n (.t rfl) rfl <| Lex.nil) ?_
  refine Af ?_
  refine run_ro <| ro_lex (l1 := [_]) (l2 := [_, _, _, _, _, _, _, _, _, _, _, _, _, _]) rfl (Ag .n (.t rfl) rfl <| Lex.nil) <| ro_callGM [(0, 202)] [(100, 203)] .f en_20 (.cons (.t rfl) .nil) (.cons (.b (.mutp rfl)) .nil) (c_spec_l19DrawAll (AU code) (by (try dsimp only); (with_reducible (first | apply Lim.mono | apply Lim.out | apply LimA.mono)); (repeat (with_reducible (first | assumption | apply Lim.all19 | apply Lim.from | apply Lim.mk))); omega)) ⟨rfl, trivial⟩ rfl rfl rfl rfl rfl <| ro_lex (l1 := [_, _, _, _, _, _, _, _, _, _, _, _, _]) (l2 := []) rfl (Ag .n (.t rfl) rfl <| C9 .n (.t rfl) rfl rfl rfl <| C9 .n (.t rfl) rfl rfl rfl <| C9 .n (.t rfl) rfl rfl rfl <| C9 .n (.t rfl) rfl rfl rfl <| C9 .n (.t rfl) rfl rfl rfl <| BE (l := 204) .n rfl zv_26 rfl rfl <| BE (l := 205) .n rfl zv_37 rfl rfl <| AG [.int .i64 (AL (AU code)).1.Junctions, .sl 7 ((AL (AU code)).1.Airways.map Ar.v)] .n rfl (.t rfl) (.t rfl) rfl ts_26 rfl rfl <| Ah .n (.t rfl) rfl <| Ah .n (.t rfl) rfl <| AG [.str (AL (AU code)).2.2.2.1.Id, .int .i64 (AL (AU code)).2.2.2.1.Junction, .int .i64 (AL (AU code)).2.2.2.1.Speed] .n rfl (.t rfl) (.t rfl) rfl ts_37 rfl rfl <| Ah .n (.t rfl) rfl <| Lex.nil) <| ro_end ?_
  refine Af ?_
  refine run_freezeB (t := 9) rfl rfl rfl rfl ?_
  refine Bk fmo (q_ldN_ro .n (.t rfl) ag_26 rfl rfl rfl <| Ag .n (.t rfl) rfl <| Ag .n (.t rfl) rfl <| Ba .n (.t rfl) rfl (.inr rfl) ag_37 (fun _ => rfl) rfl rfl <| Ag .n (.t rfl) rfl <| Ag .n (.t rfl) rfl <| AW (full := false) [(0, 202)] [(100, 207)] .n rfl .f en_25 (.cons (.t rfl) (.cons (.t rfl) .nil)) (.cons (.b (.mutp rfl)) (.cons (.b (.a (.same rfl))) .nil)) (c_spec_l20DrawList (AL (AU code)).2.2.2.2.2 (AL (AU code)).1 (by (try dsimp only); (with_reducible (first | apply Lim.mono | apply Lim.out | apply LimA.mono)); (repeat (with_reducible (first | assumption | apply Lim.all19 | apply Lim.from | apply Lim.mk))); omega)) ⟨rfl, trivial⟩ rfl rfl (fun h => Bool.noConfusion h) (fun h => Bool.noConfusion h) rfl <| AG [.int .i64 (AL (AU code)).1.Junctions, .sl 7 ((AL (AU code)).1.Airways.map Ar.v)] .n rfl (.t rfl) (.t rfl) rfl ts_26 rfl rfl <| Ah .n (.t rfl) rfl <| Ah .n (.t rfl) rfl <| AG [.str (AL (AU code)).2.2.2.1.Id, .int .i64 (AL (AU code)).2.2.2.1.Junction, .int .i64 (AL (AU code)).2.2.2.1.Speed] .n rfl (.t rfl) (.t rfl) rfl ts_37 rfl rfl <| Ah .n (.t rfl) rfl <| Ah .n (.t rfl) rfl <| Lex.nil) (by kernel_rfl) ?_
  exact Au [(100, 203), (101, 207)] (.cons (.cN rfl rfl ag_26 rfl rfl) (.cons (.t rfl rfl) (.cons (.t rfl rfl) (.cons (.cN rfl rfl ag_37 rfl rfl) (.cons (.t rfl rfl) (.cons (.t rfl rfl) .nil)))))) (by first | rfl | (simp only [put_len]; rfl)) ⟨rfl, rfl, trivial⟩ rfl

/-! ### impl_allWithin_1 -/
theorem c_impl_allWithin_1 (n_ : Int) (p1 : Int) (p2 : Int) : Con Tryz.prog 64 [.int .i64 n_, .rp [.int .i64 p1], .rp [.int .i64 p2]] [] (.bool (CK n_ p1 p2)) ([]) := by
  refine con_intro (out := fun r : Bool => ((.bool r : V), ([] : List (Nat × Option O)))) (r := (CK n_ p1 p2)) Tryz.func64 rfl Tryz.ntmps64 rfl ?_
  refine Af ?_
  refine Ad (Ah .n (.c rfl) rfl <| Lex.nil) ?_
  refine Af ?_
  refine Ad (Ag .n (.t rfl) rfl <| Ap .n (.t rfl) rfl ic_2 rfl <| Ap .n (.t rfl) rfl ic_2 rfl <| AJ (full := false) .n .f en_37 (.cons (.t rfl) (.cons (.t rfl) (.cons (.t rfl) .nil))) (.cons (.b (.a (.same rfl))) (.cons (.b (.a (.same rfl))) (.cons (.b (.a (.same rfl))) .nil))) (fun hg => BC n_ p1 p2) rfl (fun h => Bool.noConfusion h) rfl <| Cg .n (.t rfl) rfl <| Ah .n (.t rfl) rfl <| Lex.nil) ?_
  exact Au [] (.cons (.t rfl rfl) .nil) rfl trivial rfl

/-! ### impl_allWithin -/
theorem c_impl_allWithin (list : List Int) (low : Int) (high : Int) : Con Tryz.prog 29 [.sl 1 (list.map (V.int .i64)), .int .i64 low, .int .i64 high] [] (.bool (BI list low high)) ([]) := by
  refine con_intro (out := fun r : Bool => ((.bool r : V), ([] : List (Nat × Option O)))) (r := (BI list low high)) Tryz.func29 rfl Tryz.ntmps29 rfl ?_
  refine Br (t := 0) rfl fun hl => ?_
  have l1 := hl; clear hl; simp only [List.length_map] at l1
  refine Af ?_
  refine Ad (Du (l := 200) .n rfl (.t rfl) rfl rfl rfl rfl <| Du (l := 201) .n rfl (.t rfl) rfl rfl rfl rfl <| Ah .n (.c rfl) rfl <| Lex.nil) ?_
  refine Af ?_
  refine Ad (Ag .n (.t rfl) rfl <| q_clo .n (.cons (.t rfl) (.cons (.t rfl) .nil)) rfl rfl <| AJ (full := true) .n .f en_47 (.cons (.t rfl) (.cons (.t rfl) .nil)) (.cons (.b (.a (.same rfl))) (.cons (.clo (.cons (.ptr rfl rfl (.inr rfl) rfl rfl (.cons (.same rfl) .nil)) (.cons (.ptr rfl rfl (.inr rfl) rfl rfl (.cons (.same rfl) .nil)) .nil))) .nil)) (fun hg => CA list (fun (a0 : Int) => CK a0 low high) 64 [.rp [.int .i64 low], .rp [.int .i64 high]] en_64 rfl (fun _ => True) (fun a0 hq0 => c_impl_allWithin_1 a0 low high) (by (exact fun _ _ => trivial))) rfl (fun _ => rfl) rfl <| Cg .n (.t rfl) rfl <| Ah .n (.t rfl) rfl <| Lex.nil) ?_
  exact Au [] (.cons (.t rfl rfl) .nil) rfl trivial rfl

/-! ### impl_Crew_valid -/
theorem c_impl_Crew_valid (c_ : Bu) : Con Tryz.prog 96 [.st [.str c_.Id, .int .i64 c_.Junction, .int .i64 c_.Speed]] [] (.bool (Cw c_)) ([]) := by
  refine con_intro (out := fun r : Bool => ((.bool r : V), ([] : List (Nat × Option O)))) (r := (Cw c_)) Tryz.func96 rfl Tryz.ntmps96 rfl ?_
  refine Af ?_
  refine Ad (Du (l := 200) .n rfl (.t rfl) rfl rfl rfl rfl <| Ah .n (.c rfl) rfl <| Lex.nil) ?_
  refine Af ?_
  refine Ad (AE .n (.t rfl) fo_37_0 rfl <| AP .n (.t rfl) rfl (.inr rfl) (fun _ => rfl) rfl ic_9 rfl <| AJ (full := false) .n .f en_79 (.cons (.t rfl) .nil) (.cons (.b (.a (.same rfl))) .nil) (fun hg => c_impl_IsName c_.Id) rfl (fun h => Bool.noConfusion h) rfl <| Ag .n (.t rfl) rfl <| AE (.t rfl rfl) (.t rfl) fo_37_1 rfl <| AP (.t rfl rfl) (.u rfl id) rfl (.inr rfl) (fun _ => rfl) rfl ic_2 rfl <| AJ (full := false) (.t rfl rfl) .f en_80 (.cons (.u rfl id) .nil) (.cons (.b (.a (.same rfl))) .nil) (fun hg => Dj c_.Junction) rfl (fun h => Bool.noConfusion h) rfl <| B4 .n (.t rfl) (.u rfl id) rfl <| Ag .n (.t rfl) rfl <| AE (.t rfl rfl) (.t rfl) fo_37_2 rfl <| AP (.t rfl rfl) (.u rfl id) rfl (.inr rfl) (fun _ => rfl) rfl ic_2 rfl <| AJ (full := false) (.t rfl rfl) .f en_37 (.cons (.u rfl id) (.cons (.c rfl) (.cons (.c rfl) .nil))) (.cons (.b (.a (.same rfl))) (.cons (.b (.a (.same rfl))) (.cons (.b (.a (.same rfl))) .nil))) (fun hg => BC c_.Speed 10 300) rfl (fun h => Bool.noConfusion h) rfl <| B4 .n (.t rfl) (.u rfl id) rfl <| Ah .n (.t rfl) rfl <| Lex.nil) ?_
  exact Au [] (.cons (.t rfl rfl) .nil) rfl trivial rfl

/-! ### impl_ValidCrews -/
theorem c_impl_ValidCrews (m_ : AB) (list : List Bu) : Con Tryz.prog 62 [.st [.int .i64 m_.Junctions, .sl 7 (m_.Airways.map Ar.v)], .sl 3 (list.map Bu.v)] [] (.bool (BX m_ list)) ([]) := by
  refine con_intro (out := fun r : Bool => ((.bool r : V), ([] : List (Nat × Option O)))) (r := (BX m_ list)) Tryz.func62 rfl Tryz.ntmps62 rfl ?_
  refine Ch (t := 0) 1 rfl rfl fun hl => ?_
  have l1 := hl; clear hl; simp only [List.length_map] at l1
  refine Br (t := 1) rfl fun hl => ?_
  have l2 := hl; clear hl; simp only [List.length_map] at l2
  refine Af ?_
  refine Ad (Du (l := 200) .n rfl (.t rfl) rfl rfl rfl rfl <| Ah .n (.c rfl) rfl <| Lex.nil) ?_
  refine Af ?_
  refine Af ?_
  refine Ad (Ba .n (.t rfl) rfl (.inr rfl) ag_26 (fun _ => rfl) rfl rfl <| AJ (full := false) .n .f en_42 (.cons (.t rfl) .nil) (.cons (.sts rfl) .nil) (fun hg => c_impl_ValidMine m_) rfl (fun h => Bool.noConfusion h) rfl <| Cg .n (.t rfl) rfl <| Ag .n (.t rfl) rfl <| Ag (.f rfl rfl) (.t rfl) rfl <| BS (.f rfl rfl) (.u rfl id) rfl len_map ss_28 rfl <| AF (.f rfl rfl) (.u rfl id) (.c rfl) rfl rfl <| q_or .n (.t rfl) (.u rfl id) rfl <| Lex.nil) ?_
  refine Aq (.t rfl) rfl (fun h3 => ?_) (fun h3 => ?_)
  · try simp only [tst] at h3
    try have hf0h3 := ValidMine_imp h3
    try have hf1h3 := ValidMine_imp h3.1
    try have hf2h3 := ValidMine_imp h3.2
    try have hf3h3 := ValidMine_imp h3.1.1
    try have hf4h3 := ValidMine_imp h3.1.2
    try have hf5h3 := ValidMine_imp h3.2.1
    try have hf6h3 := ValidMine_imp h3.2.2
    refine Af ?_
    refine Ad (Ah .n (.c rfl) rfl <| Lex.nil) ?_
    exact Au [] (.cons (.t rfl rfl) .nil) rfl trivial rfl
  · try simp only [tst] at h3
    try have hf0h3 := ValidMine_imp h3
    try have hf1h3 := ValidMine_imp h3.1
    try have hf2h3 := ValidMine_imp h3.2
    try have hf3h3 := ValidMine_imp h3.1.1
    try have hf4h3 := ValidMine_imp h3.1.2
    try have hf5h3 := ValidMine_imp h3.2.1
    try have hf6h3 := ValidMine_imp h3.2.2
    refine As ?_
    refine Af ?_
    refine Af ?_
    refine Ad (Ag .n (.t rfl) rfl <| BS .n (.t rfl) rfl len_map ss_28 rfl <| Ag .n (.c rfl) rfl <| Lex.nil) ?_
    refine Aw ?_
    refine Bp (Dk m_ list) _ _ _ rfl (fun (x1 : Int) => 0 ≤ x1 ∧ x1 ≤ (list.length : Int)) (fun x1 => 0 ≤ x1 ∧ x1 ≤ (list.length : Int) ∧ (list.length : Int) ≤ x1) (fun x1 => ((list.length : Int) - x1 : Int).toNat) (fun x1 => ⟨[(1, some (true, .sl 3 (list.map Bu.v))), (2, some (true, .op 200 0 0 0)), (15, some (true, .sl 3 (list.map Bu.v))), (16, some (true, .int .i64 (list.length : Int))), (17, some (true, .int .i64 x1))], [(200, some (.box 26 [.int .i64 m_.Junctions, .sl 7 (m_.Airways.map Ar.v)]))]⟩) (fun x1 => ⟨[], []⟩) ⟨by omega, by omega⟩ (by omega) (sub_of [] ⟨rfl, rfl, rfl, rfl, rfl, trivial⟩ ⟨rfl, trivial⟩ rfl) ?_ ?_
    · intro x1 i8
      obtain ⟨e9, e10, e11⟩ := i8
      try dsimp only at *
      refine Af ?_
      refine Ad (Ah .n (.c rfl) rfl <| Lex.nil) ?_
      exact Au [] (.cons (.t rfl rfl) .nil) rfl trivial rfl
    · intro rec1 k1 hk4 x1 i5
      obtain ⟨e12, e13⟩ := i5
      try dsimp only at *
      refine Af ?_
      refine Ad (AF .n (.t rfl) (.t rfl) rfl rfl <| Lex.nil) ?_
      refine Af ?_
      refine Aq (.t rfl) rfl (fun h6 => ?_) (fun h6 => ?_)
      · try simp only [tst] at h6
        refine As ?_
        refine Af ?_
        refine Aw ?_
        refine Af ?_
        refine Ad (Ag .n (.t rfl) rfl <| A8 .n (.t rfl) (.t rfl) sl_28 (fun _ => by omega) rfl <| q_ldN_ro .n (.t rfl) ag_37 rfl rfl rfl <| BE (l := 201) .n rfl zv_37 rfl rfl <| Ah .n (.t rfl) rfl <| AG [.str (at' list x1).Id, .int .i64 (at' list x1).Junction, .int .i64 (at' list x1).Speed] .n rfl (.t rfl) (.t rfl) rfl ts_37 rfl rfl <| Lex.nil) ?_
        refine Af ?_
        refine Bk fmo (Ba .n (.t rfl) rfl (.inr rfl) ag_37 (fun _ => rfl) rfl rfl <| AJ (full := false) .n .f en_96 (.cons (.t rfl) .nil) (.cons (.sts rfl) .nil) (fun hg => c_impl_Crew_valid (at' list x1)) rfl (fun h => Bool.noConfusion h) rfl <| Cg .n (.t rfl) rfl <| Ag .n (.t rfl) rfl <| Ba (.f rfl rfl) (.t rfl) rfl (.inr rfl) ag_26 (fun _ => rfl) rfl rfl <| AE (.f rfl rfl) (.t rfl) fo_37_1 rfl <| AP (.f rfl rfl) (.u rfl id) rfl (.inr rfl) (fun _ => rfl) rfl ic_2 rfl <| AJ (full := false) (.f rfl rfl) .f en_43 (.cons (.u rfl id) (.cons (.u rfl id) .nil)) (.cons (.sts rfl) (.cons (.b (.a (.same rfl))) .nil)) (fun hg => Ct m_ (at' list x1).Junction) rfl (fun h => Bool.noConfusion h) rfl <| Cg (.f rfl rfl) (.u rfl id) rfl <| q_or .n (.t rfl) (.u rfl id) rfl <| Ag .n (.t rfl) rfl <| Ag (.f rfl rfl) (.t rfl) rfl <| AF (.f rfl rfl) (.u rfl id) (.c rfl) rfl rfl <| Ag (.f rfl rfl) (.u rfl id) rfl <| AE (.t rfl rfl) (.t rfl) fo_37_0 rfl <| AP (.t rfl rfl) (.u rfl id) rfl (.inr rfl) (fun _ => rfl) rfl ic_9 rfl <| Ag (.t rfl rfl) (.t rfl) rfl <| Ag (.t rfl rfl) (.t rfl) rfl <| q_sub (.t rfl rfl) (.u rfl id) (.c rfl) (fun hg => by simp only [tst] at hg; omega) rfl <| A8 (.t rfl rfl) (.u rfl id) (.u rfl id) sl_28 (fun hg => by simp only [tst] at hg; omega) rfl <| Az (.t rfl rfl) (.u rfl id) fo_37_0 rfl <| Ap (.t rfl rfl) (.u rfl id) rfl ic_9 rfl <| q_strcmp (.t rfl rfl) (.u rfl id) (.u rfl id) rfl rfl <| B4 (.f rfl rfl) (.u rfl id) (.u rfl id) rfl <| q_or .n (.t rfl) (.u rfl id) rfl <| Lex.nil) (by kernel_rfl) ?_
        refine Aq (.t rfl) rfl (fun h7 => ?_) (fun h7 => ?_)
        · try simp only [tst] at h7
          refine Af ?_
          refine Ad (Ah .n (.c rfl) rfl <| Lex.nil) ?_
          exact Au [] (.cons (.t rfl rfl) .nil) rfl trivial rfl
        · try simp only [tst] at h7
          refine As ?_
          refine AK ?_
          refine Ad (BM .n (.t rfl) (.c rfl) (fun _ => by omega) rfl <| Ag .n (.t rfl) rfl <| Lex.nil) ?_
          exact A5 (x1 + 1) ⟨by omega, by omega⟩ (by omega) (sub_of [] ⟨rfl, rfl, rfl, rfl, rfl, trivial⟩ ⟨rfl, trivial⟩ rfl)
      · try simp only [tst] at h6
        refine Bb rfl ?_
        exact AY hk4 x1 ⟨by omega, by omega, by omega⟩ (sub_of [] trivial trivial rfl)

/-! ### impl_increasing -/
theorem c_impl_increasing (list : List Int) : Con Tryz.prog 97 [.sl 1 (list.map (V.int .i64))] [] (.bool (m_impl_increasing list)) ([]) := by
  refine con_intro (out := fun r : Bool => ((.bool r : V), ([] : List (Nat × Option O)))) (r := (m_impl_increasing list)) Tryz.func97 rfl Tryz.ntmps97 rfl ?_
  refine Br (t := 0) rfl fun hl => ?_
  have l1 := hl; clear hl; simp only [List.length_map] at l1
  refine Af ?_
  refine Ad (Ah .n (.c rfl) rfl <| Lex.nil) ?_
  refine Af ?_
  refine Af ?_
  refine Ad (Ah .n (.c rfl) rfl <| Lex.nil) ?_
  refine Aw ?_
  refine Bp (m_impl_increasing_b1 list) _ _ _ rfl (fun (x1 : Int) => 1 ≤ x1) (fun x1 => 1 ≤ x1) (fun x1 => ((list.length : Int) - x1 : Int).toNat) (fun x1 => ⟨[(0, some (true, .sl 1 (list.map (V.int .i64)))), (3, some (true, .int .i64 x1))], []⟩) (fun x1 => ⟨[], []⟩) (by omega) (by omega) (sub_of [] ⟨rfl, rfl, trivial⟩ trivial rfl) ?_ ?_
  · intro x1 i6
    have e7 := i6
    try dsimp only at *
    refine Af ?_
    refine Ad (Ah .n (.c rfl) rfl <| Lex.nil) ?_
    exact Au [] (.cons (.t rfl rfl) .nil) rfl trivial rfl
  · intro rec1 k1 hk2 x1 i3
    have e8 := i3
    try dsimp only at *
    refine Af ?_
    refine Af ?_
    refine Ad (Ag .n (.t rfl) rfl <| Ag .n (.t rfl) rfl <| BS .n (.t rfl) rfl len_map ss_27 rfl <| AF .n (.t rfl) (.t rfl) rfl rfl <| Lex.nil) ?_
    refine Aq (.t rfl) rfl (fun h4 => ?_) (fun h4 => ?_)
    · try simp only [tst] at h4
      refine As ?_
      refine Af ?_
      refine Aw ?_
      refine Af ?_
      refine Bk fmo (Ag .n (.t rfl) rfl <| Ag .n (.t rfl) rfl <| A8 .n (.t rfl) (.t rfl) sl_27 (fun _ => by omega) rfl <| Ap .n (.t rfl) rfl ic_2 rfl <| Ag .n (.t rfl) rfl <| Ag .n (.t rfl) rfl <| q_sub .n (.t rfl) (.c rfl) (fun _ => by omega) rfl <| A8 .n (.t rfl) (.t rfl) sl_27 (fun _ => by omega) rfl <| Ap .n (.t rfl) rfl ic_2 rfl <| AF .n (.t rfl) (.t rfl) rfl rfl <| Lex.nil) (by kernel_rfl) ?_
      refine Aq (.t rfl) rfl (fun h5 => ?_) (fun h5 => ?_)
      · try simp only [tst] at h5
        refine Af ?_
        refine Ad (Ah .n (.c rfl) rfl <| Lex.nil) ?_
        exact Au [] (.cons (.t rfl rfl) .nil) rfl trivial rfl
      · try simp only [tst] at h5
        refine As ?_
        refine AK ?_
        refine Ad (Ag .n (.t rfl) rfl <| BM .n (.t rfl) (.c rfl) (fun _ => by omega) rfl <| Ah .n (.t rfl) rfl <| Lex.nil) ?_
        exact A5 (x1 + 1) (by omega) (by omega) (sub_of [] ⟨rfl, rfl, trivial⟩ trivial rfl)
    · try simp only [tst] at h4
      refine Bb rfl ?_
      exact AY hk2 x1 (by omega) (sub_of [] trivial trivial rfl)

/-! ### impl_Mine_hasJunctions -/
theorem c_impl_Mine_hasJunctions (m_ : AB) (list : List Int) : Con Tryz.prog 63 [.st [.int .i64 m_.Junctions, .sl 7 (m_.Airways.map Ar.v)], .sl 1 (list.map (V.int .i64))] [] (.bool (BL m_ list)) ([]) := by
  refine con_intro (out := fun r : Bool => ((.bool r : V), ([] : List (Nat × Option O)))) (r := (BL m_ list)) Tryz.func63 rfl Tryz.ntmps63 rfl ?_
  refine Ch (t := 0) 1 rfl rfl fun hl => ?_
  have l1 := hl; clear hl; simp only [List.length_map] at l1
  refine Br (t := 1) rfl fun hl => ?_
  have l2 := hl; clear hl; simp only [List.length_map] at l2
  refine Af ?_
  refine Ad (Du (l := 200) .n rfl (.t rfl) rfl rfl rfl rfl <| Ah .n (.c rfl) rfl <| Lex.nil) ?_
  refine Af ?_
  refine Ad (Ag .n (.t rfl) rfl <| AJ (full := false) .n .f en_97 (.cons (.t rfl) .nil) (.cons (.b (.a (.same rfl))) .nil) (fun hg => c_impl_increasing list) rfl (fun h => Bool.noConfusion h) rfl <| Ag .n (.t rfl) rfl <| Ag (.t rfl rfl) (.t rfl) rfl <| AE (.t rfl rfl) (.t rfl) fo_26_0 rfl <| AP (.t rfl rfl) (.u rfl id) rfl (.inr rfl) (fun _ => rfl) rfl ic_2 rfl <| AF (.t rfl rfl) (.u rfl id) (.c rfl) rfl rfl <| AJ (full := false) (.t rfl rfl) .f en_29 (.cons (.u rfl id) (.cons (.c rfl) (.cons (.u rfl id) .nil))) (.cons (.b (.a (.same rfl))) (.cons (.b (.a (.same rfl))) (.cons (.b (.a (.same rfl))) .nil))) (fun hg => c_impl_allWithin list 0 (IntKind.wrap .i64 (m_.Junctions - 1))) rfl (fun h => Bool.noConfusion h) rfl <| B4 .n (.t rfl) (.u rfl id) rfl <| Ah .n (.t rfl) rfl <| Lex.nil) ?_
  exact Au [] (.cons (.t rfl rfl) .nil) rfl trivial rfl

/-! ### impl_escapeOf -/
theorem c_impl_escapeOf (m_ : AB) (arrivals : List Int) (blocked : Int) (list : List Bu) (start : Int) (exits : List Int) : Con Tryz.prog 26 [.st [.int .i64 m_.Junctions, .sl 7 (m_.Airways.map Ar.v)], .sl 1 (arrivals.map (V.int .i64)), .int .i64 blocked, .os 3 list.length, .int .i64 start, .sl 1 (exits.map (V.int .i64))] [(3, some (.row 37 3 (list.map Bu.v)))] (.tup [.st [.int .i64 (AO m_ arrivals blocked list start exits).1.mine.Junctions, .sl 7 ((AO m_ arrivals blocked list start exits).1.mine.Airways.map Ar.v), .sl 1 ((AO m_ arrivals blocked list start exits).1.arrivals.map (V.int .i64)), .int .i64 (AO m_ arrivals blocked list start exits).1.blocked], .int .i64 (AO m_ arrivals blocked list start exits).2.1]) ([(3, some (.row 37 3 ((AO m_ arrivals blocked list start exits).2.2.map Bu.v)))]) := by
  refine con_intro (out := fun r : Co × Int × (List Bu) => ((.tup [.st [.int .i64 r.1.mine.Junctions, .sl 7 (r.1.mine.Airways.map Ar.v), .sl 1 (r.1.arrivals.map (V.int .i64)), .int .i64 r.1.blocked], .int .i64 r.2.1] : V), ([(3, some (.row 37 3 (r.2.2.map Bu.v)))] : List (Nat × Option O)))) (r := (AO m_ arrivals blocked list start exits)) Tryz.func26 rfl Tryz.ntmps26 rfl ?_
  refine Ch (t := 0) 1 rfl rfl fun hl => ?_
  have l1 := hl; clear hl; simp only [List.length_map] at l1
  refine Br (t := 1) rfl fun hl => ?_
  have l2 := hl; clear hl; simp only [List.length_map] at l2
  refine run_factH (l := 3) rfl fun hl => ?_
  have l3 := hl; clear hl; simp only [List.length_map] at l3
  refine Br (t := 5) rfl fun hl => ?_
  have l4 := hl; clear hl; simp only [List.length_map] at l4
  refine Af ?_
  refine Ad (Du (l := 200) .n rfl (.t rfl) rfl rfl rfl rfl <| BE (l := 201) .n rfl zv_67 rfl rfl <| Ah .n (.c rfl) rfl <| Lex.nil) ?_
  refine Af ?_
  refine Aw ?_
  refine Af ?_
  refine Ad (Ba .n (.t rfl) rfl (.inr rfl) ag_26 (fun _ => rfl) rfl rfl <| Ag .n (.t rfl) rfl <| AJ (full := true) .n .f en_62 (.cons (.t rfl) (.cons (.t rfl) .nil)) (.cons (.sts rfl) (.cons (.b (.a (.own rfl rfl rfl (take_all (by simp only [len_map, put_len] <;> rfl)) (by simp only [len_map, put_len] <;> rfl)))) .nil)) (fun hg => c_impl_ValidCrews m_ list) rfl (fun _ => rfl) rfl <| Cg .n (.t rfl) rfl <| Ah .n (.t rfl) rfl <| Lex.nil) ?_
  refine Aq (.t rfl) rfl (fun h5 => ?_) (fun h5 => ?_)
  · try simp only [tst] at h5
    refine Af ?_
    refine Ad (Dv (us := [.int .i64 0, .nls, .nls, .int .i64 0]) .n .nil zv_67 pl_67 rfl rfl rfl <| AG [.int .i64 0, .nls, .nls, .int .i64 0] .n rfl (.t rfl) (.t rfl) rfl ts_67 rfl rfl <| Ah .n (.c rfl) rfl <| Lex.nil) ?_
    refine C1 (sub_nlsB (b := 201) [.int .i64 0, .sl 7 (([] : List Ar).map Ar.v), .sl 1 (K_5.map (V.int .i64)), .int .i64 0] rfl ⟨.inl rfl, .inr ⟨rfl, _, rfl⟩, .inr ⟨rfl, _, rfl⟩, .inl rfl, trivial⟩) ?_
    exact Au [] (.cons (.cN rfl rfl ag_67 rfl rfl) (.cons (.t rfl rfl) .nil)) (by first | rfl | (simp only [put_len]; rfl)) ⟨rfl, trivial⟩ rfl
  · try simp only [tst] at h5
    refine Af ?_
    refine Ad (Ag .n (.t rfl) rfl <| AE .n (.t rfl) fo_26_1 rfl <| AP .n (.t rfl) rfl (.inr rfl) (fun _ => rfl) rfl ic_24 rfl <| BS .n (.t rfl) rfl len_map ss_24 rfl <| q_sub .n (.t rfl) (.c rfl) (fun _ => by omega) rfl <| AJ (full := false) .n .f en_37 (.cons (.t rfl) (.cons (.c rfl) (.cons (.t rfl) .nil))) (.cons (.b (.a (.same rfl))) (.cons (.b (.a (.same rfl))) (.cons (.b (.a (.same rfl))) .nil))) (fun hg => BC blocked (-1) ((m_.Airways.length : Int) - 1)) rfl (fun h => Bool.noConfusion h) rfl <| Cg .n (.t rfl) rfl <| Ag .n (.t rfl) rfl <| Ag (.f rfl rfl) (.t rfl) rfl <| AJ (full := false) (.f rfl rfl) .f en_37 (.cons (.u rfl id) (.cons (.c rfl) (.cons (.c rfl) .nil))) (.cons (.b (.a (.same rfl))) (.cons (.b (.a (.same rfl))) (.cons (.b (.a (.same rfl))) .nil))) (fun hg => BC start 0 36000) rfl (fun h => Bool.noConfusion h) rfl <| Cg (.f rfl rfl) (.u rfl id) rfl <| q_or .n (.t rfl) (.u rfl id) rfl <| Ah .n (.t rfl) rfl <| Lex.nil) ?_
    refine Aq (.t rfl) rfl (fun h6 => ?_) (fun h6 => ?_)
    · try simp only [tst] at h6
      try have hf0h6 := within_imp h6
      try have hf1h6 := within_imp h6.1
      try have hf2h6 := within_imp h6.2
      try have hf3h6 := within_imp h6.1.1
      try have hf4h6 := within_imp h6.1.2
      try have hf5h6 := within_imp h6.2.1
      try have hf6h6 := within_imp h6.2.2
      refine Af ?_
      refine Ad (Dv (us := [.int .i64 0, .nls, .nls, .int .i64 0]) .n .nil zv_67 pl_67 rfl rfl rfl <| AG [.int .i64 0, .nls, .nls, .int .i64 0] .n rfl (.t rfl) (.t rfl) rfl ts_67 rfl rfl <| Ah .n (.c rfl) rfl <| Lex.nil) ?_
      refine C1 (sub_nlsB (b := 201) [.int .i64 0, .sl 7 (([] : List Ar).map Ar.v), .sl 1 (K_5.map (V.int .i64)), .int .i64 0] rfl ⟨.inl rfl, .inr ⟨rfl, _, rfl⟩, .inr ⟨rfl, _, rfl⟩, .inl rfl, trivial⟩) ?_
      exact Au [] (.cons (.cN rfl rfl ag_67 rfl rfl) (.cons (.t rfl rfl) .nil)) (by first | rfl | (simp only [put_len]; rfl)) ⟨rfl, trivial⟩ rfl
    · try simp only [tst] at h6
      try have hf0h6 := within_imp h6
      try have hf1h6 := within_imp h6.1
      try have hf2h6 := within_imp h6.2
      try have hf3h6 := within_imp h6.1.1
      try have hf4h6 := within_imp h6.1.2
      try have hf5h6 := within_imp h6.2.1
      try have hf6h6 := within_imp h6.2.2
      refine Af ?_
      refine Ad (Ag .n (.t rfl) rfl <| BS .n (.t rfl) rfl len_map ss_27 rfl <| AE .n (.t rfl) fo_26_0 rfl <| AP .n (.t rfl) rfl (.inr rfl) (fun _ => rfl) rfl ic_2 rfl <| AF .n (.t rfl) (.t rfl) rfl rfl <| Ag .n (.t rfl) rfl <| Ag (.f rfl rfl) (.t rfl) rfl <| AJ (full := false) (.f rfl rfl) .f en_29 (.cons (.u rfl id) (.cons (.c rfl) (.cons (.c rfl) .nil))) (.cons (.b (.a (.same rfl))) (.cons (.b (.a (.same rfl))) (.cons (.b (.a (.same rfl))) .nil))) (fun hg => c_impl_allWithin arrivals (-1) 1000000000000) rfl (fun h => Bool.noConfusion h) rfl <| Cg (.f rfl rfl) (.u rfl id) rfl <| q_or .n (.t rfl) (.u rfl id) rfl <| Ag .n (.t rfl) rfl <| Ba (.f rfl rfl) (.t rfl) rfl (.inr rfl) ag_26 (fun _ => rfl) rfl rfl <| Ag (.f rfl rfl) (.t rfl) rfl <| AJ (full := false) (.f rfl rfl) .f en_63 (.cons (.u rfl id) (.cons (.u rfl id) .nil)) (.cons (.sts rfl) (.cons (.b (.a (.same rfl))) .nil)) (fun hg => c_impl_Mine_hasJunctions m_ exits) rfl (fun h => Bool.noConfusion h) rfl <| Cg (.f rfl rfl) (.u rfl id) rfl <| q_or .n (.t rfl) (.u rfl id) rfl <| Ah .n (.t rfl) rfl <| Lex.nil) ?_
      refine Aq (.t rfl) rfl (fun h7 => ?_) (fun h7 => ?_)
      · try simp only [tst] at h7
        try have hf0h7 := aw_imp h7
        try have hf1h7 := aw_imp h7.1
        try have hf2h7 := aw_imp h7.2
        try have hf3h7 := aw_imp h7.1.1
        try have hf4h7 := aw_imp h7.1.2
        try have hf5h7 := aw_imp h7.2.1
        try have hf6h7 := aw_imp h7.2.2
        refine Af ?_
        refine Ad (Dv (us := [.int .i64 0, .nls, .nls, .int .i64 0]) .n .nil zv_67 pl_67 rfl rfl rfl <| AG [.int .i64 0, .nls, .nls, .int .i64 0] .n rfl (.t rfl) (.t rfl) rfl ts_67 rfl rfl <| Ah .n (.c rfl) rfl <| Lex.nil) ?_
        refine C1 (sub_nlsB (b := 201) [.int .i64 0, .sl 7 (([] : List Ar).map Ar.v), .sl 1 (K_5.map (V.int .i64)), .int .i64 0] rfl ⟨.inl rfl, .inr ⟨rfl, _, rfl⟩, .inr ⟨rfl, _, rfl⟩, .inl rfl, trivial⟩) ?_
        exact Au [] (.cons (.cN rfl rfl ag_67 rfl rfl) (.cons (.t rfl rfl) .nil)) (by first | rfl | (simp only [put_len]; rfl)) ⟨rfl, trivial⟩ rfl
      · try simp only [tst] at h7
        try have hf0h7 := aw_imp h7
        try have hf1h7 := aw_imp h7.1
        try have hf2h7 := aw_imp h7.2
        try have hf3h7 := aw_imp h7.1.1
        try have hf4h7 := aw_imp h7.1.2
        try have hf5h7 := aw_imp h7.2.1
        try have hf6h7 := aw_imp h7.2.2
        refine As ?_
        refine AK ?_
        refine Af ?_
        refine Ad (Ba .n (.t rfl) rfl (.inr rfl) ag_26 (fun _ => rfl) rfl rfl <| Ag .n (.t rfl) rfl <| Ag .n (.t rfl) rfl <| Dv (us := [.int .i64 m_.Junctions, .sl 7 (m_.Airways.map Ar.v), .sl 1 (arrivals.map (V.int .i64)), .int .i64 blocked]) .n (.cons (.t rfl) (.cons (.t rfl) (.cons (.t rfl) .nil))) zv_67 pl_67 rfl rfl rfl <| AG [.int .i64 m_.Junctions, .sl 7 (m_.Airways.map Ar.v), .sl 1 (arrivals.map (V.int .i64)), .int .i64 blocked] .n rfl (.t rfl) (.t rfl) rfl ts_67 rfl rfl <| Ah .n (.c rfl) rfl <| Lex.nil) ?_
        exact Au [] (.cons (.cN rfl rfl ag_67 rfl rfl) (.cons (.t rfl rfl) .nil)) (by first | rfl | (simp only [put_len]; rfl)) ⟨rfl, trivial⟩ rfl

/-! ### impl_Refuge_valid -/
theorem c_impl_Refuge_valid (x_ : AS) : Con Tryz.prog 36 [.st [.str x_.Id, .int .i64 x_.Junction, .int .i64 x_.Places, .int .i64 x_.Air]] [] (.bool (B9 x_)) ([]) := by
  refine con_intro (out := fun r : Bool => ((.bool r : V), ([] : List (Nat × Option O)))) (r := (B9 x_)) Tryz.func36 rfl Tryz.ntmps36 rfl ?_
  refine Af ?_
  refine Ad (Du (l := 200) .n rfl (.t rfl) rfl rfl rfl rfl <| Ah .n (.c rfl) rfl <| Lex.nil) ?_
  refine Af ?_
  refine Ad (AE .n (.t rfl) fo_39_0 rfl <| AP .n (.t rfl) rfl (.inr rfl) (fun _ => rfl) rfl ic_9 rfl <| AJ (full := false) .n .f en_79 (.cons (.t rfl) .nil) (.cons (.b (.a (.same rfl))) .nil) (fun hg => c_impl_IsName x_.Id) rfl (fun h => Bool.noConfusion h) rfl <| Ag .n (.t rfl) rfl <| AE (.t rfl rfl) (.t rfl) fo_39_1 rfl <| AP (.t rfl rfl) (.u rfl id) rfl (.inr rfl) (fun _ => rfl) rfl ic_2 rfl <| AJ (full := false) (.t rfl rfl) .f en_80 (.cons (.u rfl id) .nil) (.cons (.b (.a (.same rfl))) .nil) (fun hg => Dj x_.Junction) rfl (fun h => Bool.noConfusion h) rfl <| B4 .n (.t rfl) (.u rfl id) rfl <| Ag .n (.t rfl) rfl <| AE (.t rfl rfl) (.t rfl) fo_39_2 rfl <| AP (.t rfl rfl) (.u rfl id) rfl (.inr rfl) (fun _ => rfl) rfl ic_2 rfl <| AJ (full := false) (.t rfl rfl) .f en_37 (.cons (.u rfl id) (.cons (.c rfl) (.cons (.c rfl) .nil))) (.cons (.b (.a (.same rfl))) (.cons (.b (.a (.same rfl))) (.cons (.b (.a (.same rfl))) .nil))) (fun hg => BC x_.Places 1 200) rfl (fun h => Bool.noConfusion h) rfl <| B4 .n (.t rfl) (.u rfl id) rfl <| Ag .n (.t rfl) rfl <| AE (.t rfl rfl) (.t rfl) fo_39_3 rfl <| AP (.t rfl rfl) (.u rfl id) rfl (.inr rfl) (fun _ => rfl) rfl ic_2 rfl <| AJ (full := false) (.t rfl rfl) .f en_37 (.cons (.u rfl id) (.cons (.c rfl) (.cons (.c rfl) .nil))) (.cons (.b (.a (.same rfl))) (.cons (.b (.a (.same rfl))) (.cons (.b (.a (.same rfl))) .nil))) (fun hg => BC x_.Air 0 10000000) rfl (fun h => Bool.noConfusion h) rfl <| B4 .n (.t rfl) (.u rfl id) rfl <| Ah .n (.t rfl) rfl <| Lex.nil) ?_
  exact Au [] (.cons (.t rfl rfl) .nil) rfl trivial rfl

/-! ### impl_ValidRefuges -/
theorem c_impl_ValidRefuges (m_ : AB) (list : List AS) : Con Tryz.prog 27 [.st [.int .i64 m_.Junctions, .sl 7 (m_.Airways.map Ar.v)], .sl 4 (list.map AS.v)] [] (.bool (Ca m_ list)) ([]) := by
  refine con_intro (out := fun r : Bool => ((.bool r : V), ([] : List (Nat × Option O)))) (r := (Ca m_ list)) Tryz.func27 rfl Tryz.ntmps27 rfl ?_
  refine Ch (t := 0) 1 rfl rfl fun hl => ?_
  have l1 := hl; clear hl; simp only [List.length_map] at l1
  refine Br (t := 1) rfl fun hl => ?_
  have l2 := hl; clear hl; simp only [List.length_map] at l2
  refine Af ?_
  refine Ad (Du (l := 200) .n rfl (.t rfl) rfl rfl rfl rfl <| Ah .n (.c rfl) rfl <| Lex.nil) ?_
  refine Af ?_
  refine Af ?_
  refine Ad (Ba .n (.t rfl) rfl (.inr rfl) ag_26 (fun _ => rfl) rfl rfl <| AJ (full := false) .n .f en_42 (.cons (.t rfl) .nil) (.cons (.sts rfl) .nil) (fun hg => c_impl_ValidMine m_) rfl (fun h => Bool.noConfusion h) rfl <| Cg .n (.t rfl) rfl <| Ag .n (.t rfl) rfl <| Ag (.f rfl rfl) (.t rfl) rfl <| BS (.f rfl rfl) (.u rfl id) rfl len_map ss_29 rfl <| AF (.f rfl rfl) (.u rfl id) (.c rfl) rfl rfl <| q_or .n (.t rfl) (.u rfl id) rfl <| Lex.nil) ?_
  refine Aq (.t rfl) rfl (fun h3 => ?_) (fun h3 => ?_)
  · try simp only [tst] at h3
    try have hf0h3 := ValidMine_imp h3
    try have hf1h3 := ValidMine_imp h3.1
    try have hf2h3 := ValidMine_imp h3.2
    try have hf3h3 := ValidMine_imp h3.1.1
    try have hf4h3 := ValidMine_imp h3.1.2
    try have hf5h3 := ValidMine_imp h3.2.1
    try have hf6h3 := ValidMine_imp h3.2.2
    refine Af ?_
    refine Ad (Ah .n (.c rfl) rfl <| Lex.nil) ?_
    exact Au [] (.cons (.t rfl rfl) .nil) rfl trivial rfl
  · try simp only [tst] at h3
    try have hf0h3 := ValidMine_imp h3
    try have hf1h3 := ValidMine_imp h3.1
    try have hf2h3 := ValidMine_imp h3.2
    try have hf3h3 := ValidMine_imp h3.1.1
    try have hf4h3 := ValidMine_imp h3.1.2
    try have hf5h3 := ValidMine_imp h3.2.1
    try have hf6h3 := ValidMine_imp h3.2.2
    refine As ?_
    refine Af ?_
    refine Af ?_
    refine Ad (Ag .n (.t rfl) rfl <| BS .n (.t rfl) rfl len_map ss_29 rfl <| Ag .n (.c rfl) rfl <| Lex.nil) ?_
    refine Aw ?_
    refine Bp (C4 m_ list) _ _ _ rfl (fun (x1 : Int) => 0 ≤ x1 ∧ x1 ≤ (list.length : Int)) (fun x1 => 0 ≤ x1 ∧ x1 ≤ (list.length : Int) ∧ (list.length : Int) ≤ x1) (fun x1 => ((list.length : Int) - x1 : Int).toNat) (fun x1 => ⟨[(1, some (true, .sl 4 (list.map AS.v))), (2, some (true, .op 200 0 0 0)), (15, some (true, .sl 4 (list.map AS.v))), (16, some (true, .int .i64 (list.length : Int))), (17, some (true, .int .i64 x1))], [(200, some (.box 26 [.int .i64 m_.Junctions, .sl 7 (m_.Airways.map Ar.v)]))]⟩) (fun x1 => ⟨[], []⟩) ⟨by omega, by omega⟩ (by omega) (sub_of [] ⟨rfl, rfl, rfl, rfl, rfl, trivial⟩ ⟨rfl, trivial⟩ rfl) ?_ ?_
    · intro x1 i8
      obtain ⟨e9, e10, e11⟩ := i8
      try dsimp only at *
      refine Af ?_
      refine Ad (Ah .n (.c rfl) rfl <| Lex.nil) ?_
      exact Au [] (.cons (.t rfl rfl) .nil) rfl trivial rfl
    · intro rec1 k1 hk4 x1 i5
      obtain ⟨e12, e13⟩ := i5
      try dsimp only at *
      refine Af ?_
      refine Ad (AF .n (.t rfl) (.t rfl) rfl rfl <| Lex.nil) ?_
      refine Af ?_
      refine Aq (.t rfl) rfl (fun h6 => ?_) (fun h6 => ?_)
      · try simp only [tst] at h6
        refine As ?_
        refine Af ?_
        refine Aw ?_
        refine Af ?_
        refine Ad (Ag .n (.t rfl) rfl <| A8 .n (.t rfl) (.t rfl) sl_29 (fun _ => by omega) rfl <| q_ldN_ro .n (.t rfl) ag_39 rfl rfl rfl <| BE (l := 201) .n rfl zv_39 rfl rfl <| Ah .n (.t rfl) rfl <| AG [.str (at' list x1).Id, .int .i64 (at' list x1).Junction, .int .i64 (at' list x1).Places, .int .i64 (at' list x1).Air] .n rfl (.t rfl) (.t rfl) rfl ts_39 rfl rfl <| Lex.nil) ?_
        refine Af ?_
        refine Bk fmo (Ba .n (.t rfl) rfl (.inr rfl) ag_39 (fun _ => rfl) rfl rfl <| AJ (full := false) .n .f en_36 (.cons (.t rfl) .nil) (.cons (.sts rfl) .nil) (fun hg => c_impl_Refuge_valid (at' list x1)) rfl (fun h => Bool.noConfusion h) rfl <| Cg .n (.t rfl) rfl <| Ag .n (.t rfl) rfl <| Ba (.f rfl rfl) (.t rfl) rfl (.inr rfl) ag_26 (fun _ => rfl) rfl rfl <| AE (.f rfl rfl) (.t rfl) fo_39_1 rfl <| AP (.f rfl rfl) (.u rfl id) rfl (.inr rfl) (fun _ => rfl) rfl ic_2 rfl <| AJ (full := false) (.f rfl rfl) .f en_43 (.cons (.u rfl id) (.cons (.u rfl id) .nil)) (.cons (.sts rfl) (.cons (.b (.a (.same rfl))) .nil)) (fun hg => Ct m_ (at' list x1).Junction) rfl (fun h => Bool.noConfusion h) rfl <| Cg (.f rfl rfl) (.u rfl id) rfl <| q_or .n (.t rfl) (.u rfl id) rfl <| Ag .n (.t rfl) rfl <| Ag (.f rfl rfl) (.t rfl) rfl <| AF (.f rfl rfl) (.u rfl id) (.c rfl) rfl rfl <| Ag (.f rfl rfl) (.u rfl id) rfl <| AE (.t rfl rfl) (.t rfl) fo_39_0 rfl <| AP (.t rfl rfl) (.u rfl id) rfl (.inr rfl) (fun _ => rfl) rfl ic_9 rfl <| Ag (.t rfl rfl) (.t rfl) rfl <| Ag (.t rfl rfl) (.t rfl) rfl <| q_sub (.t rfl rfl) (.u rfl id) (.c rfl) (fun hg => by simp only [tst] at hg; omega) rfl <| A8 (.t rfl rfl) (.u rfl id) (.u rfl id) sl_29 (fun hg => by simp only [tst] at hg; omega) rfl <| Az (.t rfl rfl) (.u rfl id) fo_39_0 rfl <| Ap (.t rfl rfl) (.u rfl id) rfl ic_9 rfl <| q_strcmp (.t rfl rfl) (.u rfl id) (.u rfl id) rfl rfl <| B4 (.f rfl rfl) (.u rfl id) (.u rfl id) rfl <| q_or .n (.t rfl) (.u rfl id) rfl <| Lex.nil) (by kernel_rfl) ?_
        refine Aq (.t rfl) rfl (fun h7 => ?_) (fun h7 => ?_)
        · try simp only [tst] at h7
          refine Af ?_
          refine Ad (Ah .n (.c rfl) rfl <| Lex.nil) ?_
          exact Au [] (.cons (.t rfl rfl) .nil) rfl trivial rfl
        · try simp only [tst] at h7
          refine As ?_
          refine AK ?_
          refine Ad (BM .n (.t rfl) (.c rfl) (fun _ => by omega) rfl <| Ag .n (.t rfl) rfl <| Lex.nil) ?_
          exact A5 (x1 + 1) ⟨by omega, by omega⟩ (by omega) (sub_of [] ⟨rfl, rfl, rfl, rfl, rfl, trivial⟩ ⟨rfl, trivial⟩ rfl)
      · try simp only [tst] at h6
        refine Bb rfl ?_
        exact AY hk4 x1 ⟨by omega, by omega, by omega⟩ (sub_of [] trivial trivial rfl)


end Go.Proofs.YtibbfdojcdkopaaGreat
