/-
  THE WALKS: each Go function computes its model. Conditions: as each theorem states them (hp1, hp2 ..).
-/
import Derived.Test.YtibbfdojcdkopaaGreatRefugesWalks1
set_option linter.unusedVariables false
set_option linter.unusedSimpArgs false
set_option linter.unusedSectionVars false
set_option linter.unnecessarySimpa false
namespace Go.Proofs.YtibbfdojcdkopaaGreat
open Go Go.RowKit Go.Proofs Go.Proofs.YtibbfdojcdkopaaGreat.E
/-! ### spec_l04Draw -/
set_option maxRecDepth 100000 in
set_option maxHeartbeats 4000000 in
theorem c_spec_l04Draw (s_ : Aj) (hp1 : Lim s_ 500000) : Con Tryz.prog 39 [.op 0 0 0 0] [(0, some (.box 100 [.sl 1 (s_.code.map (V.int .u8)), .int .i64 s_.at_, .int .u64 s_.seed]))] (.st [.int .i64 (Al s_).1.Junctions, .os 100 (Al s_).1.Airways.length]) ([(100, some (.row 112 7 ((Al s_).1.Airways.map Au.v))), (0, some (.box 100 [.sl 1 ((Al s_).2.code.map (V.int .u8)), .int .i64 (Al s_).2.at_, .int .u64 (Al s_).2.seed]))]) := by
  refine con_intro (out := fun r : AH × Aj => ((.st [.int .i64 r.1.Junctions, .os 100 r.1.Airways.length] : V), ([(100, some (.row 112 7 (r.1.Airways.map Au.v))), (0, some (.box 100 [.sl 1 (r.2.code.map (V.int .u8)), .int .i64 r.2.at_, .int .u64 r.2.seed]))] : List (Nat × Option O)))) (r := (Al s_)) Tryz.func39 rfl Tryz.ntmps39 rfl ?_
  have hD := (Lim.draw4_ok hp1).len
  have hM := among_rng (x := 24) (y := 25) (Lim.pick (k := 20) (Lim.dok hp1)) (by decide)
  refine Ae ?_
  refine Ad (BG (l := 200) .n rfl zv_26 rfl rfl <| Lex.nil) ?_
  refine Ae ?_
  refine Ad (Af .n (.t rfl) rfl <| AV (full := false) [(0, 0)] [(100, 201)] .n rfl .f en_81 (.cons (.t rfl) .nil) (.cons (.b (.mutp rfl)) .nil) (c_spec_l04DrawOk s_ (by (try dsimp only); (with_reducible (first | apply Lim.mono | apply Lim.out | apply LimA.mono)); (repeat (with_reducible (first | assumption | apply Lim.among | apply Lim.pick | apply Lim.draw3 | apply Lim.bent | apply Lim.dok | apply Lim.mk))); omega)) ⟨rfl, trivial⟩ rfl rfl (fun h => Bool.noConfusion h) (fun h => Bool.noConfusion h) rfl <| BG (l := 202) .n rfl zv_26 rfl rfl <| AL [.int .i64 (AB s_).1.Junctions, .os 201 (AB s_).1.Airways.length] .n rfl (.t rfl) (.t rfl) rfl ts_26 rfl rfl <| Lex.nil) ?_
  refine Ae ?_
  refine Ae ?_
  refine Ad (Af .n (.t rfl) rfl <| AV (full := false) [(0, 0)] [] .n rfl .f en_22 (.cons (.t rfl) (.cons (.c rfl) .nil)) (.cons (.b (.mutp rfl)) (.cons (.b (.a (.same rfl))) .nil)) (AJ (AB s_).2 20 (by (try dsimp only); (with_reducible (first | apply Lim.mono | apply Lim.out | apply LimA.mono)); (repeat (with_reducible (first | assumption | apply Lim.among | apply Lim.pick | apply Lim.draw3 | apply Lim.bent | apply Lim.dok | apply Lim.mk))); omega)) ⟨rfl, trivial⟩ rfl rfl (fun h => Bool.noConfusion h) (fun h => Bool.noConfusion h) rfl <| Lex.nil) ?_
  refine AC ?_
  refine Ae ?_
  refine Ad (AK .n (.t rfl) (.c rfl) rfl rfl <| Ag .n (.t rfl) rfl <| Lex.nil) ?_
  refine As (.t rfl) rfl (fun h1 => ?_) (fun h1 => ?_)
  · try simp only [tst] at h1
    refine Ad (Af .n (.t rfl) rfl <| AW ([0, 1, 16, 17] : List Int) (f := V.int .i64) (l := 203) .n rfl rfl (.cons (.c rfl) (.cons (.c rfl) (.cons (.c rfl) (.cons (.c rfl) .nil)))) rfl si_27 zv_2 rfl rfl rfl <| AV (full := false) [(0, 0), (1, 203)] [] .n rfl .f en_24 (.cons (.t rfl) (.cons (.t rfl) .nil)) (.cons (.b (.mutp rfl)) (.cons (.b (.muts rfl)) .nil)) (A1 (Aa (AB s_).2 20).2 ([0, 1, 16, 17] : List Int) (by (try dsimp only); (with_reducible (first | apply Lim.mono | apply Lim.out | apply LimA.mono)); (repeat (with_reducible (first | assumption | apply Lim.among | apply Lim.pick | apply Lim.draw3 | apply Lim.bent | apply Lim.dok | apply Lim.mk))); omega) (by (simp only [lens] at * <;> omega))) ⟨rfl, rfl, trivial⟩ rfl rfl (fun h => Bool.noConfusion h) (fun h => Bool.noConfusion h) rfl <| AE .n (.t rfl) fo_26_0 rfl <| AL [.int .i64 (Ak (Aa (AB s_).2 20).2 ([0, 1, 16, 17] : List Int)).1, .os 201 (AB s_).1.Airways.length] .n rfl (.t rfl) (.t rfl) rfl ts_2 rfl rfl <| Lex.nil) ?_
    refine AS ?_
    refine Ae ?_
    refine Ad (Bb .n (.t rfl) rfl (.inr rfl) ag_26 (fun _ => rfl) rfl rfl <| AL [.int .i64 (Ak (Aa (AB s_).2 20).2 ([0, 1, 16, 17] : List Int)).1, .os 201 (AB s_).1.Airways.length] .n rfl (.t rfl) (.t rfl) rfl ts_26 rfl rfl <| Lex.nil) ?_
    exact Ay [(100, 201)] (.cons (.cN rfl rfl ag_26 rfl rfl) .nil) (by first | rfl | (simp only [put_len]; rfl)) ⟨rfl, rfl, trivial⟩ rfl
  · try simp only [tst] at h1
    refine Ae ?_
    refine Ad (AK .n (.t rfl) (.c rfl) rfl rfl <| Ag .n (.t rfl) rfl <| Lex.nil) ?_
    refine As (.t rfl) rfl (fun h2 => ?_) (fun h2 => ?_)
    · try simp only [tst] at h2
      refine Bl fmo (AE .n (.t rfl) fo_26_1 rfl <| AP .n (.t rfl) rfl (.inr rfl) (fun _ => rfl) rfl ic_24 rfl <| Af .n (.t rfl) rfl <| AV (full := false) [(0, 0)] [] .n rfl .f en_82 (.cons (.t rfl) .nil) (.cons (.b (.mutp rfl)) .nil) (c_spec_l03Bent (Aa (AB s_).2 20).2 (by (try dsimp only); (with_reducible (first | apply Lim.mono | apply Lim.out | apply LimA.mono)); (repeat (with_reducible (first | assumption | apply Lim.among | apply Lim.pick | apply Lim.draw3 | apply Lim.bent | apply Lim.dok | apply Lim.mk))); omega)) ⟨rfl, trivial⟩ rfl rfl (fun h => Bool.noConfusion h) (fun h => Bool.noConfusion h) rfl <| AW ([(Bq (Aa (AB s_).2 20).2).1] : List Au) (f := Au.v) (l := 204) .n rfl rfl (.cons (.t rfl) .nil) rfl si_24 zv_112 rfl rfl rfl <| CD (xs := (AB s_).1.Airways) (ys := ([(Bq (Aa (AB s_).2 20).2).1] : List Au)) (f := Au.v) (l := 205) .n rfl (.ow (.t rfl) rfl (take_all (by simp only [len_map, put_len] <;> rfl)) (by simp only [len_map, put_len] <;> rfl)) (.ow (.t rfl) rfl (take_all (by simp only [len_map, put_len] <;> rfl)) (by simp only [len_map, put_len] <;> rfl)) si_24 zv_112 rfl (by (simp only [lens] at * <;> omega)) rfl rfl <| AE .n (.t rfl) fo_26_1 rfl <| AL [.int .i64 (AB s_).1.Junctions, .os 205 ((AB s_).1.Airways ++ ([(Bq (Aa (AB s_).2 20).2).1] : List Au)).length] .n rfl (.t rfl) (.t rfl) rfl ts_24 rfl rfl <| Lex.nil) (by kernel_rfl) ?_
      refine AS ?_
      refine Ae ?_
      refine Ad (Bb .n (.t rfl) rfl (.inr rfl) ag_26 (fun _ => rfl) rfl rfl <| AL [.int .i64 (AB s_).1.Junctions, .os 205 ((AB s_).1.Airways ++ ([(Bq (Aa (AB s_).2 20).2).1] : List Au)).length] .n rfl (.t rfl) (.t rfl) rfl ts_26 rfl rfl <| Lex.nil) ?_
      exact Ay [(100, 205)] (.cons (.cN rfl rfl ag_26 rfl rfl) .nil) (by first | rfl | (simp only [put_len]; rfl)) ⟨rfl, rfl, trivial⟩ rfl
    · try simp only [tst] at h2
      refine Ae ?_
      refine Ad (AK .n (.t rfl) (.c rfl) rfl rfl <| Ag .n (.t rfl) rfl <| Lex.nil) ?_
      refine As (.t rfl) rfl (fun h3 => ?_) (fun h3 => ?_)
      · try simp only [tst] at h3
        refine Ae ?_
        refine Ad (Af .n (.t rfl) rfl <| AW ([24, 25] : List Int) (f := V.int .i64) (l := 206) .n rfl rfl (.cons (.c rfl) (.cons (.c rfl) .nil)) rfl si_27 zv_2 rfl rfl rfl <| AV (full := false) [(0, 0), (1, 206)] [] .n rfl .f en_24 (.cons (.t rfl) (.cons (.t rfl) .nil)) (.cons (.b (.mutp rfl)) (.cons (.b (.muts rfl)) .nil)) (A1 (Aa (AB s_).2 20).2 ([24, 25] : List Int) (by (try dsimp only); (with_reducible (first | apply Lim.mono | apply Lim.out | apply LimA.mono)); (repeat (with_reducible (first | assumption | apply Lim.among | apply Lim.pick | apply Lim.draw3 | apply Lim.bent | apply Lim.dok | apply Lim.mk))); omega) (by (simp only [lens] at * <;> omega))) ⟨rfl, rfl, trivial⟩ rfl rfl (fun h => Bool.noConfusion h) (fun h => Bool.noConfusion h) rfl <| Ag .n (.t rfl) rfl <| Lex.nil) ?_
        refine Ae ?_
        refine Ad (Dw (us := [.int .i64 4, .nls]) .n (.cons (.c rfl) .nil) zv_26 pl_26 rfl rfl rfl <| AL [.int .i64 4, .nls] .n rfl (.t rfl) (.t rfl) rfl ts_26 rfl rfl <| Lex.nil) ?_
        refine Ae ?_
        refine Ad (Ag .n (.c rfl) rfl <| Lex.nil) ?_
        refine AC ?_
        refine CN (sub_adoptb (b := 202) (l := 207) (el := 112) (sz := 7) 1 rfl rfl rfl rfl) ?_
        refine Bp (m_spec_l04Draw_b1 s_) _ _ _ rfl (fun (x1 : (List Int) × Int × Int × (List Au) × Int) => 0 ≤ x1.2.2.2.2 ∧ x1.2.2.2.2 ≤ (Ak (Aa (AB s_).2 20).2 ([24, 25] : List Int)).1 ∧ (x1.2.2.2.1.length : Int) + 0 ≤ x1.2.2.2.2 + (([] : List Au).length : Int) ∧ LimA x1.1 x1.2.1 (500300 + 8 * x1.2.2.2.2)) (fun x1 => 0 ≤ x1.2.2.2.2 ∧ x1.2.2.2.2 ≤ (Ak (Aa (AB s_).2 20).2 ([24, 25] : List Int)).1 ∧ (x1.2.2.2.1.length : Int) + 0 ≤ x1.2.2.2.2 + (([] : List Au).length : Int) ∧ LimA x1.1 x1.2.1 (500300 + 8 * x1.2.2.2.2) ∧ (Ak (Aa (AB s_).2 20).2 ([24, 25] : List Int)).1 ≤ x1.2.2.2.2) (fun x1 => ((Ak (Aa (AB s_).2 20).2 ([24, 25] : List Int)).1 - x1.2.2.2.2 : Int).toNat) (fun x1 => ⟨[(0, some (true, .op 0 0 0 0)), (2, some (true, .op 200 0 0 0)), (3, some (true, .op 202 0 0 0)), (4, some (true, .int .i64 (Ak (Aa (AB s_).2 20).2 ([24, 25] : List Int)).1)), (5, some (true, .int .i64 x1.2.2.2.2))], [(0, some (.box 100 [.sl 1 (x1.1.map (V.int .u8)), .int .i64 x1.2.1, .int .u64 x1.2.2.1])), (200, some (.box 26 [.int .i64 0, .nls])), (202, some (.box 26 [.int .i64 4, .os 207 x1.2.2.2.1.length])), (207, some (.row 112 7 (x1.2.2.2.1.map Au.v)))]⟩) (fun x1 => ⟨[(2, some (true, .op 200 0 0 0)), (3, some (true, .op 202 0 0 0))], [(0, some (.box 100 [.sl 1 (x1.1.map (V.int .u8)), .int .i64 x1.2.1, .int .u64 x1.2.2.1])), (200, some (.box 26 [.int .i64 0, .nls])), (202, some (.box 26 [.int .i64 4, .os 207 x1.2.2.2.1.length])), (207, some (.row 112 7 (x1.2.2.2.1.map Au.v)))]⟩) ⟨by (simp only [lens] at * <;> omega), by (simp only [lens] at * <;> omega), by (simp only [lens] at * <;> omega), by (try dsimp only); (with_reducible (first | apply Lim.mono | apply Lim.out | apply LimA.mono)); (repeat (with_reducible (first | assumption | apply Lim.among | apply Lim.pick | apply Lim.draw3 | apply Lim.bent | apply Lim.dok | apply Lim.mk))); omega⟩ (by (simp only [lens] at * <;> omega)) (sub_of [] ⟨rfl, rfl, rfl, rfl, rfl, trivial⟩ ⟨rfl, rfl, rfl, rfl, trivial⟩ rfl) ?_ ?_
        · intro x1 i7
          obtain ⟨e8, e9, e10, e11, e12⟩ := i7
          try dsimp only at *
          refine AS ?_
          refine Ae ?_
          refine Ad (Bb .n (.t rfl) rfl (.inr rfl) ag_26 (fun _ => rfl) rfl rfl <| AL [.int .i64 4, .os 207 x1.2.2.2.1.length] .n rfl (.t rfl) (.t rfl) rfl ts_26 rfl rfl <| Lex.nil) ?_
          exact Ay [(100, 207)] (.cons (.cN rfl rfl ag_26 rfl rfl) .nil) (by first | rfl | (simp only [put_len]; rfl)) ⟨rfl, rfl, trivial⟩ rfl
        · intro rec1 k1 hk4 x1 i5
          obtain ⟨e13, e14, e15, e16⟩ := i5
          try dsimp only at *
          refine Ae ?_
          refine Ae ?_
          refine Ad (Af .n (.t rfl) rfl <| Af .n (.t rfl) rfl <| AK .n (.t rfl) (.t rfl) rfl rfl <| Lex.nil) ?_
          refine As (.t rfl) rfl (fun h6 => ?_) (fun h6 => ?_)
          · try simp only [tst] at h6
            refine Aw ?_
            refine Ae ?_
            refine AC ?_
            refine Bl fmo (AE .n (.t rfl) fo_26_1 rfl <| AP .n (.t rfl) rfl (.inr rfl) (fun _ => rfl) rfl ic_24 rfl <| Af .n (.t rfl) rfl <| Af .n (.t rfl) rfl <| AK .n (.c rfl) (.t rfl) rfl rfl <| q_conv .n (.t rfl) cv_2_5 rfl <| AW ([IntKind.wrap .u8 (IntKind.wrap .i64 (97 + x1.2.2.2.2))] : List Int) (f := V.int .u8) (l := 208) .n rfl rfl (.cons (.t rfl) .nil) rfl si_22 zv_5 rfl rfl rfl <| q_b2s (xs := ([IntKind.wrap .u8 (IntKind.wrap .i64 (97 + x1.2.2.2.2))] : List Int)) .n (.ow (.t rfl) rfl (take_all (by simp only [len_map, put_len] <;> rfl)) (by simp only [len_map, put_len] <;> rfl)) bs_22_9 rfl <| q_strcat .n (.c rfl) (.t rfl) (fun _ => by ((rw [chars_len]; simp only [List.length_cons, List.length_nil]; omega))) rfl <| Af .n (.t rfl) rfl <| q_rem .n (.t rfl) (.c rfl) (fun _ => by decide) rfl <| Af .n (.t rfl) rfl <| BQ .n (.t rfl) (.c rfl) (fun _ => by omega) rfl <| q_rem .n (.t rfl) (.c rfl) (fun _ => by decide) rfl <| AV (full := false) [(0, 0)] [] .n rfl .f en_83 (.cons (.t rfl) (.cons (.t rfl) (.cons (.t rfl) (.cons (.t rfl) .nil)))) (.cons (.b (.mutp rfl)) (.cons (.b (.a (.same rfl))) (.cons (.b (.a (.same rfl))) (.cons (.b (.a (.same rfl))) .nil)))) (c_spec_l03DrawOk (Aj.mk x1.1 x1.2.1 x1.2.2.1) (K_8 ++ (chars ([IntKind.wrap .u8 (IntKind.wrap .i64 (97 + x1.2.2.2.2))] : List Int))) (Int.tmod x1.2.2.2.2 4) (Int.tmod (x1.2.2.2.2 + 1) 4) (by (try dsimp only); (with_reducible (first | apply Lim.mono | apply Lim.out | apply LimA.mono)); (repeat (with_reducible (first | assumption | apply Lim.among | apply Lim.pick | apply Lim.draw3 | apply Lim.bent | apply Lim.dok | apply Lim.mk))); omega)) ⟨rfl, trivial⟩ rfl rfl (fun h => Bool.noConfusion h) (fun h => Bool.noConfusion h) rfl <| AW ([(Ah (Aj.mk x1.1 x1.2.1 x1.2.2.1) (K_8 ++ (chars ([IntKind.wrap .u8 (IntKind.wrap .i64 (97 + x1.2.2.2.2))] : List Int))) (Int.tmod x1.2.2.2.2 4) (Int.tmod (x1.2.2.2.2 + 1) 4)).1] : List Au) (f := Au.v) (l := 209) .n rfl rfl (.cons (.t rfl) .nil) rfl si_24 zv_112 rfl rfl rfl <| CD (xs := x1.2.2.2.1) (ys := ([(Ah (Aj.mk x1.1 x1.2.1 x1.2.2.1) (K_8 ++ (chars ([IntKind.wrap .u8 (IntKind.wrap .i64 (97 + x1.2.2.2.2))] : List Int))) (Int.tmod x1.2.2.2.2 4) (Int.tmod (x1.2.2.2.2 + 1) 4)).1] : List Au)) (f := Au.v) (l := 210) .n rfl (.ow (.t rfl) rfl (take_all (by simp only [len_map, put_len] <;> rfl)) (by simp only [len_map, put_len] <;> rfl)) (.ow (.t rfl) rfl (take_all (by simp only [len_map, put_len] <;> rfl)) (by simp only [len_map, put_len] <;> rfl)) si_24 zv_112 rfl (by (simp only [lens] at * <;> omega)) rfl rfl <| AE .n (.t rfl) fo_26_1 rfl <| AL [.int .i64 4, .os 210 (x1.2.2.2.1 ++ ([(Ah (Aj.mk x1.1 x1.2.1 x1.2.2.1) (K_8 ++ (chars ([IntKind.wrap .u8 (IntKind.wrap .i64 (97 + x1.2.2.2.2))] : List Int))) (Int.tmod x1.2.2.2.2 4) (Int.tmod (x1.2.2.2.2 + 1) 4)).1] : List Au)).length] .n rfl (.t rfl) (.t rfl) rfl ts_24 rfl rfl <| Lex.nil) (by kernel_rfl) ?_
            refine AS ?_
            refine Ad (Af .n (.t rfl) rfl <| BQ .n (.t rfl) (.c rfl) (fun _ => by omega) rfl <| Ag .n (.t rfl) rfl <| Lex.nil) ?_
            exact A6 ((Ah (Aj.mk x1.1 x1.2.1 x1.2.2.1) (K_8 ++ (chars ([IntKind.wrap .u8 (IntKind.wrap .i64 (97 + x1.2.2.2.2))] : List Int))) (Int.tmod x1.2.2.2.2 4) (Int.tmod (x1.2.2.2.2 + 1) 4)).2.code, (Ah (Aj.mk x1.1 x1.2.1 x1.2.2.1) (K_8 ++ (chars ([IntKind.wrap .u8 (IntKind.wrap .i64 (97 + x1.2.2.2.2))] : List Int))) (Int.tmod x1.2.2.2.2 4) (Int.tmod (x1.2.2.2.2 + 1) 4)).2.at_, (Ah (Aj.mk x1.1 x1.2.1 x1.2.2.1) (K_8 ++ (chars ([IntKind.wrap .u8 (IntKind.wrap .i64 (97 + x1.2.2.2.2))] : List Int))) (Int.tmod x1.2.2.2.2 4) (Int.tmod (x1.2.2.2.2 + 1) 4)).2.seed, x1.2.2.2.1 ++ ([(Ah (Aj.mk x1.1 x1.2.1 x1.2.2.1) (K_8 ++ (chars ([IntKind.wrap .u8 (IntKind.wrap .i64 (97 + x1.2.2.2.2))] : List Int))) (Int.tmod x1.2.2.2.2 4) (Int.tmod (x1.2.2.2.2 + 1) 4)).1] : List Au), x1.2.2.2.2 + 1) ⟨by (simp only [lens] at * <;> omega), by assumption, by (simp only [lens] at * <;> omega), by (try dsimp only); (with_reducible (first | apply Lim.mono | apply Lim.out | apply LimA.mono)); (repeat (with_reducible (first | assumption | apply Lim.among | apply Lim.pick | apply Lim.draw3 | apply Lim.bent | apply Lim.dok | apply Lim.mk))); omega⟩ (by (simp only [lens] at * <;> omega)) (sub_of [(207, 210)] ⟨rfl, rfl, rfl, rfl, rfl, trivial⟩ ⟨rfl, rfl, rfl, rfl, trivial⟩ rfl)
          · try simp only [tst] at h6
            refine Ba rfl ?_
            exact AY hk4 (x1.1, x1.2.1, x1.2.2.1, x1.2.2.2.1, x1.2.2.2.2) ⟨by omega, by omega, by omega, by (try dsimp only); (with_reducible (first | apply Lim.mono | apply Lim.out | apply LimA.mono)); (repeat (with_reducible (first | assumption | apply Lim.among | apply Lim.pick | apply Lim.draw3 | apply Lim.bent | apply Lim.dok | apply Lim.mk))); omega, by omega⟩ (sub_of [] ⟨rfl, rfl, trivial⟩ ⟨rfl, rfl, rfl, rfl, trivial⟩ rfl)
      · try simp only [tst] at h3
        refine Aw ?_
        refine AS ?_
        refine Ae ?_
        refine Ad (Bb .n (.t rfl) rfl (.inr rfl) ag_26 (fun _ => rfl) rfl rfl <| AL [.int .i64 (AB s_).1.Junctions, .os 201 (AB s_).1.Airways.length] .n rfl (.t rfl) (.t rfl) rfl ts_26 rfl rfl <| Lex.nil) ?_
        exact Ay [(100, 201)] (.cons (.cN rfl rfl ag_26 rfl rfl) .nil) (by first | rfl | (simp only [put_len]; rfl)) ⟨rfl, rfl, trivial⟩ rfl

/-! ### spec_l00In -/
theorem BJ (n_ : Int) (low : Int) (high : Int) : Con Tryz.prog 72 [.int .i64 n_, .int .i64 low, .int .i64 high] [] (.bool (A0 n_ low high)) ([]) := by
  refine con_intro (out := fun r : Bool => ((.bool r : V), ([] : List (Nat × Option O)))) (r := (A0 n_ low high)) Tryz.func72 rfl Tryz.ntmps72 rfl ?_
  refine Ae ?_
  refine Ad (Ag .n (.c rfl) rfl <| Lex.nil) ?_
  refine Ae ?_
  refine Ad (Af .n (.t rfl) rfl <| Af .n (.t rfl) rfl <| AK .n (.t rfl) (.t rfl) rfl rfl <| Af .n (.t rfl) rfl <| Af (.t rfl rfl) (.t rfl) rfl <| Af (.t rfl rfl) (.t rfl) rfl <| AK (.t rfl rfl) (.u rfl id) (.u rfl id) rfl rfl <| Cz .n (.t rfl) (.u rfl id) rfl <| Ag .n (.t rfl) rfl <| Lex.nil) ?_
  exact Ay [] (.cons (.t rfl rfl) .nil) rfl trivial rfl

/-! ### spec_l04Junction -/
theorem c_spec_l04Junction (m_ : AH) (j : Int) : Con Tryz.prog 51 [.rp [.int .i64 m_.Junctions, .sl 7 (m_.Airways.map Au.v)], .int .i64 j] [] (.bool (Cm m_ j)) ([]) := by
  refine con_intro (out := fun r : Bool => ((.bool r : V), ([] : List (Nat × Option O)))) (r := (Cm m_ j)) Tryz.func51 rfl Tryz.ntmps51 rfl ?_
  refine BV (t := 0) 1 rfl rfl fun hl => ?_
  have l1 := hl; clear hl; simp only [List.length_map] at l1
  refine Ae ?_
  refine Ad (Ag .n (.c rfl) rfl <| Lex.nil) ?_
  refine Ae ?_
  refine Ad (Af .n (.t rfl) rfl <| Af .n (.t rfl) rfl <| AG .n (.t rfl) rfl <| AM .n (.t rfl) fo_26_0 rfl <| Az .n (.t rfl) rfl ic_2 rfl <| AK .n (.t rfl) (.c rfl) rfl rfl <| AR (full := false) .n .f en_72 (.cons (.t rfl) (.cons (.c rfl) (.cons (.t rfl) .nil))) (.cons (.b (.a (.same rfl))) (.cons (.b (.a (.same rfl))) (.cons (.b (.a (.same rfl))) .nil))) (fun hg => BJ j 0 (IntKind.wrap .i64 (m_.Junctions - 1))) rfl (fun h => Bool.noConfusion h) rfl <| Ag .n (.t rfl) rfl <| Lex.nil) ?_
  exact Ay [] (.cons (.t rfl rfl) .nil) rfl trivial rfl

/-! ### spec_l01Small -/
theorem c_spec_l01Small (c_ : Int) : Con Tryz.prog 111 [.int .u8 c_] [] (.bool (CB c_)) ([]) := by
  refine con_intro (out := fun r : Bool => ((.bool r : V), ([] : List (Nat × Option O)))) (r := (CB c_)) Tryz.func111 rfl Tryz.ntmps111 rfl ?_
  refine Ae ?_
  refine Ad (Ag .n (.c rfl) rfl <| Lex.nil) ?_
  refine Ae ?_
  refine Ad (Af .n (.t rfl) rfl <| AK .n (.t rfl) (.c rfl) rfl rfl <| Af .n (.t rfl) rfl <| Af (.t rfl rfl) (.t rfl) rfl <| AK (.t rfl rfl) (.u rfl id) (.c rfl) rfl rfl <| Cz .n (.t rfl) (.u rfl id) rfl <| Ag .n (.t rfl) rfl <| Lex.nil) ?_
  exact Ay [] (.cons (.t rfl rfl) .nil) rfl trivial rfl

/-! ### spec_l01Digit -/
theorem c_spec_l01Digit (c_ : Int) : Con Tryz.prog 112 [.int .u8 c_] [] (.bool (C9 c_)) ([]) := by
  refine con_intro (out := fun r : Bool => ((.bool r : V), ([] : List (Nat × Option O)))) (r := (C9 c_)) Tryz.func112 rfl Tryz.ntmps112 rfl ?_
  refine Ae ?_
  refine Ad (Ag .n (.c rfl) rfl <| Lex.nil) ?_
  refine Ae ?_
  refine Ad (Af .n (.t rfl) rfl <| AK .n (.t rfl) (.c rfl) rfl rfl <| Af .n (.t rfl) rfl <| Af (.t rfl rfl) (.t rfl) rfl <| AK (.t rfl rfl) (.u rfl id) (.c rfl) rfl rfl <| Cz .n (.t rfl) (.u rfl id) rfl <| Ag .n (.t rfl) rfl <| Lex.nil) ?_
  exact Ay [] (.cons (.t rfl rfl) .nil) rfl trivial rfl

/-! ### spec_l01Name -/
theorem c_spec_l01Name (s_ : List UInt8) : Con Tryz.prog 100 [.str s_] [] (.bool (Cu s_)) ([]) := by
  refine con_intro (out := fun r : Bool => ((.bool r : V), ([] : List (Nat × Option O)))) (r := (Cu s_)) Tryz.func100 rfl Tryz.ntmps100 rfl ?_
  refine Ae ?_
  refine Ad (Ag .n (.c rfl) rfl <| Lex.nil) ?_
  refine Ae ?_
  refine Ae ?_
  refine Ad (Af .n (.t rfl) rfl <| q_strcmp .n (.t rfl) (.c rfl) rfl rfl <| Af .n (.t rfl) rfl <| Af (.f rfl rfl) (.t rfl) rfl <| BD (.f rfl rfl) (.u rfl id) rfl rfl st_9 rfl <| AK (.f rfl rfl) (.u rfl id) (.c rfl) rfl rfl <| q_or .n (.t rfl) (.u rfl id) rfl <| Af .n (.t rfl) rfl <| Af (.f rfl rfl) (.t rfl) rfl <| q_strat (.f rfl rfl) (.u rfl id) (.c rfl) st_9 (fun hg => by simp only [tst] at hg; omega) rfl <| AR (full := false) (.f rfl rfl) .f en_111 (.cons (.u rfl id) .nil) (.cons (.b (.a (.same rfl))) .nil) (fun hg => c_spec_l01Small (((s_.getD (0 : Int).toNat 0).toNat : Nat) : Int)) rfl (fun h => Bool.noConfusion h) rfl <| Cr (.f rfl rfl) (.u rfl id) rfl <| q_or .n (.t rfl) (.u rfl id) rfl <| Lex.nil) ?_
  refine As (.t rfl) rfl (fun h1 => ?_) (fun h1 => ?_)
  · try simp only [tst] at h1
    refine Ae ?_
    refine Ad (Ag .n (.c rfl) rfl <| Lex.nil) ?_
    exact Ay [] (.cons (.t rfl rfl) .nil) rfl trivial rfl
  · try simp only [tst] at h1
    refine Aw ?_
    refine Ae ?_
    refine Ae ?_
    refine Ad (Ag .n (.c rfl) rfl <| Lex.nil) ?_
    refine AC ?_
    refine Bp (m_spec_l01Name_b1 s_) _ _ _ rfl (fun (x1 : Int) => 0 ≤ x1 ∧ x1 ≤ (s_.length : Int)) (fun x1 => 0 ≤ x1 ∧ x1 ≤ (s_.length : Int) ∧ (s_.length : Int) ≤ x1) (fun x1 => ((s_.length : Int) - x1 : Int).toNat) (fun x1 => ⟨[(0, some (true, .str s_)), (3, some (true, .int .i64 x1))], []⟩) (fun x1 => ⟨[], []⟩) ⟨by omega, by omega⟩ (by omega) (sub_of [] ⟨rfl, rfl, trivial⟩ trivial rfl) ?_ ?_
    · intro x1 i6
      obtain ⟨e7, e8, e9⟩ := i6
      try dsimp only at *
      refine Ae ?_
      refine Ad (Ag .n (.c rfl) rfl <| Lex.nil) ?_
      exact Ay [] (.cons (.t rfl rfl) .nil) rfl trivial rfl
    · intro rec1 k1 hk2 x1 i3
      obtain ⟨e10, e11⟩ := i3
      try dsimp only at *
      refine Ae ?_
      refine Ae ?_
      refine Ad (Af .n (.t rfl) rfl <| Af .n (.t rfl) rfl <| BD .n (.t rfl) rfl rfl st_9 rfl <| AK .n (.t rfl) (.t rfl) rfl rfl <| Lex.nil) ?_
      refine As (.t rfl) rfl (fun h4 => ?_) (fun h4 => ?_)
      · try simp only [tst] at h4
        refine Aw ?_
        refine Ae ?_
        refine AC ?_
        refine Ae ?_
        refine Ad (Af .n (.t rfl) rfl <| Af .n (.t rfl) rfl <| q_strat .n (.t rfl) (.t rfl) st_9 (fun _ => by omega) rfl <| AR (full := false) .n .f en_111 (.cons (.t rfl) .nil) (.cons (.b (.a (.same rfl))) .nil) (fun hg => c_spec_l01Small (((s_.getD x1.toNat 0).toNat : Nat) : Int)) rfl (fun h => Bool.noConfusion h) rfl <| Cr .n (.t rfl) rfl <| Af .n (.t rfl) rfl <| Af (.t rfl rfl) (.t rfl) rfl <| Af (.t rfl rfl) (.t rfl) rfl <| q_strat (.t rfl rfl) (.u rfl id) (.u rfl id) st_9 (fun hg => by simp only [tst] at hg; omega) rfl <| AR (full := false) (.t rfl rfl) .f en_112 (.cons (.u rfl id) .nil) (.cons (.b (.a (.same rfl))) .nil) (fun hg => c_spec_l01Digit (((s_.getD x1.toNat 0).toNat : Nat) : Int)) rfl (fun h => Bool.noConfusion h) rfl <| Cr (.t rfl rfl) (.u rfl id) rfl <| Cz .n (.t rfl) (.u rfl id) rfl <| Lex.nil) ?_
        refine As (.t rfl) rfl (fun h5 => ?_) (fun h5 => ?_)
        · try simp only [tst] at h5
          refine Ae ?_
          refine Ad (Ag .n (.c rfl) rfl <| Lex.nil) ?_
          exact Ay [] (.cons (.t rfl rfl) .nil) rfl trivial rfl
        · try simp only [tst] at h5
          refine Aw ?_
          refine AS ?_
          refine Ad (Af .n (.t rfl) rfl <| BQ .n (.t rfl) (.c rfl) (fun _ => by omega) rfl <| Ag .n (.t rfl) rfl <| Lex.nil) ?_
          exact A6 (x1 + 1) ⟨by omega, by omega⟩ (by omega) (sub_of [] ⟨rfl, rfl, trivial⟩ trivial rfl)
      · try simp only [tst] at h4
        refine Ba rfl ?_
        exact AY hk2 x1 ⟨by omega, by omega, by omega⟩ (sub_of [] trivial trivial rfl)

/-! ### spec_l03Ok -/
theorem c_spec_l03Ok (a : Au) : Con Tryz.prog 88 [.rp [.str a.Id, .int .i64 a.From, .int .i64 a.To, .int .i64 a.Length, .int .i64 a.Section, .int .i64 a.Friction, .int .i64 a.Shock]] [] (.bool (Da a)) ([]) := by
  refine con_intro (out := fun r : Bool => ((.bool r : V), ([] : List (Nat × Option O)))) (r := (Da a)) Tryz.func88 rfl Tryz.ntmps88 rfl ?_
  refine Ae ?_
  refine Ad (Ag .n (.c rfl) rfl <| Lex.nil) ?_
  refine Ae ?_
  refine Ae ?_
  refine Bl fmo (Af .n (.t rfl) rfl <| AG .n (.t rfl) rfl <| AM .n (.t rfl) fo_112_0 rfl <| Az .n (.t rfl) rfl ic_9 rfl <| AR (full := false) .n .f en_100 (.cons (.t rfl) .nil) (.cons (.b (.a (.same rfl))) .nil) (fun hg => c_spec_l01Name a.Id) rfl (fun h => Bool.noConfusion h) rfl <| Cr .n (.t rfl) rfl <| Af .n (.t rfl) rfl <| Af (.f rfl rfl) (.t rfl) rfl <| AG (.f rfl rfl) (.u rfl id) rfl <| AM (.f rfl rfl) (.u rfl id) fo_112_1 rfl <| Az (.f rfl rfl) (.u rfl id) rfl ic_2 rfl <| AR (full := false) (.f rfl rfl) .f en_72 (.cons (.u rfl id) (.cons (.c rfl) (.cons (.c rfl) .nil))) (.cons (.b (.a (.same rfl))) (.cons (.b (.a (.same rfl))) (.cons (.b (.a (.same rfl))) .nil))) (fun hg => BJ a.From 0 15) rfl (fun h => Bool.noConfusion h) rfl <| Cr (.f rfl rfl) (.u rfl id) rfl <| q_or .n (.t rfl) (.u rfl id) rfl <| Af .n (.t rfl) rfl <| Af (.f rfl rfl) (.t rfl) rfl <| AG (.f rfl rfl) (.u rfl id) rfl <| AM (.f rfl rfl) (.u rfl id) fo_112_2 rfl <| Az (.f rfl rfl) (.u rfl id) rfl ic_2 rfl <| AR (full := false) (.f rfl rfl) .f en_72 (.cons (.u rfl id) (.cons (.c rfl) (.cons (.c rfl) .nil))) (.cons (.b (.a (.same rfl))) (.cons (.b (.a (.same rfl))) (.cons (.b (.a (.same rfl))) .nil))) (fun hg => BJ a.To 0 15) rfl (fun h => Bool.noConfusion h) rfl <| Cr (.f rfl rfl) (.u rfl id) rfl <| q_or .n (.t rfl) (.u rfl id) rfl <| Af .n (.t rfl) rfl <| Af (.f rfl rfl) (.t rfl) rfl <| AG (.f rfl rfl) (.u rfl id) rfl <| AM (.f rfl rfl) (.u rfl id) fo_112_1 rfl <| Az (.f rfl rfl) (.u rfl id) rfl ic_2 rfl <| Af (.f rfl rfl) (.t rfl) rfl <| AG (.f rfl rfl) (.u rfl id) rfl <| AM (.f rfl rfl) (.u rfl id) fo_112_2 rfl <| Az (.f rfl rfl) (.u rfl id) rfl ic_2 rfl <| AK (.f rfl rfl) (.u rfl id) (.u rfl id) rfl rfl <| q_or .n (.t rfl) (.u rfl id) rfl <| Lex.nil) (by kernel_rfl) ?_
  refine As (.t rfl) rfl (fun h1 => ?_) (fun h1 => ?_)
  · try simp only [tst] at h1
    try have hf0h1 := l00In_imp h1
    try have hf1h1 := l00In_imp h1.1
    try have hf2h1 := l00In_imp h1.2
    try have hf3h1 := l00In_imp h1.1.1
    try have hf4h1 := l00In_imp h1.1.2
    try have hf5h1 := l00In_imp h1.2.1
    try have hf6h1 := l00In_imp h1.2.2
    try have hf7h1 := l00In_imp h1.1.1.1
    try have hf8h1 := l00In_imp h1.1.1.2
    refine Ae ?_
    refine Ad (Ag .n (.c rfl) rfl <| Lex.nil) ?_
    exact Ay [] (.cons (.t rfl rfl) .nil) rfl trivial rfl
  · try simp only [tst] at h1
    try have hf0h1 := l00In_imp h1
    try have hf1h1 := l00In_imp h1.1
    try have hf2h1 := l00In_imp h1.2
    try have hf3h1 := l00In_imp h1.1.1
    try have hf4h1 := l00In_imp h1.1.2
    try have hf5h1 := l00In_imp h1.2.1
    try have hf6h1 := l00In_imp h1.2.2
    try have hf7h1 := l00In_imp h1.1.1.1
    try have hf8h1 := l00In_imp h1.1.1.2
    refine Aw ?_
    refine Ae ?_
    refine Ad (Af .n (.t rfl) rfl <| AG .n (.t rfl) rfl <| AM .n (.t rfl) fo_112_3 rfl <| Az .n (.t rfl) rfl ic_2 rfl <| AR (full := false) .n .f en_72 (.cons (.t rfl) (.cons (.c rfl) (.cons (.c rfl) .nil))) (.cons (.b (.a (.same rfl))) (.cons (.b (.a (.same rfl))) (.cons (.b (.a (.same rfl))) .nil))) (fun hg => BJ a.Length 1 10000) rfl (fun h => Bool.noConfusion h) rfl <| Af .n (.t rfl) rfl <| Af (.t rfl rfl) (.t rfl) rfl <| AG (.t rfl rfl) (.u rfl id) rfl <| AM (.t rfl rfl) (.u rfl id) fo_112_4 rfl <| Az (.t rfl rfl) (.u rfl id) rfl ic_2 rfl <| AR (full := false) (.t rfl rfl) .f en_72 (.cons (.u rfl id) (.cons (.c rfl) (.cons (.c rfl) .nil))) (.cons (.b (.a (.same rfl))) (.cons (.b (.a (.same rfl))) (.cons (.b (.a (.same rfl))) .nil))) (fun hg => BJ a.Section 50 5000) rfl (fun h => Bool.noConfusion h) rfl <| Cz .n (.t rfl) (.u rfl id) rfl <| Af .n (.t rfl) rfl <| Af (.t rfl rfl) (.t rfl) rfl <| AG (.t rfl rfl) (.u rfl id) rfl <| AM (.t rfl rfl) (.u rfl id) fo_112_5 rfl <| Az (.t rfl rfl) (.u rfl id) rfl ic_2 rfl <| AR (full := false) (.t rfl rfl) .f en_72 (.cons (.u rfl id) (.cons (.c rfl) (.cons (.c rfl) .nil))) (.cons (.b (.a (.same rfl))) (.cons (.b (.a (.same rfl))) (.cons (.b (.a (.same rfl))) .nil))) (fun hg => BJ a.Friction 1 1000) rfl (fun h => Bool.noConfusion h) rfl <| Cz .n (.t rfl) (.u rfl id) rfl <| Af .n (.t rfl) rfl <| Af (.t rfl rfl) (.t rfl) rfl <| AG (.t rfl rfl) (.u rfl id) rfl <| AM (.t rfl rfl) (.u rfl id) fo_112_6 rfl <| Az (.t rfl rfl) (.u rfl id) rfl ic_2 rfl <| AR (full := false) (.t rfl rfl) .f en_72 (.cons (.u rfl id) (.cons (.c rfl) (.cons (.c rfl) .nil))) (.cons (.b (.a (.same rfl))) (.cons (.b (.a (.same rfl))) (.cons (.b (.a (.same rfl))) .nil))) (fun hg => BJ a.Shock 0 1000) rfl (fun h => Bool.noConfusion h) rfl <| Cz .n (.t rfl) (.u rfl id) rfl <| Ag .n (.t rfl) rfl <| Lex.nil) ?_
    exact Ay [] (.cons (.t rfl rfl) .nil) rfl trivial rfl

/-! ### spec_l04Ok -/
theorem c_spec_l04Ok (m_ : AH) : Con Tryz.prog 50 [.rp [.int .i64 m_.Junctions, .sl 7 (m_.Airways.map Au.v)]] [] (.bool (AO m_)) ([]) := by
  refine con_intro (out := fun r : Bool => ((.bool r : V), ([] : List (Nat × Option O)))) (r := (AO m_)) Tryz.func50 rfl Tryz.ntmps50 rfl ?_
  refine BV (t := 0) 1 rfl rfl fun hl => ?_
  have l1 := hl; clear hl; simp only [List.length_map] at l1
  refine Ae ?_
  refine Ad (Ag .n (.c rfl) rfl <| Lex.nil) ?_
  refine Ae ?_
  refine Ae ?_
  refine Ad (Af .n (.t rfl) rfl <| AG .n (.t rfl) rfl <| AM .n (.t rfl) fo_26_0 rfl <| Az .n (.t rfl) rfl ic_2 rfl <| AR (full := false) .n .f en_72 (.cons (.t rfl) (.cons (.c rfl) (.cons (.c rfl) .nil))) (.cons (.b (.a (.same rfl))) (.cons (.b (.a (.same rfl))) (.cons (.b (.a (.same rfl))) .nil))) (fun hg => BJ m_.Junctions 1 16) rfl (fun h => Bool.noConfusion h) rfl <| Cr .n (.t rfl) rfl <| Lex.nil) ?_
  refine As (.t rfl) rfl (fun h2 => ?_) (fun h2 => ?_)
  · try simp only [tst] at h2
    try have hf0h2 := l00In_imp h2
    try have hf1h2 := l00In_imp h2.1
    try have hf2h2 := l00In_imp h2.2
    try have hf3h2 := l00In_imp h2.1.1
    try have hf4h2 := l00In_imp h2.1.2
    try have hf5h2 := l00In_imp h2.2.1
    try have hf6h2 := l00In_imp h2.2.2
    refine Ae ?_
    refine Ad (Ag .n (.c rfl) rfl <| Lex.nil) ?_
    exact Ay [] (.cons (.t rfl rfl) .nil) rfl trivial rfl
  · try simp only [tst] at h2
    try have hf0h2 := l00In_imp h2
    try have hf1h2 := l00In_imp h2.1
    try have hf2h2 := l00In_imp h2.2
    try have hf3h2 := l00In_imp h2.1.1
    try have hf4h2 := l00In_imp h2.1.2
    try have hf5h2 := l00In_imp h2.2.1
    try have hf6h2 := l00In_imp h2.2.2
    refine Aw ?_
    refine Ae ?_
    refine Ae ?_
    refine Ad (Ag .n (.c rfl) rfl <| Lex.nil) ?_
    refine AC ?_
    refine Bp (Dx m_) _ _ _ rfl (fun (x1 : Int) => 0 ≤ x1 ∧ x1 ≤ (m_.Airways.length : Int)) (fun x1 => 0 ≤ x1 ∧ x1 ≤ (m_.Airways.length : Int) ∧ (m_.Airways.length : Int) ≤ x1) (fun x1 => ((m_.Airways.length : Int) - x1 : Int).toNat) (fun x1 => ⟨[(0, some (true, .rp [.int .i64 m_.Junctions, .sl 7 (m_.Airways.map Au.v)])), (3, some (true, .int .i64 x1))], []⟩) (fun x1 => ⟨[(0, some (true, .rp [.int .i64 m_.Junctions, .sl 7 (m_.Airways.map Au.v)]))], []⟩) ⟨by omega, by omega⟩ (by omega) (sub_of [] ⟨rfl, rfl, trivial⟩ trivial rfl) ?_ ?_
    · intro x1 i7
      obtain ⟨e8, e9, e10⟩ := i7
      try dsimp only at *
      refine Ae ?_
      refine Ad (Af .n (.t rfl) rfl <| AG .n (.t rfl) rfl <| AM .n (.t rfl) fo_26_1 rfl <| Az .n (.t rfl) rfl ic_24 rfl <| BD .n (.t rfl) rfl len_map ss_24 rfl <| AK .n (.t rfl) (.c rfl) rfl rfl <| Ag .n (.t rfl) rfl <| Lex.nil) ?_
      exact Ay [] (.cons (.t rfl rfl) .nil) rfl trivial rfl
    · intro rec1 k1 hk3 x1 i4
      obtain ⟨e11, e12⟩ := i4
      try dsimp only at *
      refine Ae ?_
      refine Ae ?_
      refine Ad (Af .n (.t rfl) rfl <| Af .n (.t rfl) rfl <| AG .n (.t rfl) rfl <| AM .n (.t rfl) fo_26_1 rfl <| Az .n (.t rfl) rfl ic_24 rfl <| BD .n (.t rfl) rfl len_map ss_24 rfl <| AK .n (.t rfl) (.t rfl) rfl rfl <| Lex.nil) ?_
      refine As (.t rfl) rfl (fun h5 => ?_) (fun h5 => ?_)
      · try simp only [tst] at h5
        refine Aw ?_
        refine Ae ?_
        refine AC ?_
        refine Ae ?_
        refine Ad (Af .n (.t rfl) rfl <| AG .n (.t rfl) rfl <| AM .n (.t rfl) fo_26_1 rfl <| Az .n (.t rfl) rfl ic_24 rfl <| Af .n (.t rfl) rfl <| Bc .n (.t rfl) (.t rfl) sl_24 (fun _ => by omega) rfl <| Ag .n (.t rfl) rfl <| Lex.nil) ?_
        refine Ae ?_
        refine Bl fmo (Af .n (.t rfl) rfl <| AR (full := false) .n .f en_88 (.cons (.t rfl) .nil) (.cons (.b (.a (.same rfl))) .nil) (fun hg => c_spec_l03Ok (at' m_.Airways x1)) rfl (fun h => Bool.noConfusion h) rfl <| Cr .n (.t rfl) rfl <| Af .n (.t rfl) rfl <| Af (.f rfl rfl) (.t rfl) rfl <| Af (.f rfl rfl) (.t rfl) rfl <| AG (.f rfl rfl) (.u rfl id) rfl <| AM (.f rfl rfl) (.u rfl id) fo_112_1 rfl <| Az (.f rfl rfl) (.u rfl id) rfl ic_2 rfl <| AR (full := false) (.f rfl rfl) .f en_51 (.cons (.u rfl id) (.cons (.u rfl id) .nil)) (.cons (.b (.a (.same rfl))) (.cons (.b (.a (.same rfl))) .nil)) (fun hg => c_spec_l04Junction m_ (at' m_.Airways x1).From) rfl (fun h => Bool.noConfusion h) rfl <| Cr (.f rfl rfl) (.u rfl id) rfl <| q_or .n (.t rfl) (.u rfl id) rfl <| Af .n (.t rfl) rfl <| Af (.f rfl rfl) (.t rfl) rfl <| Af (.f rfl rfl) (.t rfl) rfl <| AG (.f rfl rfl) (.u rfl id) rfl <| AM (.f rfl rfl) (.u rfl id) fo_112_2 rfl <| Az (.f rfl rfl) (.u rfl id) rfl ic_2 rfl <| AR (full := false) (.f rfl rfl) .f en_51 (.cons (.u rfl id) (.cons (.u rfl id) .nil)) (.cons (.b (.a (.same rfl))) (.cons (.b (.a (.same rfl))) .nil)) (fun hg => c_spec_l04Junction m_ (at' m_.Airways x1).To) rfl (fun h => Bool.noConfusion h) rfl <| Cr (.f rfl rfl) (.u rfl id) rfl <| q_or .n (.t rfl) (.u rfl id) rfl <| Af .n (.t rfl) rfl <| Af (.f rfl rfl) (.t rfl) rfl <| AK (.f rfl rfl) (.u rfl id) (.c rfl) rfl rfl <| Af (.f rfl rfl) (.u rfl id) rfl <| Af (.t rfl rfl) (.t rfl) rfl <| AG (.t rfl rfl) (.u rfl id) rfl <| AM (.t rfl rfl) (.u rfl id) fo_26_1 rfl <| Az (.t rfl rfl) (.u rfl id) rfl ic_24 rfl <| Af (.t rfl rfl) (.t rfl) rfl <| q_sub (.t rfl rfl) (.u rfl id) (.c rfl) (fun hg => by simp only [tst] at hg; omega) rfl <| Bc (.t rfl rfl) (.u rfl id) (.u rfl id) sl_24 (fun hg => by simp only [tst] at hg; omega) rfl <| AM (.t rfl rfl) (.u rfl id) fo_112_0 rfl <| Az (.t rfl rfl) (.u rfl id) rfl ic_9 rfl <| Af (.t rfl rfl) (.t rfl) rfl <| AG (.t rfl rfl) (.u rfl id) rfl <| AM (.t rfl rfl) (.u rfl id) fo_112_0 rfl <| Az (.t rfl rfl) (.u rfl id) rfl ic_9 rfl <| q_strcmp (.t rfl rfl) (.u rfl id) (.u rfl id) rfl rfl <| Cz (.f rfl rfl) (.u rfl id) (.u rfl id) rfl <| q_or .n (.t rfl) (.u rfl id) rfl <| Lex.nil) (by kernel_rfl) ?_
        refine As (.t rfl) rfl (fun h6 => ?_) (fun h6 => ?_)
        · try simp only [tst] at h6
          refine Ae ?_
          refine Ad (Ag .n (.c rfl) rfl <| Lex.nil) ?_
          exact Ay [] (.cons (.t rfl rfl) .nil) rfl trivial rfl
        · try simp only [tst] at h6
          refine Aw ?_
          refine AS ?_
          refine Ad (Af .n (.t rfl) rfl <| BQ .n (.t rfl) (.c rfl) (fun _ => by omega) rfl <| Ag .n (.t rfl) rfl <| Lex.nil) ?_
          exact A6 (x1 + 1) ⟨by omega, by omega⟩ (by omega) (sub_of [] ⟨rfl, rfl, trivial⟩ trivial rfl)
      · try simp only [tst] at h5
        refine Ba rfl ?_
        exact AY hk3 x1 ⟨by omega, by omega, by omega⟩ (sub_of [] ⟨rfl, trivial⟩ trivial rfl)

/-! ### spec_l00Max -/
theorem Dj (a : Int) (b : Int) : Con Tryz.prog 59 [.int .i64 a, .int .i64 b] [] (.int .i64 (AF a b)) ([]) := by
  refine con_intro (out := fun r : Int => ((.int .i64 r : V), ([] : List (Nat × Option O)))) (r := (AF a b)) Tryz.func59 rfl Tryz.ntmps59 rfl ?_
  refine Ae ?_
  refine Ad (Ag .n (.c rfl) rfl <| Lex.nil) ?_
  refine Ae ?_
  refine Ae ?_
  refine Ad (Af .n (.t rfl) rfl <| Af .n (.t rfl) rfl <| AK .n (.t rfl) (.t rfl) rfl rfl <| Lex.nil) ?_
  refine As (.t rfl) rfl (fun h1 => ?_) (fun h1 => ?_)
  · try simp only [tst] at h1
    refine Ae ?_
    refine Ad (Af .n (.t rfl) rfl <| Ag .n (.t rfl) rfl <| Lex.nil) ?_
    exact Ay [] (.cons (.t rfl rfl) .nil) rfl trivial rfl
  · try simp only [tst] at h1
    refine Aw ?_
    refine Ae ?_
    refine Ad (Af .n (.t rfl) rfl <| Ag .n (.t rfl) rfl <| Lex.nil) ?_
    exact Ay [] (.cons (.t rfl rfl) .nil) rfl trivial rfl

/-! ### spec_l00Min -/
theorem c_spec_l00Min (a : Int) (b : Int) : Con Tryz.prog 94 [.int .i64 a, .int .i64 b] [] (.int .i64 (A5 a b)) ([]) := by
  refine con_intro (out := fun r : Int => ((.int .i64 r : V), ([] : List (Nat × Option O)))) (r := (A5 a b)) Tryz.func94 rfl Tryz.ntmps94 rfl ?_
  refine Ae ?_
  refine Ad (Ag .n (.c rfl) rfl <| Lex.nil) ?_
  refine Ae ?_
  refine Ae ?_
  refine Ad (Af .n (.t rfl) rfl <| Af .n (.t rfl) rfl <| AK .n (.t rfl) (.t rfl) rfl rfl <| Lex.nil) ?_
  refine As (.t rfl) rfl (fun h1 => ?_) (fun h1 => ?_)
  · try simp only [tst] at h1
    refine Ae ?_
    refine Ad (Af .n (.t rfl) rfl <| Ag .n (.t rfl) rfl <| Lex.nil) ?_
    exact Ay [] (.cons (.t rfl rfl) .nil) rfl trivial rfl
  · try simp only [tst] at h1
    refine Aw ?_
    refine Ae ?_
    refine Ad (Af .n (.t rfl) rfl <| Ag .n (.t rfl) rfl <| Lex.nil) ?_
    exact Ay [] (.cons (.t rfl rfl) .nil) rfl trivial rfl

/-! ### spec_l04Parts -/
theorem c_spec_l04Parts (m_ : AH) (list : List Int) (hp1 : MineIn m_) (hp2 : ListIn m_ list) : Con Tryz.prog 119 [.rp [.int .i64 m_.Junctions, .sl 7 (m_.Airways.map Au.v)], .sl 1 (list.map (V.int .i64))] [] (.os 100 (B4 m_ list).length) ([(100, some (.row 2 1 ((B4 m_ list).map (V.int .i64))))]) := by
  refine con_intro (out := fun r : (List Int) => ((.os 100 r.length : V), ([(100, some (.row 2 1 (r.map (V.int .i64))))] : List (Nat × Option O)))) (r := (B4 m_ list)) Tryz.func119 rfl Tryz.ntmps119 rfl ?_
  have hJ := hp1.1
  have hJ1 := hp1.1
  have hA1 := hp1.2.1
  refine BV (t := 0) 1 rfl rfl fun hl => ?_
  have l1 := hl; clear hl; simp only [List.length_map] at l1
  refine Bo (t := 1) rfl fun hl => ?_
  have l2 := hl; clear hl; simp only [List.length_map] at l2
  refine Ae ?_
  refine Ad (Ag .n (.c rfl) rfl <| Lex.nil) ?_
  refine Ae ?_
  refine Ad (AW K_6 (f := V.int .i64) (l := 200) .n rfl rfl .nil rfl si_27 zv_2 rfl rfl rfl <| Ag .n (.t rfl) rfl <| Lex.nil) ?_
  refine Ae ?_
  refine Ae ?_
  refine Ad (Ag .n (.c rfl) rfl <| Lex.nil) ?_
  refine AC ?_
  refine Bp (DA m_ list) _ _ _ rfl (fun (x1 : (List Int) × Int) => 0 ≤ x1.2 ∧ x1.2 ≤ m_.Junctions ∧ (x1.1.length : Int) + 0 ≤ x1.2 + (K_6.length : Int) ∧ (x1.1.length : Int) = x1.2) (fun x1 => 0 ≤ x1.2 ∧ x1.2 ≤ m_.Junctions ∧ (x1.1.length : Int) + 0 ≤ x1.2 + (K_6.length : Int) ∧ (x1.1.length : Int) = x1.2 ∧ m_.Junctions ≤ x1.2) (fun x1 => (m_.Junctions - x1.2 : Int).toNat) (fun x1 => ⟨[(0, some (true, .rp [.int .i64 m_.Junctions, .sl 7 (m_.Airways.map Au.v)])), (1, some (true, .sl 1 (list.map (V.int .i64)))), (5, some (true, .os 200 x1.1.length)), (6, some (true, .int .i64 x1.2))], [(200, some (.row 2 1 (x1.1.map (V.int .i64))))]⟩) (fun x1 => ⟨[(0, some (true, .rp [.int .i64 m_.Junctions, .sl 7 (m_.Airways.map Au.v)])), (1, some (true, .sl 1 (list.map (V.int .i64)))), (5, some (true, .os 200 x1.1.length))], [(200, some (.row 2 1 (x1.1.map (V.int .i64))))]⟩) ⟨by omega, by omega, by (simp only [lens] at * <;> omega), by (simp only [lens] at * <;> omega)⟩ (by omega) (sub_of [] ⟨rfl, rfl, rfl, rfl, trivial⟩ ⟨rfl, trivial⟩ rfl) ?_ ?_
  · intro x1 i6
    obtain ⟨e28, e29, e30, e31, e32⟩ := i6
    try dsimp only at *
    refine Ae ?_
    refine Ae ?_
    refine Ad (Ag .n (.c rfl) rfl <| Lex.nil) ?_
    refine AC ?_
    refine Bp (Dz m_ list x1) _ _ _ rfl (fun (x2 : (List Int) × Int) => 0 ≤ x2.2 ∧ x2.2 ≤ (list.length : Int) ∧ (x2.1.length : Int) = m_.Junctions) (fun x2 => 0 ≤ x2.2 ∧ x2.2 ≤ (list.length : Int) ∧ (x2.1.length : Int) = m_.Junctions ∧ (list.length : Int) ≤ x2.2) (fun x2 => ((list.length : Int) - x2.2 : Int).toNat) (fun x2 => ⟨[(0, some (true, .rp [.int .i64 m_.Junctions, .sl 7 (m_.Airways.map Au.v)])), (1, some (true, .sl 1 (list.map (V.int .i64)))), (5, some (true, .os 200 x2.1.length)), (7, some (true, .int .i64 x2.2))], [(200, some (.row 2 1 (x2.1.map (V.int .i64))))]⟩) (fun x2 => ⟨[(5, some (true, .os 200 x2.1.length))], [(200, some (.row 2 1 (x2.1.map (V.int .i64))))]⟩) ⟨by omega, by omega, by (simp only [lens] at * <;> omega)⟩ (by omega) (sub_of [] ⟨rfl, rfl, rfl, rfl, trivial⟩ ⟨rfl, trivial⟩ rfl) ?_ ?_
    · intro x2 i20
      obtain ⟨e21, e22, e23, e24⟩ := i20
      try dsimp only at *
      refine Ae ?_
      refine Ad (Af .n (.t rfl) rfl <| Ag .n (.t rfl) rfl <| Lex.nil) ?_
      exact Ay [(100, 200)] (.cons (.t rfl rfl) .nil) (by first | rfl | (simp only [put_len]; rfl)) ⟨rfl, trivial⟩ rfl
    · intro rec2 k2 hk7 x2 i8
      obtain ⟨e25, e26, e27⟩ := i8
      try dsimp only at *
      refine Ae ?_
      refine Ae ?_
      refine Ad (Af .n (.t rfl) rfl <| Af .n (.t rfl) rfl <| BD .n (.t rfl) rfl len_map ss_27 rfl <| AK .n (.t rfl) (.t rfl) rfl rfl <| Lex.nil) ?_
      refine As (.t rfl) rfl (fun h9 => ?_) (fun h9 => ?_)
      · try simp only [tst] at h9
        refine Aw ?_
        refine Ae ?_
        refine AC ?_
        refine Ae ?_
        refine Bl fmo (Af .n (.t rfl) rfl <| AG .n (.t rfl) rfl <| AM .n (.t rfl) fo_26_1 rfl <| Az .n (.t rfl) rfl ic_24 rfl <| Af .n (.t rfl) rfl <| Af .n (.t rfl) rfl <| Bc .n (.t rfl) (.t rfl) sl_27 (fun _ => by omega) rfl <| Az .n (.t rfl) rfl ic_2 rfl <| Bc .n (.t rfl) (.t rfl) sl_24 (fun _ => by ((have hq := ListIn.air (list := list) hp1 hp2 (i := x2.2) (by omega); have hr := ListIn.at (list := list) hp2 (i := x2.2) (by omega); first | omega | (dsimp only; omega)))) rfl <| Ag .n (.t rfl) rfl <| Lex.nil) (by kernel_rfl) ?_
        refine Ae ?_
        refine Bl fmo (Af .n (.t rfl) rfl <| Af .n (.t rfl) rfl <| AG .n (.t rfl) rfl <| AM .n (.t rfl) fo_112_1 rfl <| Az .n (.t rfl) rfl ic_2 rfl <| AX .n (.t rfl) (.t rfl) sl_27 (fun _ => by ((have hq := ListIn.air (list := list) hp1 hp2 (i := x2.2) (by omega); have hr := ListIn.at (list := list) hp2 (i := x2.2) (by omega); first | omega | (dsimp only; omega)))) rfl <| A3 .n (.t rfl) rfl (fun _ => by ((have hq := ListIn.air (list := list) hp1 hp2 (i := x2.2) (by omega); have hr := ListIn.at (list := list) hp2 (i := x2.2) (by omega); first | omega | (dsimp only; omega)))) rfl rfl rfl ic_2 rfl <| Af .n (.t rfl) rfl <| Af .n (.t rfl) rfl <| AG .n (.t rfl) rfl <| AM .n (.t rfl) fo_112_2 rfl <| Az .n (.t rfl) rfl ic_2 rfl <| AX .n (.t rfl) (.t rfl) sl_27 (fun _ => by ((have hq := ListIn.air (list := list) hp1 hp2 (i := x2.2) (by omega); have hr := ListIn.at (list := list) hp2 (i := x2.2) (by omega); first | omega | (dsimp only; omega)))) rfl <| A3 .n (.t rfl) rfl (fun _ => by ((have hq := ListIn.air (list := list) hp1 hp2 (i := x2.2) (by omega); have hr := ListIn.at (list := list) hp2 (i := x2.2) (by omega); first | omega | (dsimp only; omega)))) rfl rfl rfl ic_2 rfl <| AR (full := false) .n .f en_94 (.cons (.t rfl) (.cons (.t rfl) .nil)) (.cons (.b (.a (.same rfl))) (.cons (.b (.a (.same rfl))) .nil)) (fun hg => c_spec_l00Min (at' x2.1 (at' m_.Airways (at' list x2.2)).From) (at' x2.1 (at' m_.Airways (at' list x2.2)).To)) rfl (fun h => Bool.noConfusion h) rfl <| Ag .n (.t rfl) rfl <| Lex.nil) (by kernel_rfl) ?_
        refine Ae ?_
        refine Bl fmo (Af .n (.t rfl) rfl <| Af .n (.t rfl) rfl <| AG .n (.t rfl) rfl <| AM .n (.t rfl) fo_112_1 rfl <| Az .n (.t rfl) rfl ic_2 rfl <| AX .n (.t rfl) (.t rfl) sl_27 (fun _ => by ((have hq := ListIn.air (list := list) hp1 hp2 (i := x2.2) (by omega); have hr := ListIn.at (list := list) hp2 (i := x2.2) (by omega); first | omega | (dsimp only; omega)))) rfl <| A3 .n (.t rfl) rfl (fun _ => by ((have hq := ListIn.air (list := list) hp1 hp2 (i := x2.2) (by omega); have hr := ListIn.at (list := list) hp2 (i := x2.2) (by omega); first | omega | (dsimp only; omega)))) rfl rfl rfl ic_2 rfl <| Af .n (.t rfl) rfl <| Af .n (.t rfl) rfl <| AG .n (.t rfl) rfl <| AM .n (.t rfl) fo_112_2 rfl <| Az .n (.t rfl) rfl ic_2 rfl <| AX .n (.t rfl) (.t rfl) sl_27 (fun _ => by ((have hq := ListIn.air (list := list) hp1 hp2 (i := x2.2) (by omega); have hr := ListIn.at (list := list) hp2 (i := x2.2) (by omega); first | omega | (dsimp only; omega)))) rfl <| A3 .n (.t rfl) rfl (fun _ => by ((have hq := ListIn.air (list := list) hp1 hp2 (i := x2.2) (by omega); have hr := ListIn.at (list := list) hp2 (i := x2.2) (by omega); first | omega | (dsimp only; omega)))) rfl rfl rfl ic_2 rfl <| AR (full := false) .n .f en_59 (.cons (.t rfl) (.cons (.t rfl) .nil)) (.cons (.b (.a (.same rfl))) (.cons (.b (.a (.same rfl))) .nil)) (fun hg => Dj (at' x2.1 (at' m_.Airways (at' list x2.2)).From) (at' x2.1 (at' m_.Airways (at' list x2.2)).To)) rfl (fun h => Bool.noConfusion h) rfl <| Ag .n (.t rfl) rfl <| Lex.nil) (by kernel_rfl) ?_
        refine Ae ?_
        refine Ad (Ag .n (.c rfl) rfl <| Lex.nil) ?_
        refine AC ?_
        refine Bp (Dy m_ list x1 rec2 k2 x2) _ _ _ rfl (fun (x3 : (List Int) × Int) => 0 ≤ x3.2 ∧ x3.1.length = x2.1.length) (fun x3 => 0 ≤ x3.2 ∧ x3.1.length = x2.1.length ∧ (x3.1.length : Int) ≤ x3.2) (fun x3 => ((x3.1.length : Int) - x3.2 : Int).toNat) (fun x3 => ⟨[(0, some (true, .rp [.int .i64 m_.Junctions, .sl 7 (m_.Airways.map Au.v)])), (1, some (true, .sl 1 (list.map (V.int .i64)))), (5, some (true, .os 200 x3.1.length)), (7, some (true, .int .i64 x2.2)), (9, some (true, .int .i64 (A5 (at' x2.1 (at' m_.Airways (at' list x2.2)).From) (at' x2.1 (at' m_.Airways (at' list x2.2)).To)))), (10, some (true, .int .i64 (AF (at' x2.1 (at' m_.Airways (at' list x2.2)).From) (at' x2.1 (at' m_.Airways (at' list x2.2)).To)))), (11, some (true, .int .i64 x3.2))], [(200, some (.row 2 1 (x3.1.map (V.int .i64))))]⟩) (fun x3 => ⟨[(0, some (true, .rp [.int .i64 m_.Junctions, .sl 7 (m_.Airways.map Au.v)])), (1, some (true, .sl 1 (list.map (V.int .i64)))), (5, some (true, .os 200 x3.1.length)), (7, some (true, .int .i64 x2.2))], [(200, some (.row 2 1 (x3.1.map (V.int .i64))))]⟩) ⟨by omega, by (simp only [lens] at * <;> omega)⟩ (by (simp only [lens] at * <;> omega)) (sub_of [] ⟨rfl, rfl, rfl, rfl, rfl, rfl, rfl, trivial⟩ ⟨rfl, trivial⟩ rfl) ?_ ?_
        · intro x3 i14
          obtain ⟨e15, e16, e17⟩ := i14
          try dsimp only at *
          refine AS ?_
          refine Ad (Af .n (.t rfl) rfl <| BQ .n (.t rfl) (.c rfl) (fun _ => by omega) rfl <| Ag .n (.t rfl) rfl <| Lex.nil) ?_
          exact A6 (x3.1, x2.2 + 1) ⟨by omega, by omega, by (simp only [lens] at * <;> omega)⟩ (by omega) (sub_of [] ⟨rfl, rfl, rfl, rfl, trivial⟩ ⟨rfl, trivial⟩ rfl)
        · intro rec3 k3 hk10 x3 i11
          obtain ⟨e18, e19⟩ := i11
          try dsimp only at *
          refine Ae ?_
          refine Ae ?_
          refine Ad (Af .n (.t rfl) rfl <| Af .n (.t rfl) rfl <| BD .n (.t rfl) rfl rfl ss_27 rfl <| AK .n (.t rfl) (.t rfl) rfl rfl <| Lex.nil) ?_
          refine As (.t rfl) rfl (fun h12 => ?_) (fun h12 => ?_)
          · try simp only [tst] at h12
            refine Aw ?_
            refine Ae ?_
            refine AC ?_
            refine Ae ?_
            refine Ad (Af .n (.t rfl) rfl <| Af .n (.t rfl) rfl <| AX .n (.t rfl) (.t rfl) sl_27 (fun _ => by omega) rfl <| A3 .n (.t rfl) rfl (fun _ => by omega) rfl rfl rfl ic_2 rfl <| Af .n (.t rfl) rfl <| AK .n (.t rfl) (.t rfl) rfl rfl <| Lex.nil) ?_
            refine As (.t rfl) rfl (fun h13 => ?_) (fun h13 => ?_)
            · try simp only [tst] at h13
              refine Ad (Af .n (.t rfl) rfl <| Af .n (.t rfl) rfl <| Af .n (.t rfl) rfl <| AX .n (.t rfl) (.t rfl) sl_27 (fun _ => by omega) rfl <| B0 (A5 (at' x2.1 (at' m_.Airways (at' list x2.2)).From) (at' x2.1 (at' m_.Airways (at' list x2.2)).To)) .n rfl (.t rfl) (.t rfl) rfl ts_2 (by omega) rfl rfl <| Lex.nil) ?_
              refine AS ?_
              refine Ad (Af .n (.t rfl) rfl <| BQ .n (.t rfl) (.c rfl) (fun _ => by omega) rfl <| Ag .n (.t rfl) rfl <| Lex.nil) ?_
              exact A6 (put' x3.1 x3.2 (A5 (at' x2.1 (at' m_.Airways (at' list x2.2)).From) (at' x2.1 (at' m_.Airways (at' list x2.2)).To)), x3.2 + 1) ⟨by omega, by (simp only [lens] at * <;> omega)⟩ (by (simp only [lens] at * <;> omega)) (sub_of [] ⟨rfl, rfl, os_len rfl (by first | (simp only [put_len]; done) | (first | omega | assumption | (simp only [lens] at * <;> omega) | (((have hq := ListIn.air (list := list) hp1 hp2 (i := x2.2) (by omega); have hr := ListIn.at (list := list) hp2 (i := x2.2) (by omega); first | omega | (dsimp only; omega))); done))), rfl, rfl, rfl, rfl, trivial⟩ ⟨rfl, trivial⟩ rfl)
            · try simp only [tst] at h13
              refine Aw ?_
              refine AS ?_
              refine Ad (Af .n (.t rfl) rfl <| BQ .n (.t rfl) (.c rfl) (fun _ => by omega) rfl <| Ag .n (.t rfl) rfl <| Lex.nil) ?_
              exact A6 (x3.1, x3.2 + 1) ⟨by omega, by omega⟩ (by (simp only [lens] at * <;> omega)) (sub_of [] ⟨rfl, rfl, rfl, rfl, rfl, rfl, rfl, trivial⟩ ⟨rfl, trivial⟩ rfl)
          · try simp only [tst] at h12
            refine Ba rfl ?_
            exact AY hk10 (x3.1, x3.2) ⟨by omega, by omega, by omega⟩ (sub_of [] ⟨rfl, rfl, rfl, rfl, trivial⟩ ⟨rfl, trivial⟩ rfl)
      · try simp only [tst] at h9
        refine Ba rfl ?_
        exact AY hk7 (x2.1, x2.2) ⟨by omega, by omega, by omega, by omega⟩ (sub_of [] ⟨rfl, trivial⟩ ⟨rfl, trivial⟩ rfl)
  · intro rec1 k1 hk3 x1 i4
    obtain ⟨e33, e34, e35, e36⟩ := i4
    try dsimp only at *
    refine Ae ?_
    refine Ae ?_
    refine Ad (Af .n (.t rfl) rfl <| Af .n (.t rfl) rfl <| AG .n (.t rfl) rfl <| AM .n (.t rfl) fo_26_0 rfl <| Az .n (.t rfl) rfl ic_2 rfl <| AK .n (.t rfl) (.t rfl) rfl rfl <| Lex.nil) ?_
    refine As (.t rfl) rfl (fun h5 => ?_) (fun h5 => ?_)
    · try simp only [tst] at h5
      refine Aw ?_
      refine Ae ?_
      refine AC ?_
      refine Ad (Af .n (.t rfl) rfl <| Af .n (.t rfl) rfl <| AW ([x1.2] : List Int) (f := V.int .i64) (l := 201) .n rfl rfl (.cons (.t rfl) .nil) rfl si_27 zv_2 rfl rfl rfl <| CD (xs := x1.1) (ys := ([x1.2] : List Int)) (f := V.int .i64) (l := 202) .n rfl (.ow (.t rfl) rfl (take_all (by simp only [len_map, put_len] <;> rfl)) (by simp only [len_map, put_len] <;> rfl)) (.ow (.t rfl) rfl (take_all (by simp only [len_map, put_len] <;> rfl)) (by simp only [len_map, put_len] <;> rfl)) si_27 zv_2 rfl (by (simp only [lens] at * <;> omega)) rfl rfl <| Ag .n (.t rfl) rfl <| Lex.nil) ?_
      refine AS ?_
      refine Ad (Af .n (.t rfl) rfl <| BQ .n (.t rfl) (.c rfl) (fun _ => by omega) rfl <| Ag .n (.t rfl) rfl <| Lex.nil) ?_
      exact A6 (x1.1 ++ ([x1.2] : List Int), x1.2 + 1) ⟨by omega, by omega, by (simp only [lens] at * <;> omega), by (simp only [lens] at * <;> omega)⟩ (by omega) (sub_of [(200, 202)] ⟨rfl, rfl, rfl, rfl, trivial⟩ ⟨rfl, trivial⟩ rfl)
    · try simp only [tst] at h5
      refine Ba rfl ?_
      exact AY hk3 (x1.1, x1.2) ⟨by omega, by omega, by omega, by omega, by omega⟩ (sub_of [] ⟨rfl, rfl, rfl, trivial⟩ ⟨rfl, trivial⟩ rfl)

/-! ### spec_l04Tree -/
theorem c_spec_l04Tree (m_ : AH) (hp1 : MineIn m_) : Con Tryz.prog 113 [.rp [.int .i64 m_.Junctions, .sl 7 (m_.Airways.map Au.v)]] [] (.os 100 (Bu m_).length) ([(100, some (.row 2 1 ((Bu m_).map (V.int .i64))))]) := by
  refine con_intro (out := fun r : (List Int) => ((.os 100 r.length : V), ([(100, some (.row 2 1 (r.map (V.int .i64))))] : List (Nat × Option O)))) (r := (Bu m_)) Tryz.func113 rfl Tryz.ntmps113 rfl ?_
  have hJ := hp1.1
  have hA := hp1.2.1
  have hJ1 := hp1.1
  have hA1 := hp1.2.1
  refine BV (t := 0) 1 rfl rfl fun hl => ?_
  have l1 := hl; clear hl; simp only [List.length_map] at l1
  refine Ae ?_
  refine Ad (Ag .n (.c rfl) rfl <| Lex.nil) ?_
  refine Ae ?_
  refine Ad (AW K_6 (f := V.int .i64) (l := 200) .n rfl rfl .nil rfl si_27 zv_2 rfl rfl rfl <| Ag .n (.t rfl) rfl <| Lex.nil) ?_
  refine Ae ?_
  refine Ae ?_
  refine Ad (Ag .n (.c rfl) rfl <| Lex.nil) ?_
  refine AC ?_
  refine Bp (m_spec_l04Tree_b1 m_) _ _ _ rfl (fun (x1 : (List Int) × Int) => 0 ≤ x1.2 ∧ x1.2 ≤ (m_.Airways.length : Int) ∧ (x1.1.length : Int) + 0 ≤ x1.2 + (K_6.length : Int) ∧ (x1.1.length : Int) ≤ x1.2 ∧ ListIn m_ x1.1) (fun x1 => 0 ≤ x1.2 ∧ x1.2 ≤ (m_.Airways.length : Int) ∧ (x1.1.length : Int) + 0 ≤ x1.2 + (K_6.length : Int) ∧ (x1.1.length : Int) ≤ x1.2 ∧ ListIn m_ x1.1 ∧ (m_.Airways.length : Int) ≤ x1.2) (fun x1 => ((m_.Airways.length : Int) - x1.2 : Int).toNat) (fun x1 => ⟨[(0, some (true, .rp [.int .i64 m_.Junctions, .sl 7 (m_.Airways.map Au.v)])), (3, some (true, .os 200 x1.1.length)), (4, some (true, .int .i64 x1.2))], [(200, some (.row 2 1 (x1.1.map (V.int .i64))))]⟩) (fun x1 => ⟨[(3, some (true, .os 200 x1.1.length))], [(200, some (.row 2 1 (x1.1.map (V.int .i64))))]⟩) ⟨by omega, by omega, by (simp only [lens] at * <;> omega), by (simp only [lens] at * <;> omega), by ((intro y hy; exact absurd hy (List.not_mem_nil)))⟩ (by omega) (sub_of [] ⟨rfl, rfl, rfl, trivial⟩ ⟨rfl, trivial⟩ rfl) ?_ ?_
  · intro x1 i6
    obtain ⟨e7, e8, e9, e10, e11, e12⟩ := i6
    try dsimp only at *
    refine Ae ?_
    refine Ad (Af .n (.t rfl) rfl <| Ag .n (.t rfl) rfl <| Lex.nil) ?_
    exact Ay [(100, 200)] (.cons (.t rfl rfl) .nil) (by first | rfl | (simp only [put_len]; rfl)) ⟨rfl, trivial⟩ rfl
  · intro rec1 k1 hk2 x1 i3
    obtain ⟨e13, e14, e15, e16, e17⟩ := i3
    try dsimp only at *
    refine Ae ?_
    refine Ae ?_
    refine Ad (Af .n (.t rfl) rfl <| Af .n (.t rfl) rfl <| AG .n (.t rfl) rfl <| AM .n (.t rfl) fo_26_1 rfl <| Az .n (.t rfl) rfl ic_24 rfl <| BD .n (.t rfl) rfl len_map ss_24 rfl <| AK .n (.t rfl) (.t rfl) rfl rfl <| Lex.nil) ?_
    refine As (.t rfl) rfl (fun h4 => ?_) (fun h4 => ?_)
    · try simp only [tst] at h4
      refine Aw ?_
      refine Ae ?_
      refine AC ?_
      refine Ae ?_
      refine Ad (Af .n (.t rfl) rfl <| Af .n (.t rfl) rfl <| AV (full := true) [] [(100, 201)] .n rfl .f en_119 (.cons (.t rfl) (.cons (.t rfl) .nil)) (.cons (.b (.a (.same rfl))) (.cons (.b (.a (.own rfl rfl rfl (take_all (by simp only [len_map, put_len] <;> rfl)) (by simp only [len_map, put_len] <;> rfl)))) .nil)) (c_spec_l04Parts m_ x1.1 (by omega) (by omega)) trivial rfl rfl (fun _ => rfl) (fun _ => (hr_row (fun _ => rfl) hr_nil)) rfl <| Ag .n (.t rfl) rfl <| Lex.nil) ?_
      refine Ae ?_
      refine Bl fmo (Af .n (.t rfl) rfl <| Af .n (.t rfl) rfl <| AG .n (.t rfl) rfl <| AM .n (.t rfl) fo_26_1 rfl <| Az .n (.t rfl) rfl ic_24 rfl <| Af .n (.t rfl) rfl <| Bc .n (.t rfl) (.t rfl) sl_24 (fun _ => by omega) rfl <| AM .n (.t rfl) fo_112_1 rfl <| Az .n (.t rfl) rfl ic_2 rfl <| AX .n (.t rfl) (.t rfl) sl_27 (fun _ => by ((have hq := parts_len (m := m_) (list := x1.1) hJ.1; have hr := hp1.at (i := x1.2) (by omega); unfold AirIn at hr; omega))) rfl <| A3 .n (.t rfl) rfl (fun _ => by ((have hq := parts_len (m := m_) (list := x1.1) hJ.1; have hr := hp1.at (i := x1.2) (by omega); unfold AirIn at hr; omega))) rfl rfl rfl ic_2 rfl <| Af .n (.t rfl) rfl <| Af .n (.t rfl) rfl <| AG .n (.t rfl) rfl <| AM .n (.t rfl) fo_26_1 rfl <| Az .n (.t rfl) rfl ic_24 rfl <| Af .n (.t rfl) rfl <| Bc .n (.t rfl) (.t rfl) sl_24 (fun _ => by omega) rfl <| AM .n (.t rfl) fo_112_2 rfl <| Az .n (.t rfl) rfl ic_2 rfl <| AX .n (.t rfl) (.t rfl) sl_27 (fun _ => by ((have hq := parts_len (m := m_) (list := x1.1) hJ.1; have hr := hp1.at (i := x1.2) (by omega); unfold AirIn at hr; omega))) rfl <| A3 .n (.t rfl) rfl (fun _ => by ((have hq := parts_len (m := m_) (list := x1.1) hJ.1; have hr := hp1.at (i := x1.2) (by omega); unfold AirIn at hr; omega))) rfl rfl rfl ic_2 rfl <| AK .n (.t rfl) (.t rfl) rfl rfl <| Lex.nil) (by kernel_rfl) ?_
      refine As (.t rfl) rfl (fun h5 => ?_) (fun h5 => ?_)
      · try simp only [tst] at h5
        refine Ad (Af .n (.t rfl) rfl <| Af .n (.t rfl) rfl <| AW ([x1.2] : List Int) (f := V.int .i64) (l := 202) .n rfl rfl (.cons (.t rfl) .nil) rfl si_27 zv_2 rfl rfl rfl <| CD (xs := x1.1) (ys := ([x1.2] : List Int)) (f := V.int .i64) (l := 203) .n rfl (.ow (.t rfl) rfl (take_all (by simp only [len_map, put_len] <;> rfl)) (by simp only [len_map, put_len] <;> rfl)) (.ow (.t rfl) rfl (take_all (by simp only [len_map, put_len] <;> rfl)) (by simp only [len_map, put_len] <;> rfl)) si_27 zv_2 rfl (by (simp only [lens] at * <;> omega)) rfl rfl <| Ag .n (.t rfl) rfl <| Lex.nil) ?_
        refine AS ?_
        refine Ad (Af .n (.t rfl) rfl <| BQ .n (.t rfl) (.c rfl) (fun _ => by omega) rfl <| Ag .n (.t rfl) rfl <| Lex.nil) ?_
        exact A6 (x1.1 ++ ([x1.2] : List Int), x1.2 + 1) ⟨by omega, by omega, by (simp only [lens] at * <;> omega), by (simp only [lens] at * <;> omega), by ((dsimp only; exact tree_add (by assumption) (by omega)))⟩ (by omega) (sub_of [(200, 203)] ⟨rfl, rfl, rfl, trivial⟩ ⟨rfl, trivial⟩ rfl)
      · try simp only [tst] at h5
        refine Aw ?_
        refine AS ?_
        refine Ad (Af .n (.t rfl) rfl <| BQ .n (.t rfl) (.c rfl) (fun _ => by omega) rfl <| Ag .n (.t rfl) rfl <| Lex.nil) ?_
        exact A6 (x1.1, x1.2 + 1) ⟨by omega, by omega, by (simp only [lens] at * <;> omega), by (simp only [lens] at * <;> omega), by omega⟩ (by omega) (sub_of [] ⟨rfl, rfl, rfl, trivial⟩ ⟨rfl, trivial⟩ rfl)
    · try simp only [tst] at h4
      refine Ba rfl ?_
      exact AY hk2 (x1.1, x1.2) ⟨by omega, by omega, by omega, by omega, by omega, by omega⟩ (sub_of [] ⟨rfl, trivial⟩ ⟨rfl, trivial⟩ rfl)

/-! ### spec_l00Has -/
theorem c_spec_l00Has (list : List Int) (n_ : Int) : Con Tryz.prog 114 [.sl 1 (list.map (V.int .i64)), .int .i64 n_] [] (.bool (CS list n_)) ([]) := by
  refine con_intro (out := fun r : Bool => ((.bool r : V), ([] : List (Nat × Option O)))) (r := (CS list n_)) Tryz.func114 rfl Tryz.ntmps114 rfl ?_
  refine Bo (t := 0) rfl fun hl => ?_
  have l1 := hl; clear hl; simp only [List.length_map] at l1
  refine Ae ?_
  refine Ad (Ag .n (.c rfl) rfl <| Lex.nil) ?_
  refine Ae ?_
  refine Ae ?_
  refine Ad (Ag .n (.c rfl) rfl <| Lex.nil) ?_
  refine AC ?_
  refine Bp (m_spec_l00Has_b1 list n_) _ _ _ rfl (fun (x1 : Int) => 0 ≤ x1 ∧ x1 ≤ (list.length : Int)) (fun x1 => 0 ≤ x1 ∧ x1 ≤ (list.length : Int) ∧ (list.length : Int) ≤ x1) (fun x1 => ((list.length : Int) - x1 : Int).toNat) (fun x1 => ⟨[(0, some (true, .sl 1 (list.map (V.int .i64)))), (1, some (true, .int .i64 n_)), (5, some (true, .int .i64 x1))], []⟩) (fun x1 => ⟨[], []⟩) ⟨by omega, by omega⟩ (by omega) (sub_of [] ⟨rfl, rfl, rfl, trivial⟩ trivial rfl) ?_ ?_
  · intro x1 i6
    obtain ⟨e7, e8, e9⟩ := i6
    try dsimp only at *
    refine Ae ?_
    refine Ad (Ag .n (.c rfl) rfl <| Lex.nil) ?_
    exact Ay [] (.cons (.t rfl rfl) .nil) rfl trivial rfl
  · intro rec1 k1 hk2 x1 i3
    obtain ⟨e10, e11⟩ := i3
    try dsimp only at *
    refine Ae ?_
    refine Ae ?_
    refine Ad (Af .n (.t rfl) rfl <| Af .n (.t rfl) rfl <| BD .n (.t rfl) rfl len_map ss_27 rfl <| AK .n (.t rfl) (.t rfl) rfl rfl <| Lex.nil) ?_
    refine As (.t rfl) rfl (fun h4 => ?_) (fun h4 => ?_)
    · try simp only [tst] at h4
      refine Aw ?_
      refine Ae ?_
      refine AC ?_
      refine Ae ?_
      refine Ad (Af .n (.t rfl) rfl <| Af .n (.t rfl) rfl <| Bc .n (.t rfl) (.t rfl) sl_27 (fun _ => by omega) rfl <| Az .n (.t rfl) rfl ic_2 rfl <| Af .n (.t rfl) rfl <| AK .n (.t rfl) (.t rfl) rfl rfl <| Lex.nil) ?_
      refine As (.t rfl) rfl (fun h5 => ?_) (fun h5 => ?_)
      · try simp only [tst] at h5
        refine Ae ?_
        refine Ad (Ag .n (.c rfl) rfl <| Lex.nil) ?_
        exact Ay [] (.cons (.t rfl rfl) .nil) rfl trivial rfl
      · try simp only [tst] at h5
        refine Aw ?_
        refine AS ?_
        refine Ad (Af .n (.t rfl) rfl <| BQ .n (.t rfl) (.c rfl) (fun _ => by omega) rfl <| Ag .n (.t rfl) rfl <| Lex.nil) ?_
        exact A6 (x1 + 1) ⟨by omega, by omega⟩ (by omega) (sub_of [] ⟨rfl, rfl, rfl, trivial⟩ trivial rfl)
    · try simp only [tst] at h4
      refine Ba rfl ?_
      exact AY hk2 x1 ⟨by omega, by omega, by omega⟩ (sub_of [] trivial trivial rfl)

/-! ### spec_l04Walk -/
set_option maxRecDepth 100000 in
set_option maxHeartbeats 4000000 in
theorem c_spec_l04Walk (m_ : AH) (list : List Int) (from_ : Int) (to : Int) (hp1 : MineIn m_) (hp2 : ListIn m_ list) (hp3 : 0 ≤ from_ ∧ from_ < m_.Junctions) (hp4 : 0 ≤ to ∧ to < m_.Junctions) : Con Tryz.prog 115 [.rp [.int .i64 m_.Junctions, .sl 7 (m_.Airways.map Au.v)], .sl 1 (list.map (V.int .i64)), .int .i64 from_, .int .i64 to] [] (.tup [.os 100 (BW m_ list from_ to).1.length, .bool (BW m_ list from_ to).2]) ([(100, some (.row 2 1 ((BW m_ list from_ to).1.map (V.int .i64))))]) := by
  refine con_intro (out := fun r : (List Int) × Bool => ((.tup [.os 100 r.1.length, .bool r.2] : V), ([(100, some (.row 2 1 (r.1.map (V.int .i64))))] : List (Nat × Option O)))) (r := (BW m_ list from_ to)) Tryz.func115 rfl Tryz.ntmps115 rfl ?_
  have hJ := hp1.1
  have hJ1 := hp1.1
  have hA1 := hp1.2.1
  refine BV (t := 0) 1 rfl rfl fun hl => ?_
  have l1 := hl; clear hl; simp only [List.length_map] at l1
  refine Bo (t := 1) rfl fun hl => ?_
  have l2 := hl; clear hl; simp only [List.length_map] at l2
  refine Ae ?_
  refine Ad (Ag .n (.c rfl) rfl <| Ag .n (.c rfl) rfl <| Lex.nil) ?_
  refine Ae ?_
  refine Ad (AW K_6 (f := V.int .i64) (l := 200) .n rfl rfl .nil rfl si_27 zv_2 rfl rfl rfl <| Ag .n (.t rfl) rfl <| Lex.nil) ?_
  refine Ae ?_
  refine Ae ?_
  refine Ad (Ag .n (.c rfl) rfl <| Lex.nil) ?_
  refine AC ?_
  refine Bp (m_spec_l04Walk_b1 m_ list from_ to) _ _ _ rfl (fun (x1 : (List Int) × Int) => 0 ≤ x1.2 ∧ x1.2 ≤ m_.Junctions ∧ (x1.1.length : Int) + 0 ≤ x1.2 + (K_6.length : Int) ∧ (x1.1.length : Int) = x1.2 ∧ (∀ j, 0 ≤ j → j < x1.2 → at' x1.1 j = -1)) (fun x1 => 0 ≤ x1.2 ∧ x1.2 ≤ m_.Junctions ∧ (x1.1.length : Int) + 0 ≤ x1.2 + (K_6.length : Int) ∧ (x1.1.length : Int) = x1.2 ∧ (∀ j, 0 ≤ j → j < x1.2 → at' x1.1 j = -1) ∧ m_.Junctions ≤ x1.2) (fun x1 => (m_.Junctions - x1.2 : Int).toNat) (fun x1 => ⟨[(0, some (true, .rp [.int .i64 m_.Junctions, .sl 7 (m_.Airways.map Au.v)])), (1, some (true, .sl 1 (list.map (V.int .i64)))), (2, some (true, .int .i64 from_)), (3, some (true, .int .i64 to)), (10, some (true, .os 200 x1.1.length)), (11, some (true, .int .i64 x1.2))], [(200, some (.row 2 1 (x1.1.map (V.int .i64))))]⟩) (fun x1 => ⟨[(0, some (true, .rp [.int .i64 m_.Junctions, .sl 7 (m_.Airways.map Au.v)])), (1, some (true, .sl 1 (list.map (V.int .i64)))), (2, some (true, .int .i64 from_)), (3, some (true, .int .i64 to)), (10, some (true, .os 200 x1.1.length))], [(200, some (.row 2 1 (x1.1.map (V.int .i64))))]⟩) ⟨by omega, by omega, by (simp only [lens] at * <;> omega), by (simp only [lens] at * <;> omega), by omega⟩ (by omega) (sub_of [] ⟨rfl, rfl, rfl, rfl, rfl, rfl, trivial⟩ ⟨rfl, trivial⟩ rfl) ?_ ?_
  · intro x1 i6
    obtain ⟨e63, e64, e65, e66, e67, e68⟩ := i6
    try dsimp only at *
    refine Ae ?_
    refine Ad (Af .n (.t rfl) rfl <| Af .n (.t rfl) rfl <| AX .n (.t rfl) (.t rfl) sl_27 (fun _ => by omega) rfl <| B0 0 .n rfl (.t rfl) (.c rfl) rfl ts_2 (by omega) rfl rfl <| Lex.nil) ?_
    refine Ae ?_
    refine Ae ?_
    refine Ad (Ag .n (.c rfl) rfl <| Lex.nil) ?_
    refine AC ?_
    refine Bp (m_spec_l04Walk_b2 m_ list from_ to x1) _ _ _ rfl (fun (x2 : (List Int) × Int) => 0 ≤ x2.2 ∧ x2.2 ≤ m_.Junctions ∧ Far m_ list to x2.2 x2.1) (fun x2 => 0 ≤ x2.2 ∧ x2.2 ≤ m_.Junctions ∧ Far m_ list to x2.2 x2.1 ∧ m_.Junctions ≤ x2.2) (fun x2 => (m_.Junctions - x2.2 : Int).toNat) (fun x2 => ⟨[(0, some (true, .rp [.int .i64 m_.Junctions, .sl 7 (m_.Airways.map Au.v)])), (1, some (true, .sl 1 (list.map (V.int .i64)))), (2, some (true, .int .i64 from_)), (3, some (true, .int .i64 to)), (10, some (true, .os 200 x2.1.length)), (12, some (true, .int .i64 x2.2))], [(200, some (.row 2 1 (x2.1.map (V.int .i64))))]⟩) (fun x2 => ⟨[(0, some (true, .rp [.int .i64 m_.Junctions, .sl 7 (m_.Airways.map Au.v)])), (1, some (true, .sl 1 (list.map (V.int .i64)))), (2, some (true, .int .i64 from_)), (3, some (true, .int .i64 to)), (10, some (true, .os 200 x2.1.length))], [(200, some (.row 2 1 (x2.1.map (V.int .i64))))]⟩) ⟨by omega, by omega, by ((refine Far.start (by omega) (fun j j0 j1 => ?_) (by omega); exact (by assumption : ∀ j, 0 ≤ j → j < x1.2 → at' x1.1 j = -1) j j0 (by omega)))⟩ (by omega) (sub_of [] ⟨rfl, rfl, rfl, rfl, os_len rfl (by first | (simp only [put_len]; done) | (first | omega | assumption | (simp only [lens] at * <;> omega) | (((refine Far.start (by omega) (fun j j0 j1 => ?_) (by omega); exact (by assumption : ∀ j, 0 ≤ j → j < x1.2 → at' x1.1 j = -1) j j0 (by omega))); done) | (((intro j j0 j1; (try dsimp only at *); omega)); done) | (((dsimp only; exact neg_app (by assumption) (by omega))); done) | ((exact Far.mono (by assumption) (by omega)); done) | (((have hF : Far m_ list to x2.2 x2.1 := (by assumption); have hl := hF.len; have hu := hF.low from_ hp3.1 hp3.2; first | omega | (simp only [List.length_nil]; omega))); done) | ((exact NoStep.nil); done))), rfl, trivial⟩ ⟨rfl, trivial⟩ rfl) ?_ ?_
    · intro x2 i28
      obtain ⟨e56, e57, e58, e59⟩ := i28
      try dsimp only at *
      refine Ae ?_
      refine Ae ?_
      refine Ad (Af .n (.t rfl) rfl <| Af .n (.t rfl) rfl <| AX .n (.t rfl) (.t rfl) sl_27 (fun _ => by ((have hF : Far m_ list to x2.2 x2.1 := (by assumption); have hl := hF.len; have hu := hF.low from_ hp3.1 hp3.2; first | omega | (simp only [List.length_nil]; omega)))) rfl <| A3 .n (.t rfl) rfl (fun _ => by ((have hF : Far m_ list to x2.2 x2.1 := (by assumption); have hl := hF.len; have hu := hF.low from_ hp3.1 hp3.2; first | omega | (simp only [List.length_nil]; omega)))) rfl rfl rfl ic_2 rfl <| AK .n (.t rfl) (.c rfl) rfl rfl <| Lex.nil) ?_
      refine As (.t rfl) rfl (fun h29 => ?_) (fun h29 => ?_)
      · try simp only [tst] at h29
        refine Ae ?_
        refine Ad (Ag .n (.c rfl) rfl <| Ag .n (.c rfl) rfl <| Lex.nil) ?_
        refine CN (sub_adopt (t := 8) (l := 203) (el := 2) (sz := 1) rfl rfl) ?_
        exact Ay [(100, 203)] (.cons (.t rfl rfl) (.cons (.t rfl rfl) .nil)) (by first | rfl | (simp only [put_len]; rfl)) ⟨rfl, trivial⟩ rfl
      · try simp only [tst] at h29
        refine Aw ?_
        refine Ae ?_
        refine Ad (AW K_6 (f := V.int .i64) (l := 204) .n rfl rfl .nil rfl si_27 zv_2 rfl rfl rfl <| Ag .n (.t rfl) rfl <| Lex.nil) ?_
        refine Ae ?_
        refine Ad (Af .n (.t rfl) rfl <| Ag .n (.t rfl) rfl <| Lex.nil) ?_
        refine Ae ?_
        refine AC ?_
        refine Bp (m_spec_l04Walk_b4 m_ list from_ to x1 x2) _ _ _ rfl (fun (x4 : (List Int) × Int) => (0 ≤ x4.2 ∧ x4.2 < m_.Junctions) ∧ 0 ≤ at' x2.1 x4.2 ∧ (x4.1.length : Int) + at' x2.1 x4.2 ≤ 16) (fun x4 => (0 ≤ x4.2 ∧ x4.2 < m_.Junctions) ∧ 0 ≤ at' x2.1 x4.2 ∧ (x4.1.length : Int) + at' x2.1 x4.2 ≤ 16) (fun x4 => (at' x2.1 x4.2).toNat) (fun x4 => ⟨[(0, some (true, .rp [.int .i64 m_.Junctions, .sl 7 (m_.Airways.map Au.v)])), (1, some (true, .sl 1 (list.map (V.int .i64)))), (3, some (true, .int .i64 to)), (10, some (true, .os 200 x2.1.length)), (15, some (true, .os 204 x4.1.length)), (16, some (true, .int .i64 x4.2))], [(200, some (.row 2 1 (x2.1.map (V.int .i64)))), (204, some (.row 2 1 (x4.1.map (V.int .i64))))]⟩) (fun x4 => ⟨[(15, some (true, .os 204 x4.1.length))], [(204, some (.row 2 1 (x4.1.map (V.int .i64))))]⟩) ⟨by omega, by omega, by ((have hF : Far m_ list to x2.2 x2.1 := (by assumption); have hl := hF.len; have hu := hF.low from_ hp3.1 hp3.2; first | omega | (simp only [List.length_nil]; omega)))⟩ (by (simp only [lens] at * <;> omega)) (sub_of [] ⟨rfl, rfl, rfl, rfl, rfl, rfl, trivial⟩ ⟨rfl, rfl, trivial⟩ rfl) ?_ ?_
        · intro x4 i49
          obtain ⟨e50, e51, e52⟩ := i49
          try dsimp only at *
          refine Ae ?_
          refine Ad (Af .n (.t rfl) rfl <| Ag .n (.t rfl) rfl <| Ag .n (.c rfl) rfl <| Lex.nil) ?_
          exact Ay [(100, 204)] (.cons (.t rfl rfl) (.cons (.t rfl rfl) .nil)) (by first | rfl | (simp only [put_len]; rfl)) ⟨rfl, trivial⟩ rfl
        · intro rec4 k4 hk30 x4 i31
          obtain ⟨e53, e54, e55⟩ := i31
          try dsimp only at *
          refine Ae ?_
          refine Ae ?_
          refine Ad (Af .n (.t rfl) rfl <| Af .n (.t rfl) rfl <| AK .n (.t rfl) (.t rfl) rfl rfl <| Lex.nil) ?_
          refine As (.t rfl) rfl (fun h32 => ?_) (fun h32 => ?_)
          · try simp only [tst] at h32
            refine Aw ?_
            refine AC ?_
            refine Ae ?_
            refine Ad (Ag .n (.c rfl) rfl <| Lex.nil) ?_
            refine AC ?_
            refine Bp (m_spec_l04Walk_b5 m_ list from_ to x1 x2 rec4 k4 x4) _ _ _ rfl (fun (x5 : Int × (List Int) × Int) => 0 ≤ x5.1 ∧ x5.1 ≤ (list.length : Int) ∧ x5.2.1.length = x4.1.length ∧ x5.2.2 = x4.2 ∧ (x5.2.1.length : Int) + at' x2.1 x4.2 ≤ 16 ∧ NoStep m_ list x2.1 x4.2 x5.1) (fun x5 => (0 ≤ x5.2.2 ∧ x5.2.2 < m_.Junctions) ∧ 0 ≤ at' x2.1 x5.2.2 ∧ at' x2.1 x5.2.2 < at' x2.1 x4.2 ∧ (x5.2.1.length : Int) + at' x2.1 x5.2.2 ≤ 16) (fun x5 => ((list.length : Int) - x5.1 : Int).toNat) (fun x5 => ⟨[(0, some (true, .rp [.int .i64 m_.Junctions, .sl 7 (m_.Airways.map Au.v)])), (1, some (true, .sl 1 (list.map (V.int .i64)))), (3, some (true, .int .i64 to)), (10, some (true, .os 200 x2.1.length)), (15, some (true, .os 204 x5.2.1.length)), (16, some (true, .int .i64 x5.2.2)), (17, some (true, .int .i64 x5.1))], [(200, some (.row 2 1 (x2.1.map (V.int .i64)))), (204, some (.row 2 1 (x5.2.1.map (V.int .i64))))]⟩) (fun x5 => ⟨[(0, some (true, .rp [.int .i64 m_.Junctions, .sl 7 (m_.Airways.map Au.v)])), (1, some (true, .sl 1 (list.map (V.int .i64)))), (3, some (true, .int .i64 to)), (10, some (true, .os 200 x2.1.length)), (15, some (true, .os 204 x5.2.1.length)), (16, some (true, .int .i64 x5.2.2))], [(200, some (.row 2 1 (x2.1.map (V.int .i64)))), (204, some (.row 2 1 (x5.2.1.map (V.int .i64))))]⟩) ⟨by omega, by omega, by (simp only [lens] at * <;> omega), by (simp only [lens] at * <;> omega), by omega, by ((intro j j0 j1; (try dsimp only at *); omega))⟩ (by omega) (sub_of [] ⟨rfl, rfl, rfl, rfl, rfl, rfl, rfl, trivial⟩ ⟨rfl, rfl, trivial⟩ rfl) ?_ ?_
            · intro x5 i38
              obtain ⟨e39, e40, e41, e42⟩ := i38
              try dsimp only at *
              refine AS ?_
              exact A6 (x5.2.1, x5.2.2) ⟨by omega, by omega, by omega⟩ (by (simp only [lens] at * <;> omega)) (sub_of [] ⟨rfl, rfl, rfl, rfl, rfl, rfl, trivial⟩ ⟨rfl, rfl, trivial⟩ rfl)
            · intro rec5 k5 hk33 x5 i34
              obtain ⟨e43, e44, e45, e46, e47, e48⟩ := i34
              try dsimp only at *
              refine Ae ?_
              refine Ae ?_
              refine Ad (Af .n (.t rfl) rfl <| Af .n (.t rfl) rfl <| BD .n (.t rfl) rfl len_map ss_27 rfl <| AK .n (.t rfl) (.t rfl) rfl rfl <| Lex.nil) ?_
              refine As (.t rfl) rfl (fun h35 => ?_) (fun h35 => ?_)
              · try simp only [tst] at h35
                refine Aw ?_
                refine Ae ?_
                refine AC ?_
                refine Ae ?_
                refine Bl fmo (Af .n (.t rfl) rfl <| AG .n (.t rfl) rfl <| AM .n (.t rfl) fo_26_1 rfl <| Az .n (.t rfl) rfl ic_24 rfl <| Af .n (.t rfl) rfl <| Af .n (.t rfl) rfl <| Bc .n (.t rfl) (.t rfl) sl_27 (fun _ => by omega) rfl <| Az .n (.t rfl) rfl ic_2 rfl <| Bc .n (.t rfl) (.t rfl) sl_24 (fun _ => by ((have hF : Far m_ list to x2.2 x2.1 := (by assumption); have hl := hF.len; have hu := hF.low x4.2 (by omega) (by omega); have h0 := hF.pos (j := x4.2) (by omega) (by omega) (by omega); have hq := ListIn.air hp1 hp2 (i := x5.1) (by omega); have hr := ListIn.at hp2 (i := x5.1) (by omega); have he : at' x2.1 x5.2.2 = at' x2.1 x4.2 := (by rw [show x5.2.2 = x4.2 by assumption]); have hw := wr64 (n := at' x2.1 x5.2.2 - 1) (by omega); first | omega | (dsimp only; omega) | (simp only [List.length_append, List.length_cons, List.length_nil]; omega)))) rfl <| Ag .n (.t rfl) rfl <| Lex.nil) (by kernel_rfl) ?_
                refine Ae ?_
                refine Ae ?_
                refine Bl fmo (Af .n (.t rfl) rfl <| AG .n (.t rfl) rfl <| AM .n (.t rfl) fo_112_1 rfl <| Az .n (.t rfl) rfl ic_2 rfl <| Af .n (.t rfl) rfl <| AK .n (.t rfl) (.t rfl) rfl rfl <| Af .n (.t rfl) rfl <| Af (.t rfl rfl) (.t rfl) rfl <| Af (.t rfl rfl) (.t rfl) rfl <| AG (.t rfl rfl) (.u rfl id) rfl <| AM (.t rfl rfl) (.u rfl id) fo_112_2 rfl <| Az (.t rfl rfl) (.u rfl id) rfl ic_2 rfl <| AX (.t rfl rfl) (.u rfl id) (.u rfl id) sl_27 (fun hg => by simp only [tst] at hg; ((have hF : Far m_ list to x2.2 x2.1 := (by assumption); have hl := hF.len; have hu := hF.low x4.2 (by omega) (by omega); have h0 := hF.pos (j := x4.2) (by omega) (by omega) (by omega); have hq := ListIn.air hp1 hp2 (i := x5.1) (by omega); have hr := ListIn.at hp2 (i := x5.1) (by omega); have he : at' x2.1 x5.2.2 = at' x2.1 x4.2 := (by rw [show x5.2.2 = x4.2 by assumption]); have hw := wr64 (n := at' x2.1 x5.2.2 - 1) (by omega); first | omega | (dsimp only; omega) | (simp only [List.length_append, List.length_cons, List.length_nil]; omega)))) rfl <| A3 (.t rfl rfl) (.u rfl id) rfl (fun hg => by simp only [tst] at hg; ((have hF : Far m_ list to x2.2 x2.1 := (by assumption); have hl := hF.len; have hu := hF.low x4.2 (by omega) (by omega); have h0 := hF.pos (j := x4.2) (by omega) (by omega) (by omega); have hq := ListIn.air hp1 hp2 (i := x5.1) (by omega); have hr := ListIn.at hp2 (i := x5.1) (by omega); have he : at' x2.1 x5.2.2 = at' x2.1 x4.2 := (by rw [show x5.2.2 = x4.2 by assumption]); have hw := wr64 (n := at' x2.1 x5.2.2 - 1) (by omega); first | omega | (dsimp only; omega) | (simp only [List.length_append, List.length_cons, List.length_nil]; omega)))) rfl rfl rfl ic_2 rfl <| Af (.t rfl rfl) (.t rfl) rfl <| Af (.t rfl rfl) (.t rfl) rfl <| AX (.t rfl rfl) (.u rfl id) (.u rfl id) sl_27 (fun hg => by simp only [tst] at hg; ((have hF : Far m_ list to x2.2 x2.1 := (by assumption); have hl := hF.len; have hu := hF.low from_ hp3.1 hp3.2; first | omega | (simp only [List.length_nil]; omega)))) rfl <| A3 (.t rfl rfl) (.u rfl id) rfl (fun hg => by simp only [tst] at hg; ((have hF : Far m_ list to x2.2 x2.1 := (by assumption); have hl := hF.len; have hu := hF.low from_ hp3.1 hp3.2; first | omega | (simp only [List.length_nil]; omega)))) rfl rfl rfl ic_2 rfl <| AK (.t rfl rfl) (.u rfl id) (.c rfl) rfl rfl <| AK (.t rfl rfl) (.u rfl id) (.u rfl id) rfl rfl <| Cz .n (.t rfl) (.u rfl id) rfl <| Lex.nil) (by kernel_rfl) ?_
                refine As (.t rfl) rfl (fun h36 => ?_) (fun h36 => ?_)
                · try simp only [tst] at h36
                  refine Ae ?_
                  refine Ad (Af .n (.t rfl) rfl <| Af .n (.t rfl) rfl <| Af .n (.t rfl) rfl <| Bc .n (.t rfl) (.t rfl) sl_27 (fun _ => by omega) rfl <| Az .n (.t rfl) rfl ic_2 rfl <| AK .n (.t rfl) (.c rfl) rfl rfl <| AW ([IntKind.wrap .i64 ((at' list x5.1) + 1)] : List Int) (f := V.int .i64) (l := 205) .n rfl rfl (.cons (.t rfl) .nil) rfl si_27 zv_2 rfl rfl rfl <| CD (xs := x5.2.1) (ys := ([IntKind.wrap .i64 ((at' list x5.1) + 1)] : List Int)) (f := V.int .i64) (l := 206) .n rfl (.ow (.t rfl) rfl (take_all (by simp only [len_map, put_len] <;> rfl)) (by simp only [len_map, put_len] <;> rfl)) (.ow (.t rfl) rfl (take_all (by simp only [len_map, put_len] <;> rfl)) (by simp only [len_map, put_len] <;> rfl)) si_27 zv_2 rfl (by (simp only [lens] at * <;> omega)) rfl rfl <| Ag .n (.t rfl) rfl <| Lex.nil) ?_
                  refine Ae ?_
                  refine Ad (Af .n (.t rfl) rfl <| AG .n (.t rfl) rfl <| AM .n (.t rfl) fo_112_2 rfl <| Az .n (.t rfl) rfl ic_2 rfl <| Ag .n (.t rfl) rfl <| Lex.nil) ?_
                  refine Ba rfl ?_
                  exact AY hk33 (x5.1, x5.2.1 ++ ([IntKind.wrap .i64 ((at' list x5.1) + 1)] : List Int), (at' m_.Airways (at' list x5.1)).To) ⟨by ((have hF : Far m_ list to x2.2 x2.1 := (by assumption); have hl := hF.len; have hu := hF.low x4.2 (by omega) (by omega); have h0 := hF.pos (j := x4.2) (by omega) (by omega) (by omega); have hq := ListIn.air hp1 hp2 (i := x5.1) (by omega); have hr := ListIn.at hp2 (i := x5.1) (by omega); have he : at' x2.1 x5.2.2 = at' x2.1 x4.2 := (by rw [show x5.2.2 = x4.2 by assumption]); have hw := wr64 (n := at' x2.1 x5.2.2 - 1) (by omega); first | omega | (dsimp only; omega) | (simp only [List.length_append, List.length_cons, List.length_nil]; omega))), by ((have hF : Far m_ list to x2.2 x2.1 := (by assumption); have hl := hF.len; have hu := hF.low x4.2 (by omega) (by omega); have h0 := hF.pos (j := x4.2) (by omega) (by omega) (by omega); have hq := ListIn.air hp1 hp2 (i := x5.1) (by omega); have hr := ListIn.at hp2 (i := x5.1) (by omega); have he : at' x2.1 x5.2.2 = at' x2.1 x4.2 := (by rw [show x5.2.2 = x4.2 by assumption]); have hw := wr64 (n := at' x2.1 x5.2.2 - 1) (by omega); first | omega | (dsimp only; omega) | (simp only [List.length_append, List.length_cons, List.length_nil]; omega))), by ((have hF : Far m_ list to x2.2 x2.1 := (by assumption); have hl := hF.len; have hu := hF.low x4.2 (by omega) (by omega); have h0 := hF.pos (j := x4.2) (by omega) (by omega) (by omega); have hq := ListIn.air hp1 hp2 (i := x5.1) (by omega); have hr := ListIn.at hp2 (i := x5.1) (by omega); have he : at' x2.1 x5.2.2 = at' x2.1 x4.2 := (by rw [show x5.2.2 = x4.2 by assumption]); have hw := wr64 (n := at' x2.1 x5.2.2 - 1) (by omega); first | omega | (dsimp only; omega) | (simp only [List.length_append, List.length_cons, List.length_nil]; omega))), by ((have hF : Far m_ list to x2.2 x2.1 := (by assumption); have hl := hF.len; have hu := hF.low x4.2 (by omega) (by omega); have h0 := hF.pos (j := x4.2) (by omega) (by omega) (by omega); have hq := ListIn.air hp1 hp2 (i := x5.1) (by omega); have hr := ListIn.at hp2 (i := x5.1) (by omega); have he : at' x2.1 x5.2.2 = at' x2.1 x4.2 := (by rw [show x5.2.2 = x4.2 by assumption]); have hw := wr64 (n := at' x2.1 x5.2.2 - 1) (by omega); first | omega | (dsimp only; omega) | (simp only [List.length_append, List.length_cons, List.length_nil]; omega)))⟩ (sub_of [(204, 206)] ⟨rfl, rfl, rfl, rfl, rfl, rfl, trivial⟩ ⟨rfl, rfl, trivial⟩ rfl)
                · try simp only [tst] at h36
                  refine Aw ?_
                  refine Ae ?_
                  refine Bl fmo (Af .n (.t rfl) rfl <| AG .n (.t rfl) rfl <| AM .n (.t rfl) fo_112_2 rfl <| Az .n (.t rfl) rfl ic_2 rfl <| Af .n (.t rfl) rfl <| AK .n (.t rfl) (.t rfl) rfl rfl <| Af .n (.t rfl) rfl <| Af (.t rfl rfl) (.t rfl) rfl <| Af (.t rfl rfl) (.t rfl) rfl <| AG (.t rfl rfl) (.u rfl id) rfl <| AM (.t rfl rfl) (.u rfl id) fo_112_1 rfl <| Az (.t rfl rfl) (.u rfl id) rfl ic_2 rfl <| AX (.t rfl rfl) (.u rfl id) (.u rfl id) sl_27 (fun hg => by simp only [tst] at hg; ((have hF : Far m_ list to x2.2 x2.1 := (by assumption); have hl := hF.len; have hu := hF.low x4.2 (by omega) (by omega); have h0 := hF.pos (j := x4.2) (by omega) (by omega) (by omega); have hq := ListIn.air hp1 hp2 (i := x5.1) (by omega); have hr := ListIn.at hp2 (i := x5.1) (by omega); have he : at' x2.1 x5.2.2 = at' x2.1 x4.2 := (by rw [show x5.2.2 = x4.2 by assumption]); have hw := wr64 (n := at' x2.1 x5.2.2 - 1) (by omega); first | omega | (dsimp only; omega) | (simp only [List.length_append, List.length_cons, List.length_nil]; omega)))) rfl <| A3 (.t rfl rfl) (.u rfl id) rfl (fun hg => by simp only [tst] at hg; ((have hF : Far m_ list to x2.2 x2.1 := (by assumption); have hl := hF.len; have hu := hF.low x4.2 (by omega) (by omega); have h0 := hF.pos (j := x4.2) (by omega) (by omega) (by omega); have hq := ListIn.air hp1 hp2 (i := x5.1) (by omega); have hr := ListIn.at hp2 (i := x5.1) (by omega); have he : at' x2.1 x5.2.2 = at' x2.1 x4.2 := (by rw [show x5.2.2 = x4.2 by assumption]); have hw := wr64 (n := at' x2.1 x5.2.2 - 1) (by omega); first | omega | (dsimp only; omega) | (simp only [List.length_append, List.length_cons, List.length_nil]; omega)))) rfl rfl rfl ic_2 rfl <| Af (.t rfl rfl) (.t rfl) rfl <| Af (.t rfl rfl) (.t rfl) rfl <| AX (.t rfl rfl) (.u rfl id) (.u rfl id) sl_27 (fun hg => by simp only [tst] at hg; ((have hF : Far m_ list to x2.2 x2.1 := (by assumption); have hl := hF.len; have hu := hF.low from_ hp3.1 hp3.2; first | omega | (simp only [List.length_nil]; omega)))) rfl <| A3 (.t rfl rfl) (.u rfl id) rfl (fun hg => by simp only [tst] at hg; ((have hF : Far m_ list to x2.2 x2.1 := (by assumption); have hl := hF.len; have hu := hF.low from_ hp3.1 hp3.2; first | omega | (simp only [List.length_nil]; omega)))) rfl rfl rfl ic_2 rfl <| AK (.t rfl rfl) (.u rfl id) (.c rfl) rfl rfl <| AK (.t rfl rfl) (.u rfl id) (.u rfl id) rfl rfl <| Cz .n (.t rfl) (.u rfl id) rfl <| Lex.nil) (by kernel_rfl) ?_
                  refine As (.t rfl) rfl (fun h37 => ?_) (fun h37 => ?_)
                  · try simp only [tst] at h37
                    refine Ae ?_
                    refine Ad (Af .n (.t rfl) rfl <| Af .n (.t rfl) rfl <| Af .n (.t rfl) rfl <| Bc .n (.t rfl) (.t rfl) sl_27 (fun _ => by omega) rfl <| Az .n (.t rfl) rfl ic_2 rfl <| q_neg .n (.t rfl) rfl <| AK .n (.t rfl) (.c rfl) rfl rfl <| AW ([IntKind.wrap .i64 ((IntKind.wrap .i64 (0 - (at' list x5.1))) - 1)] : List Int) (f := V.int .i64) (l := 207) .n rfl rfl (.cons (.t rfl) .nil) rfl si_27 zv_2 rfl rfl rfl <| CD (xs := x5.2.1) (ys := ([IntKind.wrap .i64 ((IntKind.wrap .i64 (0 - (at' list x5.1))) - 1)] : List Int)) (f := V.int .i64) (l := 208) .n rfl (.ow (.t rfl) rfl (take_all (by simp only [len_map, put_len] <;> rfl)) (by simp only [len_map, put_len] <;> rfl)) (.ow (.t rfl) rfl (take_all (by simp only [len_map, put_len] <;> rfl)) (by simp only [len_map, put_len] <;> rfl)) si_27 zv_2 rfl (by (simp only [lens] at * <;> omega)) rfl rfl <| Ag .n (.t rfl) rfl <| Lex.nil) ?_
                    refine Ae ?_
                    refine Ad (Af .n (.t rfl) rfl <| AG .n (.t rfl) rfl <| AM .n (.t rfl) fo_112_1 rfl <| Az .n (.t rfl) rfl ic_2 rfl <| Ag .n (.t rfl) rfl <| Lex.nil) ?_
                    refine Ba rfl ?_
                    exact AY hk33 (x5.1, x5.2.1 ++ ([IntKind.wrap .i64 ((IntKind.wrap .i64 (0 - (at' list x5.1))) - 1)] : List Int), (at' m_.Airways (at' list x5.1)).From) ⟨by ((have hF : Far m_ list to x2.2 x2.1 := (by assumption); have hl := hF.len; have hu := hF.low x4.2 (by omega) (by omega); have h0 := hF.pos (j := x4.2) (by omega) (by omega) (by omega); have hq := ListIn.air hp1 hp2 (i := x5.1) (by omega); have hr := ListIn.at hp2 (i := x5.1) (by omega); have he : at' x2.1 x5.2.2 = at' x2.1 x4.2 := (by rw [show x5.2.2 = x4.2 by assumption]); have hw := wr64 (n := at' x2.1 x5.2.2 - 1) (by omega); first | omega | (dsimp only; omega) | (simp only [List.length_append, List.length_cons, List.length_nil]; omega))), by ((have hF : Far m_ list to x2.2 x2.1 := (by assumption); have hl := hF.len; have hu := hF.low x4.2 (by omega) (by omega); have h0 := hF.pos (j := x4.2) (by omega) (by omega) (by omega); have hq := ListIn.air hp1 hp2 (i := x5.1) (by omega); have hr := ListIn.at hp2 (i := x5.1) (by omega); have he : at' x2.1 x5.2.2 = at' x2.1 x4.2 := (by rw [show x5.2.2 = x4.2 by assumption]); have hw := wr64 (n := at' x2.1 x5.2.2 - 1) (by omega); first | omega | (dsimp only; omega) | (simp only [List.length_append, List.length_cons, List.length_nil]; omega))), by ((have hF : Far m_ list to x2.2 x2.1 := (by assumption); have hl := hF.len; have hu := hF.low x4.2 (by omega) (by omega); have h0 := hF.pos (j := x4.2) (by omega) (by omega) (by omega); have hq := ListIn.air hp1 hp2 (i := x5.1) (by omega); have hr := ListIn.at hp2 (i := x5.1) (by omega); have he : at' x2.1 x5.2.2 = at' x2.1 x4.2 := (by rw [show x5.2.2 = x4.2 by assumption]); have hw := wr64 (n := at' x2.1 x5.2.2 - 1) (by omega); first | omega | (dsimp only; omega) | (simp only [List.length_append, List.length_cons, List.length_nil]; omega))), by ((have hF : Far m_ list to x2.2 x2.1 := (by assumption); have hl := hF.len; have hu := hF.low x4.2 (by omega) (by omega); have h0 := hF.pos (j := x4.2) (by omega) (by omega) (by omega); have hq := ListIn.air hp1 hp2 (i := x5.1) (by omega); have hr := ListIn.at hp2 (i := x5.1) (by omega); have he : at' x2.1 x5.2.2 = at' x2.1 x4.2 := (by rw [show x5.2.2 = x4.2 by assumption]); have hw := wr64 (n := at' x2.1 x5.2.2 - 1) (by omega); first | omega | (dsimp only; omega) | (simp only [List.length_append, List.length_cons, List.length_nil]; omega)))⟩ (sub_of [(204, 208)] ⟨rfl, rfl, rfl, rfl, rfl, rfl, trivial⟩ ⟨rfl, rfl, trivial⟩ rfl)
                  · try simp only [tst] at h37
                    refine Aw ?_
                    refine AS ?_
                    refine Ad (Af .n (.t rfl) rfl <| BQ .n (.t rfl) (.c rfl) (fun _ => by omega) rfl <| Ag .n (.t rfl) rfl <| Lex.nil) ?_
                    exact A6 (x5.1 + 1, x5.2.1, x5.2.2) ⟨by omega, by omega, by omega, by omega, by omega, by ((have hF : Far m_ list to x2.2 x2.1 := (by assumption); have hl := hF.len; have hu := hF.low x4.2 (by omega) (by omega); have h0 := hF.pos (j := x4.2) (by omega) (by omega) (by omega); have hq := ListIn.air hp1 hp2 (i := x5.1) (by omega); have hr := ListIn.at hp2 (i := x5.1) (by omega); have he : at' x2.1 x5.2.2 = at' x2.1 x4.2 := (by rw [show x5.2.2 = x4.2 by assumption]); have hw := wr64 (n := at' x2.1 x5.2.2 - 1) (by omega); exact NoStep.skip (by assumption) (fun hS => by unfold StepTo at hS; omega)))⟩ (by omega) (sub_of [] ⟨rfl, rfl, rfl, rfl, rfl, rfl, rfl, trivial⟩ ⟨rfl, rfl, trivial⟩ rfl)
              · try simp only [tst] at h35
                refine Ba rfl ?_
                exact AY hk33 (x5.1, x5.2.1, x5.2.2) ⟨by (simp only [lens] at * <;> omega), by (exact (Far.stuck (n := x5.1) (j := x4.2) (by assumption) (by omega) (by omega) (by omega) (by omega) (by assumption)).elim), by (exact (Far.stuck (n := x5.1) (j := x4.2) (by assumption) (by omega) (by omega) (by omega) (by omega) (by assumption)).elim), by (exact (Far.stuck (n := x5.1) (j := x4.2) (by assumption) (by omega) (by omega) (by omega) (by omega) (by assumption)).elim)⟩ (sub_of [] ⟨rfl, rfl, rfl, rfl, rfl, rfl, trivial⟩ ⟨rfl, rfl, trivial⟩ rfl)
          · try simp only [tst] at h32
            refine Ba rfl ?_
            exact AY hk30 (x4.1, x4.2) ⟨by omega, by omega, by omega⟩ (sub_of [] ⟨rfl, trivial⟩ ⟨rfl, trivial⟩ rfl)
    · intro rec2 k2 hk7 x2 i8
      obtain ⟨e60, e61, e62⟩ := i8
      try dsimp only at *
      refine Ae ?_
      refine Ae ?_
      refine Ad (Af .n (.t rfl) rfl <| Af .n (.t rfl) rfl <| AG .n (.t rfl) rfl <| AM .n (.t rfl) fo_26_0 rfl <| Az .n (.t rfl) rfl ic_2 rfl <| AK .n (.t rfl) (.t rfl) rfl rfl <| Lex.nil) ?_
      refine As (.t rfl) rfl (fun h9 => ?_) (fun h9 => ?_)
      · try simp only [tst] at h9
        refine Aw ?_
        refine Ae ?_
        refine AC ?_
        refine Ae ?_
        refine Ad (Ag .n (.c rfl) rfl <| Lex.nil) ?_
        refine AC ?_
        refine Bp (m_spec_l04Walk_b3 m_ list from_ to x1 rec2 k2 x2) _ _ _ rfl (fun (x3 : (List Int) × Int) => 0 ≤ x3.2 ∧ x3.2 ≤ (list.length : Int) ∧ Far m_ list to (x2.2 + 1) x3.1) (fun x3 => 0 ≤ x3.2 ∧ x3.2 ≤ (list.length : Int) ∧ Far m_ list to (x2.2 + 1) x3.1 ∧ (list.length : Int) ≤ x3.2) (fun x3 => ((list.length : Int) - x3.2 : Int).toNat) (fun x3 => ⟨[(0, some (true, .rp [.int .i64 m_.Junctions, .sl 7 (m_.Airways.map Au.v)])), (1, some (true, .sl 1 (list.map (V.int .i64)))), (2, some (true, .int .i64 from_)), (3, some (true, .int .i64 to)), (10, some (true, .os 200 x3.1.length)), (12, some (true, .int .i64 x2.2)), (13, some (true, .int .i64 x3.2))], [(200, some (.row 2 1 (x3.1.map (V.int .i64))))]⟩) (fun x3 => ⟨[(0, some (true, .rp [.int .i64 m_.Junctions, .sl 7 (m_.Airways.map Au.v)])), (1, some (true, .sl 1 (list.map (V.int .i64)))), (2, some (true, .int .i64 from_)), (3, some (true, .int .i64 to)), (10, some (true, .os 200 x3.1.length)), (12, some (true, .int .i64 x2.2))], [(200, some (.row 2 1 (x3.1.map (V.int .i64))))]⟩) ⟨by omega, by omega, by (exact Far.mono (by assumption) (by omega))⟩ (by omega) (sub_of [] ⟨rfl, rfl, rfl, rfl, rfl, rfl, rfl, trivial⟩ ⟨rfl, trivial⟩ rfl) ?_ ?_
        · intro x3 i20
          obtain ⟨e21, e22, e23, e24⟩ := i20
          try dsimp only at *
          refine AS ?_
          refine Ad (Af .n (.t rfl) rfl <| BQ .n (.t rfl) (.c rfl) (fun _ => by omega) rfl <| Ag .n (.t rfl) rfl <| Lex.nil) ?_
          exact A6 (x3.1, x2.2 + 1) ⟨by omega, by omega, by omega⟩ (by omega) (sub_of [] ⟨rfl, rfl, rfl, rfl, rfl, rfl, trivial⟩ ⟨rfl, trivial⟩ rfl)
        · intro rec3 k3 hk10 x3 i11
          obtain ⟨e25, e26, e27⟩ := i11
          try dsimp only at *
          refine Ae ?_
          refine Ae ?_
          refine Ad (Af .n (.t rfl) rfl <| Af .n (.t rfl) rfl <| BD .n (.t rfl) rfl len_map ss_27 rfl <| AK .n (.t rfl) (.t rfl) rfl rfl <| Lex.nil) ?_
          refine As (.t rfl) rfl (fun h12 => ?_) (fun h12 => ?_)
          · try simp only [tst] at h12
            refine Aw ?_
            refine Ae ?_
            refine AC ?_
            refine Ae ?_
            refine Bl fmo (Af .n (.t rfl) rfl <| AG .n (.t rfl) rfl <| AM .n (.t rfl) fo_26_1 rfl <| Az .n (.t rfl) rfl ic_24 rfl <| Af .n (.t rfl) rfl <| Af .n (.t rfl) rfl <| Bc .n (.t rfl) (.t rfl) sl_27 (fun _ => by omega) rfl <| Az .n (.t rfl) rfl ic_2 rfl <| Bc .n (.t rfl) (.t rfl) sl_24 (fun _ => by ((have hF : Far m_ list to (x2.2 + 1) x3.1 := (by assumption); have hl := hF.len; have hq := ListIn.air hp1 hp2 (i := x3.2) (by omega); have hr := ListIn.at hp2 (i := x3.2) (by omega); first | omega | (dsimp only; omega)))) rfl <| Ag .n (.t rfl) rfl <| Lex.nil) (by kernel_rfl) ?_
            refine Ae ?_
            refine Ae ?_
            refine Ad (Af .n (.t rfl) rfl <| Af .n (.t rfl) rfl <| AG .n (.t rfl) rfl <| AM .n (.t rfl) fo_112_1 rfl <| Az .n (.t rfl) rfl ic_2 rfl <| AX .n (.t rfl) (.t rfl) sl_27 (fun _ => by ((have hF : Far m_ list to (x2.2 + 1) x3.1 := (by assumption); have hl := hF.len; have hq := ListIn.air hp1 hp2 (i := x3.2) (by omega); have hr := ListIn.at hp2 (i := x3.2) (by omega); first | omega | (dsimp only; omega)))) rfl <| A3 .n (.t rfl) rfl (fun _ => by ((have hF : Far m_ list to (x2.2 + 1) x3.1 := (by assumption); have hl := hF.len; have hq := ListIn.air hp1 hp2 (i := x3.2) (by omega); have hr := ListIn.at hp2 (i := x3.2) (by omega); first | omega | (dsimp only; omega)))) rfl rfl rfl ic_2 rfl <| Af .n (.t rfl) rfl <| AK .n (.t rfl) (.t rfl) rfl rfl <| Af .n (.t rfl) rfl <| Af (.t rfl rfl) (.t rfl) rfl <| Af (.t rfl rfl) (.t rfl) rfl <| AG (.t rfl rfl) (.u rfl id) rfl <| AM (.t rfl rfl) (.u rfl id) fo_112_2 rfl <| Az (.t rfl rfl) (.u rfl id) rfl ic_2 rfl <| AX (.t rfl rfl) (.u rfl id) (.u rfl id) sl_27 (fun hg => by simp only [tst] at hg; ((have hF : Far m_ list to (x2.2 + 1) x3.1 := (by assumption); have hl := hF.len; have hq := ListIn.air hp1 hp2 (i := x3.2) (by omega); have hr := ListIn.at hp2 (i := x3.2) (by omega); first | omega | (dsimp only; omega)))) rfl <| A3 (.t rfl rfl) (.u rfl id) rfl (fun hg => by simp only [tst] at hg; ((have hF : Far m_ list to (x2.2 + 1) x3.1 := (by assumption); have hl := hF.len; have hq := ListIn.air hp1 hp2 (i := x3.2) (by omega); have hr := ListIn.at hp2 (i := x3.2) (by omega); first | omega | (dsimp only; omega)))) rfl rfl rfl ic_2 rfl <| AK (.t rfl rfl) (.u rfl id) (.c rfl) rfl rfl <| Cz .n (.t rfl) (.u rfl id) rfl <| Lex.nil) ?_
            refine C7 _ _ rfl (fun v13 : (List Int) => Far m_ list to (x2.2 + 1) v13) (fun v13 => ⟨[(0, some (true, .rp [.int .i64 m_.Junctions, .sl 7 (m_.Airways.map Au.v)])), (1, some (true, .sl 1 (list.map (V.int .i64)))), (2, some (true, .int .i64 from_)), (3, some (true, .int .i64 to)), (10, some (true, .os 200 v13.length)), (12, some (true, .int .i64 x2.2)), (13, some (true, .int .i64 x3.2)), (14, some (true, .rp [.str (at' m_.Airways (at' list x3.2)).Id, .int .i64 (at' m_.Airways (at' list x3.2)).From, .int .i64 (at' m_.Airways (at' list x3.2)).To, .int .i64 (at' m_.Airways (at' list x3.2)).Length, .int .i64 (at' m_.Airways (at' list x3.2)).Section, .int .i64 (at' m_.Airways (at' list x3.2)).Friction, .int .i64 (at' m_.Airways (at' list x3.2)).Shock]))], [(200, some (.row 2 1 (v13.map (V.int .i64))))]⟩) (fun v13 hv18 => ?_) (fun j14 hj15 => ?_)
            · have e19 := hv18
              refine Ae ?_
              refine Ad (Af .n (.t rfl) rfl <| Af .n (.t rfl) rfl <| AG .n (.t rfl) rfl <| AM .n (.t rfl) fo_112_2 rfl <| Az .n (.t rfl) rfl ic_2 rfl <| AX .n (.t rfl) (.t rfl) sl_27 (fun _ => by ((have hF : Far m_ list to (x2.2 + 1) v13 := (by assumption); have hl := hF.len; have hq := ListIn.air hp1 hp2 (i := x3.2) (by omega); have hr := ListIn.at hp2 (i := x3.2) (by omega); first | omega | (dsimp only; omega)))) rfl <| A3 .n (.t rfl) rfl (fun _ => by ((have hF : Far m_ list to (x2.2 + 1) v13 := (by assumption); have hl := hF.len; have hq := ListIn.air hp1 hp2 (i := x3.2) (by omega); have hr := ListIn.at hp2 (i := x3.2) (by omega); first | omega | (dsimp only; omega)))) rfl rfl rfl ic_2 rfl <| Af .n (.t rfl) rfl <| AK .n (.t rfl) (.t rfl) rfl rfl <| Af .n (.t rfl) rfl <| Af (.t rfl rfl) (.t rfl) rfl <| Af (.t rfl rfl) (.t rfl) rfl <| AG (.t rfl rfl) (.u rfl id) rfl <| AM (.t rfl rfl) (.u rfl id) fo_112_1 rfl <| Az (.t rfl rfl) (.u rfl id) rfl ic_2 rfl <| AX (.t rfl rfl) (.u rfl id) (.u rfl id) sl_27 (fun hg => by simp only [tst] at hg; ((have hF : Far m_ list to (x2.2 + 1) v13 := (by assumption); have hl := hF.len; have hq := ListIn.air hp1 hp2 (i := x3.2) (by omega); have hr := ListIn.at hp2 (i := x3.2) (by omega); first | omega | (dsimp only; omega)))) rfl <| A3 (.t rfl rfl) (.u rfl id) rfl (fun hg => by simp only [tst] at hg; ((have hF : Far m_ list to (x2.2 + 1) v13 := (by assumption); have hl := hF.len; have hq := ListIn.air hp1 hp2 (i := x3.2) (by omega); have hr := ListIn.at hp2 (i := x3.2) (by omega); first | omega | (dsimp only; omega)))) rfl rfl rfl ic_2 rfl <| AK (.t rfl rfl) (.u rfl id) (.c rfl) rfl rfl <| Cz .n (.t rfl) (.u rfl id) rfl <| Lex.nil) ?_
              refine As (.t rfl) rfl (fun h17 => ?_) (fun h17 => ?_)
              · try simp only [tst] at h17
                refine Ad (Af .n (.t rfl) rfl <| Af .n (.t rfl) rfl <| AG .n (.t rfl) rfl <| AM .n (.t rfl) fo_112_1 rfl <| Az .n (.t rfl) rfl ic_2 rfl <| Af .n (.t rfl) rfl <| BQ .n (.t rfl) (.c rfl) (fun _ => by omega) rfl <| AX .n (.t rfl) (.t rfl) sl_27 (fun _ => by ((have hF : Far m_ list to (x2.2 + 1) v13 := (by assumption); have hl := hF.len; have hq := ListIn.air hp1 hp2 (i := x3.2) (by omega); have hr := ListIn.at hp2 (i := x3.2) (by omega); first | omega | (dsimp only; omega)))) rfl <| B0 (x2.2 + 1) .n rfl (.t rfl) (.t rfl) rfl ts_2 (by ((have hF : Far m_ list to (x2.2 + 1) v13 := (by assumption); have hl := hF.len; have hq := ListIn.air hp1 hp2 (i := x3.2) (by omega); have hr := ListIn.at hp2 (i := x3.2) (by omega); first | omega | (dsimp only; omega)))) rfl rfl <| Lex.nil) ?_
                refine AS ?_
                refine Ad (Af .n (.t rfl) rfl <| BQ .n (.t rfl) (.c rfl) (fun _ => by omega) rfl <| Ag .n (.t rfl) rfl <| Lex.nil) ?_
                exact A6 (put' v13 (at' m_.Airways (at' list x3.2)).From (x2.2 + 1), x3.2 + 1) ⟨by omega, by omega, by ((have hF : Far m_ list to (x2.2 + 1) v13 := (by assumption); have hl := hF.len; have hq := ListIn.air hp1 hp2 (i := x3.2) (by omega); have hr := ListIn.at hp2 (i := x3.2) (by omega); (try dsimp only); exact hF.set hp1 hp2 (i := x3.2) ⟨by omega, by omega⟩ ⟨hq.2.2.1, hq.2.2.2⟩ ⟨hq.1, hq.2.1⟩ (by omega) (by omega) (by omega) (by omega) (.inr ⟨rfl, rfl⟩)))⟩ (by omega) (sub_of [] ⟨rfl, rfl, rfl, rfl, os_len rfl (by first | (simp only [put_len]; done) | (first | omega | assumption | (simp only [lens] at * <;> omega) | (((have hF : Far m_ list to (x2.2 + 1) x3.1 := (by assumption); have hl := hF.len; have hq := ListIn.air hp1 hp2 (i := x3.2) (by omega); have hr := ListIn.at hp2 (i := x3.2) (by omega); first | omega | (dsimp only; omega))); done) | (((have hF : Far m_ list to (x2.2 + 1) v13 := (by assumption); have hl := hF.len; have hq := ListIn.air hp1 hp2 (i := x3.2) (by omega); have hr := ListIn.at hp2 (i := x3.2) (by omega); first | omega | (dsimp only; omega))); done) | (((have hF : Far m_ list to (x2.2 + 1) x3.1 := (by assumption); have hl := hF.len; have hq := ListIn.air hp1 hp2 (i := x3.2) (by omega); have hr := ListIn.at hp2 (i := x3.2) (by omega); (try dsimp only); exact hF.set hp1 hp2 (i := x3.2) ⟨by omega, by omega⟩ ⟨hq.1, hq.2.1⟩ ⟨hq.2.2.1, hq.2.2.2⟩ (by omega) (by omega) (by omega) (by omega) (.inl ⟨rfl, rfl⟩))); done) | (((have hF : Far m_ list to (x2.2 + 1) v13 := (by assumption); have hl := hF.len; have hq := ListIn.air hp1 hp2 (i := x3.2) (by omega); have hr := ListIn.at hp2 (i := x3.2) (by omega); (try dsimp only); exact hF.set hp1 hp2 (i := x3.2) ⟨by omega, by omega⟩ ⟨hq.2.2.1, hq.2.2.2⟩ ⟨hq.1, hq.2.1⟩ (by omega) (by omega) (by omega) (by omega) (.inr ⟨rfl, rfl⟩))); done) | (((refine Far.start (by omega) (fun j j0 j1 => ?_) (by omega); exact (by assumption : ∀ j, 0 ≤ j → j < x1.2 → at' x1.1 j = -1) j j0 (by omega))); done) | (((intro j j0 j1; (try dsimp only at *); omega)); done) | (((dsimp only; exact neg_app (by assumption) (by omega))); done) | ((exact Far.mono (by assumption) (by omega)); done) | (((have hF : Far m_ list to x2.2 x2.1 := (by assumption); have hl := hF.len; have hu := hF.low from_ hp3.1 hp3.2; first | omega | (simp only [List.length_nil]; omega))); done) | ((exact NoStep.nil); done))), rfl, rfl, trivial⟩ ⟨rfl, trivial⟩ rfl)
              · try simp only [tst] at h17
                refine Aw ?_
                refine AS ?_
                refine Ad (Af .n (.t rfl) rfl <| BQ .n (.t rfl) (.c rfl) (fun _ => by omega) rfl <| Ag .n (.t rfl) rfl <| Lex.nil) ?_
                exact A6 (v13, x3.2 + 1) ⟨by omega, by omega, by omega⟩ (by omega) (sub_of [] ⟨rfl, rfl, rfl, rfl, rfl, rfl, rfl, trivial⟩ ⟨rfl, trivial⟩ rfl)
            · refine As (.t rfl) rfl (fun h16 => ?_) (fun h16 => ?_)
              · try simp only [tst] at h16
                refine Ad (Af .n (.t rfl) rfl <| Af .n (.t rfl) rfl <| AG .n (.t rfl) rfl <| AM .n (.t rfl) fo_112_2 rfl <| Az .n (.t rfl) rfl ic_2 rfl <| Af .n (.t rfl) rfl <| BQ .n (.t rfl) (.c rfl) (fun _ => by omega) rfl <| AX .n (.t rfl) (.t rfl) sl_27 (fun _ => by ((have hF : Far m_ list to (x2.2 + 1) x3.1 := (by assumption); have hl := hF.len; have hq := ListIn.air hp1 hp2 (i := x3.2) (by omega); have hr := ListIn.at hp2 (i := x3.2) (by omega); first | omega | (dsimp only; omega)))) rfl <| B0 (x2.2 + 1) .n rfl (.t rfl) (.t rfl) rfl ts_2 (by ((have hF : Far m_ list to (x2.2 + 1) x3.1 := (by assumption); have hl := hF.len; have hq := ListIn.air hp1 hp2 (i := x3.2) (by omega); have hr := ListIn.at hp2 (i := x3.2) (by omega); first | omega | (dsimp only; omega)))) rfl rfl <| Lex.nil) ?_
                exact AY hj15 (put' x3.1 (at' m_.Airways (at' list x3.2)).To (x2.2 + 1)) (by ((have hF : Far m_ list to (x2.2 + 1) x3.1 := (by assumption); have hl := hF.len; have hq := ListIn.air hp1 hp2 (i := x3.2) (by omega); have hr := ListIn.at hp2 (i := x3.2) (by omega); (try dsimp only); exact hF.set hp1 hp2 (i := x3.2) ⟨by omega, by omega⟩ ⟨hq.1, hq.2.1⟩ ⟨hq.2.2.1, hq.2.2.2⟩ (by omega) (by omega) (by omega) (by omega) (.inl ⟨rfl, rfl⟩)))) (sub_of [] ⟨rfl, rfl, rfl, rfl, os_len rfl (by first | (simp only [put_len]; done) | (first | omega | assumption | (simp only [lens] at * <;> omega) | (((have hF : Far m_ list to (x2.2 + 1) x3.1 := (by assumption); have hl := hF.len; have hq := ListIn.air hp1 hp2 (i := x3.2) (by omega); have hr := ListIn.at hp2 (i := x3.2) (by omega); first | omega | (dsimp only; omega))); done) | (((have hF : Far m_ list to (x2.2 + 1) v13 := (by assumption); have hl := hF.len; have hq := ListIn.air hp1 hp2 (i := x3.2) (by omega); have hr := ListIn.at hp2 (i := x3.2) (by omega); first | omega | (dsimp only; omega))); done) | (((have hF : Far m_ list to (x2.2 + 1) x3.1 := (by assumption); have hl := hF.len; have hq := ListIn.air hp1 hp2 (i := x3.2) (by omega); have hr := ListIn.at hp2 (i := x3.2) (by omega); (try dsimp only); exact hF.set hp1 hp2 (i := x3.2) ⟨by omega, by omega⟩ ⟨hq.1, hq.2.1⟩ ⟨hq.2.2.1, hq.2.2.2⟩ (by omega) (by omega) (by omega) (by omega) (.inl ⟨rfl, rfl⟩))); done) | (((have hF : Far m_ list to (x2.2 + 1) v13 := (by assumption); have hl := hF.len; have hq := ListIn.air hp1 hp2 (i := x3.2) (by omega); have hr := ListIn.at hp2 (i := x3.2) (by omega); (try dsimp only); exact hF.set hp1 hp2 (i := x3.2) ⟨by omega, by omega⟩ ⟨hq.2.2.1, hq.2.2.2⟩ ⟨hq.1, hq.2.1⟩ (by omega) (by omega) (by omega) (by omega) (.inr ⟨rfl, rfl⟩))); done) | (((refine Far.start (by omega) (fun j j0 j1 => ?_) (by omega); exact (by assumption : ∀ j, 0 ≤ j → j < x1.2 → at' x1.1 j = -1) j j0 (by omega))); done) | (((intro j j0 j1; (try dsimp only at *); omega)); done) | (((dsimp only; exact neg_app (by assumption) (by omega))); done) | ((exact Far.mono (by assumption) (by omega)); done) | (((have hF : Far m_ list to x2.2 x2.1 := (by assumption); have hl := hF.len; have hu := hF.low from_ hp3.1 hp3.2; first | omega | (simp only [List.length_nil]; omega))); done) | ((exact NoStep.nil); done))), rfl, rfl, rfl, trivial⟩ ⟨rfl, trivial⟩ rfl)
              · try simp only [tst] at h16
                refine Aw ?_
                exact AY hj15 x3.1 (by omega) (sub_of [] ⟨rfl, rfl, rfl, rfl, rfl, rfl, rfl, rfl, trivial⟩ ⟨rfl, trivial⟩ rfl)
          · try simp only [tst] at h12
            refine Ba rfl ?_
            exact AY hk10 (x3.1, x3.2) ⟨by omega, by omega, by omega, by omega⟩ (sub_of [] ⟨rfl, rfl, rfl, rfl, rfl, rfl, trivial⟩ ⟨rfl, trivial⟩ rfl)
      · try simp only [tst] at h9
        refine Ba rfl ?_
        exact AY hk7 (x2.1, x2.2) ⟨by omega, by omega, by omega, by omega⟩ (sub_of [] ⟨rfl, rfl, rfl, rfl, rfl, trivial⟩ ⟨rfl, trivial⟩ rfl)
  · intro rec1 k1 hk3 x1 i4
    obtain ⟨e69, e70, e71, e72, e73⟩ := i4
    try dsimp only at *
    refine Ae ?_
    refine Ae ?_
    refine Ad (Af .n (.t rfl) rfl <| Af .n (.t rfl) rfl <| AG .n (.t rfl) rfl <| AM .n (.t rfl) fo_26_0 rfl <| Az .n (.t rfl) rfl ic_2 rfl <| AK .n (.t rfl) (.t rfl) rfl rfl <| Lex.nil) ?_
    refine As (.t rfl) rfl (fun h5 => ?_) (fun h5 => ?_)
    · try simp only [tst] at h5
      refine Aw ?_
      refine Ae ?_
      refine AC ?_
      refine Ad (Af .n (.t rfl) rfl <| AW K_7 (f := V.int .i64) (l := 201) .n rfl rfl (.cons (.c rfl) .nil) rfl si_27 zv_2 rfl rfl rfl <| CD (xs := x1.1) (ys := K_7) (f := V.int .i64) (l := 202) .n rfl (.ow (.t rfl) rfl (take_all (by simp only [len_map, put_len] <;> rfl)) (by simp only [len_map, put_len] <;> rfl)) (.ow (.t rfl) rfl (take_all (by simp only [len_map, put_len] <;> rfl)) (by simp only [len_map, put_len] <;> rfl)) si_27 zv_2 rfl (by (simp only [lens] at * <;> omega)) rfl rfl <| Ag .n (.t rfl) rfl <| Lex.nil) ?_
      refine AS ?_
      refine Ad (Af .n (.t rfl) rfl <| BQ .n (.t rfl) (.c rfl) (fun _ => by omega) rfl <| Ag .n (.t rfl) rfl <| Lex.nil) ?_
      exact A6 (x1.1 ++ K_7, x1.2 + 1) ⟨by omega, by omega, by (simp only [lens] at * <;> omega), by (simp only [lens] at * <;> omega), by ((dsimp only; exact neg_app (by assumption) (by omega)))⟩ (by omega) (sub_of [(200, 202)] ⟨rfl, rfl, rfl, rfl, rfl, rfl, trivial⟩ ⟨rfl, trivial⟩ rfl)
    · try simp only [tst] at h5
      refine Ba rfl ?_
      exact AY hk3 (x1.1, x1.2) ⟨by omega, by omega, by omega, by omega, by omega, by omega⟩ (sub_of [] ⟨rfl, rfl, rfl, rfl, rfl, trivial⟩ ⟨rfl, trivial⟩ rfl)

/-! ### spec_l04Meshes -/
set_option maxRecDepth 100000 in
set_option maxHeartbeats 4000000 in
theorem c_spec_l04Meshes (m_ : AH) (hp1 : MineIn m_) : ConG Tryz.prog 102 [.rp [.int .i64 m_.Junctions, .sl 7 (m_.Airways.map Au.v)]] [] (.os 100 (Bg m_).length) ([(100, some (.row 27 1 ((Bg m_).map (slv 1 (V.int .i64)))))]) := by
  refine con_introG (out := fun r : (List (List Int)) => ((.os 100 r.length : V), ([(100, some (.row 27 1 (r.map (slv 1 (V.int .i64)))))] : List (Nat × Option O)))) (r := (Bg m_)) Tryz.func102 rfl Tryz.ntmps102 rfl ?_
  have hA := hp1.2.1
  have hT := (tree_in m_).1
  have hJ1 := hp1.1
  have hA1 := hp1.2.1
  refine BV (t := 0) 1 rfl rfl fun hl => ?_
  have l1 := hl; clear hl; simp only [List.length_map] at l1
  refine Ae ?_
  refine Ad (Ag .n (.c rfl) rfl <| Lex.nil) ?_
  refine Ae ?_
  refine Ad (Af .n (.t rfl) rfl <| AV (full := false) [] [(100, 200)] .n rfl .f en_113 (.cons (.t rfl) .nil) (.cons (.b (.a (.same rfl))) .nil) (c_spec_l04Tree m_ (by omega)) trivial rfl rfl (fun h => Bool.noConfusion h) (fun h => Bool.noConfusion h) rfl <| Ag .n (.t rfl) rfl <| Lex.nil) ?_
  refine Ae ?_
  refine Ad (AW ([] : List (List Int)) (f := slv 1 (V.int .i64)) (l := 201) .n rfl rfl .nil rfl si_71 zv_27 rfl rfl rfl <| Ag .n (.t rfl) rfl <| Lex.nil) ?_
  refine Ae ?_
  refine Ae ?_
  refine Ad (Ag .n (.c rfl) rfl <| Lex.nil) ?_
  refine AC ?_
  refine Dm (Du m_) _ _ _ rfl (fun (x1 : Int × (List (List Int))) => 0 ≤ x1.1 ∧ x1.1 ≤ (m_.Airways.length : Int) ∧ (x1.2.length : Int) + 0 ≤ x1.1 + (([] : List (List Int)).length : Int) ∧ (x1.2.length : Int) ≤ x1.1) (fun x1 => 0 ≤ x1.1 ∧ x1.1 ≤ (m_.Airways.length : Int) ∧ (x1.2.length : Int) + 0 ≤ x1.1 + (([] : List (List Int)).length : Int) ∧ (x1.2.length : Int) ≤ x1.1 ∧ (m_.Airways.length : Int) ≤ x1.1) (fun x1 => ((m_.Airways.length : Int) - x1.1 : Int).toNat) (fun x1 => ⟨[(0, some (true, .rp [.int .i64 m_.Junctions, .sl 7 (m_.Airways.map Au.v)])), (3, some (true, .os 200 (Bu m_).length)), (4, some (true, .os 201 x1.2.length)), (5, some (true, .int .i64 x1.1))], [(200, some (.row 2 1 ((Bu m_).map (V.int .i64)))), (201, some (.row 27 1 (x1.2.map (slv 1 (V.int .i64)))))]⟩) (fun x1 => ⟨[(4, some (true, .os 201 x1.2.length))], [(201, some (.row 27 1 (x1.2.map (slv 1 (V.int .i64)))))]⟩) ⟨by omega, by omega, by (simp only [lens] at * <;> omega), by (simp only [lens] at * <;> omega)⟩ (by omega) (sub_of [] ⟨rfl, rfl, rfl, rfl, trivial⟩ ⟨rfl, rfl, trivial⟩ rfl) rfl ?_ ?_
  · intro x1 i6
    obtain ⟨e7, e8, e9, e10, e11⟩ := i6
    try dsimp only at *
    refine Ae ?_
    refine Ad (Af .n (.t rfl) rfl <| Ag .n (.t rfl) rfl <| Lex.nil) ?_
    exact Ay [(100, 201)] (.cons (.t rfl rfl) .nil) (by first | rfl | (simp only [put_len]; rfl)) ⟨rfl, trivial⟩ rfl
  · intro rec1 k1 hk2 x1 i3
    obtain ⟨e12, e13, e14, e15⟩ := i3
    try dsimp only at *
    refine Ae ?_
    refine Ae ?_
    refine Ad (Af .n (.t rfl) rfl <| Af .n (.t rfl) rfl <| AG .n (.t rfl) rfl <| AM .n (.t rfl) fo_26_1 rfl <| Az .n (.t rfl) rfl ic_24 rfl <| BD .n (.t rfl) rfl len_map ss_24 rfl <| AK .n (.t rfl) (.t rfl) rfl rfl <| Lex.nil) ?_
    refine As (.t rfl) rfl (fun h4 => ?_) (fun h4 => ?_)
    · try simp only [tst] at h4
      refine Aw ?_
      refine Ae ?_
      refine AC ?_
      refine Ae ?_
      refine Ae ?_
      refine Ad (Af .n (.t rfl) rfl <| Af .n (.t rfl) rfl <| AR (full := true) .n .f en_114 (.cons (.t rfl) (.cons (.t rfl) .nil)) (.cons (.b (.a (.own rfl rfl rfl (take_all (by simp only [len_map, put_len] <;> rfl)) (by simp only [len_map, put_len] <;> rfl)))) (.cons (.b (.a (.same rfl))) .nil)) (fun hg => c_spec_l00Has (Bu m_) x1.1) rfl (fun _ => rfl) rfl <| Lex.nil) ?_
      refine As (.t rfl) rfl (fun h5 => ?_) (fun h5 => ?_)
      · try simp only [tst] at h5
        refine Ba rfl ?_
        refine Ad (Af .n (.t rfl) rfl <| BQ .n (.t rfl) (.c rfl) (fun _ => by omega) rfl <| Ag .n (.t rfl) rfl <| Lex.nil) ?_
        exact Cy (x1.1 + 1, x1.2) ⟨by omega, by omega, by (simp only [lens] at * <;> omega), by (simp only [lens] at * <;> omega)⟩ (by omega) (sub_of [] ⟨rfl, rfl, rfl, rfl, trivial⟩ ⟨rfl, rfl, trivial⟩ rfl)
      · try simp only [tst] at h5
        refine Aw ?_
        refine Ae ?_
        refine Bl fmo (Af .n (.t rfl) rfl <| Af .n (.t rfl) rfl <| Af .n (.t rfl) rfl <| AG .n (.t rfl) rfl <| AM .n (.t rfl) fo_26_1 rfl <| Az .n (.t rfl) rfl ic_24 rfl <| Af .n (.t rfl) rfl <| Bc .n (.t rfl) (.t rfl) sl_24 (fun _ => by omega) rfl <| AM .n (.t rfl) fo_112_2 rfl <| Az .n (.t rfl) rfl ic_2 rfl <| Af .n (.t rfl) rfl <| AG .n (.t rfl) rfl <| AM .n (.t rfl) fo_26_1 rfl <| Az .n (.t rfl) rfl ic_24 rfl <| Af .n (.t rfl) rfl <| Bc .n (.t rfl) (.t rfl) sl_24 (fun _ => by omega) rfl <| AM .n (.t rfl) fo_112_1 rfl <| Az .n (.t rfl) rfl ic_2 rfl <| AV (full := true) [] [(100, 202)] .n rfl .f en_115 (.cons (.t rfl) (.cons (.t rfl) (.cons (.t rfl) (.cons (.t rfl) .nil)))) (.cons (.b (.a (.same rfl))) (.cons (.b (.a (.own rfl rfl rfl (take_all (by simp only [len_map, put_len] <;> rfl)) (by simp only [len_map, put_len] <;> rfl)))) (.cons (.b (.a (.same rfl))) (.cons (.b (.a (.same rfl))) .nil)))) (c_spec_l04Walk m_ (Bu m_) (at' m_.Airways x1.1).To (at' m_.Airways x1.1).From (by omega) (by omega) (by ((have hq := hp1.at (i := x1.1) (by omega); unfold AirIn at hq; omega))) (by ((have hq := hp1.at (i := x1.1) (by omega); unfold AirIn at hq; omega)))) trivial rfl rfl (fun _ => rfl) (fun _ => (hr_row (fun _ => rfl) hr_nil)) rfl <| Af .n (.t rfl) rfl <| C3 .n (.t rfl) rfl rfl rfl <| C3 .n (.t rfl) rfl rfl rfl <| Ag .n (.t rfl) rfl <| Ag .n (.t rfl) rfl <| Lex.nil) (by kernel_rfl) ?_
        refine run_ro <| ro_lex (l1 := [_, _, _, _, _, _]) (l2 := [_, _, _]) rfl (Af .n (.t rfl) rfl <| Af .n (.t rfl) rfl <| BQ .n (.t rfl) (.c rfl) (fun _ => by omega) rfl <| AW ([x1.1 + 1] : List Int) (f := V.int .i64) (l := 203) .n rfl rfl (.cons (.t rfl) .nil) rfl si_27 zv_2 rfl rfl rfl <| Af .n (.t rfl) rfl <| CD (xs := ([x1.1 + 1] : List Int)) (ys := (BW m_ (Bu m_) (at' m_.Airways x1.1).To (at' m_.Airways x1.1).From).1) (f := V.int .i64) (l := 204) .n rfl (.ow (.t rfl) rfl (take_all (by simp only [len_map, put_len] <;> rfl)) (by simp only [len_map, put_len] <;> rfl)) (.ow (.t rfl) rfl (take_all (by simp only [len_map, put_len] <;> rfl)) (by simp only [len_map, put_len] <;> rfl)) si_27 zv_2 rfl (by ((have hq := hp1.at (i := x1.1) (by omega); unfold AirIn at hq; have hW := (walk_is hp1 hT (from_ := (at' m_.Airways x1.1).To) (to := (at' m_.Airways x1.1).From) (by omega) (by omega)).len; simp only [List.length_append, List.length_cons, List.length_nil]; omega))) rfl rfl <| Lex.nil) <| ro_freezeL (l := 204) [50] ⟨rfl, trivial⟩ rfl (take_all (by simp only [len_map, put_len] <;> rfl)) (by simp only [len_map, put_len] <;> rfl) rfl <| ro_lex (l1 := [_, _, _]) (l2 := []) rfl (AW ([([x1.1 + 1] : List Int) ++ (BW m_ (Bu m_) (at' m_.Airways x1.1).To (at' m_.Airways x1.1).From).1] : List (List Int)) (f := slv 1 (V.int .i64)) (l := 205) .n rfl rfl (.cons (.t rfl) .nil) rfl si_71 zv_27 rfl rfl rfl <| CD (xs := x1.2) (ys := ([([x1.1 + 1] : List Int) ++ (BW m_ (Bu m_) (at' m_.Airways x1.1).To (at' m_.Airways x1.1).From).1] : List (List Int))) (f := slv 1 (V.int .i64)) (l := 206) .n rfl (.ow (.t rfl) rfl (take_all (by simp only [len_map, put_len] <;> rfl)) (by simp only [len_map, put_len] <;> rfl)) (.ow (.t rfl) rfl (take_all (by simp only [len_map, put_len] <;> rfl)) (by simp only [len_map, put_len] <;> rfl)) si_71 zv_27 rfl (by (simp only [lens] at * <;> omega)) rfl rfl <| Ag .n (.t rfl) rfl <| Lex.nil) <| ro_end ?_
        refine AS ?_
        refine Ad (Af .n (.t rfl) rfl <| BQ .n (.t rfl) (.c rfl) (fun _ => by omega) rfl <| Ag .n (.t rfl) rfl <| Lex.nil) ?_
        exact Cy (x1.1 + 1, x1.2 ++ ([([x1.1 + 1] : List Int) ++ (BW m_ (Bu m_) (at' m_.Airways x1.1).To (at' m_.Airways x1.1).From).1] : List (List Int))) ⟨by omega, by omega, by (simp only [lens] at * <;> omega), by (simp only [lens] at * <;> omega)⟩ (by omega) (sub_of [(201, 206)] ⟨rfl, rfl, rfl, rfl, trivial⟩ ⟨rfl, rfl, trivial⟩ rfl)
    · try simp only [tst] at h4
      refine Ba rfl ?_
      exact AY hk2 (x1.1, x1.2) ⟨by omega, by omega, by omega, by omega, by omega⟩ (sub_of [] ⟨rfl, trivial⟩ ⟨rfl, trivial⟩ rfl)

/-! ### spec_l07Add -/
set_option maxRecDepth 100000 in
set_option maxHeartbeats 4000000 in
theorem c_spec_l07Add (flows : List Int) (walk : List Int) (amount : Int) (hp1 : MeshOk flows.length walk) (hp2 : flows.length ≤ 100000) : Con Tryz.prog 103 [.os 0 flows.length, .sl 1 (walk.map (V.int .i64)), .int .i64 amount] [(0, some (.row 2 1 (flows.map (V.int .i64))))] (.tup []) ([(0, some (.row 2 1 ((Di flows walk amount).map (V.int .i64))))]) := by
  refine con_intro (out := fun r : (List Int) => ((.tup [] : V), ([(0, some (.row 2 1 (r.map (V.int .i64))))] : List (Nat × Option O)))) (r := (Di flows walk amount)) Tryz.func103 rfl Tryz.ntmps103 rfl ?_
  refine CZ (l := 0) rfl fun hl => ?_
  have l1 := hl; clear hl; simp only [List.length_map] at l1
  refine Bo (t := 1) rfl fun hl => ?_
  have l2 := hl; clear hl; simp only [List.length_map] at l2
  refine Ae ?_
  refine Ad (Ag .n (.c rfl) rfl <| Lex.nil) ?_
  refine AC ?_
  refine Bp (m_spec_l07Add_b1 flows walk amount) _ _ _ rfl (fun (x1 : (List Int) × Int) => 0 ≤ x1.2 ∧ x1.2 ≤ (walk.length : Int) ∧ x1.1.length = flows.length) (fun x1 => 0 ≤ x1.2 ∧ x1.2 ≤ (walk.length : Int) ∧ x1.1.length = flows.length ∧ (walk.length : Int) ≤ x1.2) (fun x1 => ((walk.length : Int) - x1.2 : Int).toNat) (fun x1 => ⟨[(0, some (true, .os 0 x1.1.length)), (1, some (true, .sl 1 (walk.map (V.int .i64)))), (2, some (true, .int .i64 amount)), (6, some (true, .int .i64 x1.2))], [(0, some (.row 2 1 (x1.1.map (V.int .i64))))]⟩) (fun x1 => ⟨[], [(0, some (.row 2 1 (x1.1.map (V.int .i64))))]⟩) ⟨by omega, by omega, by (simp only [lens] at * <;> omega)⟩ (by omega) (sub_of [] ⟨rfl, rfl, rfl, rfl, trivial⟩ ⟨rfl, trivial⟩ rfl) ?_ ?_
  · intro x1 i7
    obtain ⟨e8, e9, e10, e11⟩ := i7
    try dsimp only at *
    exact run_end [] .nil rfl ⟨rfl, trivial⟩ rfl
  · intro rec1 k1 hk3 x1 i4
    obtain ⟨e12, e13, e14⟩ := i4
    try dsimp only at *
    refine Ae ?_
    refine Ae ?_
    refine Ad (Af .n (.t rfl) rfl <| Af .n (.t rfl) rfl <| BD .n (.t rfl) rfl len_map ss_27 rfl <| AK .n (.t rfl) (.t rfl) rfl rfl <| Lex.nil) ?_
    refine As (.t rfl) rfl (fun h5 => ?_) (fun h5 => ?_)
    · try simp only [tst] at h5
      refine Aw ?_
      refine Ae ?_
      refine AC ?_
      refine Ae ?_
      refine Ad (Af .n (.t rfl) rfl <| Af .n (.t rfl) rfl <| Bc .n (.t rfl) (.t rfl) sl_27 (fun _ => by omega) rfl <| Az .n (.t rfl) rfl ic_2 rfl <| AK .n (.t rfl) (.c rfl) rfl rfl <| Lex.nil) ?_
      refine As (.t rfl) rfl (fun h6 => ?_) (fun h6 => ?_)
      · try simp only [tst] at h6
        refine Ad (Af .n (.t rfl) rfl <| Af .n (.t rfl) rfl <| Af .n (.t rfl) rfl <| Bc .n (.t rfl) (.t rfl) sl_27 (fun _ => by omega) rfl <| Az .n (.t rfl) rfl ic_2 rfl <| AK .n (.t rfl) (.c rfl) rfl rfl <| AX .n (.t rfl) (.t rfl) sl_27 (fun _ => by ((have hq := at_all hp1.ok (i := x1.2) (by omega); have he : edge (at' walk x1.2) = _ := rfl; simp only [edge] at hq; have hw1 := wr64 (n := at' walk x1.2 - 1) (by split at hq <;> omega); have hw2 := wr64 (n := 0 - at' walk x1.2) (by split at hq <;> omega); have hw3 := wr64 (n := (IntKind.wrap .i64 (0 - at' walk x1.2)) - 1) (by split at hq <;> omega); split at hq <;> first | omega | (simp only [put_len]; omega) | (rw [hw1]; omega) | (rw [hw3, hw2]; omega)))) rfl <| A3 .n (.t rfl) rfl (fun _ => by ((have hq := at_all hp1.ok (i := x1.2) (by omega); have he : edge (at' walk x1.2) = _ := rfl; simp only [edge] at hq; have hw1 := wr64 (n := at' walk x1.2 - 1) (by split at hq <;> omega); have hw2 := wr64 (n := 0 - at' walk x1.2) (by split at hq <;> omega); have hw3 := wr64 (n := (IntKind.wrap .i64 (0 - at' walk x1.2)) - 1) (by split at hq <;> omega); split at hq <;> first | omega | (simp only [put_len]; omega) | (rw [hw1]; omega) | (rw [hw3, hw2]; omega)))) rfl rfl rfl ic_2 rfl <| Af .n (.t rfl) rfl <| AK .n (.t rfl) (.t rfl) rfl rfl <| AX .n (.t rfl) (.t rfl) sl_27 (fun _ => by ((have hq := at_all hp1.ok (i := x1.2) (by omega); have he : edge (at' walk x1.2) = _ := rfl; simp only [edge] at hq; have hw1 := wr64 (n := at' walk x1.2 - 1) (by split at hq <;> omega); have hw2 := wr64 (n := 0 - at' walk x1.2) (by split at hq <;> omega); have hw3 := wr64 (n := (IntKind.wrap .i64 (0 - at' walk x1.2)) - 1) (by split at hq <;> omega); split at hq <;> first | omega | (simp only [put_len]; omega) | (rw [hw1]; omega) | (rw [hw3, hw2]; omega)))) rfl <| B0 (IntKind.wrap .i64 ((at' x1.1 (IntKind.wrap .i64 ((at' walk x1.2) - 1))) + amount)) .n rfl (.t rfl) (.t rfl) rfl ts_2 (by ((have hq := at_all hp1.ok (i := x1.2) (by omega); have he : edge (at' walk x1.2) = _ := rfl; simp only [edge] at hq; have hw1 := wr64 (n := at' walk x1.2 - 1) (by split at hq <;> omega); have hw2 := wr64 (n := 0 - at' walk x1.2) (by split at hq <;> omega); have hw3 := wr64 (n := (IntKind.wrap .i64 (0 - at' walk x1.2)) - 1) (by split at hq <;> omega); split at hq <;> first | omega | (simp only [put_len]; omega) | (rw [hw1]; omega) | (rw [hw3, hw2]; omega)))) rfl rfl <| Lex.nil) ?_
        refine AS ?_
        refine Ad (Af .n (.t rfl) rfl <| BQ .n (.t rfl) (.c rfl) (fun _ => by omega) rfl <| Ag .n (.t rfl) rfl <| Lex.nil) ?_
        exact A6 (put' x1.1 (IntKind.wrap .i64 ((at' walk x1.2) - 1)) (IntKind.wrap .i64 ((at' x1.1 (IntKind.wrap .i64 ((at' walk x1.2) - 1))) + amount)), x1.2 + 1) ⟨by omega, by omega, by (simp only [lens] at * <;> omega)⟩ (by omega) (sub_of [] ⟨os_len rfl (by first | (simp only [put_len]; done) | (first | omega | assumption | (simp only [lens] at * <;> omega) | (((have hq := at_all hp1.ok (i := x1.2) (by omega); have he : edge (at' walk x1.2) = _ := rfl; simp only [edge] at hq; have hw1 := wr64 (n := at' walk x1.2 - 1) (by split at hq <;> omega); have hw2 := wr64 (n := 0 - at' walk x1.2) (by split at hq <;> omega); have hw3 := wr64 (n := (IntKind.wrap .i64 (0 - at' walk x1.2)) - 1) (by split at hq <;> omega); split at hq <;> first | omega | (simp only [put_len]; omega) | (rw [hw1]; omega) | (rw [hw3, hw2]; omega))); done))), rfl, rfl, rfl, trivial⟩ ⟨rfl, trivial⟩ rfl)
      · try simp only [tst] at h6
        refine Ad (Af .n (.t rfl) rfl <| Af .n (.t rfl) rfl <| Af .n (.t rfl) rfl <| Bc .n (.t rfl) (.t rfl) sl_27 (fun _ => by omega) rfl <| Az .n (.t rfl) rfl ic_2 rfl <| q_neg .n (.t rfl) rfl <| AK .n (.t rfl) (.c rfl) rfl rfl <| AX .n (.t rfl) (.t rfl) sl_27 (fun _ => by ((have hq := at_all hp1.ok (i := x1.2) (by omega); have he : edge (at' walk x1.2) = _ := rfl; simp only [edge] at hq; have hw1 := wr64 (n := at' walk x1.2 - 1) (by split at hq <;> omega); have hw2 := wr64 (n := 0 - at' walk x1.2) (by split at hq <;> omega); have hw3 := wr64 (n := (IntKind.wrap .i64 (0 - at' walk x1.2)) - 1) (by split at hq <;> omega); split at hq <;> first | omega | (simp only [put_len]; omega) | (rw [hw1]; omega) | (rw [hw3, hw2]; omega)))) rfl <| A3 .n (.t rfl) rfl (fun _ => by ((have hq := at_all hp1.ok (i := x1.2) (by omega); have he : edge (at' walk x1.2) = _ := rfl; simp only [edge] at hq; have hw1 := wr64 (n := at' walk x1.2 - 1) (by split at hq <;> omega); have hw2 := wr64 (n := 0 - at' walk x1.2) (by split at hq <;> omega); have hw3 := wr64 (n := (IntKind.wrap .i64 (0 - at' walk x1.2)) - 1) (by split at hq <;> omega); split at hq <;> first | omega | (simp only [put_len]; omega) | (rw [hw1]; omega) | (rw [hw3, hw2]; omega)))) rfl rfl rfl ic_2 rfl <| Af .n (.t rfl) rfl <| AK .n (.t rfl) (.t rfl) rfl rfl <| AX .n (.t rfl) (.t rfl) sl_27 (fun _ => by ((have hq := at_all hp1.ok (i := x1.2) (by omega); have he : edge (at' walk x1.2) = _ := rfl; simp only [edge] at hq; have hw1 := wr64 (n := at' walk x1.2 - 1) (by split at hq <;> omega); have hw2 := wr64 (n := 0 - at' walk x1.2) (by split at hq <;> omega); have hw3 := wr64 (n := (IntKind.wrap .i64 (0 - at' walk x1.2)) - 1) (by split at hq <;> omega); split at hq <;> first | omega | (simp only [put_len]; omega) | (rw [hw1]; omega) | (rw [hw3, hw2]; omega)))) rfl <| B0 (IntKind.wrap .i64 ((at' x1.1 (IntKind.wrap .i64 ((IntKind.wrap .i64 (0 - (at' walk x1.2))) - 1))) - amount)) .n rfl (.t rfl) (.t rfl) rfl ts_2 (by ((have hq := at_all hp1.ok (i := x1.2) (by omega); have he : edge (at' walk x1.2) = _ := rfl; simp only [edge] at hq; have hw1 := wr64 (n := at' walk x1.2 - 1) (by split at hq <;> omega); have hw2 := wr64 (n := 0 - at' walk x1.2) (by split at hq <;> omega); have hw3 := wr64 (n := (IntKind.wrap .i64 (0 - at' walk x1.2)) - 1) (by split at hq <;> omega); split at hq <;> first | omega | (simp only [put_len]; omega) | (rw [hw1]; omega) | (rw [hw3, hw2]; omega)))) rfl rfl <| Lex.nil) ?_
        refine AS ?_
        refine Ad (Af .n (.t rfl) rfl <| BQ .n (.t rfl) (.c rfl) (fun _ => by omega) rfl <| Ag .n (.t rfl) rfl <| Lex.nil) ?_
        exact A6 (put' x1.1 (IntKind.wrap .i64 ((IntKind.wrap .i64 (0 - (at' walk x1.2))) - 1)) (IntKind.wrap .i64 ((at' x1.1 (IntKind.wrap .i64 ((IntKind.wrap .i64 (0 - (at' walk x1.2))) - 1))) - amount)), x1.2 + 1) ⟨by omega, by omega, by (simp only [lens] at * <;> omega)⟩ (by omega) (sub_of [] ⟨os_len rfl (by first | (simp only [put_len]; done) | (first | omega | assumption | (simp only [lens] at * <;> omega) | (((have hq := at_all hp1.ok (i := x1.2) (by omega); have he : edge (at' walk x1.2) = _ := rfl; simp only [edge] at hq; have hw1 := wr64 (n := at' walk x1.2 - 1) (by split at hq <;> omega); have hw2 := wr64 (n := 0 - at' walk x1.2) (by split at hq <;> omega); have hw3 := wr64 (n := (IntKind.wrap .i64 (0 - at' walk x1.2)) - 1) (by split at hq <;> omega); split at hq <;> first | omega | (simp only [put_len]; omega) | (rw [hw1]; omega) | (rw [hw3, hw2]; omega))); done))), rfl, rfl, rfl, trivial⟩ ⟨rfl, trivial⟩ rfl)
    · try simp only [tst] at h5
      refine Ba rfl ?_
      exact AY hk3 (x1.1, x1.2) ⟨by omega, by omega, by omega, by omega⟩ (sub_of [] trivial ⟨rfl, trivial⟩ rfl)

/-! ### spec_l07DrawFlows -/
set_option maxRecDepth 100000 in
set_option maxHeartbeats 4000000 in
theorem c_spec_l07DrawFlows (s_ : Aj) (m_ : AH) (hp1 : Lim s_ 300000) (hp2 : m_.Airways.length ≤ 30) : ConG Tryz.prog 90 [.op 0 0 0 0, .rp [.int .i64 m_.Junctions, .sl 7 (m_.Airways.map Au.v)]] [(0, some (.box 100 [.sl 1 (s_.code.map (V.int .u8)), .int .i64 s_.at_, .int .u64 s_.seed]))] (.os 100 (AU s_ m_).1.length) ([(100, some (.row 2 1 ((AU s_ m_).1.map (V.int .i64)))), (0, some (.box 100 [.sl 1 ((AU s_ m_).2.code.map (V.int .u8)), .int .i64 (AU s_ m_).2.at_, .int .u64 (AU s_ m_).2.seed]))]) := by
  refine con_introG (out := fun r : (List Int) × Aj => ((.os 100 r.1.length : V), ([(100, some (.row 2 1 (r.1.map (V.int .i64)))), (0, some (.box 100 [.sl 1 (r.2.code.map (V.int .u8)), .int .i64 r.2.at_, .int .u64 r.2.seed]))] : List (Nat × Option O)))) (r := (AU s_ m_)) Tryz.func90 rfl Tryz.ntmps90 rfl ?_
  refine BV (t := 1) 1 rfl rfl fun hl => ?_
  have l1 := hl; clear hl; simp only [List.length_map] at l1
  refine Ae ?_
  refine Ad (Ag .n (.c rfl) rfl <| Lex.nil) ?_
  refine Ae ?_
  refine Ad (Af .n (.t rfl) rfl <| AG .n (.t rfl) rfl <| AM .n (.t rfl) fo_26_1 rfl <| Az .n (.t rfl) rfl ic_24 rfl <| BD .n (.t rfl) rfl len_map ss_24 rfl <| q_makem (f := V.int .i64) (l := 200) (0 : Int) .n rfl (.t rfl) (.t rfl) si_27 zv_2 (by omega) rfl rfl rfl <| Ag .n (.t rfl) rfl <| Lex.nil) ?_
  refine Ae ?_
  refine Ae ?_
  refine Ad (Af .n (.t rfl) rfl <| AR (full := false) .n .f en_50 (.cons (.t rfl) .nil) (.cons (.b (.a (.same rfl))) .nil) (fun hg => c_spec_l04Ok m_) rfl (fun h => Bool.noConfusion h) rfl <| Af .n (.t rfl) rfl <| Af (.t rfl rfl) (.t rfl) rfl <| q_callGM (full := false) (m0 := 0) (L := 0) (v := .int .i64 (Aa s_ 4).1) (o' := .box 100 [.sl 1 ((bif (AO m_) then (Aa s_ 4).2 else s_).code.map (V.int .u8)), .int .i64 (bif (AO m_) then (Aa s_ 4).2 else s_).at_, .int .u64 (bif (AO m_) then (Aa s_ 4).2 else s_).seed]) (.t rfl rfl) (fun hg => .f) en_22 (fun hg => (.cons (.u rfl (fun _ => id hg)) (.cons (.c rfl) .nil))) (.cons (.b (.mutp rfl)) (.cons (.b (.a (.same rfl))) .nil)) (fun hg => AJ s_ 4 (by (try dsimp only); (with_reducible (first | apply Lim.mono | apply Lim.out | apply LimA.mono)); (repeat (with_reducible (first | assumption | apply Lim.bif1 | apply Lim.bifp | apply Lim.among | apply Lim.pick | apply Lim.flows7 | apply Lim.mk))); omega)) ⟨rfl, trivial⟩ rfl (fun h => Bool.noConfusion h) (fun h => Bool.noConfusion h) rfl (fun hg => by simp only [Bool.true_and] at hg; rw [hg]; exact ⟨rfl, rfl⟩) (fun hg => by simp only [Bool.true_and] at hg; rw [hg]; rfl) <| AK (.t rfl rfl) (.u rfl id) (.c rfl) rfl rfl <| Cz .n (.t rfl) (.u rfl id) rfl <| Lex.nil) ?_
  refine C7 _ _ rfl (fun v2 : (List Int) × Int × Int × (List Int) => LimA v2.1 v2.2.1 300070 ∧ v2.2.2.2.length ≤ 30) (fun v2 => ⟨[(0, some (true, .op 0 0 0 0)), (5, some (true, .os 200 v2.2.2.2.length))], [(0, some (.box 100 [.sl 1 (v2.1.map (V.int .u8)), .int .i64 v2.2.1, .int .u64 v2.2.2.1])), (200, some (.row 2 1 (v2.2.2.2.map (V.int .i64))))]⟩) (fun v2 hv39 => ?_) (fun j3 hj4 => ?_)
  · obtain ⟨e40, e41⟩ := hv39
    refine Ae ?_
    refine Ae ?_
    refine Ad (Af .n (.t rfl) rfl <| AV (full := false) [(0, 0)] [] .n rfl .f en_22 (.cons (.t rfl) (.cons (.c rfl) .nil)) (.cons (.b (.mutp rfl)) (.cons (.b (.a (.same rfl))) .nil)) (AJ (Aj.mk v2.1 v2.2.1 v2.2.2.1) 20 (by (try dsimp only); (with_reducible (first | apply Lim.mono | apply Lim.out | apply LimA.mono)); (repeat (with_reducible (first | assumption | apply Lim.bif1 | apply Lim.bifp | apply Lim.among | apply Lim.pick | apply Lim.flows7 | apply Lim.mk))); omega)) ⟨rfl, trivial⟩ rfl rfl (fun h => Bool.noConfusion h) (fun h => Bool.noConfusion h) rfl <| Lex.nil) ?_
    refine AC ?_
    refine Ae ?_
    refine Ad (AK .n (.t rfl) (.c rfl) rfl rfl <| Ag .n (.t rfl) rfl <| Lex.nil) ?_
    refine As (.t rfl) rfl (fun h36 => ?_) (fun h36 => ?_)
    · try simp only [tst] at h36
      refine Ad (Af .n (.t rfl) rfl <| AW ([0] : List Int) (f := V.int .i64) (l := 202) .n rfl rfl (.cons (.c rfl) .nil) rfl si_27 zv_2 rfl rfl rfl <| CD (xs := v2.2.2.2) (ys := ([0] : List Int)) (f := V.int .i64) (l := 203) .n rfl (.ow (.t rfl) rfl (take_all (by simp only [len_map, put_len] <;> rfl)) (by simp only [len_map, put_len] <;> rfl)) (.ow (.t rfl) rfl (take_all (by simp only [len_map, put_len] <;> rfl)) (by simp only [len_map, put_len] <;> rfl)) si_27 zv_2 rfl (by (simp only [lens] at * <;> omega)) rfl rfl <| Ag .n (.t rfl) rfl <| Lex.nil) ?_
      refine AS ?_
      refine Ae ?_
      refine Ad (Af .n (.t rfl) rfl <| Ag .n (.t rfl) rfl <| Lex.nil) ?_
      exact Ay [(100, 203)] (.cons (.t rfl rfl) .nil) (by first | rfl | (simp only [put_len]; rfl)) ⟨rfl, rfl, trivial⟩ rfl
    · try simp only [tst] at h36
      refine Ae ?_
      refine Ad (AK .n (.t rfl) (.c rfl) rfl rfl <| Ag .n (.t rfl) rfl <| Lex.nil) ?_
      refine As (.t rfl) rfl (fun h37 => ?_) (fun h37 => ?_)
      · try simp only [tst] at h37
        refine Ae ?_
        refine Ad (Af .n (.t rfl) rfl <| BD .n (.t rfl) rfl rfl ss_27 rfl <| AK .n (.t rfl) (.c rfl) rfl rfl <| Lex.nil) ?_
        refine As (.t rfl) rfl (fun h38 => ?_) (fun h38 => ?_)
        · try simp only [tst] at h38
          refine Ad (Af .n (.t rfl) rfl <| Af .n (.t rfl) rfl <| AW ([100000, 100001, (-100001)] : List Int) (f := V.int .i64) (l := 204) .n rfl rfl (.cons (.c rfl) (.cons (.c rfl) (.cons (.c rfl) .nil))) rfl si_27 zv_2 rfl rfl rfl <| AV (full := false) [(0, 0), (1, 204)] [] .n rfl .f en_24 (.cons (.t rfl) (.cons (.t rfl) .nil)) (.cons (.b (.mutp rfl)) (.cons (.b (.muts rfl)) .nil)) (A1 (Aa (Aj.mk v2.1 v2.2.1 v2.2.2.1) 20).2 ([100000, 100001, (-100001)] : List Int) (by (try dsimp only); (with_reducible (first | apply Lim.mono | apply Lim.out | apply LimA.mono)); (repeat (with_reducible (first | assumption | apply Lim.bif1 | apply Lim.bifp | apply Lim.among | apply Lim.pick | apply Lim.flows7 | apply Lim.mk))); omega) (by (simp only [lens] at * <;> omega))) ⟨rfl, rfl, trivial⟩ rfl rfl (fun h => Bool.noConfusion h) (fun h => Bool.noConfusion h) rfl <| AX .n (.t rfl) (.c rfl) sl_27 (fun _ => by omega) rfl <| B0 (Ak (Aa (Aj.mk v2.1 v2.2.1 v2.2.2.1) 20).2 ([100000, 100001, (-100001)] : List Int)).1 .n rfl (.t rfl) (.t rfl) rfl ts_2 (by omega) rfl rfl <| Lex.nil) ?_
          refine AS ?_
          refine Ae ?_
          refine Ad (Af .n (.t rfl) rfl <| Ag .n (.t rfl) rfl <| Lex.nil) ?_
          exact Ay [(100, 200)] (.cons (.t rfl rfl) .nil) (by first | rfl | (simp only [put_len]; rfl)) ⟨rfl, rfl, trivial⟩ rfl
        · try simp only [tst] at h38
          refine Aw ?_
          refine AS ?_
          refine Ae ?_
          refine Ad (Af .n (.t rfl) rfl <| Ag .n (.t rfl) rfl <| Lex.nil) ?_
          exact Ay [(100, 200)] (.cons (.t rfl rfl) .nil) (by first | rfl | (simp only [put_len]; rfl)) ⟨rfl, rfl, trivial⟩ rfl
      · try simp only [tst] at h37
        refine Aw ?_
        refine AS ?_
        refine Ae ?_
        refine Ad (Af .n (.t rfl) rfl <| Ag .n (.t rfl) rfl <| Lex.nil) ?_
        exact Ay [(100, 200)] (.cons (.t rfl rfl) .nil) (by first | rfl | (simp only [put_len]; rfl)) ⟨rfl, rfl, trivial⟩ rfl
  · refine As (.t rfl) rfl (fun h5 => ?_) (fun h5 => ?_)
    · try simp only [tst] at h5
      try have hf0h5 := l04Ok_imp h5
      try have hf1h5 := l04Ok_imp h5.1
      try have hf2h5 := l04Ok_imp h5.2
      try have hf3h5 := l04Ok_imp h5.1.1
      try have hf4h5 := l04Ok_imp h5.1.2
      try have hf5h5 := l04Ok_imp h5.2.1
      try have hf6h5 := l04Ok_imp h5.2.2
      refine Ae ?_
      refine run_ro <| ro_lex (l1 := [_]) (l2 := [_, _]) rfl (Af .n (.t rfl) rfl <| Lex.nil) <| ro_callGM [] [(100, 201)] .f en_102 (.cons (.t rfl) .nil) (.cons (.b (.a (.same rfl))) .nil) (c_spec_l04Meshes m_ (by omega)) trivial rfl rfl rfl rfl rfl <| ro_lex (l1 := [_]) (l2 := []) rfl (Ag .n (.t rfl) rfl <| Lex.nil) <| ro_end ?_
      refine Ae ?_
      refine Ad (Ag .n (.c rfl) rfl <| Lex.nil) ?_
      refine AC ?_
      refine Dm (C4 s_ m_ j3) _ _ _ rfl (fun (x1 : (List Int) × Int × Int × (List Int) × Int) => 0 ≤ x1.2.2.2.2 ∧ x1.2.2.2.2 ≤ ((Bg m_).length : Int) ∧ x1.2.2.2.1.length = m_.Airways.length ∧ x1.2.2.2.2 ≤ 30 ∧ LimA x1.1 x1.2.1 (300002 + 2 * x1.2.2.2.2)) (fun x1 => 0 ≤ x1.2.2.2.2 ∧ x1.2.2.2.2 ≤ ((Bg m_).length : Int) ∧ x1.2.2.2.1.length = m_.Airways.length ∧ x1.2.2.2.2 ≤ 30 ∧ LimA x1.1 x1.2.1 (300002 + 2 * x1.2.2.2.2) ∧ ((Bg m_).length : Int) ≤ x1.2.2.2.2) (fun x1 => (((Bg m_).length : Int) - x1.2.2.2.2 : Int).toNat) (fun x1 => ⟨[(0, some (true, .op 0 0 0 0)), (5, some (true, .os 200 x1.2.2.2.1.length)), (6, some (true, .os 201 (Bg m_).length)), (7, some (true, .int .i64 x1.2.2.2.2))], [(0, some (.box 100 [.sl 1 (x1.1.map (V.int .u8)), .int .i64 x1.2.1, .int .u64 x1.2.2.1])), (200, some (.row 2 1 (x1.2.2.2.1.map (V.int .i64)))), (201, some (.row 27 1 ((Bg m_).map (slv 1 (V.int .i64)))))]⟩) (fun x1 => ⟨[(0, some (true, .op 0 0 0 0)), (5, some (true, .os 200 x1.2.2.2.1.length))], [(0, some (.box 100 [.sl 1 (x1.1.map (V.int .u8)), .int .i64 x1.2.1, .int .u64 x1.2.2.1])), (200, some (.row 2 1 (x1.2.2.2.1.map (V.int .i64))))]⟩) ⟨by (simp only [lens] at * <;> omega), by (simp only [lens] at * <;> omega), by (simp only [lens] at * <;> omega), by (simp only [lens] at * <;> omega), by (try dsimp only); (with_reducible (first | apply Lim.mono | apply Lim.out | apply LimA.mono)); (repeat (with_reducible (first | assumption | apply Lim.bif1 | apply Lim.bifp | apply Lim.among | apply Lim.pick | apply Lim.flows7 | apply Lim.mk))); omega⟩ (by (simp only [lens] at * <;> omega)) (sub_of [] ⟨rfl, rfl, rfl, rfl, trivial⟩ ⟨rfl, rfl, rfl, trivial⟩ rfl) rfl ?_ ?_
      · intro x1 i9
        obtain ⟨e10, e11, e12, e13, e14, e15⟩ := i9
        try dsimp only at *
        exact AY hj4 (x1.1, x1.2.1, x1.2.2.1, x1.2.2.2.1) ⟨by (try dsimp only); (with_reducible (first | apply Lim.mono | apply Lim.out | apply LimA.mono)); (repeat (with_reducible (first | assumption | apply Lim.bif1 | apply Lim.bifp | apply Lim.among | apply Lim.pick | apply Lim.flows7 | apply Lim.mk))); omega, by (simp only [lens] at * <;> omega)⟩ (sub_of [] ⟨rfl, rfl, trivial⟩ ⟨rfl, rfl, trivial⟩ rfl)
      · intro rec1 k1 hk6 x1 i7
        obtain ⟨e16, e17, e18, e19, e20⟩ := i7
        try dsimp only at *
        refine Ae ?_
        refine Ae ?_
        refine Ad (Af .n (.t rfl) rfl <| Af .n (.t rfl) rfl <| BD .n (.t rfl) rfl rfl ss_71 rfl <| AK .n (.t rfl) (.t rfl) rfl rfl <| Lex.nil) ?_
        refine As (.t rfl) rfl (fun h8 => ?_) (fun h8 => ?_)
        · try simp only [tst] at h8
          refine Aw ?_
          refine Ae ?_
          refine AC ?_
          refine Bl fmo (Af .n (.t rfl) rfl <| Af .n (.t rfl) rfl <| Af .n (.t rfl) rfl <| AX .n (.t rfl) (.t rfl) sl_71 (fun _ => by omega) rfl <| A3 .n (.t rfl) rfl (fun _ => by omega) rfl rfl rfl ic_27 rfl <| Af .n (.t rfl) rfl <| AV (full := false) [(0, 0)] [] .n rfl .f en_22 (.cons (.t rfl) (.cons (.c rfl) .nil)) (.cons (.b (.mutp rfl)) (.cons (.b (.a (.same rfl))) .nil)) (AJ (Aj.mk x1.1 x1.2.1 x1.2.2.1) 4000 (by (try dsimp only); (with_reducible (first | apply Lim.mono | apply Lim.out | apply LimA.mono)); (repeat (with_reducible (first | assumption | apply Lim.bif1 | apply Lim.bifp | apply Lim.among | apply Lim.pick | apply Lim.flows7 | apply Lim.mk))); omega)) ⟨rfl, trivial⟩ rfl rfl (fun h => Bool.noConfusion h) (fun h => Bool.noConfusion h) rfl <| AK .n (.t rfl) (.c rfl) rfl rfl <| AV (full := false) [(0, 200)] [] .n rfl .f en_103 (.cons (.t rfl) (.cons (.t rfl) (.cons (.t rfl) .nil))) (.cons (.b (.muts rfl)) (.cons (.b (.a (.same rfl))) (.cons (.b (.a (.same rfl))) .nil))) (c_spec_l07Add x1.2.2.2.1 (at' (Bg m_) x1.2.2.2.2) (IntKind.wrap .i64 ((Aa (Aj.mk x1.1 x1.2.1 x1.2.2.1) 4000).1 - 1500)) (by ((have hq := mesh_at (by assumption : MineIn m_) (i := x1.2.2.2.2) (by omega); have he : x1.2.2.2.1.length = m_.Airways.length := (by assumption); rw [he]; exact hq))) (by omega)) ⟨rfl, trivial⟩ rfl rfl (fun h => Bool.noConfusion h) (fun h => Bool.noConfusion h) rfl <| Lex.nil) (by kernel_rfl) ?_
          refine AS ?_
          refine Ad (Af .n (.t rfl) rfl <| BQ .n (.t rfl) (.c rfl) (fun _ => by omega) rfl <| Ag .n (.t rfl) rfl <| Lex.nil) ?_
          exact Cy ((Aa (Aj.mk x1.1 x1.2.1 x1.2.2.1) 4000).2.code, (Aa (Aj.mk x1.1 x1.2.1 x1.2.2.1) 4000).2.at_, (Aa (Aj.mk x1.1 x1.2.1 x1.2.2.1) 4000).2.seed, Di x1.2.2.2.1 (at' (Bg m_) x1.2.2.2.2) (IntKind.wrap .i64 ((Aa (Aj.mk x1.1 x1.2.1 x1.2.2.1) 4000).1 - 1500)), x1.2.2.2.2 + 1) ⟨by (simp only [lens] at * <;> omega), by assumption, by ((rw [add_len]; first | omega | assumption)), by ((have hq := (meshes_is (by assumption : MineIn m_)).1; (try dsimp only); omega)), by (try dsimp only); (with_reducible (first | apply Lim.mono | apply Lim.out | apply LimA.mono)); (repeat (with_reducible (first | assumption | apply Lim.bif1 | apply Lim.bifp | apply Lim.among | apply Lim.pick | apply Lim.flows7 | apply Lim.mk))); omega⟩ (by (simp only [lens] at * <;> omega)) (sub_of [] ⟨rfl, os_len rfl (by first | (simp only [put_len]; done) | (((rw [add_len]; done)))), rfl, rfl, trivial⟩ ⟨rfl, rfl, rfl, trivial⟩ rfl)
        · try simp only [tst] at h8
          refine Ba rfl ?_
          exact AY hk6 (x1.1, x1.2.1, x1.2.2.1, x1.2.2.2.1, x1.2.2.2.2) ⟨by omega, by omega, by omega, by omega, by (try dsimp only); (with_reducible (first | apply Lim.mono | apply Lim.out | apply LimA.mono)); (repeat (with_reducible (first | assumption | apply Lim.bif1 | apply Lim.bifp | apply Lim.among | apply Lim.pick | apply Lim.flows7 | apply Lim.mk))); omega, by omega⟩ (sub_of [] ⟨rfl, rfl, trivial⟩ ⟨rfl, rfl, trivial⟩ rfl)
    · try simp only [tst] at h5
      try have hf0h5 := l04Ok_imp h5
      try have hf1h5 := l04Ok_imp h5.1
      try have hf2h5 := l04Ok_imp h5.2
      try have hf3h5 := l04Ok_imp h5.1.1
      try have hf4h5 := l04Ok_imp h5.1.2
      try have hf5h5 := l04Ok_imp h5.2.1
      try have hf6h5 := l04Ok_imp h5.2.2
      refine Ae ?_
      refine Ad (Ag .n (.c rfl) rfl <| Lex.nil) ?_
      refine AC ?_
      refine Dm (C5 s_ m_ j3) _ _ _ rfl (fun (x2 : (List Int) × Int × Int × (List Int) × Int) => 0 ≤ x2.2.2.2.2 ∧ x2.2.2.2.1.length = (List.replicate ((m_.Airways.length : Int) : Int).toNat (0 : Int)).length ∧ x2.2.2.2.1.length = m_.Airways.length ∧ x2.2.2.2.2 ≤ 30 ∧ LimA x2.1 x2.2.1 (300002 + 2 * x2.2.2.2.2)) (fun x2 => 0 ≤ x2.2.2.2.2 ∧ x2.2.2.2.1.length = (List.replicate ((m_.Airways.length : Int) : Int).toNat (0 : Int)).length ∧ x2.2.2.2.1.length = m_.Airways.length ∧ x2.2.2.2.2 ≤ 30 ∧ LimA x2.1 x2.2.1 (300002 + 2 * x2.2.2.2.2) ∧ (x2.2.2.2.1.length : Int) ≤ x2.2.2.2.2) (fun x2 => ((x2.2.2.2.1.length : Int) - x2.2.2.2.2 : Int).toNat) (fun x2 => ⟨[(0, some (true, .op 0 0 0 0)), (5, some (true, .os 200 x2.2.2.2.1.length)), (8, some (true, .int .i64 x2.2.2.2.2))], [(0, some (.box 100 [.sl 1 (x2.1.map (V.int .u8)), .int .i64 x2.2.1, .int .u64 x2.2.2.1])), (200, some (.row 2 1 (x2.2.2.2.1.map (V.int .i64))))]⟩) (fun x2 => ⟨[(0, some (true, .op 0 0 0 0)), (5, some (true, .os 200 x2.2.2.2.1.length))], [(0, some (.box 100 [.sl 1 (x2.1.map (V.int .u8)), .int .i64 x2.2.1, .int .u64 x2.2.2.1])), (200, some (.row 2 1 (x2.2.2.2.1.map (V.int .i64))))]⟩) ⟨by (simp only [lens] at * <;> omega), by (simp only [lens] at * <;> omega), by (simp only [lens] at * <;> omega), by (simp only [lens] at * <;> omega), by (try dsimp only); (with_reducible (first | apply Lim.mono | apply Lim.out | apply LimA.mono)); (repeat (with_reducible (first | assumption | apply Lim.bif1 | apply Lim.bifp | apply Lim.among | apply Lim.pick | apply Lim.flows7 | apply Lim.mk))); omega⟩ (by (simp only [lens] at * <;> omega)) (sub_of [] ⟨rfl, rfl, rfl, trivial⟩ ⟨rfl, rfl, trivial⟩ rfl) rfl ?_ ?_
      · intro x2 i24
        obtain ⟨e25, e26, e27, e28, e29, e30⟩ := i24
        try dsimp only at *
        exact AY hj4 (x2.1, x2.2.1, x2.2.2.1, x2.2.2.2.1) ⟨by (try dsimp only); (with_reducible (first | apply Lim.mono | apply Lim.out | apply LimA.mono)); (repeat (with_reducible (first | assumption | apply Lim.bif1 | apply Lim.bifp | apply Lim.among | apply Lim.pick | apply Lim.flows7 | apply Lim.mk))); omega, by (simp only [lens] at * <;> omega)⟩ (sub_of [] ⟨rfl, rfl, trivial⟩ ⟨rfl, rfl, trivial⟩ rfl)
      · intro rec2 k2 hk21 x2 i22
        obtain ⟨e31, e32, e33, e34, e35⟩ := i22
        try dsimp only at *
        refine Ae ?_
        refine Ae ?_
        refine Ad (Af .n (.t rfl) rfl <| Af .n (.t rfl) rfl <| BD .n (.t rfl) rfl rfl ss_27 rfl <| AK .n (.t rfl) (.t rfl) rfl rfl <| Lex.nil) ?_
        refine As (.t rfl) rfl (fun h23 => ?_) (fun h23 => ?_)
        · try simp only [tst] at h23
          refine Aw ?_
          refine Ae ?_
          refine AC ?_
          refine Ad (Af .n (.t rfl) rfl <| Af .n (.t rfl) rfl <| Af .n (.t rfl) rfl <| AV (full := false) [(0, 0)] [] .n rfl .f en_22 (.cons (.t rfl) (.cons (.c rfl) .nil)) (.cons (.b (.mutp rfl)) (.cons (.b (.a (.same rfl))) .nil)) (AJ (Aj.mk x2.1 x2.2.1 x2.2.2.1) 4000 (by (try dsimp only); (with_reducible (first | apply Lim.mono | apply Lim.out | apply LimA.mono)); (repeat (with_reducible (first | assumption | apply Lim.bif1 | apply Lim.bifp | apply Lim.among | apply Lim.pick | apply Lim.flows7 | apply Lim.mk))); omega)) ⟨rfl, trivial⟩ rfl rfl (fun h => Bool.noConfusion h) (fun h => Bool.noConfusion h) rfl <| AK .n (.t rfl) (.c rfl) rfl rfl <| AX .n (.t rfl) (.t rfl) sl_27 (fun _ => by omega) rfl <| B0 (IntKind.wrap .i64 ((Aa (Aj.mk x2.1 x2.2.1 x2.2.2.1) 4000).1 - 2000)) .n rfl (.t rfl) (.t rfl) rfl ts_2 (by omega) rfl rfl <| Lex.nil) ?_
          refine AS ?_
          refine Ad (Af .n (.t rfl) rfl <| BQ .n (.t rfl) (.c rfl) (fun _ => by omega) rfl <| Ag .n (.t rfl) rfl <| Lex.nil) ?_
          exact Cy ((Aa (Aj.mk x2.1 x2.2.1 x2.2.2.1) 4000).2.code, (Aa (Aj.mk x2.1 x2.2.1 x2.2.2.1) 4000).2.at_, (Aa (Aj.mk x2.1 x2.2.1 x2.2.2.1) 4000).2.seed, put' x2.2.2.2.1 x2.2.2.2.2 (IntKind.wrap .i64 ((Aa (Aj.mk x2.1 x2.2.1 x2.2.2.1) 4000).1 - 2000)), x2.2.2.2.2 + 1) ⟨by (simp only [lens] at * <;> omega), by (simp only [lens] at * <;> omega), by (simp only [lens] at * <;> omega), by (simp only [lens] at * <;> omega), by (try dsimp only); (with_reducible (first | apply Lim.mono | apply Lim.out | apply LimA.mono)); (repeat (with_reducible (first | assumption | apply Lim.bif1 | apply Lim.bifp | apply Lim.among | apply Lim.pick | apply Lim.flows7 | apply Lim.mk))); omega⟩ (by (simp only [lens] at * <;> omega)) (sub_of [] ⟨rfl, os_len rfl (by first | (simp only [put_len]; done) | (first | omega | assumption | (simp only [lens] at * <;> omega) | (((have hq := mesh_at (by assumption : MineIn m_) (i := x1.2.2.2.2) (by omega); have he : x1.2.2.2.1.length = m_.Airways.length := (by assumption); rw [he]; exact hq)); done) | (((rw [add_len]; done)); done) | (((dsimp only; rw [add_len]; done)); done) | (((rw [add_len]; first | omega | assumption)); done) | (((dsimp only; rw [add_len]; assumption)); done) | (((have hq := (meshes_is (by assumption : MineIn m_)).1; (try dsimp only); omega)); done))), rfl, trivial⟩ ⟨rfl, rfl, trivial⟩ rfl)
        · try simp only [tst] at h23
          refine Ba rfl ?_
          exact AY hk21 (x2.1, x2.2.1, x2.2.2.1, x2.2.2.2.1, x2.2.2.2.2) ⟨by omega, by omega, by omega, by omega, by (try dsimp only); (with_reducible (first | apply Lim.mono | apply Lim.out | apply LimA.mono)); (repeat (with_reducible (first | assumption | apply Lim.bif1 | apply Lim.bifp | apply Lim.among | apply Lim.pick | apply Lim.flows7 | apply Lim.mk))); omega, by omega⟩ (sub_of [] ⟨rfl, rfl, trivial⟩ ⟨rfl, rfl, trivial⟩ rfl)


end Go.Proofs.YtibbfdojcdkopaaGreat
