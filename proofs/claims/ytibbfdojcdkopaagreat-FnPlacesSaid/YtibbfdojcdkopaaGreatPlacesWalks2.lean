/-
  THE WALKS: each Go function computes its model. Conditions: as each theorem states them (hp1, hp2 ..).
-/
import Derived.Test.YtibbfdojcdkopaaGreatPlacesWalks1
set_option linter.unusedVariables false
set_option linter.unusedSimpArgs false
set_option linter.unusedSectionVars false
set_option linter.unnecessarySimpa false
namespace Go.Proofs.YtibbfdojcdkopaaGreat
open Go Go.RowKit Go.Proofs Go.Proofs.YtibbfdojcdkopaaGreat.E
/-! ### spec_l03Bent -/
set_option maxRecDepth 100000 in
set_option maxHeartbeats 4000000 in
theorem c_spec_l03Bent (s_ : Ak) (hp1 : Lim s_ 650000) : Con Tryz.prog 82 [.op 0 0 0 0] [(0, some (.box 100 [.sl 1 (s_.code.map (V.int .u8)), .int .i64 s_.at_, .int .u64 s_.seed]))] (.st [.str (Bq s_).1.Id, .int .i64 (Bq s_).1.From, .int .i64 (Bq s_).1.To, .int .i64 (Bq s_).1.Length, .int .i64 (Bq s_).1.Section, .int .i64 (Bq s_).1.Friction, .int .i64 (Bq s_).1.Shock]) ([(0, some (.box 100 [.sl 1 ((Bq s_).2.code.map (V.int .u8)), .int .i64 (Bq s_).2.at_, .int .u64 (Bq s_).2.seed]))]) := by
  refine con_intro (out := fun r : Ar × Ak => ((.st [.str r.1.Id, .int .i64 r.1.From, .int .i64 r.1.To, .int .i64 r.1.Length, .int .i64 r.1.Section, .int .i64 r.1.Friction, .int .i64 r.1.Shock] : V), ([(0, some (.box 100 [.sl 1 (r.2.code.map (V.int .u8)), .int .i64 r.2.at_, .int .u64 r.2.seed]))] : List (Nat × Option O)))) (r := (Bq s_)) Tryz.func82 rfl Tryz.ntmps82 rfl ?_
  refine Af ?_
  refine Ad (BE (l := 200) .n rfl zv_112 rfl rfl <| Lex.nil) ?_
  refine Af ?_
  refine Ad (Ag .n (.t rfl) rfl <| AV K_0 (f := V.str) (l := 201) .n rfl rfl (.cons (.c rfl) (.cons (.c rfl) (.cons (.c rfl) (.cons (.c rfl) .nil)))) rfl si_103 zv_9 rfl rfl rfl <| AW (full := false) [(0, 0), (1, 201)] [] .n rfl .f en_95 (.cons (.t rfl) (.cons (.t rfl) .nil)) (.cons (.b (.mutp rfl)) (.cons (.b (.muts rfl)) .nil)) (DG s_ K_0 (by (try dsimp only); (with_reducible (first | apply Lim.mono | apply Lim.out | apply LimA.mono)); (repeat (with_reducible (first | assumption | apply Lim.among | apply Lim.text | apply Lim.pick | apply Lim.draw3 | apply Lim.mk))); omega) (by (simp only [lens] at * <;> omega))) ⟨rfl, rfl, trivial⟩ rfl rfl (fun h => Bool.noConfusion h) (fun h => Bool.noConfusion h) rfl <| Ah .n (.t rfl) rfl <| Lex.nil) ?_
  refine Af ?_
  refine Ad (Ag .n (.t rfl) rfl <| AW (full := false) [(0, 0)] [] .n rfl .f en_22 (.cons (.t rfl) (.cons (.c rfl) .nil)) (.cons (.b (.mutp rfl)) (.cons (.b (.a (.same rfl))) .nil)) (AI (Ab s_ K_0).2.1 8 (by (try dsimp only); (with_reducible (first | apply Lim.mono | apply Lim.out | apply LimA.mono)); (repeat (with_reducible (first | assumption | apply Lim.among | apply Lim.text | apply Lim.pick | apply Lim.draw3 | apply Lim.mk))); omega)) ⟨rfl, trivial⟩ rfl rfl (fun h => Bool.noConfusion h) (fun h => Bool.noConfusion h) rfl <| Ah .n (.t rfl) rfl <| Lex.nil) ?_
  refine Af ?_
  refine Ad (Ag .n (.t rfl) rfl <| Ag .n (.t rfl) rfl <| Ag .n (.t rfl) rfl <| Ag .n (.t rfl) rfl <| AF .n (.t rfl) (.c rfl) rfl rfl <| Ag .n (.t rfl) rfl <| AW (full := false) [(0, 0)] [] .n rfl .f en_22 (.cons (.t rfl) (.cons (.c rfl) .nil)) (.cons (.b (.mutp rfl)) (.cons (.b (.a (.same rfl))) .nil)) (AI (Aa (Ab s_ K_0).2.1 8).2 7 (by (try dsimp only); (with_reducible (first | apply Lim.mono | apply Lim.out | apply LimA.mono)); (repeat (with_reducible (first | assumption | apply Lim.among | apply Lim.text | apply Lim.pick | apply Lim.draw3 | apply Lim.mk))); omega)) ⟨rfl, trivial⟩ rfl rfl (fun h => Bool.noConfusion h) (fun h => Bool.noConfusion h) rfl <| AF .n (.t rfl) (.t rfl) rfl rfl <| q_rem .n (.t rfl) (.c rfl) (fun _ => by decide) rfl <| AW (full := false) [(0, 0)] [] .n rfl .f en_83 (.cons (.t rfl) (.cons (.t rfl) (.cons (.t rfl) (.cons (.t rfl) .nil)))) (.cons (.b (.mutp rfl)) (.cons (.b (.a (.same rfl))) (.cons (.b (.a (.same rfl))) (.cons (.b (.a (.same rfl))) .nil)))) (c_spec_l03DrawOk (Aa (Aa (Ab s_ K_0).2.1 8).2 7).2 (Ab s_ K_0).1 (Aa (Ab s_ K_0).2.1 8).1 (Int.tmod (IntKind.wrap .i64 ((IntKind.wrap .i64 ((Aa (Ab s_ K_0).2.1 8).1 + 1)) + (Aa (Aa (Ab s_ K_0).2.1 8).2 7).1)) 8) (by (try dsimp only); (with_reducible (first | apply Lim.mono | apply Lim.out | apply LimA.mono)); (repeat (with_reducible (first | assumption | apply Lim.among | apply Lim.text | apply Lim.pick | apply Lim.draw3 | apply Lim.mk))); omega)) ⟨rfl, trivial⟩ rfl rfl (fun h => Bool.noConfusion h) (fun h => Bool.noConfusion h) rfl <| BE (l := 202) .n rfl zv_112 rfl rfl <| AG [.str (Ai (Aa (Aa (Ab s_ K_0).2.1 8).2 7).2 (Ab s_ K_0).1 (Aa (Ab s_ K_0).2.1 8).1 (Int.tmod (IntKind.wrap .i64 ((IntKind.wrap .i64 ((Aa (Ab s_ K_0).2.1 8).1 + 1)) + (Aa (Aa (Ab s_ K_0).2.1 8).2 7).1)) 8)).1.Id, .int .i64 (Ai (Aa (Aa (Ab s_ K_0).2.1 8).2 7).2 (Ab s_ K_0).1 (Aa (Ab s_ K_0).2.1 8).1 (Int.tmod (IntKind.wrap .i64 ((IntKind.wrap .i64 ((Aa (Ab s_ K_0).2.1 8).1 + 1)) + (Aa (Aa (Ab s_ K_0).2.1 8).2 7).1)) 8)).1.From, .int .i64 (Ai (Aa (Aa (Ab s_ K_0).2.1 8).2 7).2 (Ab s_ K_0).1 (Aa (Ab s_ K_0).2.1 8).1 (Int.tmod (IntKind.wrap .i64 ((IntKind.wrap .i64 ((Aa (Ab s_ K_0).2.1 8).1 + 1)) + (Aa (Aa (Ab s_ K_0).2.1 8).2 7).1)) 8)).1.To, .int .i64 (Ai (Aa (Aa (Ab s_ K_0).2.1 8).2 7).2 (Ab s_ K_0).1 (Aa (Ab s_ K_0).2.1 8).1 (Int.tmod (IntKind.wrap .i64 ((IntKind.wrap .i64 ((Aa (Ab s_ K_0).2.1 8).1 + 1)) + (Aa (Aa (Ab s_ K_0).2.1 8).2 7).1)) 8)).1.Length, .int .i64 (Ai (Aa (Aa (Ab s_ K_0).2.1 8).2 7).2 (Ab s_ K_0).1 (Aa (Ab s_ K_0).2.1 8).1 (Int.tmod (IntKind.wrap .i64 ((IntKind.wrap .i64 ((Aa (Ab s_ K_0).2.1 8).1 + 1)) + (Aa (Aa (Ab s_ K_0).2.1 8).2 7).1)) 8)).1.Section, .int .i64 (Ai (Aa (Aa (Ab s_ K_0).2.1 8).2 7).2 (Ab s_ K_0).1 (Aa (Ab s_ K_0).2.1 8).1 (Int.tmod (IntKind.wrap .i64 ((IntKind.wrap .i64 ((Aa (Ab s_ K_0).2.1 8).1 + 1)) + (Aa (Aa (Ab s_ K_0).2.1 8).2 7).1)) 8)).1.Friction, .int .i64 (Ai (Aa (Aa (Ab s_ K_0).2.1 8).2 7).2 (Ab s_ K_0).1 (Aa (Ab s_ K_0).2.1 8).1 (Int.tmod (IntKind.wrap .i64 ((IntKind.wrap .i64 ((Aa (Ab s_ K_0).2.1 8).1 + 1)) + (Aa (Aa (Ab s_ K_0).2.1 8).2 7).1)) 8)).1.Shock] .n rfl (.t rfl) (.t rfl) rfl ts_112 rfl rfl <| Lex.nil) ?_
  refine Af ?_
  refine Af ?_
  refine Ad (Ag .n (.t rfl) rfl <| AW (full := false) [(0, 0)] [] .n rfl .f en_22 (.cons (.t rfl) (.cons (.c rfl) .nil)) (.cons (.b (.mutp rfl)) (.cons (.b (.a (.same rfl))) .nil)) (AI (Ai (Aa (Aa (Ab s_ K_0).2.1 8).2 7).2 (Ab s_ K_0).1 (Aa (Ab s_ K_0).2.1 8).1 (Int.tmod (IntKind.wrap .i64 ((IntKind.wrap .i64 ((Aa (Ab s_ K_0).2.1 8).1 + 1)) + (Aa (Aa (Ab s_ K_0).2.1 8).2 7).1)) 8)).2 20 (by (try dsimp only); (with_reducible (first | apply Lim.mono | apply Lim.out | apply LimA.mono)); (repeat (with_reducible (first | assumption | apply Lim.among | apply Lim.text | apply Lim.pick | apply Lim.draw3 | apply Lim.mk))); omega)) ⟨rfl, trivial⟩ rfl rfl (fun h => Bool.noConfusion h) (fun h => Bool.noConfusion h) rfl <| Lex.nil) ?_
  refine Aw ?_
  refine Af ?_
  refine Ad (AF .n (.t rfl) (.c rfl) rfl rfl <| Ah .n (.t rfl) rfl <| Lex.nil) ?_
  refine Aq (.t rfl) rfl (fun h1 => ?_) (fun h1 => ?_)
  · try simp only [tst] at h1
    refine Ad (Ag .n (.t rfl) rfl <| AE .n (.t rfl) fo_112_1 rfl <| AP .n (.t rfl) rfl (.inr rfl) (fun _ => rfl) rfl ic_2 rfl <| AV ([(Ai (Aa (Aa (Ab s_ K_0).2.1 8).2 7).2 (Ab s_ K_0).1 (Aa (Ab s_ K_0).2.1 8).1 (Int.tmod (IntKind.wrap .i64 ((IntKind.wrap .i64 ((Aa (Ab s_ K_0).2.1 8).1 + 1)) + (Aa (Aa (Ab s_ K_0).2.1 8).2 7).1)) 8)).1.From, 15, 16, (-1)] : List Int) (f := V.int .i64) (l := 203) .n rfl rfl (.cons (.t rfl) (.cons (.c rfl) (.cons (.c rfl) (.cons (.c rfl) .nil)))) rfl si_27 zv_2 rfl rfl rfl <| AW (full := false) [(0, 0), (1, 203)] [] .n rfl .f en_24 (.cons (.t rfl) (.cons (.t rfl) .nil)) (.cons (.b (.mutp rfl)) (.cons (.b (.muts rfl)) .nil)) (A0 (Aa (Ai (Aa (Aa (Ab s_ K_0).2.1 8).2 7).2 (Ab s_ K_0).1 (Aa (Ab s_ K_0).2.1 8).1 (Int.tmod (IntKind.wrap .i64 ((IntKind.wrap .i64 ((Aa (Ab s_ K_0).2.1 8).1 + 1)) + (Aa (Aa (Ab s_ K_0).2.1 8).2 7).1)) 8)).2 20).2 ([(Ai (Aa (Aa (Ab s_ K_0).2.1 8).2 7).2 (Ab s_ K_0).1 (Aa (Ab s_ K_0).2.1 8).1 (Int.tmod (IntKind.wrap .i64 ((IntKind.wrap .i64 ((Aa (Ab s_ K_0).2.1 8).1 + 1)) + (Aa (Aa (Ab s_ K_0).2.1 8).2 7).1)) 8)).1.From, 15, 16, (-1)] : List Int) (by (try dsimp only); (with_reducible (first | apply Lim.mono | apply Lim.out | apply LimA.mono)); (repeat (with_reducible (first | assumption | apply Lim.among | apply Lim.text | apply Lim.pick | apply Lim.draw3 | apply Lim.mk))); omega) (by (simp only [lens] at * <;> omega))) ⟨rfl, rfl, trivial⟩ rfl rfl (fun h => Bool.noConfusion h) (fun h => Bool.noConfusion h) rfl <| AE .n (.t rfl) fo_112_2 rfl <| AG [.str (Ai (Aa (Aa (Ab s_ K_0).2.1 8).2 7).2 (Ab s_ K_0).1 (Aa (Ab s_ K_0).2.1 8).1 (Int.tmod (IntKind.wrap .i64 ((IntKind.wrap .i64 ((Aa (Ab s_ K_0).2.1 8).1 + 1)) + (Aa (Aa (Ab s_ K_0).2.1 8).2 7).1)) 8)).1.Id, .int .i64 (Ai (Aa (Aa (Ab s_ K_0).2.1 8).2 7).2 (Ab s_ K_0).1 (Aa (Ab s_ K_0).2.1 8).1 (Int.tmod (IntKind.wrap .i64 ((IntKind.wrap .i64 ((Aa (Ab s_ K_0).2.1 8).1 + 1)) + (Aa (Aa (Ab s_ K_0).2.1 8).2 7).1)) 8)).1.From, .int .i64 (Aj (Aa (Ai (Aa (Aa (Ab s_ K_0).2.1 8).2 7).2 (Ab s_ K_0).1 (Aa (Ab s_ K_0).2.1 8).1 (Int.tmod (IntKind.wrap .i64 ((IntKind.wrap .i64 ((Aa (Ab s_ K_0).2.1 8).1 + 1)) + (Aa (Aa (Ab s_ K_0).2.1 8).2 7).1)) 8)).2 20).2 ([(Ai (Aa (Aa (Ab s_ K_0).2.1 8).2 7).2 (Ab s_ K_0).1 (Aa (Ab s_ K_0).2.1 8).1 (Int.tmod (IntKind.wrap .i64 ((IntKind.wrap .i64 ((Aa (Ab s_ K_0).2.1 8).1 + 1)) + (Aa (Aa (Ab s_ K_0).2.1 8).2 7).1)) 8)).1.From, 15, 16, (-1)] : List Int)).1, .int .i64 (Ai (Aa (Aa (Ab s_ K_0).2.1 8).2 7).2 (Ab s_ K_0).1 (Aa (Ab s_ K_0).2.1 8).1 (Int.tmod (IntKind.wrap .i64 ((IntKind.wrap .i64 ((Aa (Ab s_ K_0).2.1 8).1 + 1)) + (Aa (Aa (Ab s_ K_0).2.1 8).2 7).1)) 8)).1.Length, .int .i64 (Ai (Aa (Aa (Ab s_ K_0).2.1 8).2 7).2 (Ab s_ K_0).1 (Aa (Ab s_ K_0).2.1 8).1 (Int.tmod (IntKind.wrap .i64 ((IntKind.wrap .i64 ((Aa (Ab s_ K_0).2.1 8).1 + 1)) + (Aa (Aa (Ab s_ K_0).2.1 8).2 7).1)) 8)).1.Section, .int .i64 (Ai (Aa (Aa (Ab s_ K_0).2.1 8).2 7).2 (Ab s_ K_0).1 (Aa (Ab s_ K_0).2.1 8).1 (Int.tmod (IntKind.wrap .i64 ((IntKind.wrap .i64 ((Aa (Ab s_ K_0).2.1 8).1 + 1)) + (Aa (Aa (Ab s_ K_0).2.1 8).2 7).1)) 8)).1.Friction, .int .i64 (Ai (Aa (Aa (Ab s_ K_0).2.1 8).2 7).2 (Ab s_ K_0).1 (Aa (Ab s_ K_0).2.1 8).1 (Int.tmod (IntKind.wrap .i64 ((IntKind.wrap .i64 ((Aa (Ab s_ K_0).2.1 8).1 + 1)) + (Aa (Aa (Ab s_ K_0).2.1 8).2 7).1)) 8)).1.Shock] .n rfl (.t rfl) (.t rfl) rfl ts_2 rfl rfl <| Lex.nil) ?_
    refine AK ?_
    refine Af ?_
    refine Ad (Ba .n (.t rfl) rfl (.inr rfl) ag_112 (fun _ => rfl) rfl rfl <| AG [.str (Ai (Aa (Aa (Ab s_ K_0).2.1 8).2 7).2 (Ab s_ K_0).1 (Aa (Ab s_ K_0).2.1 8).1 (Int.tmod (IntKind.wrap .i64 ((IntKind.wrap .i64 ((Aa (Ab s_ K_0).2.1 8).1 + 1)) + (Aa (Aa (Ab s_ K_0).2.1 8).2 7).1)) 8)).1.Id, .int .i64 (Ai (Aa (Aa (Ab s_ K_0).2.1 8).2 7).2 (Ab s_ K_0).1 (Aa (Ab s_ K_0).2.1 8).1 (Int.tmod (IntKind.wrap .i64 ((IntKind.wrap .i64 ((Aa (Ab s_ K_0).2.1 8).1 + 1)) + (Aa (Aa (Ab s_ K_0).2.1 8).2 7).1)) 8)).1.From, .int .i64 (Aj (Aa (Ai (Aa (Aa (Ab s_ K_0).2.1 8).2 7).2 (Ab s_ K_0).1 (Aa (Ab s_ K_0).2.1 8).1 (Int.tmod (IntKind.wrap .i64 ((IntKind.wrap .i64 ((Aa (Ab s_ K_0).2.1 8).1 + 1)) + (Aa (Aa (Ab s_ K_0).2.1 8).2 7).1)) 8)).2 20).2 ([(Ai (Aa (Aa (Ab s_ K_0).2.1 8).2 7).2 (Ab s_ K_0).1 (Aa (Ab s_ K_0).2.1 8).1 (Int.tmod (IntKind.wrap .i64 ((IntKind.wrap .i64 ((Aa (Ab s_ K_0).2.1 8).1 + 1)) + (Aa (Aa (Ab s_ K_0).2.1 8).2 7).1)) 8)).1.From, 15, 16, (-1)] : List Int)).1, .int .i64 (Ai (Aa (Aa (Ab s_ K_0).2.1 8).2 7).2 (Ab s_ K_0).1 (Aa (Ab s_ K_0).2.1 8).1 (Int.tmod (IntKind.wrap .i64 ((IntKind.wrap .i64 ((Aa (Ab s_ K_0).2.1 8).1 + 1)) + (Aa (Aa (Ab s_ K_0).2.1 8).2 7).1)) 8)).1.Length, .int .i64 (Ai (Aa (Aa (Ab s_ K_0).2.1 8).2 7).2 (Ab s_ K_0).1 (Aa (Ab s_ K_0).2.1 8).1 (Int.tmod (IntKind.wrap .i64 ((IntKind.wrap .i64 ((Aa (Ab s_ K_0).2.1 8).1 + 1)) + (Aa (Aa (Ab s_ K_0).2.1 8).2 7).1)) 8)).1.Section, .int .i64 (Ai (Aa (Aa (Ab s_ K_0).2.1 8).2 7).2 (Ab s_ K_0).1 (Aa (Ab s_ K_0).2.1 8).1 (Int.tmod (IntKind.wrap .i64 ((IntKind.wrap .i64 ((Aa (Ab s_ K_0).2.1 8).1 + 1)) + (Aa (Aa (Ab s_ K_0).2.1 8).2 7).1)) 8)).1.Friction, .int .i64 (Ai (Aa (Aa (Ab s_ K_0).2.1 8).2 7).2 (Ab s_ K_0).1 (Aa (Ab s_ K_0).2.1 8).1 (Int.tmod (IntKind.wrap .i64 ((IntKind.wrap .i64 ((Aa (Ab s_ K_0).2.1 8).1 + 1)) + (Aa (Aa (Ab s_ K_0).2.1 8).2 7).1)) 8)).1.Shock] .n rfl (.t rfl) (.t rfl) rfl ts_112 rfl rfl <| Lex.nil) ?_
    exact Au [] (.cons (.cN rfl rfl ag_112 rfl rfl) .nil) (by first | rfl | (simp only [put_len]; rfl)) ⟨rfl, trivial⟩ rfl
  · try simp only [tst] at h1
    refine Af ?_
    refine Ad (AF .n (.t rfl) (.c rfl) rfl rfl <| Ah .n (.t rfl) rfl <| Lex.nil) ?_
    refine Aq (.t rfl) rfl (fun h2 => ?_) (fun h2 => ?_)
    · try simp only [tst] at h2
      refine Ad (Ag .n (.t rfl) rfl <| AV ([0, 1, 10000, 10001] : List Int) (f := V.int .i64) (l := 204) .n rfl rfl (.cons (.c rfl) (.cons (.c rfl) (.cons (.c rfl) (.cons (.c rfl) .nil)))) rfl si_27 zv_2 rfl rfl rfl <| AW (full := false) [(0, 0), (1, 204)] [] .n rfl .f en_24 (.cons (.t rfl) (.cons (.t rfl) .nil)) (.cons (.b (.mutp rfl)) (.cons (.b (.muts rfl)) .nil)) (A0 (Aa (Ai (Aa (Aa (Ab s_ K_0).2.1 8).2 7).2 (Ab s_ K_0).1 (Aa (Ab s_ K_0).2.1 8).1 (Int.tmod (IntKind.wrap .i64 ((IntKind.wrap .i64 ((Aa (Ab s_ K_0).2.1 8).1 + 1)) + (Aa (Aa (Ab s_ K_0).2.1 8).2 7).1)) 8)).2 20).2 ([0, 1, 10000, 10001] : List Int) (by (try dsimp only); (with_reducible (first | apply Lim.mono | apply Lim.out | apply LimA.mono)); (repeat (with_reducible (first | assumption | apply Lim.among | apply Lim.text | apply Lim.pick | apply Lim.draw3 | apply Lim.mk))); omega) (by (simp only [lens] at * <;> omega))) ⟨rfl, rfl, trivial⟩ rfl rfl (fun h => Bool.noConfusion h) (fun h => Bool.noConfusion h) rfl <| AE .n (.t rfl) fo_112_3 rfl <| AG [.str (Ai (Aa (Aa (Ab s_ K_0).2.1 8).2 7).2 (Ab s_ K_0).1 (Aa (Ab s_ K_0).2.1 8).1 (Int.tmod (IntKind.wrap .i64 ((IntKind.wrap .i64 ((Aa (Ab s_ K_0).2.1 8).1 + 1)) + (Aa (Aa (Ab s_ K_0).2.1 8).2 7).1)) 8)).1.Id, .int .i64 (Ai (Aa (Aa (Ab s_ K_0).2.1 8).2 7).2 (Ab s_ K_0).1 (Aa (Ab s_ K_0).2.1 8).1 (Int.tmod (IntKind.wrap .i64 ((IntKind.wrap .i64 ((Aa (Ab s_ K_0).2.1 8).1 + 1)) + (Aa (Aa (Ab s_ K_0).2.1 8).2 7).1)) 8)).1.From, .int .i64 (Ai (Aa (Aa (Ab s_ K_0).2.1 8).2 7).2 (Ab s_ K_0).1 (Aa (Ab s_ K_0).2.1 8).1 (Int.tmod (IntKind.wrap .i64 ((IntKind.wrap .i64 ((Aa (Ab s_ K_0).2.1 8).1 + 1)) + (Aa (Aa (Ab s_ K_0).2.1 8).2 7).1)) 8)).1.To, .int .i64 (Aj (Aa (Ai (Aa (Aa (Ab s_ K_0).2.1 8).2 7).2 (Ab s_ K_0).1 (Aa (Ab s_ K_0).2.1 8).1 (Int.tmod (IntKind.wrap .i64 ((IntKind.wrap .i64 ((Aa (Ab s_ K_0).2.1 8).1 + 1)) + (Aa (Aa (Ab s_ K_0).2.1 8).2 7).1)) 8)).2 20).2 ([0, 1, 10000, 10001] : List Int)).1, .int .i64 (Ai (Aa (Aa (Ab s_ K_0).2.1 8).2 7).2 (Ab s_ K_0).1 (Aa (Ab s_ K_0).2.1 8).1 (Int.tmod (IntKind.wrap .i64 ((IntKind.wrap .i64 ((Aa (Ab s_ K_0).2.1 8).1 + 1)) + (Aa (Aa (Ab s_ K_0).2.1 8).2 7).1)) 8)).1.Section, .int .i64 (Ai (Aa (Aa (Ab s_ K_0).2.1 8).2 7).2 (Ab s_ K_0).1 (Aa (Ab s_ K_0).2.1 8).1 (Int.tmod (IntKind.wrap .i64 ((IntKind.wrap .i64 ((Aa (Ab s_ K_0).2.1 8).1 + 1)) + (Aa (Aa (Ab s_ K_0).2.1 8).2 7).1)) 8)).1.Friction, .int .i64 (Ai (Aa (Aa (Ab s_ K_0).2.1 8).2 7).2 (Ab s_ K_0).1 (Aa (Ab s_ K_0).2.1 8).1 (Int.tmod (IntKind.wrap .i64 ((IntKind.wrap .i64 ((Aa (Ab s_ K_0).2.1 8).1 + 1)) + (Aa (Aa (Ab s_ K_0).2.1 8).2 7).1)) 8)).1.Shock] .n rfl (.t rfl) (.t rfl) rfl ts_2 rfl rfl <| Lex.nil) ?_
      refine AK ?_
      refine Af ?_
      refine Ad (Ba .n (.t rfl) rfl (.inr rfl) ag_112 (fun _ => rfl) rfl rfl <| AG [.str (Ai (Aa (Aa (Ab s_ K_0).2.1 8).2 7).2 (Ab s_ K_0).1 (Aa (Ab s_ K_0).2.1 8).1 (Int.tmod (IntKind.wrap .i64 ((IntKind.wrap .i64 ((Aa (Ab s_ K_0).2.1 8).1 + 1)) + (Aa (Aa (Ab s_ K_0).2.1 8).2 7).1)) 8)).1.Id, .int .i64 (Ai (Aa (Aa (Ab s_ K_0).2.1 8).2 7).2 (Ab s_ K_0).1 (Aa (Ab s_ K_0).2.1 8).1 (Int.tmod (IntKind.wrap .i64 ((IntKind.wrap .i64 ((Aa (Ab s_ K_0).2.1 8).1 + 1)) + (Aa (Aa (Ab s_ K_0).2.1 8).2 7).1)) 8)).1.From, .int .i64 (Ai (Aa (Aa (Ab s_ K_0).2.1 8).2 7).2 (Ab s_ K_0).1 (Aa (Ab s_ K_0).2.1 8).1 (Int.tmod (IntKind.wrap .i64 ((IntKind.wrap .i64 ((Aa (Ab s_ K_0).2.1 8).1 + 1)) + (Aa (Aa (Ab s_ K_0).2.1 8).2 7).1)) 8)).1.To, .int .i64 (Aj (Aa (Ai (Aa (Aa (Ab s_ K_0).2.1 8).2 7).2 (Ab s_ K_0).1 (Aa (Ab s_ K_0).2.1 8).1 (Int.tmod (IntKind.wrap .i64 ((IntKind.wrap .i64 ((Aa (Ab s_ K_0).2.1 8).1 + 1)) + (Aa (Aa (Ab s_ K_0).2.1 8).2 7).1)) 8)).2 20).2 ([0, 1, 10000, 10001] : List Int)).1, .int .i64 (Ai (Aa (Aa (Ab s_ K_0).2.1 8).2 7).2 (Ab s_ K_0).1 (Aa (Ab s_ K_0).2.1 8).1 (Int.tmod (IntKind.wrap .i64 ((IntKind.wrap .i64 ((Aa (Ab s_ K_0).2.1 8).1 + 1)) + (Aa (Aa (Ab s_ K_0).2.1 8).2 7).1)) 8)).1.Section, .int .i64 (Ai (Aa (Aa (Ab s_ K_0).2.1 8).2 7).2 (Ab s_ K_0).1 (Aa (Ab s_ K_0).2.1 8).1 (Int.tmod (IntKind.wrap .i64 ((IntKind.wrap .i64 ((Aa (Ab s_ K_0).2.1 8).1 + 1)) + (Aa (Aa (Ab s_ K_0).2.1 8).2 7).1)) 8)).1.Friction, .int .i64 (Ai (Aa (Aa (Ab s_ K_0).2.1 8).2 7).2 (Ab s_ K_0).1 (Aa (Ab s_ K_0).2.1 8).1 (Int.tmod (IntKind.wrap .i64 ((IntKind.wrap .i64 ((Aa (Ab s_ K_0).2.1 8).1 + 1)) + (Aa (Aa (Ab s_ K_0).2.1 8).2 7).1)) 8)).1.Shock] .n rfl (.t rfl) (.t rfl) rfl ts_112 rfl rfl <| Lex.nil) ?_
      exact Au [] (.cons (.cN rfl rfl ag_112 rfl rfl) .nil) (by first | rfl | (simp only [put_len]; rfl)) ⟨rfl, trivial⟩ rfl
    · try simp only [tst] at h2
      refine Af ?_
      refine Ad (AF .n (.t rfl) (.c rfl) rfl rfl <| Ah .n (.t rfl) rfl <| Lex.nil) ?_
      refine Aq (.t rfl) rfl (fun h3 => ?_) (fun h3 => ?_)
      · try simp only [tst] at h3
        refine Ad (Ag .n (.t rfl) rfl <| AV ([49, 50, 5000, 5001] : List Int) (f := V.int .i64) (l := 205) .n rfl rfl (.cons (.c rfl) (.cons (.c rfl) (.cons (.c rfl) (.cons (.c rfl) .nil)))) rfl si_27 zv_2 rfl rfl rfl <| AW (full := false) [(0, 0), (1, 205)] [] .n rfl .f en_24 (.cons (.t rfl) (.cons (.t rfl) .nil)) (.cons (.b (.mutp rfl)) (.cons (.b (.muts rfl)) .nil)) (A0 (Aa (Ai (Aa (Aa (Ab s_ K_0).2.1 8).2 7).2 (Ab s_ K_0).1 (Aa (Ab s_ K_0).2.1 8).1 (Int.tmod (IntKind.wrap .i64 ((IntKind.wrap .i64 ((Aa (Ab s_ K_0).2.1 8).1 + 1)) + (Aa (Aa (Ab s_ K_0).2.1 8).2 7).1)) 8)).2 20).2 ([49, 50, 5000, 5001] : List Int) (by (try dsimp only); (with_reducible (first | apply Lim.mono | apply Lim.out | apply LimA.mono)); (repeat (with_reducible (first | assumption | apply Lim.among | apply Lim.text | apply Lim.pick | apply Lim.draw3 | apply Lim.mk))); omega) (by (simp only [lens] at * <;> omega))) ⟨rfl, rfl, trivial⟩ rfl rfl (fun h => Bool.noConfusion h) (fun h => Bool.noConfusion h) rfl <| AE .n (.t rfl) fo_112_4 rfl <| AG [.str (Ai (Aa (Aa (Ab s_ K_0).2.1 8).2 7).2 (Ab s_ K_0).1 (Aa (Ab s_ K_0).2.1 8).1 (Int.tmod (IntKind.wrap .i64 ((IntKind.wrap .i64 ((Aa (Ab s_ K_0).2.1 8).1 + 1)) + (Aa (Aa (Ab s_ K_0).2.1 8).2 7).1)) 8)).1.Id, .int .i64 (Ai (Aa (Aa (Ab s_ K_0).2.1 8).2 7).2 (Ab s_ K_0).1 (Aa (Ab s_ K_0).2.1 8).1 (Int.tmod (IntKind.wrap .i64 ((IntKind.wrap .i64 ((Aa (Ab s_ K_0).2.1 8).1 + 1)) + (Aa (Aa (Ab s_ K_0).2.1 8).2 7).1)) 8)).1.From, .int .i64 (Ai (Aa (Aa (Ab s_ K_0).2.1 8).2 7).2 (Ab s_ K_0).1 (Aa (Ab s_ K_0).2.1 8).1 (Int.tmod (IntKind.wrap .i64 ((IntKind.wrap .i64 ((Aa (Ab s_ K_0).2.1 8).1 + 1)) + (Aa (Aa (Ab s_ K_0).2.1 8).2 7).1)) 8)).1.To, .int .i64 (Ai (Aa (Aa (Ab s_ K_0).2.1 8).2 7).2 (Ab s_ K_0).1 (Aa (Ab s_ K_0).2.1 8).1 (Int.tmod (IntKind.wrap .i64 ((IntKind.wrap .i64 ((Aa (Ab s_ K_0).2.1 8).1 + 1)) + (Aa (Aa (Ab s_ K_0).2.1 8).2 7).1)) 8)).1.Length, .int .i64 (Aj (Aa (Ai (Aa (Aa (Ab s_ K_0).2.1 8).2 7).2 (Ab s_ K_0).1 (Aa (Ab s_ K_0).2.1 8).1 (Int.tmod (IntKind.wrap .i64 ((IntKind.wrap .i64 ((Aa (Ab s_ K_0).2.1 8).1 + 1)) + (Aa (Aa (Ab s_ K_0).2.1 8).2 7).1)) 8)).2 20).2 ([49, 50, 5000, 5001] : List Int)).1, .int .i64 (Ai (Aa (Aa (Ab s_ K_0).2.1 8).2 7).2 (Ab s_ K_0).1 (Aa (Ab s_ K_0).2.1 8).1 (Int.tmod (IntKind.wrap .i64 ((IntKind.wrap .i64 ((Aa (Ab s_ K_0).2.1 8).1 + 1)) + (Aa (Aa (Ab s_ K_0).2.1 8).2 7).1)) 8)).1.Friction, .int .i64 (Ai (Aa (Aa (Ab s_ K_0).2.1 8).2 7).2 (Ab s_ K_0).1 (Aa (Ab s_ K_0).2.1 8).1 (Int.tmod (IntKind.wrap .i64 ((IntKind.wrap .i64 ((Aa (Ab s_ K_0).2.1 8).1 + 1)) + (Aa (Aa (Ab s_ K_0).2.1 8).2 7).1)) 8)).1.Shock] .n rfl (.t rfl) (.t rfl) rfl ts_2 rfl rfl <| Lex.nil) ?_
        refine AK ?_
        refine Af ?_
        refine Ad (Ba .n (.t rfl) rfl (.inr rfl) ag_112 (fun _ => rfl) rfl rfl <| AG [.str (Ai (Aa (Aa (Ab s_ K_0).2.1 8).2 7).2 (Ab s_ K_0).1 (Aa (Ab s_ K_0).2.1 8).1 (Int.tmod (IntKind.wrap .i64 ((IntKind.wrap .i64 ((Aa (Ab s_ K_0).2.1 8).1 + 1)) + (Aa (Aa (Ab s_ K_0).2.1 8).2 7).1)) 8)).1.Id, .int .i64 (Ai (Aa (Aa (Ab s_ K_0).2.1 8).2 7).2 (Ab s_ K_0).1 (Aa (Ab s_ K_0).2.1 8).1 (Int.tmod (IntKind.wrap .i64 ((IntKind.wrap .i64 ((Aa (Ab s_ K_0).2.1 8).1 + 1)) + (Aa (Aa (Ab s_ K_0).2.1 8).2 7).1)) 8)).1.From, .int .i64 (Ai (Aa (Aa (Ab s_ K_0).2.1 8).2 7).2 (Ab s_ K_0).1 (Aa (Ab s_ K_0).2.1 8).1 (Int.tmod (IntKind.wrap .i64 ((IntKind.wrap .i64 ((Aa (Ab s_ K_0).2.1 8).1 + 1)) + (Aa (Aa (Ab s_ K_0).2.1 8).2 7).1)) 8)).1.To, .int .i64 (Ai (Aa (Aa (Ab s_ K_0).2.1 8).2 7).2 (Ab s_ K_0).1 (Aa (Ab s_ K_0).2.1 8).1 (Int.tmod (IntKind.wrap .i64 ((IntKind.wrap .i64 ((Aa (Ab s_ K_0).2.1 8).1 + 1)) + (Aa (Aa (Ab s_ K_0).2.1 8).2 7).1)) 8)).1.Length, .int .i64 (Aj (Aa (Ai (Aa (Aa (Ab s_ K_0).2.1 8).2 7).2 (Ab s_ K_0).1 (Aa (Ab s_ K_0).2.1 8).1 (Int.tmod (IntKind.wrap .i64 ((IntKind.wrap .i64 ((Aa (Ab s_ K_0).2.1 8).1 + 1)) + (Aa (Aa (Ab s_ K_0).2.1 8).2 7).1)) 8)).2 20).2 ([49, 50, 5000, 5001] : List Int)).1, .int .i64 (Ai (Aa (Aa (Ab s_ K_0).2.1 8).2 7).2 (Ab s_ K_0).1 (Aa (Ab s_ K_0).2.1 8).1 (Int.tmod (IntKind.wrap .i64 ((IntKind.wrap .i64 ((Aa (Ab s_ K_0).2.1 8).1 + 1)) + (Aa (Aa (Ab s_ K_0).2.1 8).2 7).1)) 8)).1.Friction, .int .i64 (Ai (Aa (Aa (Ab s_ K_0).2.1 8).2 7).2 (Ab s_ K_0).1 (Aa (Ab s_ K_0).2.1 8).1 (Int.tmod (IntKind.wrap .i64 ((IntKind.wrap .i64 ((Aa (Ab s_ K_0).2.1 8).1 + 1)) + (Aa (Aa (Ab s_ K_0).2.1 8).2 7).1)) 8)).1.Shock] .n rfl (.t rfl) (.t rfl) rfl ts_112 rfl rfl <| Lex.nil) ?_
        exact Au [] (.cons (.cN rfl rfl ag_112 rfl rfl) .nil) (by first | rfl | (simp only [put_len]; rfl)) ⟨rfl, trivial⟩ rfl
      · try simp only [tst] at h3
        refine Af ?_
        refine Ad (AF .n (.t rfl) (.c rfl) rfl rfl <| Ah .n (.t rfl) rfl <| Lex.nil) ?_
        refine Aq (.t rfl) rfl (fun h4 => ?_) (fun h4 => ?_)
        · try simp only [tst] at h4
          refine Ad (Ag .n (.t rfl) rfl <| AV ([0, 1, 1000, 1001] : List Int) (f := V.int .i64) (l := 206) .n rfl rfl (.cons (.c rfl) (.cons (.c rfl) (.cons (.c rfl) (.cons (.c rfl) .nil)))) rfl si_27 zv_2 rfl rfl rfl <| AW (full := false) [(0, 0), (1, 206)] [] .n rfl .f en_24 (.cons (.t rfl) (.cons (.t rfl) .nil)) (.cons (.b (.mutp rfl)) (.cons (.b (.muts rfl)) .nil)) (A0 (Aa (Ai (Aa (Aa (Ab s_ K_0).2.1 8).2 7).2 (Ab s_ K_0).1 (Aa (Ab s_ K_0).2.1 8).1 (Int.tmod (IntKind.wrap .i64 ((IntKind.wrap .i64 ((Aa (Ab s_ K_0).2.1 8).1 + 1)) + (Aa (Aa (Ab s_ K_0).2.1 8).2 7).1)) 8)).2 20).2 ([0, 1, 1000, 1001] : List Int) (by (try dsimp only); (with_reducible (first | apply Lim.mono | apply Lim.out | apply LimA.mono)); (repeat (with_reducible (first | assumption | apply Lim.among | apply Lim.text | apply Lim.pick | apply Lim.draw3 | apply Lim.mk))); omega) (by (simp only [lens] at * <;> omega))) ⟨rfl, rfl, trivial⟩ rfl rfl (fun h => Bool.noConfusion h) (fun h => Bool.noConfusion h) rfl <| AE .n (.t rfl) fo_112_5 rfl <| AG [.str (Ai (Aa (Aa (Ab s_ K_0).2.1 8).2 7).2 (Ab s_ K_0).1 (Aa (Ab s_ K_0).2.1 8).1 (Int.tmod (IntKind.wrap .i64 ((IntKind.wrap .i64 ((Aa (Ab s_ K_0).2.1 8).1 + 1)) + (Aa (Aa (Ab s_ K_0).2.1 8).2 7).1)) 8)).1.Id, .int .i64 (Ai (Aa (Aa (Ab s_ K_0).2.1 8).2 7).2 (Ab s_ K_0).1 (Aa (Ab s_ K_0).2.1 8).1 (Int.tmod (IntKind.wrap .i64 ((IntKind.wrap .i64 ((Aa (Ab s_ K_0).2.1 8).1 + 1)) + (Aa (Aa (Ab s_ K_0).2.1 8).2 7).1)) 8)).1.From, .int .i64 (Ai (Aa (Aa (Ab s_ K_0).2.1 8).2 7).2 (Ab s_ K_0).1 (Aa (Ab s_ K_0).2.1 8).1 (Int.tmod (IntKind.wrap .i64 ((IntKind.wrap .i64 ((Aa (Ab s_ K_0).2.1 8).1 + 1)) + (Aa (Aa (Ab s_ K_0).2.1 8).2 7).1)) 8)).1.To, .int .i64 (Ai (Aa (Aa (Ab s_ K_0).2.1 8).2 7).2 (Ab s_ K_0).1 (Aa (Ab s_ K_0).2.1 8).1 (Int.tmod (IntKind.wrap .i64 ((IntKind.wrap .i64 ((Aa (Ab s_ K_0).2.1 8).1 + 1)) + (Aa (Aa (Ab s_ K_0).2.1 8).2 7).1)) 8)).1.Length, .int .i64 (Ai (Aa (Aa (Ab s_ K_0).2.1 8).2 7).2 (Ab s_ K_0).1 (Aa (Ab s_ K_0).2.1 8).1 (Int.tmod (IntKind.wrap .i64 ((IntKind.wrap .i64 ((Aa (Ab s_ K_0).2.1 8).1 + 1)) + (Aa (Aa (Ab s_ K_0).2.1 8).2 7).1)) 8)).1.Section, .int .i64 (Aj (Aa (Ai (Aa (Aa (Ab s_ K_0).2.1 8).2 7).2 (Ab s_ K_0).1 (Aa (Ab s_ K_0).2.1 8).1 (Int.tmod (IntKind.wrap .i64 ((IntKind.wrap .i64 ((Aa (Ab s_ K_0).2.1 8).1 + 1)) + (Aa (Aa (Ab s_ K_0).2.1 8).2 7).1)) 8)).2 20).2 ([0, 1, 1000, 1001] : List Int)).1, .int .i64 (Ai (Aa (Aa (Ab s_ K_0).2.1 8).2 7).2 (Ab s_ K_0).1 (Aa (Ab s_ K_0).2.1 8).1 (Int.tmod (IntKind.wrap .i64 ((IntKind.wrap .i64 ((Aa (Ab s_ K_0).2.1 8).1 + 1)) + (Aa (Aa (Ab s_ K_0).2.1 8).2 7).1)) 8)).1.Shock] .n rfl (.t rfl) (.t rfl) rfl ts_2 rfl rfl <| Lex.nil) ?_
          refine AK ?_
          refine Af ?_
          refine Ad (Ba .n (.t rfl) rfl (.inr rfl) ag_112 (fun _ => rfl) rfl rfl <| AG [.str (Ai (Aa (Aa (Ab s_ K_0).2.1 8).2 7).2 (Ab s_ K_0).1 (Aa (Ab s_ K_0).2.1 8).1 (Int.tmod (IntKind.wrap .i64 ((IntKind.wrap .i64 ((Aa (Ab s_ K_0).2.1 8).1 + 1)) + (Aa (Aa (Ab s_ K_0).2.1 8).2 7).1)) 8)).1.Id, .int .i64 (Ai (Aa (Aa (Ab s_ K_0).2.1 8).2 7).2 (Ab s_ K_0).1 (Aa (Ab s_ K_0).2.1 8).1 (Int.tmod (IntKind.wrap .i64 ((IntKind.wrap .i64 ((Aa (Ab s_ K_0).2.1 8).1 + 1)) + (Aa (Aa (Ab s_ K_0).2.1 8).2 7).1)) 8)).1.From, .int .i64 (Ai (Aa (Aa (Ab s_ K_0).2.1 8).2 7).2 (Ab s_ K_0).1 (Aa (Ab s_ K_0).2.1 8).1 (Int.tmod (IntKind.wrap .i64 ((IntKind.wrap .i64 ((Aa (Ab s_ K_0).2.1 8).1 + 1)) + (Aa (Aa (Ab s_ K_0).2.1 8).2 7).1)) 8)).1.To, .int .i64 (Ai (Aa (Aa (Ab s_ K_0).2.1 8).2 7).2 (Ab s_ K_0).1 (Aa (Ab s_ K_0).2.1 8).1 (Int.tmod (IntKind.wrap .i64 ((IntKind.wrap .i64 ((Aa (Ab s_ K_0).2.1 8).1 + 1)) + (Aa (Aa (Ab s_ K_0).2.1 8).2 7).1)) 8)).1.Length, .int .i64 (Ai (Aa (Aa (Ab s_ K_0).2.1 8).2 7).2 (Ab s_ K_0).1 (Aa (Ab s_ K_0).2.1 8).1 (Int.tmod (IntKind.wrap .i64 ((IntKind.wrap .i64 ((Aa (Ab s_ K_0).2.1 8).1 + 1)) + (Aa (Aa (Ab s_ K_0).2.1 8).2 7).1)) 8)).1.Section, .int .i64 (Aj (Aa (Ai (Aa (Aa (Ab s_ K_0).2.1 8).2 7).2 (Ab s_ K_0).1 (Aa (Ab s_ K_0).2.1 8).1 (Int.tmod (IntKind.wrap .i64 ((IntKind.wrap .i64 ((Aa (Ab s_ K_0).2.1 8).1 + 1)) + (Aa (Aa (Ab s_ K_0).2.1 8).2 7).1)) 8)).2 20).2 ([0, 1, 1000, 1001] : List Int)).1, .int .i64 (Ai (Aa (Aa (Ab s_ K_0).2.1 8).2 7).2 (Ab s_ K_0).1 (Aa (Ab s_ K_0).2.1 8).1 (Int.tmod (IntKind.wrap .i64 ((IntKind.wrap .i64 ((Aa (Ab s_ K_0).2.1 8).1 + 1)) + (Aa (Aa (Ab s_ K_0).2.1 8).2 7).1)) 8)).1.Shock] .n rfl (.t rfl) (.t rfl) rfl ts_112 rfl rfl <| Lex.nil) ?_
          exact Au [] (.cons (.cN rfl rfl ag_112 rfl rfl) .nil) (by first | rfl | (simp only [put_len]; rfl)) ⟨rfl, trivial⟩ rfl
        · try simp only [tst] at h4
          refine Af ?_
          refine Ad (AF .n (.t rfl) (.c rfl) rfl rfl <| Ah .n (.t rfl) rfl <| Lex.nil) ?_
          refine Aq (.t rfl) rfl (fun h5 => ?_) (fun h5 => ?_)
          · try simp only [tst] at h5
            refine Ad (Ag .n (.t rfl) rfl <| AV ([(-1), 1000, 1001] : List Int) (f := V.int .i64) (l := 207) .n rfl rfl (.cons (.c rfl) (.cons (.c rfl) (.cons (.c rfl) .nil))) rfl si_27 zv_2 rfl rfl rfl <| AW (full := false) [(0, 0), (1, 207)] [] .n rfl .f en_24 (.cons (.t rfl) (.cons (.t rfl) .nil)) (.cons (.b (.mutp rfl)) (.cons (.b (.muts rfl)) .nil)) (A0 (Aa (Ai (Aa (Aa (Ab s_ K_0).2.1 8).2 7).2 (Ab s_ K_0).1 (Aa (Ab s_ K_0).2.1 8).1 (Int.tmod (IntKind.wrap .i64 ((IntKind.wrap .i64 ((Aa (Ab s_ K_0).2.1 8).1 + 1)) + (Aa (Aa (Ab s_ K_0).2.1 8).2 7).1)) 8)).2 20).2 ([(-1), 1000, 1001] : List Int) (by (try dsimp only); (with_reducible (first | apply Lim.mono | apply Lim.out | apply LimA.mono)); (repeat (with_reducible (first | assumption | apply Lim.among | apply Lim.text | apply Lim.pick | apply Lim.draw3 | apply Lim.mk))); omega) (by (simp only [lens] at * <;> omega))) ⟨rfl, rfl, trivial⟩ rfl rfl (fun h => Bool.noConfusion h) (fun h => Bool.noConfusion h) rfl <| AE .n (.t rfl) fo_112_6 rfl <| AG [.str (Ai (Aa (Aa (Ab s_ K_0).2.1 8).2 7).2 (Ab s_ K_0).1 (Aa (Ab s_ K_0).2.1 8).1 (Int.tmod (IntKind.wrap .i64 ((IntKind.wrap .i64 ((Aa (Ab s_ K_0).2.1 8).1 + 1)) + (Aa (Aa (Ab s_ K_0).2.1 8).2 7).1)) 8)).1.Id, .int .i64 (Ai (Aa (Aa (Ab s_ K_0).2.1 8).2 7).2 (Ab s_ K_0).1 (Aa (Ab s_ K_0).2.1 8).1 (Int.tmod (IntKind.wrap .i64 ((IntKind.wrap .i64 ((Aa (Ab s_ K_0).2.1 8).1 + 1)) + (Aa (Aa (Ab s_ K_0).2.1 8).2 7).1)) 8)).1.From, .int .i64 (Ai (Aa (Aa (Ab s_ K_0).2.1 8).2 7).2 (Ab s_ K_0).1 (Aa (Ab s_ K_0).2.1 8).1 (Int.tmod (IntKind.wrap .i64 ((IntKind.wrap .i64 ((Aa (Ab s_ K_0).2.1 8).1 + 1)) + (Aa (Aa (Ab s_ K_0).2.1 8).2 7).1)) 8)).1.To, .int .i64 (Ai (Aa (Aa (Ab s_ K_0).2.1 8).2 7).2 (Ab s_ K_0).1 (Aa (Ab s_ K_0).2.1 8).1 (Int.tmod (IntKind.wrap .i64 ((IntKind.wrap .i64 ((Aa (Ab s_ K_0).2.1 8).1 + 1)) + (Aa (Aa (Ab s_ K_0).2.1 8).2 7).1)) 8)).1.Length, .int .i64 (Ai (Aa (Aa (Ab s_ K_0).2.1 8).2 7).2 (Ab s_ K_0).1 (Aa (Ab s_ K_0).2.1 8).1 (Int.tmod (IntKind.wrap .i64 ((IntKind.wrap .i64 ((Aa (Ab s_ K_0).2.1 8).1 + 1)) + (Aa (Aa (Ab s_ K_0).2.1 8).2 7).1)) 8)).1.Section, .int .i64 (Ai (Aa (Aa (Ab s_ K_0).2.1 8).2 7).2 (Ab s_ K_0).1 (Aa (Ab s_ K_0).2.1 8).1 (Int.tmod (IntKind.wrap .i64 ((IntKind.wrap .i64 ((Aa (Ab s_ K_0).2.1 8).1 + 1)) + (Aa (Aa (Ab s_ K_0).2.1 8).2 7).1)) 8)).1.Friction, .int .i64 (Aj (Aa (Ai (Aa (Aa (Ab s_ K_0).2.1 8).2 7).2 (Ab s_ K_0).1 (Aa (Ab s_ K_0).2.1 8).1 (Int.tmod (IntKind.wrap .i64 ((IntKind.wrap .i64 ((Aa (Ab s_ K_0).2.1 8).1 + 1)) + (Aa (Aa (Ab s_ K_0).2.1 8).2 7).1)) 8)).2 20).2 ([(-1), 1000, 1001] : List Int)).1] .n rfl (.t rfl) (.t rfl) rfl ts_2 rfl rfl <| Lex.nil) ?_
            refine AK ?_
            refine Af ?_
            refine Ad (Ba .n (.t rfl) rfl (.inr rfl) ag_112 (fun _ => rfl) rfl rfl <| AG [.str (Ai (Aa (Aa (Ab s_ K_0).2.1 8).2 7).2 (Ab s_ K_0).1 (Aa (Ab s_ K_0).2.1 8).1 (Int.tmod (IntKind.wrap .i64 ((IntKind.wrap .i64 ((Aa (Ab s_ K_0).2.1 8).1 + 1)) + (Aa (Aa (Ab s_ K_0).2.1 8).2 7).1)) 8)).1.Id, .int .i64 (Ai (Aa (Aa (Ab s_ K_0).2.1 8).2 7).2 (Ab s_ K_0).1 (Aa (Ab s_ K_0).2.1 8).1 (Int.tmod (IntKind.wrap .i64 ((IntKind.wrap .i64 ((Aa (Ab s_ K_0).2.1 8).1 + 1)) + (Aa (Aa (Ab s_ K_0).2.1 8).2 7).1)) 8)).1.From, .int .i64 (Ai (Aa (Aa (Ab s_ K_0).2.1 8).2 7).2 (Ab s_ K_0).1 (Aa (Ab s_ K_0).2.1 8).1 (Int.tmod (IntKind.wrap .i64 ((IntKind.wrap .i64 ((Aa (Ab s_ K_0).2.1 8).1 + 1)) + (Aa (Aa (Ab s_ K_0).2.1 8).2 7).1)) 8)).1.To, .int .i64 (Ai (Aa (Aa (Ab s_ K_0).2.1 8).2 7).2 (Ab s_ K_0).1 (Aa (Ab s_ K_0).2.1 8).1 (Int.tmod (IntKind.wrap .i64 ((IntKind.wrap .i64 ((Aa (Ab s_ K_0).2.1 8).1 + 1)) + (Aa (Aa (Ab s_ K_0).2.1 8).2 7).1)) 8)).1.Length, .int .i64 (Ai (Aa (Aa (Ab s_ K_0).2.1 8).2 7).2 (Ab s_ K_0).1 (Aa (Ab s_ K_0).2.1 8).1 (Int.tmod (IntKind.wrap .i64 ((IntKind.wrap .i64 ((Aa (Ab s_ K_0).2.1 8).1 + 1)) + (Aa (Aa (Ab s_ K_0).2.1 8).2 7).1)) 8)).1.Section, .int .i64 (Ai (Aa (Aa (Ab s_ K_0).2.1 8).2 7).2 (Ab s_ K_0).1 (Aa (Ab s_ K_0).2.1 8).1 (Int.tmod (IntKind.wrap .i64 ((IntKind.wrap .i64 ((Aa (Ab s_ K_0).2.1 8).1 + 1)) + (Aa (Aa (Ab s_ K_0).2.1 8).2 7).1)) 8)).1.Friction, .int .i64 (Aj (Aa (Ai (Aa (Aa (Ab s_ K_0).2.1 8).2 7).2 (Ab s_ K_0).1 (Aa (Ab s_ K_0).2.1 8).1 (Int.tmod (IntKind.wrap .i64 ((IntKind.wrap .i64 ((Aa (Ab s_ K_0).2.1 8).1 + 1)) + (Aa (Aa (Ab s_ K_0).2.1 8).2 7).1)) 8)).2 20).2 ([(-1), 1000, 1001] : List Int)).1] .n rfl (.t rfl) (.t rfl) rfl ts_112 rfl rfl <| Lex.nil) ?_
            exact Au [] (.cons (.cN rfl rfl ag_112 rfl rfl) .nil) (by first | rfl | (simp only [put_len]; rfl)) ⟨rfl, trivial⟩ rfl
          · try simp only [tst] at h5
            refine As ?_
            refine AK ?_
            refine Af ?_
            refine Ad (Ba .n (.t rfl) rfl (.inr rfl) ag_112 (fun _ => rfl) rfl rfl <| AG [.str (Ai (Aa (Aa (Ab s_ K_0).2.1 8).2 7).2 (Ab s_ K_0).1 (Aa (Ab s_ K_0).2.1 8).1 (Int.tmod (IntKind.wrap .i64 ((IntKind.wrap .i64 ((Aa (Ab s_ K_0).2.1 8).1 + 1)) + (Aa (Aa (Ab s_ K_0).2.1 8).2 7).1)) 8)).1.Id, .int .i64 (Ai (Aa (Aa (Ab s_ K_0).2.1 8).2 7).2 (Ab s_ K_0).1 (Aa (Ab s_ K_0).2.1 8).1 (Int.tmod (IntKind.wrap .i64 ((IntKind.wrap .i64 ((Aa (Ab s_ K_0).2.1 8).1 + 1)) + (Aa (Aa (Ab s_ K_0).2.1 8).2 7).1)) 8)).1.From, .int .i64 (Ai (Aa (Aa (Ab s_ K_0).2.1 8).2 7).2 (Ab s_ K_0).1 (Aa (Ab s_ K_0).2.1 8).1 (Int.tmod (IntKind.wrap .i64 ((IntKind.wrap .i64 ((Aa (Ab s_ K_0).2.1 8).1 + 1)) + (Aa (Aa (Ab s_ K_0).2.1 8).2 7).1)) 8)).1.To, .int .i64 (Ai (Aa (Aa (Ab s_ K_0).2.1 8).2 7).2 (Ab s_ K_0).1 (Aa (Ab s_ K_0).2.1 8).1 (Int.tmod (IntKind.wrap .i64 ((IntKind.wrap .i64 ((Aa (Ab s_ K_0).2.1 8).1 + 1)) + (Aa (Aa (Ab s_ K_0).2.1 8).2 7).1)) 8)).1.Length, .int .i64 (Ai (Aa (Aa (Ab s_ K_0).2.1 8).2 7).2 (Ab s_ K_0).1 (Aa (Ab s_ K_0).2.1 8).1 (Int.tmod (IntKind.wrap .i64 ((IntKind.wrap .i64 ((Aa (Ab s_ K_0).2.1 8).1 + 1)) + (Aa (Aa (Ab s_ K_0).2.1 8).2 7).1)) 8)).1.Section, .int .i64 (Ai (Aa (Aa (Ab s_ K_0).2.1 8).2 7).2 (Ab s_ K_0).1 (Aa (Ab s_ K_0).2.1 8).1 (Int.tmod (IntKind.wrap .i64 ((IntKind.wrap .i64 ((Aa (Ab s_ K_0).2.1 8).1 + 1)) + (Aa (Aa (Ab s_ K_0).2.1 8).2 7).1)) 8)).1.Friction, .int .i64 (Ai (Aa (Aa (Ab s_ K_0).2.1 8).2 7).2 (Ab s_ K_0).1 (Aa (Ab s_ K_0).2.1 8).1 (Int.tmod (IntKind.wrap .i64 ((IntKind.wrap .i64 ((Aa (Ab s_ K_0).2.1 8).1 + 1)) + (Aa (Aa (Ab s_ K_0).2.1 8).2 7).1)) 8)).1.Shock] .n rfl (.t rfl) (.t rfl) rfl ts_112 rfl rfl <| Lex.nil) ?_
            exact Au [] (.cons (.cN rfl rfl ag_112 rfl rfl) .nil) (by first | rfl | (simp only [put_len]; rfl)) ⟨rfl, trivial⟩ rfl

/-! ### spec_l04Draw -/
set_option maxRecDepth 100000 in
set_option maxHeartbeats 4000000 in
theorem c_spec_l04Draw (s_ : Ak) (hp1 : Lim s_ 500000) : Con Tryz.prog 39 [.op 0 0 0 0] [(0, some (.box 100 [.sl 1 (s_.code.map (V.int .u8)), .int .i64 s_.at_, .int .u64 s_.seed]))] (.st [.int .i64 (Al s_).1.Junctions, .os 100 (Al s_).1.Airways.length]) ([(100, some (.row 112 7 ((Al s_).1.Airways.map Ar.v))), (0, some (.box 100 [.sl 1 ((Al s_).2.code.map (V.int .u8)), .int .i64 (Al s_).2.at_, .int .u64 (Al s_).2.seed]))]) := by
  refine con_intro (out := fun r : AB × Ak => ((.st [.int .i64 r.1.Junctions, .os 100 r.1.Airways.length] : V), ([(100, some (.row 112 7 (r.1.Airways.map Ar.v))), (0, some (.box 100 [.sl 1 (r.2.code.map (V.int .u8)), .int .i64 r.2.at_, .int .u64 r.2.seed]))] : List (Nat × Option O)))) (r := (Al s_)) Tryz.func39 rfl Tryz.ntmps39 rfl ?_
  have hD := (Lim.draw4_ok hp1).len
  have hM := among_rng (x := 24) (y := 25) (Lim.pick (k := 20) (Lim.dok hp1)) (by decide)
  refine Af ?_
  refine Ad (BE (l := 200) .n rfl zv_26 rfl rfl <| Lex.nil) ?_
  refine Af ?_
  refine Ad (Ag .n (.t rfl) rfl <| AW (full := false) [(0, 0)] [(100, 201)] .n rfl .f en_81 (.cons (.t rfl) .nil) (.cons (.b (.mutp rfl)) .nil) (c_spec_l04DrawOk s_ (by (try dsimp only); (with_reducible (first | apply Lim.mono | apply Lim.out | apply LimA.mono)); (repeat (with_reducible (first | assumption | apply Lim.among | apply Lim.pick | apply Lim.draw3 | apply Lim.bent | apply Lim.dok | apply Lim.mk))); omega)) ⟨rfl, trivial⟩ rfl rfl (fun h => Bool.noConfusion h) (fun h => Bool.noConfusion h) rfl <| BE (l := 202) .n rfl zv_26 rfl rfl <| AG [.int .i64 (Ax s_).1.Junctions, .os 201 (Ax s_).1.Airways.length] .n rfl (.t rfl) (.t rfl) rfl ts_26 rfl rfl <| Lex.nil) ?_
  refine Af ?_
  refine Af ?_
  refine Ad (Ag .n (.t rfl) rfl <| AW (full := false) [(0, 0)] [] .n rfl .f en_22 (.cons (.t rfl) (.cons (.c rfl) .nil)) (.cons (.b (.mutp rfl)) (.cons (.b (.a (.same rfl))) .nil)) (AI (Ax s_).2 20 (by (try dsimp only); (with_reducible (first | apply Lim.mono | apply Lim.out | apply LimA.mono)); (repeat (with_reducible (first | assumption | apply Lim.among | apply Lim.pick | apply Lim.draw3 | apply Lim.bent | apply Lim.dok | apply Lim.mk))); omega)) ⟨rfl, trivial⟩ rfl rfl (fun h => Bool.noConfusion h) (fun h => Bool.noConfusion h) rfl <| Lex.nil) ?_
  refine Aw ?_
  refine Af ?_
  refine Ad (AF .n (.t rfl) (.c rfl) rfl rfl <| Ah .n (.t rfl) rfl <| Lex.nil) ?_
  refine Aq (.t rfl) rfl (fun h1 => ?_) (fun h1 => ?_)
  · try simp only [tst] at h1
    refine Ad (Ag .n (.t rfl) rfl <| AV ([0, 1, 16, 17] : List Int) (f := V.int .i64) (l := 203) .n rfl rfl (.cons (.c rfl) (.cons (.c rfl) (.cons (.c rfl) (.cons (.c rfl) .nil)))) rfl si_27 zv_2 rfl rfl rfl <| AW (full := false) [(0, 0), (1, 203)] [] .n rfl .f en_24 (.cons (.t rfl) (.cons (.t rfl) .nil)) (.cons (.b (.mutp rfl)) (.cons (.b (.muts rfl)) .nil)) (A0 (Aa (Ax s_).2 20).2 ([0, 1, 16, 17] : List Int) (by (try dsimp only); (with_reducible (first | apply Lim.mono | apply Lim.out | apply LimA.mono)); (repeat (with_reducible (first | assumption | apply Lim.among | apply Lim.pick | apply Lim.draw3 | apply Lim.bent | apply Lim.dok | apply Lim.mk))); omega) (by (simp only [lens] at * <;> omega))) ⟨rfl, rfl, trivial⟩ rfl rfl (fun h => Bool.noConfusion h) (fun h => Bool.noConfusion h) rfl <| AE .n (.t rfl) fo_26_0 rfl <| AG [.int .i64 (Aj (Aa (Ax s_).2 20).2 ([0, 1, 16, 17] : List Int)).1, .os 201 (Ax s_).1.Airways.length] .n rfl (.t rfl) (.t rfl) rfl ts_2 rfl rfl <| Lex.nil) ?_
    refine AK ?_
    refine Af ?_
    refine Ad (Ba .n (.t rfl) rfl (.inr rfl) ag_26 (fun _ => rfl) rfl rfl <| AG [.int .i64 (Aj (Aa (Ax s_).2 20).2 ([0, 1, 16, 17] : List Int)).1, .os 201 (Ax s_).1.Airways.length] .n rfl (.t rfl) (.t rfl) rfl ts_26 rfl rfl <| Lex.nil) ?_
    exact Au [(100, 201)] (.cons (.cN rfl rfl ag_26 rfl rfl) .nil) (by first | rfl | (simp only [put_len]; rfl)) ⟨rfl, rfl, trivial⟩ rfl
  · try simp only [tst] at h1
    refine Af ?_
    refine Ad (AF .n (.t rfl) (.c rfl) rfl rfl <| Ah .n (.t rfl) rfl <| Lex.nil) ?_
    refine Aq (.t rfl) rfl (fun h2 => ?_) (fun h2 => ?_)
    · try simp only [tst] at h2
      refine Bk fmo (AE .n (.t rfl) fo_26_1 rfl <| AP .n (.t rfl) rfl (.inr rfl) (fun _ => rfl) rfl ic_24 rfl <| Ag .n (.t rfl) rfl <| AW (full := false) [(0, 0)] [] .n rfl .f en_82 (.cons (.t rfl) .nil) (.cons (.b (.mutp rfl)) .nil) (c_spec_l03Bent (Aa (Ax s_).2 20).2 (by (try dsimp only); (with_reducible (first | apply Lim.mono | apply Lim.out | apply LimA.mono)); (repeat (with_reducible (first | assumption | apply Lim.among | apply Lim.pick | apply Lim.draw3 | apply Lim.bent | apply Lim.dok | apply Lim.mk))); omega)) ⟨rfl, trivial⟩ rfl rfl (fun h => Bool.noConfusion h) (fun h => Bool.noConfusion h) rfl <| AV ([(Bq (Aa (Ax s_).2 20).2).1] : List Ar) (f := Ar.v) (l := 204) .n rfl rfl (.cons (.t rfl) .nil) rfl si_24 zv_112 rfl rfl rfl <| CX (xs := (Ax s_).1.Airways) (ys := ([(Bq (Aa (Ax s_).2 20).2).1] : List Ar)) (f := Ar.v) (l := 205) .n rfl (.ow (.t rfl) rfl (take_all (by simp only [len_map, put_len] <;> rfl)) (by simp only [len_map, put_len] <;> rfl)) (.ow (.t rfl) rfl (take_all (by simp only [len_map, put_len] <;> rfl)) (by simp only [len_map, put_len] <;> rfl)) si_24 zv_112 rfl (by (simp only [lens] at * <;> omega)) rfl rfl <| AE .n (.t rfl) fo_26_1 rfl <| AG [.int .i64 (Ax s_).1.Junctions, .os 205 ((Ax s_).1.Airways ++ ([(Bq (Aa (Ax s_).2 20).2).1] : List Ar)).length] .n rfl (.t rfl) (.t rfl) rfl ts_24 rfl rfl <| Lex.nil) (by kernel_rfl) ?_
      refine AK ?_
      refine Af ?_
      refine Ad (Ba .n (.t rfl) rfl (.inr rfl) ag_26 (fun _ => rfl) rfl rfl <| AG [.int .i64 (Ax s_).1.Junctions, .os 205 ((Ax s_).1.Airways ++ ([(Bq (Aa (Ax s_).2 20).2).1] : List Ar)).length] .n rfl (.t rfl) (.t rfl) rfl ts_26 rfl rfl <| Lex.nil) ?_
      exact Au [(100, 205)] (.cons (.cN rfl rfl ag_26 rfl rfl) .nil) (by first | rfl | (simp only [put_len]; rfl)) ⟨rfl, rfl, trivial⟩ rfl
    · try simp only [tst] at h2
      refine Af ?_
      refine Ad (AF .n (.t rfl) (.c rfl) rfl rfl <| Ah .n (.t rfl) rfl <| Lex.nil) ?_
      refine Aq (.t rfl) rfl (fun h3 => ?_) (fun h3 => ?_)
      · try simp only [tst] at h3
        refine Af ?_
        refine Ad (Ag .n (.t rfl) rfl <| AV ([24, 25] : List Int) (f := V.int .i64) (l := 206) .n rfl rfl (.cons (.c rfl) (.cons (.c rfl) .nil)) rfl si_27 zv_2 rfl rfl rfl <| AW (full := false) [(0, 0), (1, 206)] [] .n rfl .f en_24 (.cons (.t rfl) (.cons (.t rfl) .nil)) (.cons (.b (.mutp rfl)) (.cons (.b (.muts rfl)) .nil)) (A0 (Aa (Ax s_).2 20).2 ([24, 25] : List Int) (by (try dsimp only); (with_reducible (first | apply Lim.mono | apply Lim.out | apply LimA.mono)); (repeat (with_reducible (first | assumption | apply Lim.among | apply Lim.pick | apply Lim.draw3 | apply Lim.bent | apply Lim.dok | apply Lim.mk))); omega) (by (simp only [lens] at * <;> omega))) ⟨rfl, rfl, trivial⟩ rfl rfl (fun h => Bool.noConfusion h) (fun h => Bool.noConfusion h) rfl <| Ah .n (.t rfl) rfl <| Lex.nil) ?_
        refine Af ?_
        refine Ad (Dv (us := [.int .i64 4, .nls]) .n (.cons (.c rfl) .nil) zv_26 pl_26 rfl rfl rfl <| AG [.int .i64 4, .nls] .n rfl (.t rfl) (.t rfl) rfl ts_26 rfl rfl <| Lex.nil) ?_
        refine Af ?_
        refine Ad (Ah .n (.c rfl) rfl <| Lex.nil) ?_
        refine Aw ?_
        refine C1 (sub_adoptb (b := 202) (l := 207) (el := 112) (sz := 7) 1 rfl rfl rfl rfl) ?_
        refine Bp (m_spec_l04Draw_b1 s_) _ _ _ rfl (fun (x1 : (List Int) × Int × Int × (List Ar) × Int) => 0 ≤ x1.2.2.2.2 ∧ x1.2.2.2.2 ≤ (Aj (Aa (Ax s_).2 20).2 ([24, 25] : List Int)).1 ∧ (x1.2.2.2.1.length : Int) + 0 ≤ x1.2.2.2.2 + (([] : List Ar).length : Int) ∧ LimA x1.1 x1.2.1 (500300 + 8 * x1.2.2.2.2)) (fun x1 => 0 ≤ x1.2.2.2.2 ∧ x1.2.2.2.2 ≤ (Aj (Aa (Ax s_).2 20).2 ([24, 25] : List Int)).1 ∧ (x1.2.2.2.1.length : Int) + 0 ≤ x1.2.2.2.2 + (([] : List Ar).length : Int) ∧ LimA x1.1 x1.2.1 (500300 + 8 * x1.2.2.2.2) ∧ (Aj (Aa (Ax s_).2 20).2 ([24, 25] : List Int)).1 ≤ x1.2.2.2.2) (fun x1 => ((Aj (Aa (Ax s_).2 20).2 ([24, 25] : List Int)).1 - x1.2.2.2.2 : Int).toNat) (fun x1 => ⟨[(0, some (true, .op 0 0 0 0)), (2, some (true, .op 200 0 0 0)), (3, some (true, .op 202 0 0 0)), (4, some (true, .int .i64 (Aj (Aa (Ax s_).2 20).2 ([24, 25] : List Int)).1)), (5, some (true, .int .i64 x1.2.2.2.2))], [(0, some (.box 100 [.sl 1 (x1.1.map (V.int .u8)), .int .i64 x1.2.1, .int .u64 x1.2.2.1])), (200, some (.box 26 [.int .i64 0, .nls])), (202, some (.box 26 [.int .i64 4, .os 207 x1.2.2.2.1.length])), (207, some (.row 112 7 (x1.2.2.2.1.map Ar.v)))]⟩) (fun x1 => ⟨[(2, some (true, .op 200 0 0 0)), (3, some (true, .op 202 0 0 0))], [(0, some (.box 100 [.sl 1 (x1.1.map (V.int .u8)), .int .i64 x1.2.1, .int .u64 x1.2.2.1])), (200, some (.box 26 [.int .i64 0, .nls])), (202, some (.box 26 [.int .i64 4, .os 207 x1.2.2.2.1.length])), (207, some (.row 112 7 (x1.2.2.2.1.map Ar.v)))]⟩) ⟨by (simp only [lens] at * <;> omega), by (simp only [lens] at * <;> omega), by (simp only [lens] at * <;> omega), by (try dsimp only); (with_reducible (first | apply Lim.mono | apply Lim.out | apply LimA.mono)); (repeat (with_reducible (first | assumption | apply Lim.among | apply Lim.pick | apply Lim.draw3 | apply Lim.bent | apply Lim.dok | apply Lim.mk))); omega⟩ (by (simp only [lens] at * <;> omega)) (sub_of [] ⟨rfl, rfl, rfl, rfl, rfl, trivial⟩ ⟨rfl, rfl, rfl, rfl, trivial⟩ rfl) ?_ ?_
        · intro x1 i7
          obtain ⟨e8, e9, e10, e11, e12⟩ := i7
          try dsimp only at *
          refine AK ?_
          refine Af ?_
          refine Ad (Ba .n (.t rfl) rfl (.inr rfl) ag_26 (fun _ => rfl) rfl rfl <| AG [.int .i64 4, .os 207 x1.2.2.2.1.length] .n rfl (.t rfl) (.t rfl) rfl ts_26 rfl rfl <| Lex.nil) ?_
          exact Au [(100, 207)] (.cons (.cN rfl rfl ag_26 rfl rfl) .nil) (by first | rfl | (simp only [put_len]; rfl)) ⟨rfl, rfl, trivial⟩ rfl
        · intro rec1 k1 hk4 x1 i5
          obtain ⟨e13, e14, e15, e16⟩ := i5
          try dsimp only at *
          refine Af ?_
          refine Af ?_
          refine Ad (Ag .n (.t rfl) rfl <| Ag .n (.t rfl) rfl <| AF .n (.t rfl) (.t rfl) rfl rfl <| Lex.nil) ?_
          refine Aq (.t rfl) rfl (fun h6 => ?_) (fun h6 => ?_)
          · try simp only [tst] at h6
            refine As ?_
            refine Af ?_
            refine Aw ?_
            refine Bk fmo (AE .n (.t rfl) fo_26_1 rfl <| AP .n (.t rfl) rfl (.inr rfl) (fun _ => rfl) rfl ic_24 rfl <| Ag .n (.t rfl) rfl <| Ag .n (.t rfl) rfl <| AF .n (.c rfl) (.t rfl) rfl rfl <| q_conv .n (.t rfl) cv_2_5 rfl <| AV ([IntKind.wrap .u8 (IntKind.wrap .i64 (97 + x1.2.2.2.2))] : List Int) (f := V.int .u8) (l := 208) .n rfl rfl (.cons (.t rfl) .nil) rfl si_22 zv_5 rfl rfl rfl <| q_b2s (xs := ([IntKind.wrap .u8 (IntKind.wrap .i64 (97 + x1.2.2.2.2))] : List Int)) .n (.ow (.t rfl) rfl (take_all (by simp only [len_map, put_len] <;> rfl)) (by simp only [len_map, put_len] <;> rfl)) bs_22_9 rfl <| q_strcat .n (.c rfl) (.t rfl) (fun _ => by ((rw [chars_len]; simp only [List.length_cons, List.length_nil]; omega))) rfl <| Ag .n (.t rfl) rfl <| q_rem .n (.t rfl) (.c rfl) (fun _ => by decide) rfl <| Ag .n (.t rfl) rfl <| BM .n (.t rfl) (.c rfl) (fun _ => by omega) rfl <| q_rem .n (.t rfl) (.c rfl) (fun _ => by decide) rfl <| AW (full := false) [(0, 0)] [] .n rfl .f en_83 (.cons (.t rfl) (.cons (.t rfl) (.cons (.t rfl) (.cons (.t rfl) .nil)))) (.cons (.b (.mutp rfl)) (.cons (.b (.a (.same rfl))) (.cons (.b (.a (.same rfl))) (.cons (.b (.a (.same rfl))) .nil)))) (c_spec_l03DrawOk (Ak.mk x1.1 x1.2.1 x1.2.2.1) (K_7 ++ (chars ([IntKind.wrap .u8 (IntKind.wrap .i64 (97 + x1.2.2.2.2))] : List Int))) (Int.tmod x1.2.2.2.2 4) (Int.tmod (x1.2.2.2.2 + 1) 4) (by (try dsimp only); (with_reducible (first | apply Lim.mono | apply Lim.out | apply LimA.mono)); (repeat (with_reducible (first | assumption | apply Lim.among | apply Lim.pick | apply Lim.draw3 | apply Lim.bent | apply Lim.dok | apply Lim.mk))); omega)) ⟨rfl, trivial⟩ rfl rfl (fun h => Bool.noConfusion h) (fun h => Bool.noConfusion h) rfl <| AV ([(Ai (Ak.mk x1.1 x1.2.1 x1.2.2.1) (K_7 ++ (chars ([IntKind.wrap .u8 (IntKind.wrap .i64 (97 + x1.2.2.2.2))] : List Int))) (Int.tmod x1.2.2.2.2 4) (Int.tmod (x1.2.2.2.2 + 1) 4)).1] : List Ar) (f := Ar.v) (l := 209) .n rfl rfl (.cons (.t rfl) .nil) rfl si_24 zv_112 rfl rfl rfl <| CX (xs := x1.2.2.2.1) (ys := ([(Ai (Ak.mk x1.1 x1.2.1 x1.2.2.1) (K_7 ++ (chars ([IntKind.wrap .u8 (IntKind.wrap .i64 (97 + x1.2.2.2.2))] : List Int))) (Int.tmod x1.2.2.2.2 4) (Int.tmod (x1.2.2.2.2 + 1) 4)).1] : List Ar)) (f := Ar.v) (l := 210) .n rfl (.ow (.t rfl) rfl (take_all (by simp only [len_map, put_len] <;> rfl)) (by simp only [len_map, put_len] <;> rfl)) (.ow (.t rfl) rfl (take_all (by simp only [len_map, put_len] <;> rfl)) (by simp only [len_map, put_len] <;> rfl)) si_24 zv_112 rfl (by (simp only [lens] at * <;> omega)) rfl rfl <| AE .n (.t rfl) fo_26_1 rfl <| AG [.int .i64 4, .os 210 (x1.2.2.2.1 ++ ([(Ai (Ak.mk x1.1 x1.2.1 x1.2.2.1) (K_7 ++ (chars ([IntKind.wrap .u8 (IntKind.wrap .i64 (97 + x1.2.2.2.2))] : List Int))) (Int.tmod x1.2.2.2.2 4) (Int.tmod (x1.2.2.2.2 + 1) 4)).1] : List Ar)).length] .n rfl (.t rfl) (.t rfl) rfl ts_24 rfl rfl <| Lex.nil) (by kernel_rfl) ?_
            refine AK ?_
            refine Ad (Ag .n (.t rfl) rfl <| BM .n (.t rfl) (.c rfl) (fun _ => by omega) rfl <| Ah .n (.t rfl) rfl <| Lex.nil) ?_
            exact A5 ((Ai (Ak.mk x1.1 x1.2.1 x1.2.2.1) (K_7 ++ (chars ([IntKind.wrap .u8 (IntKind.wrap .i64 (97 + x1.2.2.2.2))] : List Int))) (Int.tmod x1.2.2.2.2 4) (Int.tmod (x1.2.2.2.2 + 1) 4)).2.code, (Ai (Ak.mk x1.1 x1.2.1 x1.2.2.1) (K_7 ++ (chars ([IntKind.wrap .u8 (IntKind.wrap .i64 (97 + x1.2.2.2.2))] : List Int))) (Int.tmod x1.2.2.2.2 4) (Int.tmod (x1.2.2.2.2 + 1) 4)).2.at_, (Ai (Ak.mk x1.1 x1.2.1 x1.2.2.1) (K_7 ++ (chars ([IntKind.wrap .u8 (IntKind.wrap .i64 (97 + x1.2.2.2.2))] : List Int))) (Int.tmod x1.2.2.2.2 4) (Int.tmod (x1.2.2.2.2 + 1) 4)).2.seed, x1.2.2.2.1 ++ ([(Ai (Ak.mk x1.1 x1.2.1 x1.2.2.1) (K_7 ++ (chars ([IntKind.wrap .u8 (IntKind.wrap .i64 (97 + x1.2.2.2.2))] : List Int))) (Int.tmod x1.2.2.2.2 4) (Int.tmod (x1.2.2.2.2 + 1) 4)).1] : List Ar), x1.2.2.2.2 + 1) ⟨by (simp only [lens] at * <;> omega), by assumption, by (simp only [lens] at * <;> omega), by (try dsimp only); (with_reducible (first | apply Lim.mono | apply Lim.out | apply LimA.mono)); (repeat (with_reducible (first | assumption | apply Lim.among | apply Lim.pick | apply Lim.draw3 | apply Lim.bent | apply Lim.dok | apply Lim.mk))); omega⟩ (by (simp only [lens] at * <;> omega)) (sub_of [(207, 210)] ⟨rfl, rfl, rfl, rfl, rfl, trivial⟩ ⟨rfl, rfl, rfl, rfl, trivial⟩ rfl)
          · try simp only [tst] at h6
            refine Bb rfl ?_
            exact AY hk4 (x1.1, x1.2.1, x1.2.2.1, x1.2.2.2.1, x1.2.2.2.2) ⟨by omega, by omega, by omega, by (try dsimp only); (with_reducible (first | apply Lim.mono | apply Lim.out | apply LimA.mono)); (repeat (with_reducible (first | assumption | apply Lim.among | apply Lim.pick | apply Lim.draw3 | apply Lim.bent | apply Lim.dok | apply Lim.mk))); omega, by omega⟩ (sub_of [] ⟨rfl, rfl, trivial⟩ ⟨rfl, rfl, rfl, rfl, trivial⟩ rfl)
      · try simp only [tst] at h3
        refine As ?_
        refine AK ?_
        refine Af ?_
        refine Ad (Ba .n (.t rfl) rfl (.inr rfl) ag_26 (fun _ => rfl) rfl rfl <| AG [.int .i64 (Ax s_).1.Junctions, .os 201 (Ax s_).1.Airways.length] .n rfl (.t rfl) (.t rfl) rfl ts_26 rfl rfl <| Lex.nil) ?_
        exact Au [(100, 201)] (.cons (.cN rfl rfl ag_26 rfl rfl) .nil) (by first | rfl | (simp only [put_len]; rfl)) ⟨rfl, rfl, trivial⟩ rfl

/-! ### spec_l20DrawSpeed -/
theorem c_spec_l20DrawSpeed (s_ : Ak) (hp1 : Lim s_ 700000) : Con Tryz.prog 41 [.op 0 0 0 0] [(0, some (.box 100 [.sl 1 (s_.code.map (V.int .u8)), .int .i64 s_.at_, .int .u64 s_.seed]))] (.int .i64 (Bw s_).1) ([(0, some (.box 100 [.sl 1 ((Bw s_).2.code.map (V.int .u8)), .int .i64 (Bw s_).2.at_, .int .u64 (Bw s_).2.seed]))]) := by
  refine con_intro (out := fun r : Int × Ak => ((.int .i64 r.1 : V), ([(0, some (.box 100 [.sl 1 (r.2.code.map (V.int .u8)), .int .i64 r.2.at_, .int .u64 r.2.seed]))] : List (Nat × Option O)))) (r := (Bw s_)) Tryz.func41 rfl Tryz.ntmps41 rfl ?_
  refine Af ?_
  refine Ad (Ah .n (.c rfl) rfl <| Lex.nil) ?_
  refine Af ?_
  refine Ad (Ag .n (.t rfl) rfl <| AV ([10, 60, 80, 100, 300, 9, 301, 70] : List Int) (f := V.int .i64) (l := 200) .n rfl rfl (.cons (.c rfl) (.cons (.c rfl) (.cons (.c rfl) (.cons (.c rfl) (.cons (.c rfl) (.cons (.c rfl) (.cons (.c rfl) (.cons (.c rfl) .nil)))))))) rfl si_27 zv_2 rfl rfl rfl <| AW (full := false) [(0, 0), (1, 200)] [] .n rfl .f en_24 (.cons (.t rfl) (.cons (.t rfl) .nil)) (.cons (.b (.mutp rfl)) (.cons (.b (.muts rfl)) .nil)) (A0 s_ ([10, 60, 80, 100, 300, 9, 301, 70] : List Int) (by (try dsimp only); (with_reducible (first | apply Lim.mono | apply Lim.out | apply LimA.mono)); (repeat (with_reducible (first | assumption | apply Lim.mk))); omega) (by (simp only [lens] at * <;> omega))) ⟨rfl, rfl, trivial⟩ rfl rfl (fun h => Bool.noConfusion h) (fun h => Bool.noConfusion h) rfl <| Ah .n (.t rfl) rfl <| Lex.nil) ?_
  exact Au [] (.cons (.t rfl rfl) .nil) rfl ⟨rfl, trivial⟩ rfl

/-! ### spec_DrawFewestRefuges -/
set_option maxRecDepth 100000 in
set_option maxHeartbeats 4000000 in
theorem c_spec_DrawFewestRefuges (code : List Int) (hp1 : ∀ y ∈ code, 0 ≤ y ∧ y ≤ 255) : Con Tryz.prog 12 [.sl 1 (code.map (V.int .u8))] [] (.tup [.st [.int .i64 (Ac code).1.Junctions, .os 100 (Ac code).1.Airways.length], .int .i64 (Ac code).2.1, .int .i64 (Ac code).2.2.1, .int .i64 (Ac code).2.2.2]) ([(100, some (.row 112 7 ((Ac code).1.Airways.map Ar.v)))]) := by
  refine con_intro (out := fun r : AB × Int × Int × Int => ((.tup [.st [.int .i64 r.1.Junctions, .os 100 r.1.Airways.length], .int .i64 r.2.1, .int .i64 r.2.2.1, .int .i64 r.2.2.2] : V), ([(100, some (.row 112 7 (r.1.Airways.map Ar.v)))] : List (Nat × Option O)))) (r := (Ac code)) Tryz.func12 rfl Tryz.ntmps12 rfl ?_
  have hF := Lim.from hp1
  have hD := (Lim.draw4 hF).len
  refine Br (t := 0) rfl fun hl => ?_
  have l1 := hl; clear hl; simp only [List.length_map] at l1
  refine Af ?_
  refine Ad (BE (l := 200) .n rfl zv_26 rfl rfl <| Ah .n (.c rfl) rfl <| Ah .n (.c rfl) rfl <| Ah .n (.c rfl) rfl <| Lex.nil) ?_
  refine Af ?_
  refine Ad (Ag .n (.t rfl) rfl <| AW (full := false) [] [(100, 201)] .n rfl .f en_19 (.cons (.t rfl) .nil) (.cons (.b (.a (.same rfl))) .nil) (c_spec_l00From code) trivial rfl rfl (fun h => Bool.noConfusion h) (fun h => Bool.noConfusion h) rfl <| Ah .n (.t rfl) rfl <| Lex.nil) ?_
  refine Af ?_
  refine Ad (Ag .n (.t rfl) rfl <| AW (full := false) [(0, 201)] [(100, 202)] .n rfl .f en_39 (.cons (.t rfl) .nil) (.cons (.b (.mutp rfl)) .nil) (c_spec_l04Draw (AU code) (by (try dsimp only); (with_reducible (first | apply Lim.mono | apply Lim.out | apply LimA.mono)); (repeat (with_reducible (first | assumption | apply Lim.among | apply Lim.spd20 | apply Lim.dmk | apply Lim.from | apply Lim.mk))); omega)) ⟨rfl, trivial⟩ rfl rfl (fun h => Bool.noConfusion h) (fun h => Bool.noConfusion h) rfl <| BE (l := 203) .n rfl zv_26 rfl rfl <| AG [.int .i64 (Al (AU code)).1.Junctions, .os 202 (Al (AU code)).1.Airways.length] .n rfl (.t rfl) (.t rfl) rfl ts_26 rfl rfl <| Lex.nil) ?_
  refine Af ?_
  refine Ad (Ag .n (.t rfl) rfl <| AW (full := false) [(0, 201)] [] .n rfl .f en_41 (.cons (.t rfl) .nil) (.cons (.b (.mutp rfl)) .nil) (c_spec_l20DrawSpeed (Al (AU code)).2 (by (try dsimp only); (with_reducible (first | apply Lim.mono | apply Lim.out | apply LimA.mono)); (repeat (with_reducible (first | assumption | apply Lim.among | apply Lim.spd20 | apply Lim.dmk | apply Lim.from | apply Lim.mk))); omega)) ⟨rfl, trivial⟩ rfl rfl (fun h => Bool.noConfusion h) (fun h => Bool.noConfusion h) rfl <| Ah .n (.t rfl) rfl <| Lex.nil) ?_
  refine Af ?_
  refine Ad (Ag .n (.t rfl) rfl <| AV ([0, 300, 600, 1200, 9000, (-1)] : List Int) (f := V.int .i64) (l := 204) .n rfl rfl (.cons (.c rfl) (.cons (.c rfl) (.cons (.c rfl) (.cons (.c rfl) (.cons (.c rfl) (.cons (.c rfl) .nil)))))) rfl si_27 zv_2 rfl rfl rfl <| AW (full := false) [(0, 201), (1, 204)] [] .n rfl .f en_24 (.cons (.t rfl) (.cons (.t rfl) .nil)) (.cons (.b (.mutp rfl)) (.cons (.b (.muts rfl)) .nil)) (A0 (Bw (Al (AU code)).2).2 ([0, 300, 600, 1200, 9000, (-1)] : List Int) (by (try dsimp only); (with_reducible (first | apply Lim.mono | apply Lim.out | apply LimA.mono)); (repeat (with_reducible (first | assumption | apply Lim.among | apply Lim.spd20 | apply Lim.dmk | apply Lim.from | apply Lim.mk))); omega) (by (simp only [lens] at * <;> omega))) ⟨rfl, rfl, trivial⟩ rfl rfl (fun h => Bool.noConfusion h) (fun h => Bool.noConfusion h) rfl <| Ah .n (.t rfl) rfl <| Lex.nil) ?_
  refine Af ?_
  refine Bk fmo (Ba .n (.t rfl) rfl (.inr rfl) ag_26 (fun _ => rfl) rfl rfl <| Ag .n (.t rfl) rfl <| Ag .n (.t rfl) rfl <| Ag .n (.t rfl) rfl <| AV ([1, 5, 60, 300, 20000, 0] : List Int) (f := V.int .i64) (l := 205) .n rfl rfl (.cons (.c rfl) (.cons (.c rfl) (.cons (.c rfl) (.cons (.c rfl) (.cons (.c rfl) (.cons (.c rfl) .nil)))))) rfl si_27 zv_2 rfl rfl rfl <| AW (full := false) [(0, 201), (1, 205)] [] .n rfl .f en_24 (.cons (.t rfl) (.cons (.t rfl) .nil)) (.cons (.b (.mutp rfl)) (.cons (.b (.muts rfl)) .nil)) (A0 (Aj (Bw (Al (AU code)).2).2 ([0, 300, 600, 1200, 9000, (-1)] : List Int)).2.1 ([1, 5, 60, 300, 20000, 0] : List Int) (by (try dsimp only); (with_reducible (first | apply Lim.mono | apply Lim.out | apply LimA.mono)); (repeat (with_reducible (first | assumption | apply Lim.among | apply Lim.spd20 | apply Lim.dmk | apply Lim.from | apply Lim.mk))); omega) (by (simp only [lens] at * <;> omega))) ⟨rfl, rfl, trivial⟩ rfl rfl (fun h => Bool.noConfusion h) (fun h => Bool.noConfusion h) rfl <| AG [.int .i64 (Al (AU code)).1.Junctions, .os 202 (Al (AU code)).1.Airways.length] .n rfl (.t rfl) (.t rfl) rfl ts_26 rfl rfl <| Ah .n (.t rfl) rfl <| Ah .n (.t rfl) rfl <| Ah .n (.t rfl) rfl <| Lex.nil) (by kernel_rfl) ?_
  exact Au [(100, 202)] (.cons (.cN rfl rfl ag_26 rfl rfl) (.cons (.t rfl rfl) (.cons (.t rfl rfl) (.cons (.t rfl rfl) .nil)))) (by first | rfl | (simp only [put_len]; rfl)) ⟨rfl, trivial⟩ rfl

/-! ### impl_within -/
theorem BC (n_ : Int) (low : Int) (high : Int) : Con Tryz.prog 37 [.int .i64 n_, .int .i64 low, .int .i64 high] [] (.bool (Bl n_ low high)) ([]) := by
  refine con_intro (out := fun r : Bool => ((.bool r : V), ([] : List (Nat × Option O)))) (r := (Bl n_ low high)) Tryz.func37 rfl Tryz.ntmps37 rfl ?_
  refine Af ?_
  refine Ad (Ah .n (.c rfl) rfl <| Lex.nil) ?_
  refine Af ?_
  refine Ad (Ag .n (.t rfl) rfl <| Ag .n (.t rfl) rfl <| AF .n (.t rfl) (.t rfl) rfl rfl <| Ag .n (.t rfl) rfl <| Ag (.t rfl rfl) (.t rfl) rfl <| Ag (.t rfl rfl) (.t rfl) rfl <| AF (.t rfl rfl) (.u rfl id) (.u rfl id) rfl rfl <| B4 .n (.t rfl) (.u rfl id) rfl <| Ah .n (.t rfl) rfl <| Lex.nil) ?_
  exact Au [] (.cons (.t rfl rfl) .nil) rfl trivial rfl

/-! ### impl_budgetValid -/
theorem c_impl_budgetValid (budget : Int) : Con Tryz.prog 28 [.int .i64 budget] [] (.bool (C5 budget)) ([]) := by
  refine con_intro (out := fun r : Bool => ((.bool r : V), ([] : List (Nat × Option O)))) (r := (C5 budget)) Tryz.func28 rfl Tryz.ntmps28 rfl ?_
  refine Af ?_
  refine Ad (Ah .n (.c rfl) rfl <| Lex.nil) ?_
  refine Af ?_
  refine Ad (Ag .n (.t rfl) rfl <| AJ (full := false) .n .f en_37 (.cons (.t rfl) (.cons (.c rfl) (.cons (.c rfl) .nil))) (.cons (.b (.a (.same rfl))) (.cons (.b (.a (.same rfl))) (.cons (.b (.a (.same rfl))) .nil))) (fun hg => BC budget 1 20000) rfl (fun h => Bool.noConfusion h) rfl <| Ah .n (.t rfl) rfl <| Lex.nil) ?_
  exact Au [] (.cons (.t rfl rfl) .nil) rfl trivial rfl

/-! ### impl_onlyNameBytes -/
theorem c_impl_onlyNameBytes (s_ : List UInt8) (hp1 : s_.length ≤ 10) : Con Tryz.prog 101 [.str s_] [] (.bool (CN s_)) ([]) := by
  refine con_intro (out := fun r : Bool => ((.bool r : V), ([] : List (Nat × Option O)))) (r := (CN s_)) Tryz.func101 rfl Tryz.ntmps101 rfl ?_
  refine Af ?_
  refine Ad (Ah .n (.c rfl) rfl <| Lex.nil) ?_
  refine Af ?_
  refine Af ?_
  refine Ad (Ag .n (.t rfl) rfl <| BS .n (.t rfl) rfl rfl st_9 rfl <| Ag .n (.c rfl) rfl <| Lex.nil) ?_
  refine Aw ?_
  refine Bp (CT s_) _ _ _ rfl (fun (x1 : Int) => 0 ≤ x1 ∧ x1 ≤ (s_.length : Int)) (fun x1 => 0 ≤ x1 ∧ x1 ≤ (s_.length : Int) ∧ (s_.length : Int) ≤ x1) (fun x1 => ((s_.length : Int) - x1 : Int).toNat) (fun x1 => ⟨[(0, some (true, .str s_)), (6, some (true, .int .i64 (s_.length : Int))), (7, some (true, .int .i64 x1))], []⟩) (fun x1 => ⟨[], []⟩) ⟨by omega, by omega⟩ (by omega) (sub_of [] ⟨rfl, rfl, rfl, trivial⟩ trivial rfl) ?_ ?_
  · intro x1 i5
    obtain ⟨e6, e7, e8⟩ := i5
    try dsimp only at *
    refine Af ?_
    refine Ad (Ah .n (.c rfl) rfl <| Lex.nil) ?_
    exact Au [] (.cons (.t rfl rfl) .nil) rfl trivial rfl
  · intro rec1 k1 hk1 x1 i2
    obtain ⟨e9, e10⟩ := i2
    try dsimp only at *
    refine Af ?_
    refine Ad (AF .n (.t rfl) (.t rfl) rfl rfl <| Lex.nil) ?_
    refine Af ?_
    refine Aq (.t rfl) rfl (fun h3 => ?_) (fun h3 => ?_)
    · try simp only [tst] at h3
      refine As ?_
      refine Af ?_
      refine Aw ?_
      refine Af ?_
      refine Ad (Ag .n (.t rfl) rfl <| Ah .n (.t rfl) rfl <| Lex.nil) ?_
      refine Af ?_
      refine Ad (Ag .n (.t rfl) rfl <| Ag .n (.t rfl) rfl <| q_strat .n (.t rfl) (.t rfl) st_9 (fun _ => by omega) rfl <| Ah .n (.t rfl) rfl <| Lex.nil) ?_
      refine Af ?_
      refine Ad (Ag .n (.t rfl) rfl <| AF .n (.t rfl) (.c rfl) rfl rfl <| Ag .n (.t rfl) rfl <| Ag (.f rfl rfl) (.t rfl) rfl <| AF (.f rfl rfl) (.u rfl id) (.c rfl) rfl rfl <| q_or .n (.t rfl) (.u rfl id) rfl <| Ag .n (.t rfl) rfl <| Ag (.t rfl rfl) (.t rfl) rfl <| AF (.t rfl rfl) (.u rfl id) (.c rfl) rfl rfl <| Ag (.t rfl rfl) (.u rfl id) rfl <| Ag (.f rfl rfl) (.t rfl) rfl <| AF (.f rfl rfl) (.u rfl id) (.c rfl) rfl rfl <| q_or (.t rfl rfl) (.u rfl id) (.u rfl id) rfl <| B4 .n (.t rfl) (.u rfl id) rfl <| Lex.nil) ?_
      refine Aq (.t rfl) rfl (fun h4 => ?_) (fun h4 => ?_)
      · try simp only [tst] at h4
        refine Af ?_
        refine Ad (Ah .n (.c rfl) rfl <| Lex.nil) ?_
        exact Au [] (.cons (.t rfl rfl) .nil) rfl trivial rfl
      · try simp only [tst] at h4
        refine As ?_
        refine AK ?_
        refine Ad (BM .n (.t rfl) (.c rfl) (fun _ => by omega) rfl <| Ag .n (.t rfl) rfl <| Lex.nil) ?_
        exact A5 (x1 + 1) ⟨by omega, by omega⟩ (by omega) (sub_of [] ⟨rfl, rfl, rfl, trivial⟩ trivial rfl)
    · try simp only [tst] at h3
      refine Bb rfl ?_
      exact AY hk1 x1 ⟨by omega, by omega, by omega⟩ (sub_of [] trivial trivial rfl)

/-! ### impl_IsName -/
theorem c_impl_IsName (s_ : List UInt8) : Con Tryz.prog 79 [.str s_] [] (.bool (CU s_)) ([]) := by
  refine con_intro (out := fun r : Bool => ((.bool r : V), ([] : List (Nat × Option O)))) (r := (CU s_)) Tryz.func79 rfl Tryz.ntmps79 rfl ?_
  refine Af ?_
  refine Ad (Ah .n (.c rfl) rfl <| Lex.nil) ?_
  refine Af ?_
  refine Af ?_
  refine Ad (Ag .n (.t rfl) rfl <| BS .n (.t rfl) rfl rfl st_9 rfl <| AF .n (.t rfl) (.c rfl) rfl rfl <| Ag .n (.t rfl) rfl <| Ag (.f rfl rfl) (.t rfl) rfl <| BS (.f rfl rfl) (.u rfl id) rfl rfl st_9 rfl <| AF (.f rfl rfl) (.u rfl id) (.c rfl) rfl rfl <| q_or .n (.t rfl) (.u rfl id) rfl <| Ag .n (.t rfl) rfl <| Ag (.f rfl rfl) (.t rfl) rfl <| q_strat (.f rfl rfl) (.u rfl id) (.c rfl) st_9 (fun hg => by simp only [tst] at hg; omega) rfl <| AF (.f rfl rfl) (.u rfl id) (.c rfl) rfl rfl <| q_or .n (.t rfl) (.u rfl id) rfl <| Ag .n (.t rfl) rfl <| Ag (.f rfl rfl) (.t rfl) rfl <| q_strat (.f rfl rfl) (.u rfl id) (.c rfl) st_9 (fun hg => by simp only [tst] at hg; omega) rfl <| AF (.f rfl rfl) (.u rfl id) (.c rfl) rfl rfl <| q_or .n (.t rfl) (.u rfl id) rfl <| Lex.nil) ?_
  refine Aq (.t rfl) rfl (fun h1 => ?_) (fun h1 => ?_)
  · try simp only [tst] at h1
    refine Af ?_
    refine Ad (Ah .n (.c rfl) rfl <| Lex.nil) ?_
    exact Au [] (.cons (.t rfl rfl) .nil) rfl trivial rfl
  · try simp only [tst] at h1
    refine As ?_
    refine Af ?_
    refine Ad (Ag .n (.t rfl) rfl <| AJ (full := false) .n .f en_101 (.cons (.t rfl) .nil) (.cons (.b (.a (.same rfl))) .nil) (fun hg => c_impl_onlyNameBytes s_ (by omega)) rfl (fun h => Bool.noConfusion h) rfl <| Ah .n (.t rfl) rfl <| Lex.nil) ?_
    exact Au [] (.cons (.t rfl rfl) .nil) rfl trivial rfl

/-! ### impl_junctionOk -/
theorem Dj (n_ : Int) : Con Tryz.prog 80 [.int .i64 n_] [] (.bool (BP n_)) ([]) := by
  refine con_intro (out := fun r : Bool => ((.bool r : V), ([] : List (Nat × Option O)))) (r := (BP n_)) Tryz.func80 rfl Tryz.ntmps80 rfl ?_
  refine Af ?_
  refine Ad (Ah .n (.c rfl) rfl <| Lex.nil) ?_
  refine Af ?_
  refine Ad (Ag .n (.t rfl) rfl <| AJ (full := false) .n .f en_37 (.cons (.t rfl) (.cons (.c rfl) (.cons (.c rfl) .nil))) (.cons (.b (.a (.same rfl))) (.cons (.b (.a (.same rfl))) (.cons (.b (.a (.same rfl))) .nil))) (fun hg => BC n_ 0 15) rfl (fun h => Bool.noConfusion h) rfl <| Ah .n (.t rfl) rfl <| Lex.nil) ?_
  exact Au [] (.cons (.t rfl rfl) .nil) rfl trivial rfl

/-! ### impl_ValidAirway -/
theorem c_impl_ValidAirway (a : Ar) : Con Tryz.prog 84 [.st [.str a.Id, .int .i64 a.From, .int .i64 a.To, .int .i64 a.Length, .int .i64 a.Section, .int .i64 a.Friction, .int .i64 a.Shock]] [] (.bool (CG a)) ([]) := by
  refine con_intro (out := fun r : Bool => ((.bool r : V), ([] : List (Nat × Option O)))) (r := (CG a)) Tryz.func84 rfl Tryz.ntmps84 rfl ?_
  refine Af ?_
  refine Ad (Du (l := 200) .n rfl (.t rfl) rfl rfl rfl rfl <| Ah .n (.c rfl) rfl <| Lex.nil) ?_
  refine Af ?_
  refine Ad (AE .n (.t rfl) fo_112_0 rfl <| AP .n (.t rfl) rfl (.inr rfl) (fun _ => rfl) rfl ic_9 rfl <| AJ (full := false) .n .f en_79 (.cons (.t rfl) .nil) (.cons (.b (.a (.same rfl))) .nil) (fun hg => c_impl_IsName a.Id) rfl (fun h => Bool.noConfusion h) rfl <| Ag .n (.t rfl) rfl <| AE (.t rfl rfl) (.t rfl) fo_112_1 rfl <| AP (.t rfl rfl) (.u rfl id) rfl (.inr rfl) (fun _ => rfl) rfl ic_2 rfl <| AJ (full := false) (.t rfl rfl) .f en_80 (.cons (.u rfl id) .nil) (.cons (.b (.a (.same rfl))) .nil) (fun hg => Dj a.From) rfl (fun h => Bool.noConfusion h) rfl <| B4 .n (.t rfl) (.u rfl id) rfl <| Ag .n (.t rfl) rfl <| AE (.t rfl rfl) (.t rfl) fo_112_2 rfl <| AP (.t rfl rfl) (.u rfl id) rfl (.inr rfl) (fun _ => rfl) rfl ic_2 rfl <| AJ (full := false) (.t rfl rfl) .f en_80 (.cons (.u rfl id) .nil) (.cons (.b (.a (.same rfl))) .nil) (fun hg => Dj a.To) rfl (fun h => Bool.noConfusion h) rfl <| B4 .n (.t rfl) (.u rfl id) rfl <| Ag .n (.t rfl) rfl <| AE (.t rfl rfl) (.t rfl) fo_112_1 rfl <| AP (.t rfl rfl) (.u rfl id) rfl (.inr rfl) (fun _ => rfl) rfl ic_2 rfl <| AE (.t rfl rfl) (.t rfl) fo_112_2 rfl <| AP (.t rfl rfl) (.u rfl id) rfl (.inr rfl) (fun _ => rfl) rfl ic_2 rfl <| AF (.t rfl rfl) (.u rfl id) (.u rfl id) rfl rfl <| B4 .n (.t rfl) (.u rfl id) rfl <| Ag .n (.t rfl) rfl <| AE (.t rfl rfl) (.t rfl) fo_112_3 rfl <| AP (.t rfl rfl) (.u rfl id) rfl (.inr rfl) (fun _ => rfl) rfl ic_2 rfl <| AJ (full := false) (.t rfl rfl) .f en_37 (.cons (.u rfl id) (.cons (.c rfl) (.cons (.c rfl) .nil))) (.cons (.b (.a (.same rfl))) (.cons (.b (.a (.same rfl))) (.cons (.b (.a (.same rfl))) .nil))) (fun hg => BC a.Length 1 10000) rfl (fun h => Bool.noConfusion h) rfl <| B4 .n (.t rfl) (.u rfl id) rfl <| Ag .n (.t rfl) rfl <| AE (.t rfl rfl) (.t rfl) fo_112_4 rfl <| AP (.t rfl rfl) (.u rfl id) rfl (.inr rfl) (fun _ => rfl) rfl ic_2 rfl <| AJ (full := false) (.t rfl rfl) .f en_37 (.cons (.u rfl id) (.cons (.c rfl) (.cons (.c rfl) .nil))) (.cons (.b (.a (.same rfl))) (.cons (.b (.a (.same rfl))) (.cons (.b (.a (.same rfl))) .nil))) (fun hg => BC a.Section 50 5000) rfl (fun h => Bool.noConfusion h) rfl <| B4 .n (.t rfl) (.u rfl id) rfl <| Ag .n (.t rfl) rfl <| AE (.t rfl rfl) (.t rfl) fo_112_5 rfl <| AP (.t rfl rfl) (.u rfl id) rfl (.inr rfl) (fun _ => rfl) rfl ic_2 rfl <| AJ (full := false) (.t rfl rfl) .f en_37 (.cons (.u rfl id) (.cons (.c rfl) (.cons (.c rfl) .nil))) (.cons (.b (.a (.same rfl))) (.cons (.b (.a (.same rfl))) (.cons (.b (.a (.same rfl))) .nil))) (fun hg => BC a.Friction 1 1000) rfl (fun h => Bool.noConfusion h) rfl <| B4 .n (.t rfl) (.u rfl id) rfl <| Ag .n (.t rfl) rfl <| AE (.t rfl rfl) (.t rfl) fo_112_6 rfl <| AP (.t rfl rfl) (.u rfl id) rfl (.inr rfl) (fun _ => rfl) rfl ic_2 rfl <| AJ (full := false) (.t rfl rfl) .f en_37 (.cons (.u rfl id) (.cons (.c rfl) (.cons (.c rfl) .nil))) (.cons (.b (.a (.same rfl))) (.cons (.b (.a (.same rfl))) (.cons (.b (.a (.same rfl))) .nil))) (fun hg => BC a.Shock 0 1000) rfl (fun h => Bool.noConfusion h) rfl <| B4 .n (.t rfl) (.u rfl id) rfl <| Ah .n (.t rfl) rfl <| Lex.nil) ?_
  exact Au [] (.cons (.t rfl rfl) .nil) rfl trivial rfl

/-! ### impl_Mine_hasJunction -/
theorem Ct (m_ : AB) (n_ : Int) : Con Tryz.prog 43 [.st [.int .i64 m_.Junctions, .sl 7 (m_.Airways.map Ar.v)], .int .i64 n_] [] (.bool (Bm m_ n_)) ([]) := by
  refine con_intro (out := fun r : Bool => ((.bool r : V), ([] : List (Nat × Option O)))) (r := (Bm m_ n_)) Tryz.func43 rfl Tryz.ntmps43 rfl ?_
  refine Ch (t := 0) 1 rfl rfl fun hl => ?_
  have l1 := hl; clear hl; simp only [List.length_map] at l1
  refine Af ?_
  refine Ad (Du (l := 200) .n rfl (.t rfl) rfl rfl rfl rfl <| Ah .n (.c rfl) rfl <| Lex.nil) ?_
  refine Af ?_
  refine Ad (Ag .n (.t rfl) rfl <| AE .n (.t rfl) fo_26_0 rfl <| AP .n (.t rfl) rfl (.inr rfl) (fun _ => rfl) rfl ic_2 rfl <| AF .n (.t rfl) (.c rfl) rfl rfl <| AJ (full := false) .n .f en_37 (.cons (.t rfl) (.cons (.c rfl) (.cons (.t rfl) .nil))) (.cons (.b (.a (.same rfl))) (.cons (.b (.a (.same rfl))) (.cons (.b (.a (.same rfl))) .nil))) (fun hg => BC n_ 0 (IntKind.wrap .i64 (m_.Junctions - 1))) rfl (fun h => Bool.noConfusion h) rfl <| Ah .n (.t rfl) rfl <| Lex.nil) ?_
  exact Au [] (.cons (.t rfl rfl) .nil) rfl trivial rfl

/-! ### impl_Mine_hasEnds -/
theorem c_impl_Mine_hasEnds (m_ : AB) (a : Ar) : Con Tryz.prog 85 [.st [.int .i64 m_.Junctions, .sl 7 (m_.Airways.map Ar.v)], .st [.str a.Id, .int .i64 a.From, .int .i64 a.To, .int .i64 a.Length, .int .i64 a.Section, .int .i64 a.Friction, .int .i64 a.Shock]] [] (.bool (CV m_ a)) ([]) := by
  refine con_intro (out := fun r : Bool => ((.bool r : V), ([] : List (Nat × Option O)))) (r := (CV m_ a)) Tryz.func85 rfl Tryz.ntmps85 rfl ?_
  refine Ch (t := 0) 1 rfl rfl fun hl => ?_
  have l1 := hl; clear hl; simp only [List.length_map] at l1
  refine Af ?_
  refine Ad (Du (l := 200) .n rfl (.t rfl) rfl rfl rfl rfl <| Du (l := 201) .n rfl (.t rfl) rfl rfl rfl rfl <| Ah .n (.c rfl) rfl <| Lex.nil) ?_
  refine Af ?_
  refine Ad (Ba .n (.t rfl) rfl (.inr rfl) ag_26 (fun _ => rfl) rfl rfl <| AE .n (.t rfl) fo_112_1 rfl <| AP .n (.t rfl) rfl (.inr rfl) (fun _ => rfl) rfl ic_2 rfl <| AJ (full := false) .n .f en_43 (.cons (.t rfl) (.cons (.t rfl) .nil)) (.cons (.sts rfl) (.cons (.b (.a (.same rfl))) .nil)) (fun hg => Ct m_ a.From) rfl (fun h => Bool.noConfusion h) rfl <| Ag .n (.t rfl) rfl <| Ba (.t rfl rfl) (.t rfl) rfl (.inr rfl) ag_26 (fun _ => rfl) rfl rfl <| AE (.t rfl rfl) (.t rfl) fo_112_2 rfl <| AP (.t rfl rfl) (.u rfl id) rfl (.inr rfl) (fun _ => rfl) rfl ic_2 rfl <| AJ (full := false) (.t rfl rfl) .f en_43 (.cons (.u rfl id) (.cons (.u rfl id) .nil)) (.cons (.sts rfl) (.cons (.b (.a (.same rfl))) .nil)) (fun hg => Ct m_ a.To) rfl (fun h => Bool.noConfusion h) rfl <| B4 .n (.t rfl) (.u rfl id) rfl <| Ah .n (.t rfl) rfl <| Lex.nil) ?_
  exact Au [] (.cons (.t rfl rfl) .nil) rfl trivial rfl

/-! ### impl_ValidMine -/
theorem c_impl_ValidMine (m_ : AB) : Con Tryz.prog 42 [.st [.int .i64 m_.Junctions, .sl 7 (m_.Airways.map Ar.v)]] [] (.bool (BO m_)) ([]) := by
  refine con_intro (out := fun r : Bool => ((.bool r : V), ([] : List (Nat × Option O)))) (r := (BO m_)) Tryz.func42 rfl Tryz.ntmps42 rfl ?_
  refine Ch (t := 0) 1 rfl rfl fun hl => ?_
  have l1 := hl; clear hl; simp only [List.length_map] at l1
  refine Af ?_
  refine Ad (Du (l := 200) .n rfl (.t rfl) rfl rfl rfl rfl <| Ah .n (.c rfl) rfl <| Lex.nil) ?_
  refine Af ?_
  refine Af ?_
  refine Ad (AE .n (.t rfl) fo_26_0 rfl <| AP .n (.t rfl) rfl (.inr rfl) (fun _ => rfl) rfl ic_2 rfl <| AJ (full := false) .n .f en_37 (.cons (.t rfl) (.cons (.c rfl) (.cons (.c rfl) .nil))) (.cons (.b (.a (.same rfl))) (.cons (.b (.a (.same rfl))) (.cons (.b (.a (.same rfl))) .nil))) (fun hg => BC m_.Junctions 1 16) rfl (fun h => Bool.noConfusion h) rfl <| Cg .n (.t rfl) rfl <| Ag .n (.t rfl) rfl <| AE (.f rfl rfl) (.t rfl) fo_26_1 rfl <| AP (.f rfl rfl) (.u rfl id) rfl (.inr rfl) (fun _ => rfl) rfl ic_24 rfl <| BS (.f rfl rfl) (.u rfl id) rfl len_map ss_24 rfl <| AF (.f rfl rfl) (.u rfl id) (.c rfl) rfl rfl <| q_or .n (.t rfl) (.u rfl id) rfl <| Lex.nil) ?_
  refine Aq (.t rfl) rfl (fun h2 => ?_) (fun h2 => ?_)
  · try simp only [tst] at h2
    try have hf0h2 := within_imp h2
    try have hf1h2 := within_imp h2.1
    try have hf2h2 := within_imp h2.2
    try have hf3h2 := within_imp h2.1.1
    try have hf4h2 := within_imp h2.1.2
    try have hf5h2 := within_imp h2.2.1
    try have hf6h2 := within_imp h2.2.2
    refine Af ?_
    refine Ad (Ah .n (.c rfl) rfl <| Lex.nil) ?_
    exact Au [] (.cons (.t rfl rfl) .nil) rfl trivial rfl
  · try simp only [tst] at h2
    try have hf0h2 := within_imp h2
    try have hf1h2 := within_imp h2.1
    try have hf2h2 := within_imp h2.2
    try have hf3h2 := within_imp h2.1.1
    try have hf4h2 := within_imp h2.1.2
    try have hf5h2 := within_imp h2.2.1
    try have hf6h2 := within_imp h2.2.2
    refine As ?_
    refine Af ?_
    refine Af ?_
    refine Ad (AE .n (.t rfl) fo_26_1 rfl <| AP .n (.t rfl) rfl (.inr rfl) (fun _ => rfl) rfl ic_24 rfl <| BS .n (.t rfl) rfl len_map ss_24 rfl <| Ag .n (.c rfl) rfl <| Lex.nil) ?_
    refine Aw ?_
    refine Bp (Dr m_) _ _ _ rfl (fun (x1 : Int) => 0 ≤ x1 ∧ x1 ≤ (m_.Airways.length : Int)) (fun x1 => 0 ≤ x1 ∧ x1 ≤ (m_.Airways.length : Int) ∧ (m_.Airways.length : Int) ≤ x1) (fun x1 => ((m_.Airways.length : Int) - x1 : Int).toNat) (fun x1 => ⟨[(1, some (true, .op 200 0 0 0)), (16, some (true, .sl 7 (m_.Airways.map Ar.v))), (17, some (true, .int .i64 (m_.Airways.length : Int))), (18, some (true, .int .i64 x1))], [(200, some (.box 26 [.int .i64 m_.Junctions, .sl 7 (m_.Airways.map Ar.v)]))]⟩) (fun x1 => ⟨[], []⟩) ⟨by omega, by omega⟩ (by omega) (sub_of [] ⟨rfl, rfl, rfl, rfl, trivial⟩ ⟨rfl, trivial⟩ rfl) ?_ ?_
    · intro x1 i7
      obtain ⟨e8, e9, e10⟩ := i7
      try dsimp only at *
      refine Af ?_
      refine Ad (Ah .n (.c rfl) rfl <| Lex.nil) ?_
      exact Au [] (.cons (.t rfl rfl) .nil) rfl trivial rfl
    · intro rec1 k1 hk3 x1 i4
      obtain ⟨e11, e12⟩ := i4
      try dsimp only at *
      refine Af ?_
      refine Ad (AF .n (.t rfl) (.t rfl) rfl rfl <| Lex.nil) ?_
      refine Af ?_
      refine Aq (.t rfl) rfl (fun h5 => ?_) (fun h5 => ?_)
      · try simp only [tst] at h5
        refine As ?_
        refine Af ?_
        refine Aw ?_
        refine Af ?_
        refine Ad (Ag .n (.t rfl) rfl <| A8 .n (.t rfl) (.t rfl) sl_24 (fun _ => by omega) rfl <| q_ldN_ro .n (.t rfl) ag_112 rfl rfl rfl <| BE (l := 201) .n rfl zv_112 rfl rfl <| Ah .n (.t rfl) rfl <| AG [.str (at' m_.Airways x1).Id, .int .i64 (at' m_.Airways x1).From, .int .i64 (at' m_.Airways x1).To, .int .i64 (at' m_.Airways x1).Length, .int .i64 (at' m_.Airways x1).Section, .int .i64 (at' m_.Airways x1).Friction, .int .i64 (at' m_.Airways x1).Shock] .n rfl (.t rfl) (.t rfl) rfl ts_112 rfl rfl <| Lex.nil) ?_
        refine Af ?_
        refine Bk fmo (Ba .n (.t rfl) rfl (.inr rfl) ag_112 (fun _ => rfl) rfl rfl <| AJ (full := false) .n .f en_84 (.cons (.t rfl) .nil) (.cons (.sts rfl) .nil) (fun hg => c_impl_ValidAirway (at' m_.Airways x1)) rfl (fun h => Bool.noConfusion h) rfl <| Cg .n (.t rfl) rfl <| Ag .n (.t rfl) rfl <| Ba (.f rfl rfl) (.t rfl) rfl (.inr rfl) ag_26 (fun _ => rfl) rfl rfl <| Ba (.f rfl rfl) (.t rfl) rfl (.inr rfl) ag_112 (fun _ => rfl) rfl rfl <| AJ (full := false) (.f rfl rfl) .f en_85 (.cons (.u rfl id) (.cons (.u rfl id) .nil)) (.cons (.sts rfl) (.cons (.sts rfl) .nil)) (fun hg => c_impl_Mine_hasEnds m_ (at' m_.Airways x1)) rfl (fun h => Bool.noConfusion h) rfl <| Cg (.f rfl rfl) (.u rfl id) rfl <| q_or .n (.t rfl) (.u rfl id) rfl <| Ag .n (.t rfl) rfl <| Ag (.f rfl rfl) (.t rfl) rfl <| AF (.f rfl rfl) (.u rfl id) (.c rfl) rfl rfl <| Ag (.f rfl rfl) (.u rfl id) rfl <| AE (.t rfl rfl) (.t rfl) fo_112_0 rfl <| AP (.t rfl rfl) (.u rfl id) rfl (.inr rfl) (fun _ => rfl) rfl ic_9 rfl <| AE (.t rfl rfl) (.t rfl) fo_26_1 rfl <| AP (.t rfl rfl) (.u rfl id) rfl (.inr rfl) (fun _ => rfl) rfl ic_24 rfl <| Ag (.t rfl rfl) (.t rfl) rfl <| q_sub (.t rfl rfl) (.u rfl id) (.c rfl) (fun hg => by simp only [tst] at hg; omega) rfl <| A8 (.t rfl rfl) (.u rfl id) (.u rfl id) sl_24 (fun hg => by simp only [tst] at hg; omega) rfl <| Az (.t rfl rfl) (.u rfl id) fo_112_0 rfl <| Ap (.t rfl rfl) (.u rfl id) rfl ic_9 rfl <| q_strcmp (.t rfl rfl) (.u rfl id) (.u rfl id) rfl rfl <| B4 (.f rfl rfl) (.u rfl id) (.u rfl id) rfl <| q_or .n (.t rfl) (.u rfl id) rfl <| Lex.nil) (by kernel_rfl) ?_
        refine Aq (.t rfl) rfl (fun h6 => ?_) (fun h6 => ?_)
        · try simp only [tst] at h6
          refine Af ?_
          refine Ad (Ah .n (.c rfl) rfl <| Lex.nil) ?_
          exact Au [] (.cons (.t rfl rfl) .nil) rfl trivial rfl
        · try simp only [tst] at h6
          refine As ?_
          refine AK ?_
          refine Ad (BM .n (.t rfl) (.c rfl) (fun _ => by omega) rfl <| Ag .n (.t rfl) rfl <| Lex.nil) ?_
          exact A5 (x1 + 1) ⟨by omega, by omega⟩ (by omega) (sub_of [] ⟨rfl, rfl, rfl, rfl, trivial⟩ ⟨rfl, trivial⟩ rfl)
      · try simp only [tst] at h5
        refine Bb rfl ?_
        exact AY hk3 x1 ⟨by omega, by omega, by omega⟩ (sub_of [] trivial trivial rfl)

/-! ### math_bits_Mul32 -/
theorem c_math_bits_Mul32 (x_ : Int) (y : Int) : Con Tryz.prog 109 [.int .u32 x_, .int .u32 y] [] (.tup [.int .u32 (CP x_ y).1, .int .u32 (CP x_ y).2]) ([]) := by
  refine con_intro (out := fun r : Int × Int => ((.tup [.int .u32 r.1, .int .u32 r.2] : V), ([] : List (Nat × Option O)))) (r := (CP x_ y)) Tryz.func109 rfl Tryz.ntmps109 rfl ?_
  refine Af ?_
  refine Ad (Ah .n (.c rfl) rfl <| Ah .n (.c rfl) rfl <| Lex.nil) ?_
  refine Af ?_
  refine Ad (Ag .n (.t rfl) rfl <| q_conv .n (.t rfl) cv_147_98 rfl <| Ag .n (.t rfl) rfl <| q_conv .n (.t rfl) cv_147_98 rfl <| AF .n (.t rfl) (.t rfl) rfl rfl <| Ah .n (.t rfl) rfl <| Lex.nil) ?_
  refine Af ?_
  refine Ad (Ag .n (.t rfl) rfl <| q_shr .n (.t rfl) (.c rfl) (fun _ => by omega) rfl <| q_conv .n (.t rfl) cv_98_147 rfl <| Ag .n (.t rfl) rfl <| q_conv .n (.t rfl) cv_98_147 rfl <| Ah .n (.t rfl) rfl <| Ah .n (.t rfl) rfl <| Lex.nil) ?_
  exact Au [] (.cons (.t rfl rfl) (.cons (.t rfl rfl) .nil)) rfl trivial rfl

/-! ### math_bits_Mul64 -/
theorem c_math_bits_Mul64 (x_ : Int) (y : Int) : Con Tryz.prog 110 [.int .u64 x_, .int .u64 y] [] (.tup [.int .u64 (CQ x_ y).1, .int .u64 (CQ x_ y).2]) ([]) := by
  refine con_intro (out := fun r : Int × Int => ((.tup [.int .u64 r.1, .int .u64 r.2] : V), ([] : List (Nat × Option O)))) (r := (CQ x_ y)) Tryz.func110 rfl Tryz.ntmps110 rfl ?_
  refine Af ?_
  refine Ad (Ah .n (.c rfl) rfl <| Ah .n (.c rfl) rfl <| Lex.nil) ?_
  refine Af ?_
  refine Ad (Ag .n (.t rfl) rfl <| AF .n (.t rfl) (.c rfl) rfl rfl <| Ah .n (.t rfl) rfl <| Lex.nil) ?_
  refine Af ?_
  refine Ad (Ag .n (.t rfl) rfl <| q_shr .n (.t rfl) (.c rfl) (fun _ => by omega) rfl <| Ah .n (.t rfl) rfl <| Lex.nil) ?_
  refine Af ?_
  refine Ad (Ag .n (.t rfl) rfl <| AF .n (.t rfl) (.c rfl) rfl rfl <| Ah .n (.t rfl) rfl <| Lex.nil) ?_
  refine Af ?_
  refine Ad (Ag .n (.t rfl) rfl <| q_shr .n (.t rfl) (.c rfl) (fun _ => by omega) rfl <| Ah .n (.t rfl) rfl <| Lex.nil) ?_
  refine Af ?_
  refine Ad (Ag .n (.t rfl) rfl <| Ag .n (.t rfl) rfl <| AF .n (.t rfl) (.t rfl) rfl rfl <| Ah .n (.t rfl) rfl <| Lex.nil) ?_
  refine Af ?_
  refine Ad (Ag .n (.t rfl) rfl <| Ag .n (.t rfl) rfl <| AF .n (.t rfl) (.t rfl) rfl rfl <| Ag .n (.t rfl) rfl <| q_shr .n (.t rfl) (.c rfl) (fun _ => by omega) rfl <| AF .n (.t rfl) (.t rfl) rfl rfl <| Ah .n (.t rfl) rfl <| Lex.nil) ?_
  refine Af ?_
  refine Ad (Ag .n (.t rfl) rfl <| AF .n (.t rfl) (.c rfl) rfl rfl <| Ah .n (.t rfl) rfl <| Lex.nil) ?_
  refine Af ?_
  refine Ad (Ag .n (.t rfl) rfl <| q_shr .n (.t rfl) (.c rfl) (fun _ => by omega) rfl <| Ah .n (.t rfl) rfl <| Lex.nil) ?_
  refine Af ?_
  refine Ad (Ag .n (.t rfl) rfl <| Ag .n (.t rfl) rfl <| Ag .n (.t rfl) rfl <| AF .n (.t rfl) (.t rfl) rfl rfl <| AF .n (.t rfl) (.t rfl) rfl rfl <| Ah .n (.t rfl) rfl <| Lex.nil) ?_
  refine Af ?_
  refine Ad (Ag .n (.t rfl) rfl <| Ag .n (.t rfl) rfl <| AF .n (.t rfl) (.t rfl) rfl rfl <| Ag .n (.t rfl) rfl <| AF .n (.t rfl) (.t rfl) rfl rfl <| Ag .n (.t rfl) rfl <| q_shr .n (.t rfl) (.c rfl) (fun _ => by omega) rfl <| AF .n (.t rfl) (.t rfl) rfl rfl <| Ah .n (.t rfl) rfl <| Lex.nil) ?_
  refine Af ?_
  refine Ad (Ag .n (.t rfl) rfl <| Ag .n (.t rfl) rfl <| AF .n (.t rfl) (.t rfl) rfl rfl <| Ah .n (.t rfl) rfl <| Lex.nil) ?_
  exact Au [] (.cons (.t rfl rfl) (.cons (.t rfl rfl) .nil)) rfl trivial rfl

/-! ### math_bits_Mul -/
theorem c_math_bits_Mul (x_ : Int) (y : Int) : Con Tryz.prog 98 [.int .u64 x_, .int .u64 y] [] (.tup [.int .u64 (B1 x_ y).1, .int .u64 (B1 x_ y).2]) ([]) := by
  refine con_intro (out := fun r : Int × Int => ((.tup [.int .u64 r.1, .int .u64 r.2] : V), ([] : List (Nat × Option O)))) (r := (B1 x_ y)) Tryz.func98 rfl Tryz.ntmps98 rfl ?_
  refine Af ?_
  refine Ad (Ah .n (.c rfl) rfl <| Ah .n (.c rfl) rfl <| Lex.nil) ?_
  refine Af ?_
  refine Aq (.c rfl) rfl (fun h1 => ?_) (fun h1 => ?_)
  · try simp only [tst] at h1
    refine Af ?_
    refine Ad (Ag .n (.t rfl) rfl <| q_conv .n (.t rfl) cv_141_147 rfl <| Ag .n (.t rfl) rfl <| q_conv .n (.t rfl) cv_141_147 rfl <| AJ (full := false) .n .f en_109 (.cons (.t rfl) (.cons (.t rfl) .nil)) (.cons (.b (.a (.same rfl))) (.cons (.b (.a (.same rfl))) .nil)) (fun hg => c_math_bits_Mul32 (IntKind.wrap .u32 x_) (IntKind.wrap .u32 y)) rfl (fun h => Bool.noConfusion h) rfl <| Ag .n (.t rfl) rfl <| C9 .n (.t rfl) rfl rfl rfl <| C9 .n (.t rfl) rfl rfl rfl <| Ah .n (.t rfl) rfl <| Ah .n (.t rfl) rfl <| Lex.nil) ?_
    refine Af ?_
    refine Ad (Ag .n (.t rfl) rfl <| q_conv .n (.t rfl) cv_147_141 rfl <| Ag .n (.t rfl) rfl <| q_conv .n (.t rfl) cv_147_141 rfl <| Ah .n (.t rfl) rfl <| Ah .n (.t rfl) rfl <| Lex.nil) ?_
    exact Au [] (.cons (.t rfl rfl) (.cons (.t rfl rfl) .nil)) rfl trivial rfl
  · try simp only [tst] at h1
    refine As ?_
    refine Af ?_
    refine Ad (Ag .n (.t rfl) rfl <| Ag .n (.t rfl) rfl <| AJ (full := false) .n .f en_110 (.cons (.t rfl) (.cons (.t rfl) .nil)) (.cons (.b (.a (.same rfl))) (.cons (.b (.a (.same rfl))) .nil)) (fun hg => c_math_bits_Mul64 x_ y) rfl (fun h => Bool.noConfusion h) rfl <| Ag .n (.t rfl) rfl <| C9 .n (.t rfl) rfl rfl rfl <| C9 .n (.t rfl) rfl rfl rfl <| Ah .n (.t rfl) rfl <| Ah .n (.t rfl) rfl <| Lex.nil) ?_
    refine Af ?_
    refine Ad (Ag .n (.t rfl) rfl <| Ag .n (.t rfl) rfl <| Ah .n (.t rfl) rfl <| Ah .n (.t rfl) rfl <| Lex.nil) ?_
    exact Au [] (.cons (.t rfl rfl) (.cons (.t rfl rfl) .nil)) rfl trivial rfl

/-! ### slices_Repeat_int64 -/
theorem c_slices_Repeat_int64 (x_ : List Int) (count : Int) (hp1 : x_.length = 1) (hp2 : 1 ≤ count ∧ count ≤ 16) : Con Tryz.prog 65 [.sl 1 (x_.map (V.int .i64)), .int .i64 count] [] (.os 100 (Bg x_ count).length) ([(100, some (.row 2 1 ((Bg x_ count).map (V.int .i64))))]) := by
  refine con_intro (out := fun r : (List Int) => ((.os 100 r.length : V), ([(100, some (.row 2 1 (r.map (V.int .i64))))] : List (Nat × Option O)))) (r := (Bg x_ count)) Tryz.func65 rfl Tryz.ntmps65 rfl ?_
  have hM := mul_rep (n := (x_.length : Int)) (c := count) (by omega) hp2
  have hW := wr64 (n := count) (by omega)
  refine Br (t := 0) rfl fun hl => ?_
  have l1 := hl; clear hl; simp only [List.length_map] at l1
  refine Af ?_
  refine Ad (Ah .n (.c rfl) rfl <| Lex.nil) ?_
  refine Af ?_
  refine Af ?_
  refine Ad (Ag .n (.t rfl) rfl <| AF .n (.t rfl) (.c rfl) rfl rfl <| Lex.nil) ?_
  refine run_if (.t rfl) (fun h2 => ?_) (fun h2 => ?_)
  · try simp only [tst] at h2
    exfalso; omega
  · try simp only [tst] at h2
    refine As ?_
    refine Af ?_
    refine Ad (Ag .n (.t rfl) rfl <| BS .n (.t rfl) rfl len_map ss_27 rfl <| q_conv .n (.t rfl) cv_3_141 rfl <| Ag .n (.t rfl) rfl <| q_conv .n (.t rfl) cv_3_141 rfl <| AJ (full := false) .n .f en_98 (.cons (.t rfl) (.cons (.t rfl) .nil)) (.cons (.b (.a (.same rfl))) (.cons (.b (.a (.same rfl))) .nil)) (fun hg => c_math_bits_Mul (IntKind.wrap .u64 (x_.length : Int)) (IntKind.wrap .u64 count)) rfl (fun h => Bool.noConfusion h) rfl <| Ag .n (.t rfl) rfl <| C9 .n (.t rfl) rfl rfl rfl <| C9 .n (.t rfl) rfl rfl rfl <| Ah .n (.t rfl) rfl <| Ah .n (.t rfl) rfl <| Lex.nil) ?_
    refine Af ?_
    refine Af ?_
    refine Ad (Ag .n (.t rfl) rfl <| AF .n (.t rfl) (.c rfl) rfl rfl <| Ag .n (.t rfl) rfl <| Ag (.f rfl rfl) (.t rfl) rfl <| AF (.f rfl rfl) (.u rfl id) (.c rfl) rfl rfl <| q_or .n (.t rfl) (.u rfl id) rfl <| Lex.nil) ?_
    refine run_if (.t rfl) (fun h3 => ?_) (fun h3 => ?_)
    · try simp only [tst] at h3
      exfalso; ((simp only [hM, hW, List.length_replicate] at *; omega))
    · try simp only [tst] at h3
      refine As ?_
      refine Af ?_
      refine Ad (Ag .n (.t rfl) rfl <| q_conv .n (.t rfl) cv_141_3 rfl <| q_makem (f := V.int .i64) (l := 200) (0 : Int) .n rfl (.t rfl) (.t rfl) si_27 zv_2 (by ((simp only [hM, hW, List.length_replicate] at *; omega))) rfl rfl rfl <| Ah .n (.t rfl) rfl <| Lex.nil) ?_
      refine Af ?_
      refine Ad (Ag .n (.t rfl) rfl <| Ag .n (.t rfl) rfl <| q_copym (ys := x_) (off := 0) (m := (List.replicate (IntKind.wrap .i64 (B1 (IntKind.wrap .u64 (x_.length : Int)) (IntKind.wrap .u64 count)).2 : Int).toNat (0 : Int)).length) .n rfl (.os (.t rfl)) rfl (by omega) (.ro (.t rfl)) sl_27 rfl rfl <| Ah .n (.t rfl) rfl <| Lex.nil) ?_
      refine Af ?_
      refine Aw ?_
      refine Bp (Cl x_ count) _ _ _ rfl (fun (x1 : (List Int) × Int) => (x1.1.length : Int) = count ∧ (1 ≤ x1.2 ∧ x1.2 ≤ count)) (fun x1 => (x1.1.length : Int) = count ∧ (1 ≤ x1.2 ∧ x1.2 ≤ count)) (fun x1 => (count - x1.2 : Int).toNat) (fun x1 => ⟨[(7, some (true, .os 200 x1.1.length)), (8, some (true, .int .i64 x1.2))], [(200, some (.row 2 1 (x1.1.map (V.int .i64))))]⟩) (fun x1 => ⟨[(7, some (true, .os 200 x1.1.length))], [(200, some (.row 2 1 (x1.1.map (V.int .i64))))]⟩) ⟨by ((dsimp only; rw [cpy_len (by simp only [List.length_take, List.length_replicate, hM, hW] at *; omega)]; simp only [List.length_replicate, hM, hW]; omega)), by ((simp only [hM, hW, List.length_replicate] at *; omega))⟩ (by omega) (sub_of [] ⟨os_len rfl (by first | (simp only [put_len]; done) | (((rw [cpy_len (by simp only [List.length_take] at *; omega)]; done)))), rfl, trivial⟩ ⟨rfl, trivial⟩ rfl) ?_ ?_
      · intro x1 i7
        obtain ⟨e8, e9⟩ := i7
        try dsimp only at *
        refine Af ?_
        refine Ad (Ag .n (.t rfl) rfl <| Ah .n (.t rfl) rfl <| Lex.nil) ?_
        exact Au [(100, 200)] (.cons (.t rfl rfl) .nil) (by first | rfl | (simp only [put_len]; rfl)) ⟨rfl, trivial⟩ rfl
      · intro rec1 k1 hk4 x1 i5
        obtain ⟨e10, e11⟩ := i5
        try dsimp only at *
        refine Af ?_
        refine Af ?_
        refine Ad (Ag .n (.t rfl) rfl <| Ag .n (.t rfl) rfl <| BS .n (.t rfl) rfl rfl ss_27 rfl <| AF .n (.t rfl) (.t rfl) rfl rfl <| Lex.nil) ?_
        refine Aq (.t rfl) rfl (fun h6 => ?_) (fun h6 => ?_)
        · try simp only [tst] at h6
          refine As ?_
          refine Aw ?_
          refine Bk fmo (Ag .n (.t rfl) rfl <| Ag .n (.t rfl) rfl <| Ag .n (.t rfl) rfl <| q_cut_oss (x1.1.length : Int) .n (.t rfl) (.s (.t rfl)) .n sl_27 rfl (fun _ => by omega) rfl <| Ag .n (.t rfl) rfl <| Ag .n (.t rfl) rfl <| q_cut_owm (xs := x1.1) (b := x1.2) .n (.t rfl) (.s (.t rfl)) sl_27 (fun _ => by omega) rfl <| q_copym (ys := pre' x1.1 x1.2) (off := x1.2.toNat) (m := ((x1.1.length : Int).toNat - x1.2.toNat)) .n rfl (.oss (.t rfl)) rfl (by omega) (.ow (.t rfl) rfl pre_map (by simp only [len_map, pre_len])) sl_27 rfl rfl <| AF .n (.t rfl) (.t rfl) rfl rfl <| Ah .n (.t rfl) rfl <| Lex.nil) (by kernel_rfl) ?_
          refine AK ?_
          exact A5 (cpy x1.1 (x1.2.toNat) ((pre' x1.1 x1.2).take (min (pre' x1.1 x1.2).length ((x1.1.length : Int).toNat - x1.2.toNat))), IntKind.wrap .i64 (x1.2 + (((min (pre' x1.1 x1.2).length ((x1.1.length : Int).toNat - x1.2.toNat)) : Nat) : Int))) ⟨by ((have hq := rep_step (by assumption) (by assumption) hp2.2 (by assumption); dsimp only at hq ⊢; omega)), by ((have hq := rep_step (by assumption) (by assumption) hp2.2 (by assumption); dsimp only at hq ⊢; omega))⟩ (by ((have hq := rep_step (by assumption) (by assumption) hp2.2 (by assumption); dsimp only at hq ⊢; omega))) (sub_of [] ⟨os_len rfl (by first | (simp only [put_len]; done) | (((have hq := rep_step (by assumption) (by assumption) hp2.2 (by assumption); dsimp only at hq ⊢; omega)))), rfl, trivial⟩ ⟨rfl, trivial⟩ rfl)
        · try simp only [tst] at h6
          refine Bb rfl ?_
          exact AY hk4 (x1.1, x1.2) ⟨by omega, by omega⟩ (sub_of [] ⟨rfl, trivial⟩ ⟨rfl, trivial⟩ rfl)


end Go.Proofs.YtibbfdojcdkopaaGreat
