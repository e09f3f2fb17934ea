/-
  THE WALKS: each Go function computes its model. Conditions: as each theorem states them (hp1, hp2 ..).
-/
import Derived.Test.YtibbfdojcdkopaaGreatRefugesWalks2
set_option linter.unusedVariables false
set_option linter.unusedSimpArgs false
set_option linter.unusedSectionVars false
set_option linter.unnecessarySimpa false
namespace Go.Proofs.YtibbfdojcdkopaaGreat
open Go Go.RowKit Go.Proofs Go.Proofs.YtibbfdojcdkopaaGreat.E
/-! ### spec_l17DrawFire -/
set_option maxRecDepth 100000 in
set_option maxHeartbeats 4000000 in
theorem c_spec_l17DrawFire (s_ : Aj) (m_ : AH) (hp1 : Lim s_ 300000) : Con Tryz.prog 91 [.op 0 0 0 0, .rp [.int .i64 m_.Junctions, .sl 7 (m_.Airways.map Au.v)]] [(0, some (.box 100 [.sl 1 (s_.code.map (V.int .u8)), .int .i64 s_.at_, .int .u64 s_.seed]))] (.st [.int .i64 (A4 s_ m_).1.Airway, .int .i64 (A4 s_ m_).1.At, .int .i64 (A4 s_ m_).1.Start]) ([(0, some (.box 100 [.sl 1 ((A4 s_ m_).2.code.map (V.int .u8)), .int .i64 (A4 s_ m_).2.at_, .int .u64 (A4 s_ m_).2.seed]))]) := by
  refine con_intro (out := fun r : C8 × Aj => ((.st [.int .i64 r.1.Airway, .int .i64 r.1.At, .int .i64 r.1.Start] : V), ([(0, some (.box 100 [.sl 1 (r.2.code.map (V.int .u8)), .int .i64 r.2.at_, .int .u64 r.2.seed]))] : List (Nat × Option O)))) (r := (A4 s_ m_)) Tryz.func91 rfl Tryz.ntmps91 rfl ?_
  have hN := (hp1.pick (k := 10)).num (k := (m_.Airways.length : Int))
  refine BV (t := 1) 1 rfl rfl fun hl => ?_
  have l1 := hl; clear hl; simp only [List.length_map] at l1
  refine Ae ?_
  refine Ad (BG (l := 200) .n rfl zv_135 rfl rfl <| Lex.nil) ?_
  refine Ae ?_
  refine Ad (Af .n (.t rfl) rfl <| AV (full := false) [(0, 0)] [] .n rfl .f en_22 (.cons (.t rfl) (.cons (.c rfl) .nil)) (.cons (.b (.mutp rfl)) (.cons (.b (.a (.same rfl))) .nil)) (AJ s_ 10 (by (try dsimp only); (with_reducible (first | apply Lim.mono | apply Lim.out | apply LimA.mono)); (repeat (with_reducible (first | assumption | apply Lim.among | apply Lim.pick | apply Lim.fire17 | apply Lim.mk))); omega)) ⟨rfl, trivial⟩ rfl rfl (fun h => Bool.noConfusion h) (fun h => Bool.noConfusion h) rfl <| AK .n (.c rfl) (.t rfl) rfl rfl <| Dw (us := [.int .i64 0, .int .i64 0, .int .i64 (IntKind.wrap .i64 (60 * (Aa s_ 10).1))]) .n (.cons (.t rfl) .nil) zv_135 pl_135 rfl rfl rfl <| BG (l := 201) .n rfl zv_135 rfl rfl <| AL [.int .i64 0, .int .i64 0, .int .i64 (IntKind.wrap .i64 (60 * (Aa s_ 10).1))] .n rfl (.t rfl) (.t rfl) rfl ts_135 rfl rfl <| Lex.nil) ?_
  refine Ae ?_
  refine Ad (Af .n (.t rfl) rfl <| AG .n (.t rfl) rfl <| AM .n (.t rfl) fo_26_1 rfl <| Az .n (.t rfl) rfl ic_24 rfl <| BD .n (.t rfl) rfl len_map ss_24 rfl <| Ag .n (.t rfl) rfl <| Lex.nil) ?_
  refine Ae ?_
  refine Ae ?_
  refine Ad (Af .n (.t rfl) rfl <| AK .n (.t rfl) (.c rfl) rfl rfl <| Lex.nil) ?_
  refine C7 _ _ rfl (fun v2 : (List Int) × Int × Int × Int × Int => LimA v2.1 v2.2.1 300006) (fun v2 => ⟨[(0, some (true, .op 0 0 0 0)), (4, some (true, .op 200 0 0 0)), (5, some (true, .op 201 0 0 0)), (6, some (true, .int .i64 (m_.Airways.length : Int)))], [(0, some (.box 100 [.sl 1 (v2.1.map (V.int .u8)), .int .i64 v2.2.1, .int .u64 v2.2.2.1])), (200, some (.box 135 [.int .i64 0, .int .i64 0, .int .i64 0])), (201, some (.box 135 [.int .i64 v2.2.2.2.1, .int .i64 v2.2.2.2.2, .int .i64 (IntKind.wrap .i64 (60 * (Aa s_ 10).1))]))]⟩) (fun v2 hv9 => ?_) (fun j3 hj4 => ?_)
  · have e10 := hv9
    refine Ae ?_
    refine Ae ?_
    refine Ad (Af .n (.t rfl) rfl <| AV (full := false) [(0, 0)] [] .n rfl .f en_22 (.cons (.t rfl) (.cons (.c rfl) .nil)) (.cons (.b (.mutp rfl)) (.cons (.b (.a (.same rfl))) .nil)) (AJ (Aj.mk v2.1 v2.2.1 v2.2.2.1) 20 (by (try dsimp only); (with_reducible (first | apply Lim.mono | apply Lim.out | apply LimA.mono)); (repeat (with_reducible (first | assumption | apply Lim.among | apply Lim.pick | apply Lim.fire17 | apply Lim.mk))); omega)) ⟨rfl, trivial⟩ rfl rfl (fun h => Bool.noConfusion h) (fun h => Bool.noConfusion h) rfl <| Lex.nil) ?_
    refine AC ?_
    refine Ae ?_
    refine Ad (AK .n (.t rfl) (.c rfl) rfl rfl <| Ag .n (.t rfl) rfl <| Lex.nil) ?_
    refine As (.t rfl) rfl (fun h6 => ?_) (fun h6 => ?_)
    · try simp only [tst] at h6
      refine Ad (Af .n (.t rfl) rfl <| Af .n (.t rfl) rfl <| AW ([(-1), (m_.Airways.length : Int), 24] : List Int) (f := V.int .i64) (l := 202) .n rfl rfl (.cons (.c rfl) (.cons (.t rfl) (.cons (.c rfl) .nil))) rfl si_27 zv_2 rfl rfl rfl <| AV (full := false) [(0, 0), (1, 202)] [] .n rfl .f en_24 (.cons (.t rfl) (.cons (.t rfl) .nil)) (.cons (.b (.mutp rfl)) (.cons (.b (.muts rfl)) .nil)) (A1 (Aa (Aj.mk v2.1 v2.2.1 v2.2.2.1) 20).2 ([(-1), (m_.Airways.length : Int), 24] : List Int) (by (try dsimp only); (with_reducible (first | apply Lim.mono | apply Lim.out | apply LimA.mono)); (repeat (with_reducible (first | assumption | apply Lim.among | apply Lim.pick | apply Lim.fire17 | apply Lim.mk))); omega) (by (simp only [lens] at * <;> omega))) ⟨rfl, rfl, trivial⟩ rfl rfl (fun h => Bool.noConfusion h) (fun h => Bool.noConfusion h) rfl <| AE .n (.t rfl) fo_135_0 rfl <| AL [.int .i64 (Ak (Aa (Aj.mk v2.1 v2.2.1 v2.2.2.1) 20).2 ([(-1), (m_.Airways.length : Int), 24] : List Int)).1, .int .i64 v2.2.2.2.2, .int .i64 (IntKind.wrap .i64 (60 * (Aa s_ 10).1))] .n rfl (.t rfl) (.t rfl) rfl ts_2 rfl rfl <| Lex.nil) ?_
      refine AS ?_
      refine Ae ?_
      refine Ad (Bb .n (.t rfl) rfl (.inr rfl) ag_135 (fun _ => rfl) rfl rfl <| AL [.int .i64 (Ak (Aa (Aj.mk v2.1 v2.2.1 v2.2.2.1) 20).2 ([(-1), (m_.Airways.length : Int), 24] : List Int)).1, .int .i64 v2.2.2.2.2, .int .i64 (IntKind.wrap .i64 (60 * (Aa s_ 10).1))] .n rfl (.t rfl) (.t rfl) rfl ts_135 rfl rfl <| Lex.nil) ?_
      exact Ay [] (.cons (.cN rfl rfl ag_135 rfl rfl) .nil) (by first | rfl | (simp only [put_len]; rfl)) ⟨rfl, trivial⟩ rfl
    · try simp only [tst] at h6
      refine Ae ?_
      refine Ad (AK .n (.t rfl) (.c rfl) rfl rfl <| Ag .n (.t rfl) rfl <| Lex.nil) ?_
      refine As (.t rfl) rfl (fun h7 => ?_) (fun h7 => ?_)
      · try simp only [tst] at h7
        refine Ad (Af .n (.t rfl) rfl <| AW ([(-1), 10000, 10001] : List Int) (f := V.int .i64) (l := 203) .n rfl rfl (.cons (.c rfl) (.cons (.c rfl) (.cons (.c rfl) .nil))) rfl si_27 zv_2 rfl rfl rfl <| AV (full := false) [(0, 0), (1, 203)] [] .n rfl .f en_24 (.cons (.t rfl) (.cons (.t rfl) .nil)) (.cons (.b (.mutp rfl)) (.cons (.b (.muts rfl)) .nil)) (A1 (Aa (Aj.mk v2.1 v2.2.1 v2.2.2.1) 20).2 ([(-1), 10000, 10001] : List Int) (by (try dsimp only); (with_reducible (first | apply Lim.mono | apply Lim.out | apply LimA.mono)); (repeat (with_reducible (first | assumption | apply Lim.among | apply Lim.pick | apply Lim.fire17 | apply Lim.mk))); omega) (by (simp only [lens] at * <;> omega))) ⟨rfl, rfl, trivial⟩ rfl rfl (fun h => Bool.noConfusion h) (fun h => Bool.noConfusion h) rfl <| AE .n (.t rfl) fo_135_1 rfl <| AL [.int .i64 v2.2.2.2.1, .int .i64 (Ak (Aa (Aj.mk v2.1 v2.2.1 v2.2.2.1) 20).2 ([(-1), 10000, 10001] : List Int)).1, .int .i64 (IntKind.wrap .i64 (60 * (Aa s_ 10).1))] .n rfl (.t rfl) (.t rfl) rfl ts_2 rfl rfl <| Lex.nil) ?_
        refine AS ?_
        refine Ae ?_
        refine Ad (Bb .n (.t rfl) rfl (.inr rfl) ag_135 (fun _ => rfl) rfl rfl <| AL [.int .i64 v2.2.2.2.1, .int .i64 (Ak (Aa (Aj.mk v2.1 v2.2.1 v2.2.2.1) 20).2 ([(-1), 10000, 10001] : List Int)).1, .int .i64 (IntKind.wrap .i64 (60 * (Aa s_ 10).1))] .n rfl (.t rfl) (.t rfl) rfl ts_135 rfl rfl <| Lex.nil) ?_
        exact Ay [] (.cons (.cN rfl rfl ag_135 rfl rfl) .nil) (by first | rfl | (simp only [put_len]; rfl)) ⟨rfl, trivial⟩ rfl
      · try simp only [tst] at h7
        refine Ae ?_
        refine Ad (AK .n (.t rfl) (.c rfl) rfl rfl <| Ag .n (.t rfl) rfl <| Lex.nil) ?_
        refine As (.t rfl) rfl (fun h8 => ?_) (fun h8 => ?_)
        · try simp only [tst] at h8
          refine Ad (Af .n (.t rfl) rfl <| AW ([(-1), 36000, 36001] : List Int) (f := V.int .i64) (l := 204) .n rfl rfl (.cons (.c rfl) (.cons (.c rfl) (.cons (.c rfl) .nil))) rfl si_27 zv_2 rfl rfl rfl <| AV (full := false) [(0, 0), (1, 204)] [] .n rfl .f en_24 (.cons (.t rfl) (.cons (.t rfl) .nil)) (.cons (.b (.mutp rfl)) (.cons (.b (.muts rfl)) .nil)) (A1 (Aa (Aj.mk v2.1 v2.2.1 v2.2.2.1) 20).2 ([(-1), 36000, 36001] : List Int) (by (try dsimp only); (with_reducible (first | apply Lim.mono | apply Lim.out | apply LimA.mono)); (repeat (with_reducible (first | assumption | apply Lim.among | apply Lim.pick | apply Lim.fire17 | apply Lim.mk))); omega) (by (simp only [lens] at * <;> omega))) ⟨rfl, rfl, trivial⟩ rfl rfl (fun h => Bool.noConfusion h) (fun h => Bool.noConfusion h) rfl <| AE .n (.t rfl) fo_135_2 rfl <| AL [.int .i64 v2.2.2.2.1, .int .i64 v2.2.2.2.2, .int .i64 (Ak (Aa (Aj.mk v2.1 v2.2.1 v2.2.2.1) 20).2 ([(-1), 36000, 36001] : List Int)).1] .n rfl (.t rfl) (.t rfl) rfl ts_2 rfl rfl <| Lex.nil) ?_
          refine AS ?_
          refine Ae ?_
          refine Ad (Bb .n (.t rfl) rfl (.inr rfl) ag_135 (fun _ => rfl) rfl rfl <| AL [.int .i64 v2.2.2.2.1, .int .i64 v2.2.2.2.2, .int .i64 (Ak (Aa (Aj.mk v2.1 v2.2.1 v2.2.2.1) 20).2 ([(-1), 36000, 36001] : List Int)).1] .n rfl (.t rfl) (.t rfl) rfl ts_135 rfl rfl <| Lex.nil) ?_
          exact Ay [] (.cons (.cN rfl rfl ag_135 rfl rfl) .nil) (by first | rfl | (simp only [put_len]; rfl)) ⟨rfl, trivial⟩ rfl
        · try simp only [tst] at h8
          refine Aw ?_
          refine AS ?_
          refine Ae ?_
          refine Ad (Bb .n (.t rfl) rfl (.inr rfl) ag_135 (fun _ => rfl) rfl rfl <| AL [.int .i64 v2.2.2.2.1, .int .i64 v2.2.2.2.2, .int .i64 (IntKind.wrap .i64 (60 * (Aa s_ 10).1))] .n rfl (.t rfl) (.t rfl) rfl ts_135 rfl rfl <| Lex.nil) ?_
          exact Ay [] (.cons (.cN rfl rfl ag_135 rfl rfl) .nil) (by first | rfl | (simp only [put_len]; rfl)) ⟨rfl, trivial⟩ rfl
  · refine As (.t rfl) rfl (fun h5 => ?_) (fun h5 => ?_)
    · try simp only [tst] at h5
      refine Ae ?_
      refine Ad (Af .n (.t rfl) rfl <| Af .n (.t rfl) rfl <| AV (full := false) [(0, 0)] [] .n rfl .f en_22 (.cons (.t rfl) (.cons (.t rfl) .nil)) (.cons (.b (.mutp rfl)) (.cons (.b (.a (.same rfl))) .nil)) (AJ (Aa s_ 10).2 (m_.Airways.length : Int) (by (try dsimp only); (with_reducible (first | apply Lim.mono | apply Lim.out | apply LimA.mono)); (repeat (with_reducible (first | assumption | apply Lim.among | apply Lim.pick | apply Lim.fire17 | apply Lim.mk))); omega)) ⟨rfl, trivial⟩ rfl rfl (fun h => Bool.noConfusion h) (fun h => Bool.noConfusion h) rfl <| AE .n (.t rfl) fo_135_0 rfl <| AL [.int .i64 (Aa (Aa s_ 10).2 (m_.Airways.length : Int)).1, .int .i64 0, .int .i64 (IntKind.wrap .i64 (60 * (Aa s_ 10).1))] .n rfl (.t rfl) (.t rfl) rfl ts_2 rfl rfl <| Lex.nil) ?_
      refine Bl fmo (Af .n (.t rfl) rfl <| Af .n (.t rfl) rfl <| AG .n (.t rfl) rfl <| AM .n (.t rfl) fo_26_1 rfl <| Az .n (.t rfl) rfl ic_24 rfl <| AE .n (.t rfl) fo_135_0 rfl <| AP .n (.t rfl) rfl (.inr rfl) (fun _ => rfl) rfl ic_2 rfl <| Bc .n (.t rfl) (.t rfl) sl_24 (fun _ => by omega) rfl <| AM .n (.t rfl) fo_112_3 rfl <| Az .n (.t rfl) rfl ic_2 rfl <| AR (full := false) .n .f en_59 (.cons (.c rfl) (.cons (.t rfl) .nil)) (.cons (.b (.a (.same rfl))) (.cons (.b (.a (.same rfl))) .nil)) (fun hg => Dj 1 (at' m_.Airways (Aa (Aa s_ 10).2 (m_.Airways.length : Int)).1).Length) rfl (fun h => Bool.noConfusion h) rfl <| AV (full := false) [(0, 0)] [] .n rfl .f en_22 (.cons (.t rfl) (.cons (.t rfl) .nil)) (.cons (.b (.mutp rfl)) (.cons (.b (.a (.same rfl))) .nil)) (AJ (Aa (Aa s_ 10).2 (m_.Airways.length : Int)).2 (AF 1 (at' m_.Airways (Aa (Aa s_ 10).2 (m_.Airways.length : Int)).1).Length) (by (try dsimp only); (with_reducible (first | apply Lim.mono | apply Lim.out | apply LimA.mono)); (repeat (with_reducible (first | assumption | apply Lim.among | apply Lim.pick | apply Lim.fire17 | apply Lim.mk))); omega)) ⟨rfl, trivial⟩ rfl rfl (fun h => Bool.noConfusion h) (fun h => Bool.noConfusion h) rfl <| AE .n (.t rfl) fo_135_1 rfl <| AL [.int .i64 (Aa (Aa s_ 10).2 (m_.Airways.length : Int)).1, .int .i64 (Aa (Aa (Aa s_ 10).2 (m_.Airways.length : Int)).2 (AF 1 (at' m_.Airways (Aa (Aa s_ 10).2 (m_.Airways.length : Int)).1).Length)).1, .int .i64 (IntKind.wrap .i64 (60 * (Aa s_ 10).1))] .n rfl (.t rfl) (.t rfl) rfl ts_2 rfl rfl <| Lex.nil) (by kernel_rfl) ?_
      exact AY hj4 ((Aa (Aa (Aa s_ 10).2 (m_.Airways.length : Int)).2 (AF 1 (at' m_.Airways (Aa (Aa s_ 10).2 (m_.Airways.length : Int)).1).Length)).2.code, (Aa (Aa (Aa s_ 10).2 (m_.Airways.length : Int)).2 (AF 1 (at' m_.Airways (Aa (Aa s_ 10).2 (m_.Airways.length : Int)).1).Length)).2.at_, (Aa (Aa (Aa s_ 10).2 (m_.Airways.length : Int)).2 (AF 1 (at' m_.Airways (Aa (Aa s_ 10).2 (m_.Airways.length : Int)).1).Length)).2.seed, (Aa (Aa s_ 10).2 (m_.Airways.length : Int)).1, (Aa (Aa (Aa s_ 10).2 (m_.Airways.length : Int)).2 (AF 1 (at' m_.Airways (Aa (Aa s_ 10).2 (m_.Airways.length : Int)).1).Length)).1) (by (try dsimp only); (with_reducible (first | apply Lim.mono | apply Lim.out | apply LimA.mono)); (repeat (with_reducible (first | assumption | apply Lim.among | apply Lim.pick | apply Lim.fire17 | apply Lim.mk))); omega) (sub_of [] ⟨rfl, rfl, rfl, rfl, trivial⟩ ⟨rfl, rfl, rfl, trivial⟩ rfl)
    · try simp only [tst] at h5
      refine Aw ?_
      exact AY hj4 ((Aa s_ 10).2.code, (Aa s_ 10).2.at_, (Aa s_ 10).2.seed, 0, 0) (by (try dsimp only); (with_reducible (first | apply Lim.mono | apply Lim.out | apply LimA.mono)); (repeat (with_reducible (first | assumption | apply Lim.among | apply Lim.pick | apply Lim.fire17 | apply Lim.mk))); omega) (sub_of [] ⟨rfl, rfl, rfl, rfl, trivial⟩ ⟨rfl, rfl, rfl, trivial⟩ rfl)

/-! ### spec_l17One -/
theorem c_spec_l17One (f : C8) : Con Tryz.prog 116 [.rp [.int .i64 f.Airway, .int .i64 f.At, .int .i64 f.Start]] [] (.bool (DB f)) ([]) := by
  refine con_intro (out := fun r : Bool => ((.bool r : V), ([] : List (Nat × Option O)))) (r := (DB f)) Tryz.func116 rfl Tryz.ntmps116 rfl ?_
  refine Ae ?_
  refine Ad (Ag .n (.c rfl) rfl <| Lex.nil) ?_
  refine Ae ?_
  refine Ad (Af .n (.t rfl) rfl <| AG .n (.t rfl) rfl <| AM .n (.t rfl) fo_135_0 rfl <| Az .n (.t rfl) rfl ic_2 rfl <| AR (full := false) .n .f en_72 (.cons (.t rfl) (.cons (.c rfl) (.cons (.c rfl) .nil))) (.cons (.b (.a (.same rfl))) (.cons (.b (.a (.same rfl))) (.cons (.b (.a (.same rfl))) .nil))) (fun hg => BJ f.Airway 0 23) rfl (fun h => Bool.noConfusion h) rfl <| Af .n (.t rfl) rfl <| Af (.t rfl rfl) (.t rfl) rfl <| AG (.t rfl rfl) (.u rfl id) rfl <| AM (.t rfl rfl) (.u rfl id) fo_135_1 rfl <| Az (.t rfl rfl) (.u rfl id) rfl ic_2 rfl <| AR (full := false) (.t rfl rfl) .f en_72 (.cons (.u rfl id) (.cons (.c rfl) (.cons (.c rfl) .nil))) (.cons (.b (.a (.same rfl))) (.cons (.b (.a (.same rfl))) (.cons (.b (.a (.same rfl))) .nil))) (fun hg => BJ f.At 0 10000) rfl (fun h => Bool.noConfusion h) rfl <| Cz .n (.t rfl) (.u rfl id) rfl <| Af .n (.t rfl) rfl <| Af (.t rfl rfl) (.t rfl) rfl <| AG (.t rfl rfl) (.u rfl id) rfl <| AM (.t rfl rfl) (.u rfl id) fo_135_2 rfl <| Az (.t rfl rfl) (.u rfl id) rfl ic_2 rfl <| AR (full := false) (.t rfl rfl) .f en_72 (.cons (.u rfl id) (.cons (.c rfl) (.cons (.c rfl) .nil))) (.cons (.b (.a (.same rfl))) (.cons (.b (.a (.same rfl))) (.cons (.b (.a (.same rfl))) .nil))) (fun hg => BJ f.Start 0 36000) rfl (fun h => Bool.noConfusion h) rfl <| Cz .n (.t rfl) (.u rfl id) rfl <| Ag .n (.t rfl) rfl <| Lex.nil) ?_
  exact Ay [] (.cons (.t rfl rfl) .nil) rfl trivial rfl

/-! ### spec_l17Fire -/
theorem c_spec_l17Fire (m_ : AH) (f : C8) : Con Tryz.prog 104 [.rp [.int .i64 m_.Junctions, .sl 7 (m_.Airways.map Au.v)], .rp [.int .i64 f.Airway, .int .i64 f.At, .int .i64 f.Start]] [] (.bool (C2 m_ f)) ([]) := by
  refine con_intro (out := fun r : Bool => ((.bool r : V), ([] : List (Nat × Option O)))) (r := (C2 m_ f)) Tryz.func104 rfl Tryz.ntmps104 rfl ?_
  refine BV (t := 0) 1 rfl rfl fun hl => ?_
  have l1 := hl; clear hl; simp only [List.length_map] at l1
  refine Ae ?_
  refine Ad (Ag .n (.c rfl) rfl <| Lex.nil) ?_
  refine Ae ?_
  refine Bl fmo (Af .n (.t rfl) rfl <| AR (full := false) .n .f en_116 (.cons (.t rfl) .nil) (.cons (.b (.a (.same rfl))) .nil) (fun hg => c_spec_l17One f) rfl (fun h => Bool.noConfusion h) rfl <| Af .n (.t rfl) rfl <| Af (.t rfl rfl) (.t rfl) rfl <| AG (.t rfl rfl) (.u rfl id) rfl <| AM (.t rfl rfl) (.u rfl id) fo_135_0 rfl <| Az (.t rfl rfl) (.u rfl id) rfl ic_2 rfl <| Af (.t rfl rfl) (.t rfl) rfl <| AG (.t rfl rfl) (.u rfl id) rfl <| AM (.t rfl rfl) (.u rfl id) fo_26_1 rfl <| Az (.t rfl rfl) (.u rfl id) rfl ic_24 rfl <| BD (.t rfl rfl) (.u rfl id) rfl len_map ss_24 rfl <| AK (.t rfl rfl) (.u rfl id) (.u rfl id) rfl rfl <| Cz .n (.t rfl) (.u rfl id) rfl <| Af .n (.t rfl) rfl <| Af (.t rfl rfl) (.t rfl) rfl <| AG (.t rfl rfl) (.u rfl id) rfl <| AM (.t rfl rfl) (.u rfl id) fo_135_1 rfl <| Az (.t rfl rfl) (.u rfl id) rfl ic_2 rfl <| Af (.t rfl rfl) (.t rfl) rfl <| AG (.t rfl rfl) (.u rfl id) rfl <| AM (.t rfl rfl) (.u rfl id) fo_26_1 rfl <| Az (.t rfl rfl) (.u rfl id) rfl ic_24 rfl <| Af (.t rfl rfl) (.t rfl) rfl <| AG (.t rfl rfl) (.u rfl id) rfl <| AM (.t rfl rfl) (.u rfl id) fo_135_0 rfl <| Az (.t rfl rfl) (.u rfl id) rfl ic_2 rfl <| Bc (.t rfl rfl) (.u rfl id) (.u rfl id) sl_24 (fun hg => by simp only [tst] at hg; ((simp only [DB, A0, Bool.and_eq_true, decide_eq_true_eq] at hg; omega))) rfl <| AM (.t rfl rfl) (.u rfl id) fo_112_3 rfl <| Az (.t rfl rfl) (.u rfl id) rfl ic_2 rfl <| AK (.t rfl rfl) (.u rfl id) (.u rfl id) rfl rfl <| Cz .n (.t rfl) (.u rfl id) rfl <| Ag .n (.t rfl) rfl <| Lex.nil) (by kernel_rfl) ?_
  exact Ay [] (.cons (.t rfl rfl) .nil) rfl trivial rfl

/-! ### spec_l03Flow -/
theorem c_spec_l03Flow (q : Int) : Con Tryz.prog 117 [.int .i64 q] [] (.bool (Dn q)) ([]) := by
  refine con_intro (out := fun r : Bool => ((.bool r : V), ([] : List (Nat × Option O)))) (r := (Dn q)) Tryz.func117 rfl Tryz.ntmps117 rfl ?_
  refine Ae ?_
  refine Ad (Ag .n (.c rfl) rfl <| Lex.nil) ?_
  refine Ae ?_
  refine Ad (Af .n (.t rfl) rfl <| AR (full := false) .n .f en_72 (.cons (.t rfl) (.cons (.c rfl) (.cons (.c rfl) .nil))) (.cons (.b (.a (.same rfl))) (.cons (.b (.a (.same rfl))) (.cons (.b (.a (.same rfl))) .nil))) (fun hg => BJ q (-100000) 100000) rfl (fun h => Bool.noConfusion h) rfl <| Ag .n (.t rfl) rfl <| Lex.nil) ?_
  exact Ay [] (.cons (.t rfl rfl) .nil) rfl trivial rfl

/-! ### spec_l07Flows -/
theorem c_spec_l07Flows (m_ : AH) (flows : List Int) : Con Tryz.prog 105 [.rp [.int .i64 m_.Junctions, .sl 7 (m_.Airways.map Au.v)], .sl 1 (flows.map (V.int .i64))] [] (.bool (Db m_ flows)) ([]) := by
  refine con_intro (out := fun r : Bool => ((.bool r : V), ([] : List (Nat × Option O)))) (r := (Db m_ flows)) Tryz.func105 rfl Tryz.ntmps105 rfl ?_
  refine BV (t := 0) 1 rfl rfl fun hl => ?_
  have l1 := hl; clear hl; simp only [List.length_map] at l1
  refine Bo (t := 1) rfl fun hl => ?_
  have l2 := hl; clear hl; simp only [List.length_map] at l2
  refine Ae ?_
  refine Ad (Ag .n (.c rfl) rfl <| Lex.nil) ?_
  refine Ae ?_
  refine Ae ?_
  refine Ad (Ag .n (.c rfl) rfl <| Lex.nil) ?_
  refine AC ?_
  refine Bp (m_spec_l07Flows_b1 m_ flows) _ _ _ rfl (fun (x1 : Int) => 0 ≤ x1 ∧ x1 ≤ (flows.length : Int)) (fun x1 => 0 ≤ x1 ∧ x1 ≤ (flows.length : Int) ∧ (flows.length : Int) ≤ x1) (fun x1 => ((flows.length : Int) - x1 : Int).toNat) (fun x1 => ⟨[(0, some (true, .rp [.int .i64 m_.Junctions, .sl 7 (m_.Airways.map Au.v)])), (1, some (true, .sl 1 (flows.map (V.int .i64)))), (5, some (true, .int .i64 x1))], []⟩) (fun x1 => ⟨[(0, some (true, .rp [.int .i64 m_.Junctions, .sl 7 (m_.Airways.map Au.v)])), (1, some (true, .sl 1 (flows.map (V.int .i64))))], []⟩) ⟨by omega, by omega⟩ (by omega) (sub_of [] ⟨rfl, rfl, rfl, trivial⟩ trivial rfl) ?_ ?_
  · intro x1 i7
    obtain ⟨e8, e9, e10⟩ := i7
    try dsimp only at *
    refine Ae ?_
    refine Ad (Af .n (.t rfl) rfl <| BD .n (.t rfl) rfl len_map ss_27 rfl <| Af .n (.t rfl) rfl <| AG .n (.t rfl) rfl <| AM .n (.t rfl) fo_26_1 rfl <| Az .n (.t rfl) rfl ic_24 rfl <| BD .n (.t rfl) rfl len_map ss_24 rfl <| AK .n (.t rfl) (.t rfl) rfl rfl <| Ag .n (.t rfl) rfl <| Lex.nil) ?_
    exact Ay [] (.cons (.t rfl rfl) .nil) rfl trivial rfl
  · intro rec1 k1 hk3 x1 i4
    obtain ⟨e11, e12⟩ := i4
    try dsimp only at *
    refine Ae ?_
    refine Ae ?_
    refine Ad (Af .n (.t rfl) rfl <| Af .n (.t rfl) rfl <| BD .n (.t rfl) rfl len_map ss_27 rfl <| AK .n (.t rfl) (.t rfl) rfl rfl <| Lex.nil) ?_
    refine As (.t rfl) rfl (fun h5 => ?_) (fun h5 => ?_)
    · try simp only [tst] at h5
      refine Aw ?_
      refine Ae ?_
      refine AC ?_
      refine Ae ?_
      refine Ad (Af .n (.t rfl) rfl <| Af .n (.t rfl) rfl <| Bc .n (.t rfl) (.t rfl) sl_27 (fun _ => by omega) rfl <| Az .n (.t rfl) rfl ic_2 rfl <| AR (full := false) .n .f en_117 (.cons (.t rfl) .nil) (.cons (.b (.a (.same rfl))) .nil) (fun hg => c_spec_l03Flow (at' flows x1)) rfl (fun h => Bool.noConfusion h) rfl <| Cr .n (.t rfl) rfl <| Lex.nil) ?_
      refine As (.t rfl) rfl (fun h6 => ?_) (fun h6 => ?_)
      · try simp only [tst] at h6
        refine Ae ?_
        refine Ad (Ag .n (.c rfl) rfl <| Lex.nil) ?_
        exact Ay [] (.cons (.t rfl rfl) .nil) rfl trivial rfl
      · try simp only [tst] at h6
        refine Aw ?_
        refine AS ?_
        refine Ad (Af .n (.t rfl) rfl <| BQ .n (.t rfl) (.c rfl) (fun _ => by omega) rfl <| Ag .n (.t rfl) rfl <| Lex.nil) ?_
        exact A6 (x1 + 1) ⟨by omega, by omega⟩ (by omega) (sub_of [] ⟨rfl, rfl, rfl, trivial⟩ trivial rfl)
    · try simp only [tst] at h5
      refine Ba rfl ?_
      exact AY hk3 x1 ⟨by omega, by omega, by omega⟩ (sub_of [] ⟨rfl, rfl, trivial⟩ trivial rfl)

/-! ### spec_l17Ask -/
theorem c_spec_l17Ask (m_ : AH) (flows : List Int) (f : C8) : Con Tryz.prog 92 [.rp [.int .i64 m_.Junctions, .sl 7 (m_.Airways.map Au.v)], .sl 1 (flows.map (V.int .i64)), .rp [.int .i64 f.Airway, .int .i64 f.At, .int .i64 f.Start]] [] (.int .i64 (Ci m_ flows f)) ([]) := by
  refine con_intro (out := fun r : Int => ((.int .i64 r : V), ([] : List (Nat × Option O)))) (r := (Ci m_ flows f)) Tryz.func92 rfl Tryz.ntmps92 rfl ?_
  refine BV (t := 0) 1 rfl rfl fun hl => ?_
  have l1 := hl; clear hl; simp only [List.length_map] at l1
  refine Bo (t := 1) rfl fun hl => ?_
  have l2 := hl; clear hl; simp only [List.length_map] at l2
  refine Ae ?_
  refine Ad (Ag .n (.c rfl) rfl <| Lex.nil) ?_
  refine Ae ?_
  refine Ae ?_
  refine Ad (Af .n (.t rfl) rfl <| AR (full := false) .n .f en_50 (.cons (.t rfl) .nil) (.cons (.b (.a (.same rfl))) .nil) (fun hg => c_spec_l04Ok m_) rfl (fun h => Bool.noConfusion h) rfl <| Cr .n (.t rfl) rfl <| Af .n (.t rfl) rfl <| Af (.f rfl rfl) (.t rfl) rfl <| Af (.f rfl rfl) (.t rfl) rfl <| AR (full := false) (.f rfl rfl) .f en_104 (.cons (.u rfl id) (.cons (.u rfl id) .nil)) (.cons (.b (.a (.same rfl))) (.cons (.b (.a (.same rfl))) .nil)) (fun hg => c_spec_l17Fire m_ f) rfl (fun h => Bool.noConfusion h) rfl <| Cr (.f rfl rfl) (.u rfl id) rfl <| q_or .n (.t rfl) (.u rfl id) rfl <| Lex.nil) ?_
  refine As (.t rfl) rfl (fun h3 => ?_) (fun h3 => ?_)
  · try simp only [tst] at h3
    try have hf0h3 := l04Ok_imp h3
    try have hf1h3 := l04Ok_imp h3.1
    try have hf2h3 := l04Ok_imp h3.2
    try have hf3h3 := l04Ok_imp h3.1.1
    try have hf4h3 := l04Ok_imp h3.1.2
    try have hf5h3 := l04Ok_imp h3.2.1
    try have hf6h3 := l04Ok_imp h3.2.2
    refine Ae ?_
    refine Ad (Ag .n (.c rfl) rfl <| Lex.nil) ?_
    exact Ay [] (.cons (.t rfl rfl) .nil) rfl trivial rfl
  · try simp only [tst] at h3
    try have hf0h3 := l04Ok_imp h3
    try have hf1h3 := l04Ok_imp h3.1
    try have hf2h3 := l04Ok_imp h3.2
    try have hf3h3 := l04Ok_imp h3.1.1
    try have hf4h3 := l04Ok_imp h3.1.2
    try have hf5h3 := l04Ok_imp h3.2.1
    try have hf6h3 := l04Ok_imp h3.2.2
    refine Aw ?_
    refine Ae ?_
    refine Ae ?_
    refine Ad (Af .n (.t rfl) rfl <| Af .n (.t rfl) rfl <| AR (full := false) .n .f en_105 (.cons (.t rfl) (.cons (.t rfl) .nil)) (.cons (.b (.a (.same rfl))) (.cons (.b (.a (.same rfl))) .nil)) (fun hg => c_spec_l07Flows m_ flows) rfl (fun h => Bool.noConfusion h) rfl <| Cr .n (.t rfl) rfl <| Lex.nil) ?_
    refine As (.t rfl) rfl (fun h4 => ?_) (fun h4 => ?_)
    · try simp only [tst] at h4
      refine Ae ?_
      refine Ad (Ag .n (.c rfl) rfl <| Lex.nil) ?_
      exact Ay [] (.cons (.t rfl rfl) .nil) rfl trivial rfl
    · try simp only [tst] at h4
      refine Aw ?_
      refine Ae ?_
      refine Ad (Ag .n (.c rfl) rfl <| Lex.nil) ?_
      exact Ay [] (.cons (.t rfl rfl) .nil) rfl trivial rfl

/-! ### spec_l03Abs -/
theorem c_spec_l03Abs (n_ : Int) : Con Tryz.prog 118 [.int .i64 n_] [] (.int .i64 (CE n_)) ([]) := by
  refine con_intro (out := fun r : Int => ((.int .i64 r : V), ([] : List (Nat × Option O)))) (r := (CE n_)) Tryz.func118 rfl Tryz.ntmps118 rfl ?_
  refine Ae ?_
  refine Ad (Ag .n (.c rfl) rfl <| Lex.nil) ?_
  refine Ae ?_
  refine Ad (Af .n (.t rfl) rfl <| Af .n (.t rfl) rfl <| q_neg .n (.t rfl) rfl <| AR (full := false) .n .f en_59 (.cons (.t rfl) (.cons (.t rfl) .nil)) (.cons (.b (.a (.same rfl))) (.cons (.b (.a (.same rfl))) .nil)) (fun hg => Dj n_ (IntKind.wrap .i64 (0 - n_))) rfl (fun h => Bool.noConfusion h) rfl <| Ag .n (.t rfl) rfl <| Lex.nil) ?_
  exact Ay [] (.cons (.t rfl rfl) .nil) rfl trivial rfl

/-! ### spec_l17Leave -/
theorem c_spec_l17Leave (m_ : AH) (flows : List Int) (f : C8) (hp1 : MineIn m_) (hp2 : FlowsIn m_ flows) (hp3 : FireIn m_ f) (hp4 : ¬ at' flows f.Airway = 0) : Con Tryz.prog 106 [.rp [.int .i64 m_.Junctions, .sl 7 (m_.Airways.map Au.v)], .sl 1 (flows.map (V.int .i64)), .rp [.int .i64 f.Airway, .int .i64 f.At, .int .i64 f.Start]] [] (.int .i64 (BX m_ flows f)) ([]) := by
  refine con_intro (out := fun r : Int => ((.int .i64 r : V), ([] : List (Nat × Option O)))) (r := (BX m_ flows f)) Tryz.func106 rfl Tryz.ntmps106 rfl ?_
  have hFi := hp3.1
  have hAb := abs_rng (hp2.at hp3.1) hp4
  have hJ1 := hp1.1
  have hA1 := hp1.2.1
  have hF2 := hp2.1
  refine BV (t := 0) 1 rfl rfl fun hl => ?_
  have l1 := hl; clear hl; simp only [List.length_map] at l1
  refine Bo (t := 1) rfl fun hl => ?_
  have l2 := hl; clear hl; simp only [List.length_map] at l2
  refine Ae ?_
  refine Ad (Ag .n (.c rfl) rfl <| Lex.nil) ?_
  refine Ae ?_
  refine Bl fmo (Af .n (.t rfl) rfl <| AG .n (.t rfl) rfl <| AM .n (.t rfl) fo_26_1 rfl <| Az .n (.t rfl) rfl ic_24 rfl <| Af .n (.t rfl) rfl <| AG .n (.t rfl) rfl <| AM .n (.t rfl) fo_135_0 rfl <| Az .n (.t rfl) rfl ic_2 rfl <| Bc .n (.t rfl) (.t rfl) sl_24 (fun _ => by omega) rfl <| Ag .n (.t rfl) rfl <| Lex.nil) (by kernel_rfl) ?_
  refine Ae ?_
  refine Ad (Af .n (.t rfl) rfl <| AG .n (.t rfl) rfl <| AM .n (.t rfl) fo_135_1 rfl <| Az .n (.t rfl) rfl ic_2 rfl <| Ag .n (.t rfl) rfl <| Lex.nil) ?_
  refine Ae ?_
  refine Ae ?_
  refine Ad (Af .n (.t rfl) rfl <| Af .n (.t rfl) rfl <| AG .n (.t rfl) rfl <| AM .n (.t rfl) fo_135_0 rfl <| Az .n (.t rfl) rfl ic_2 rfl <| Bc .n (.t rfl) (.t rfl) sl_27 (fun _ => by omega) rfl <| Az .n (.t rfl) rfl ic_2 rfl <| AK .n (.t rfl) (.c rfl) rfl rfl <| Lex.nil) ?_
  refine C7 _ _ rfl (fun v3 : Int => True) (fun v3 => ⟨[(1, some (true, .sl 1 (flows.map (V.int .i64)))), (2, some (true, .rp [.int .i64 f.Airway, .int .i64 f.At, .int .i64 f.Start])), (7, some (true, .rp [.str (at' m_.Airways f.Airway).Id, .int .i64 (at' m_.Airways f.Airway).From, .int .i64 (at' m_.Airways f.Airway).To, .int .i64 (at' m_.Airways f.Airway).Length, .int .i64 (at' m_.Airways f.Airway).Section, .int .i64 (at' m_.Airways f.Airway).Friction, .int .i64 (at' m_.Airways f.Airway).Shock])), (8, some (true, .int .i64 v3))], []⟩) (fun v3 _ => ?_) (fun j4 hj5 => ?_)
  · refine Ae ?_
    refine Ad (Af .n (.t rfl) rfl <| Af .n (.t rfl) rfl <| AG .n (.t rfl) rfl <| AM .n (.t rfl) fo_135_0 rfl <| Az .n (.t rfl) rfl ic_2 rfl <| Bc .n (.t rfl) (.t rfl) sl_27 (fun _ => by omega) rfl <| Az .n (.t rfl) rfl ic_2 rfl <| AR (full := false) .n .f en_118 (.cons (.t rfl) .nil) (.cons (.b (.a (.same rfl))) .nil) (fun hg => c_spec_l03Abs (at' flows f.Airway)) rfl (fun h => Bool.noConfusion h) rfl <| Ag .n (.t rfl) rfl <| Lex.nil) ?_
    refine Ae ?_
    refine Bl fmo (Af .n (.t rfl) rfl <| AG .n (.t rfl) rfl <| AM .n (.t rfl) fo_135_2 rfl <| Az .n (.t rfl) rfl ic_2 rfl <| Af .n (.t rfl) rfl <| Af .n (.t rfl) rfl <| AG .n (.t rfl) rfl <| AM .n (.t rfl) fo_112_4 rfl <| Az .n (.t rfl) rfl ic_2 rfl <| AK .n (.t rfl) (.t rfl) rfl rfl <| Af .n (.t rfl) rfl <| AK .n (.t rfl) (.t rfl) rfl rfl <| AK .n (.t rfl) (.c rfl) rfl rfl <| Af .n (.t rfl) rfl <| q_quo .n (.t rfl) (.t rfl) (fun hg => by ((rw [← abs_eq]; omega))) rfl <| AK .n (.t rfl) (.t rfl) rfl rfl <| Ag .n (.t rfl) rfl <| Lex.nil) (by kernel_rfl) ?_
    exact Ay [] (.cons (.t rfl rfl) .nil) rfl trivial rfl
  · refine As (.t rfl) rfl (fun h6 => ?_) (fun h6 => ?_)
    · try simp only [tst] at h6
      refine Bl fmo (Af .n (.t rfl) rfl <| AG .n (.t rfl) rfl <| AM .n (.t rfl) fo_112_3 rfl <| Az .n (.t rfl) rfl ic_2 rfl <| Af .n (.t rfl) rfl <| AG .n (.t rfl) rfl <| AM .n (.t rfl) fo_135_1 rfl <| Az .n (.t rfl) rfl ic_2 rfl <| AK .n (.t rfl) (.t rfl) rfl rfl <| Ag .n (.t rfl) rfl <| Lex.nil) (by kernel_rfl) ?_
      exact AY hj5 (IntKind.wrap .i64 ((at' m_.Airways f.Airway).Length - f.At)) trivial (sub_of [] ⟨rfl, rfl, rfl, rfl, trivial⟩ trivial rfl)
    · try simp only [tst] at h6
      refine Aw ?_
      exact AY hj5 f.At trivial (sub_of [] ⟨rfl, rfl, rfl, rfl, trivial⟩ trivial rfl)

/-! ### spec_l13Start -/
theorem c_spec_l13Start (a : Au) (flow : Int) : Con Tryz.prog 107 [.rp [.str a.Id, .int .i64 a.From, .int .i64 a.To, .int .i64 a.Length, .int .i64 a.Section, .int .i64 a.Friction, .int .i64 a.Shock], .int .i64 flow] [] (.int .i64 (Bj a flow)) ([]) := by
  refine con_intro (out := fun r : Int => ((.int .i64 r : V), ([] : List (Nat × Option O)))) (r := (Bj a flow)) Tryz.func107 rfl Tryz.ntmps107 rfl ?_
  refine Ae ?_
  refine Ad (Ag .n (.c rfl) rfl <| Lex.nil) ?_
  refine Ae ?_
  refine Ae ?_
  refine Ad (Af .n (.t rfl) rfl <| AK .n (.t rfl) (.c rfl) rfl rfl <| Lex.nil) ?_
  refine As (.t rfl) rfl (fun h1 => ?_) (fun h1 => ?_)
  · try simp only [tst] at h1
    refine Ae ?_
    refine Ad (Af .n (.t rfl) rfl <| AG .n (.t rfl) rfl <| AM .n (.t rfl) fo_112_1 rfl <| Az .n (.t rfl) rfl ic_2 rfl <| Ag .n (.t rfl) rfl <| Lex.nil) ?_
    exact Ay [] (.cons (.t rfl rfl) .nil) rfl trivial rfl
  · try simp only [tst] at h1
    refine Aw ?_
    refine Ae ?_
    refine Ad (Af .n (.t rfl) rfl <| AG .n (.t rfl) rfl <| AM .n (.t rfl) fo_112_2 rfl <| Az .n (.t rfl) rfl ic_2 rfl <| Ag .n (.t rfl) rfl <| Lex.nil) ?_
    exact Ay [] (.cons (.t rfl rfl) .nil) rfl trivial rfl

/-! ### spec_l03Time -/
theorem c_spec_l03Time (a : Au) (flow : Int) (hp1 : -100000 ≤ flow ∧ flow ≤ 100000) (hp2 : ¬ flow = 0) : Con Tryz.prog 108 [.rp [.str a.Id, .int .i64 a.From, .int .i64 a.To, .int .i64 a.Length, .int .i64 a.Section, .int .i64 a.Friction, .int .i64 a.Shock], .int .i64 flow] [] (.int .i64 (Cv a flow)) ([]) := by
  refine con_intro (out := fun r : Int => ((.int .i64 r : V), ([] : List (Nat × Option O)))) (r := (Cv a flow)) Tryz.func108 rfl Tryz.ntmps108 rfl ?_
  have hAb := abs_rng hp1 hp2
  refine Ae ?_
  refine Ad (Ag .n (.c rfl) rfl <| Lex.nil) ?_
  refine Ae ?_
  refine Ad (Af .n (.t rfl) rfl <| AR (full := false) .n .f en_118 (.cons (.t rfl) .nil) (.cons (.b (.a (.same rfl))) .nil) (fun hg => c_spec_l03Abs flow) rfl (fun h => Bool.noConfusion h) rfl <| Ag .n (.t rfl) rfl <| Lex.nil) ?_
  refine Ae ?_
  refine Bl fmo (Af .n (.t rfl) rfl <| AG .n (.t rfl) rfl <| AM .n (.t rfl) fo_112_3 rfl <| Az .n (.t rfl) rfl ic_2 rfl <| Af .n (.t rfl) rfl <| AG .n (.t rfl) rfl <| AM .n (.t rfl) fo_112_4 rfl <| Az .n (.t rfl) rfl ic_2 rfl <| AK .n (.t rfl) (.t rfl) rfl rfl <| Af .n (.t rfl) rfl <| AK .n (.t rfl) (.t rfl) rfl rfl <| AK .n (.t rfl) (.c rfl) rfl rfl <| Af .n (.t rfl) rfl <| q_quo .n (.t rfl) (.t rfl) (fun hg => by ((rw [← abs_eq]; omega))) rfl <| Ag .n (.t rfl) rfl <| Lex.nil) (by kernel_rfl) ?_
  exact Ay [] (.cons (.t rfl rfl) .nil) rfl trivial rfl

/-! ### spec_l17Arrival -/
set_option maxHeartbeats 4000000 in
theorem c_spec_l17Arrival (m_ : AH) (flows : List Int) (f : C8) (hp1 : MineIn m_) (hp2 : FlowsIn m_ flows) (hp3 : FireIn m_ f) : Con Tryz.prog 93 [.rp [.int .i64 m_.Junctions, .sl 7 (m_.Airways.map Au.v)], .sl 1 (flows.map (V.int .i64)), .rp [.int .i64 f.Airway, .int .i64 f.At, .int .i64 f.Start]] [] (.os 100 (BR m_ flows f).length) ([(100, some (.row 2 1 ((BR m_ flows f).map (V.int .i64))))]) := by
  refine con_intro (out := fun r : (List Int) => ((.os 100 r.length : V), ([(100, some (.row 2 1 (r.map (V.int .i64))))] : List (Nat × Option O)))) (r := (BR m_ flows f)) Tryz.func93 rfl Tryz.ntmps93 rfl ?_
  have hFi := hp3.1
  have hJ1 := hp1.1
  have hA1 := hp1.2.1
  have hF2 := hp2.1
  refine BV (t := 0) 1 rfl rfl fun hl => ?_
  have l1 := hl; clear hl; simp only [List.length_map] at l1
  refine Bo (t := 1) rfl fun hl => ?_
  have l2 := hl; clear hl; simp only [List.length_map] at l2
  refine Ae ?_
  refine Ad (Ag .n (.c rfl) rfl <| Lex.nil) ?_
  refine Ae ?_
  refine Ad (AW K_6 (f := V.int .i64) (l := 200) .n rfl rfl .nil rfl si_27 zv_2 rfl rfl rfl <| Ag .n (.t rfl) rfl <| Lex.nil) ?_
  refine Ae ?_
  refine Ae ?_
  refine Ad (Ag .n (.c rfl) rfl <| Lex.nil) ?_
  refine AC ?_
  refine Bp (Ct m_ flows f) _ _ _ rfl (fun (x1 : (List Int) × Int) => 0 ≤ x1.2 ∧ x1.2 ≤ m_.Junctions ∧ (x1.1.length : Int) + 0 ≤ x1.2 + (K_6.length : Int) ∧ (x1.1.length : Int) = x1.2) (fun x1 => 0 ≤ x1.2 ∧ x1.2 ≤ m_.Junctions ∧ (x1.1.length : Int) + 0 ≤ x1.2 + (K_6.length : Int) ∧ (x1.1.length : Int) = x1.2 ∧ m_.Junctions ≤ x1.2) (fun x1 => (m_.Junctions - x1.2 : Int).toNat) (fun x1 => ⟨[(0, some (true, .rp [.int .i64 m_.Junctions, .sl 7 (m_.Airways.map Au.v)])), (1, some (true, .sl 1 (flows.map (V.int .i64)))), (2, some (true, .rp [.int .i64 f.Airway, .int .i64 f.At, .int .i64 f.Start])), (7, some (true, .os 200 x1.1.length)), (8, some (true, .int .i64 x1.2))], [(200, some (.row 2 1 (x1.1.map (V.int .i64))))]⟩) (fun x1 => ⟨[(0, some (true, .rp [.int .i64 m_.Junctions, .sl 7 (m_.Airways.map Au.v)])), (1, some (true, .sl 1 (flows.map (V.int .i64)))), (2, some (true, .rp [.int .i64 f.Airway, .int .i64 f.At, .int .i64 f.Start])), (7, some (true, .os 200 x1.1.length))], [(200, some (.row 2 1 (x1.1.map (V.int .i64))))]⟩) ⟨by omega, by omega, by (simp only [lens] at * <;> omega), by (simp only [lens] at * <;> omega)⟩ (by omega) (sub_of [] ⟨rfl, rfl, rfl, rfl, rfl, trivial⟩ ⟨rfl, trivial⟩ rfl) ?_ ?_
  · intro x1 i6
    obtain ⟨e33, e34, e35, e36, e37⟩ := i6
    try dsimp only at *
    refine Ae ?_
    refine Ae ?_
    refine Ad (Af .n (.t rfl) rfl <| Af .n (.t rfl) rfl <| AG .n (.t rfl) rfl <| AM .n (.t rfl) fo_135_0 rfl <| Az .n (.t rfl) rfl ic_2 rfl <| Bc .n (.t rfl) (.t rfl) sl_27 (fun _ => by omega) rfl <| Az .n (.t rfl) rfl ic_2 rfl <| AK .n (.t rfl) (.c rfl) rfl rfl <| Lex.nil) ?_
    refine As (.t rfl) rfl (fun h7 => ?_) (fun h7 => ?_)
    · try simp only [tst] at h7
      refine Ae ?_
      refine Ad (Af .n (.t rfl) rfl <| Ag .n (.t rfl) rfl <| Lex.nil) ?_
      exact Ay [(100, 200)] (.cons (.t rfl rfl) .nil) (by first | rfl | (simp only [put_len]; rfl)) ⟨rfl, trivial⟩ rfl
    · try simp only [tst] at h7
      refine Aw ?_
      refine Ae ?_
      refine Bl fmo (Af .n (.t rfl) rfl <| Af .n (.t rfl) rfl <| AG .n (.t rfl) rfl <| AM .n (.t rfl) fo_26_1 rfl <| Az .n (.t rfl) rfl ic_24 rfl <| Af .n (.t rfl) rfl <| AG .n (.t rfl) rfl <| AM .n (.t rfl) fo_135_0 rfl <| Az .n (.t rfl) rfl ic_2 rfl <| Bc .n (.t rfl) (.t rfl) sl_24 (fun _ => by omega) rfl <| Af .n (.t rfl) rfl <| Af .n (.t rfl) rfl <| AG .n (.t rfl) rfl <| AM .n (.t rfl) fo_135_0 rfl <| Az .n (.t rfl) rfl ic_2 rfl <| Bc .n (.t rfl) (.t rfl) sl_27 (fun _ => by omega) rfl <| Az .n (.t rfl) rfl ic_2 rfl <| q_neg .n (.t rfl) rfl <| AR (full := false) .n .f en_107 (.cons (.t rfl) (.cons (.t rfl) .nil)) (.cons (.b (.a (.same rfl))) (.cons (.b (.a (.same rfl))) .nil)) (fun hg => c_spec_l13Start (at' m_.Airways f.Airway) (IntKind.wrap .i64 (0 - (at' flows f.Airway)))) rfl (fun h => Bool.noConfusion h) rfl <| Af .n (.t rfl) rfl <| Af .n (.t rfl) rfl <| Af .n (.t rfl) rfl <| AR (full := false) .n .f en_106 (.cons (.t rfl) (.cons (.t rfl) (.cons (.t rfl) .nil))) (.cons (.b (.a (.same rfl))) (.cons (.b (.a (.same rfl))) (.cons (.b (.a (.same rfl))) .nil))) (fun hg => c_spec_l17Leave m_ flows f (by omega) (by omega) (by omega) (by omega)) rfl (fun h => Bool.noConfusion h) rfl <| AX .n (.t rfl) (.t rfl) sl_27 (fun _ => by ((have hw0 := start_in (IntKind.wrap .i64 (0 - at' flows f.Airway)) (hp1.at (i := f.Airway) (by omega)); first | omega | (simp only [lens] at * <;> omega)))) rfl <| B0 (BX m_ flows f) .n rfl (.t rfl) (.t rfl) rfl ts_2 (by ((have hw0 := start_in (IntKind.wrap .i64 (0 - at' flows f.Airway)) (hp1.at (i := f.Airway) (by omega)); first | omega | (simp only [lens] at * <;> omega)))) rfl rfl <| Lex.nil) (by kernel_rfl) ?_
      refine Ae ?_
      refine Ae ?_
      refine Ad (Ag .n (.c rfl) rfl <| Lex.nil) ?_
      refine AC ?_
      refine Bp (Ca m_ flows f x1) _ _ _ rfl (fun (x2 : (List Int) × Int) => 0 ≤ x2.2 ∧ x2.2 ≤ m_.Junctions ∧ (x2.1.length : Int) = m_.Junctions) (fun x2 => 0 ≤ x2.2 ∧ x2.2 ≤ m_.Junctions ∧ (x2.1.length : Int) = m_.Junctions ∧ m_.Junctions ≤ x2.2) (fun x2 => (m_.Junctions - x2.2 : Int).toNat) (fun x2 => ⟨[(0, some (true, .rp [.int .i64 m_.Junctions, .sl 7 (m_.Airways.map Au.v)])), (1, some (true, .sl 1 (flows.map (V.int .i64)))), (7, some (true, .os 200 x2.1.length)), (9, some (true, .int .i64 x2.2))], [(200, some (.row 2 1 (x2.1.map (V.int .i64))))]⟩) (fun x2 => ⟨[(7, some (true, .os 200 x2.1.length))], [(200, some (.row 2 1 (x2.1.map (V.int .i64))))]⟩) ⟨by omega, by omega, by (simp only [lens] at * <;> omega)⟩ (by omega) (sub_of [] ⟨rfl, rfl, os_len rfl (by first | (simp only [put_len]; done) | (first | omega | assumption | (simp only [lens] at * <;> omega) | (((have hw0 := start_in (at' flows f.Airway) (hp1.at (i := f.Airway) (by omega)); first | omega | (simp only [lens] at * <;> omega))); done) | (((have hw0 := start_in (IntKind.wrap .i64 (0 - at' flows f.Airway)) (hp1.at (i := f.Airway) (by omega)); first | omega | (simp only [lens] at * <;> omega))); done) | (((have hw0 := start_in (at' flows x3.1) (hp1.at (i := x3.1) (by omega)); first | omega | (simp only [lens] at * <;> omega))); done) | (((have hw0 := start_in (IntKind.wrap .i64 (0 - at' flows x3.1)) (hp1.at (i := x3.1) (by omega)); first | omega | (simp only [lens] at * <;> omega))); done) | ((exact hp2.at (by omega)); done))), rfl, trivial⟩ ⟨rfl, trivial⟩ rfl) ?_ ?_
      · intro x2 i25
        obtain ⟨e26, e27, e28, e29⟩ := i25
        try dsimp only at *
        refine Ae ?_
        refine Ad (Af .n (.t rfl) rfl <| Ag .n (.t rfl) rfl <| Lex.nil) ?_
        exact Ay [(100, 200)] (.cons (.t rfl rfl) .nil) (by first | rfl | (simp only [put_len]; rfl)) ⟨rfl, trivial⟩ rfl
      · intro rec2 k2 hk8 x2 i9
        obtain ⟨e30, e31, e32⟩ := i9
        try dsimp only at *
        refine Ae ?_
        refine Ae ?_
        refine Ad (Af .n (.t rfl) rfl <| Af .n (.t rfl) rfl <| AG .n (.t rfl) rfl <| AM .n (.t rfl) fo_26_0 rfl <| Az .n (.t rfl) rfl ic_2 rfl <| AK .n (.t rfl) (.t rfl) rfl rfl <| Lex.nil) ?_
        refine As (.t rfl) rfl (fun h10 => ?_) (fun h10 => ?_)
        · try simp only [tst] at h10
          refine Aw ?_
          refine Ae ?_
          refine AC ?_
          refine Ae ?_
          refine Ad (Ag .n (.c rfl) rfl <| Lex.nil) ?_
          refine AC ?_
          refine Bp (Cs m_ flows f x1 rec2 k2 x2) _ _ _ rfl (fun (x3 : Int × (List Int)) => 0 ≤ x3.1 ∧ x3.1 ≤ (flows.length : Int) ∧ x3.2.length = x2.1.length) (fun x3 => 0 ≤ x3.1 ∧ x3.1 ≤ (flows.length : Int) ∧ x3.2.length = x2.1.length ∧ (flows.length : Int) ≤ x3.1) (fun x3 => ((flows.length : Int) - x3.1 : Int).toNat) (fun x3 => ⟨[(0, some (true, .rp [.int .i64 m_.Junctions, .sl 7 (m_.Airways.map Au.v)])), (1, some (true, .sl 1 (flows.map (V.int .i64)))), (7, some (true, .os 200 x3.2.length)), (9, some (true, .int .i64 x2.2)), (10, some (true, .int .i64 x3.1))], [(200, some (.row 2 1 (x3.2.map (V.int .i64))))]⟩) (fun x3 => ⟨[(0, some (true, .rp [.int .i64 m_.Junctions, .sl 7 (m_.Airways.map Au.v)])), (1, some (true, .sl 1 (flows.map (V.int .i64)))), (7, some (true, .os 200 x3.2.length)), (9, some (true, .int .i64 x2.2))], [(200, some (.row 2 1 (x3.2.map (V.int .i64))))]⟩) ⟨by omega, by omega, by (simp only [lens] at * <;> omega)⟩ (by omega) (sub_of [] ⟨rfl, rfl, rfl, rfl, rfl, trivial⟩ ⟨rfl, trivial⟩ rfl) ?_ ?_
          · intro x3 i17
            obtain ⟨e18, e19, e20, e21⟩ := i17
            try dsimp only at *
            refine AS ?_
            refine Ad (Af .n (.t rfl) rfl <| BQ .n (.t rfl) (.c rfl) (fun _ => by omega) rfl <| Ag .n (.t rfl) rfl <| Lex.nil) ?_
            exact A6 (x3.2, x2.2 + 1) ⟨by omega, by omega, by (simp only [lens] at * <;> omega)⟩ (by omega) (sub_of [] ⟨rfl, rfl, rfl, rfl, trivial⟩ ⟨rfl, trivial⟩ rfl)
          · intro rec3 k3 hk11 x3 i12
            obtain ⟨e22, e23, e24⟩ := i12
            try dsimp only at *
            refine Ae ?_
            refine Ae ?_
            refine Ad (Af .n (.t rfl) rfl <| Af .n (.t rfl) rfl <| BD .n (.t rfl) rfl len_map ss_27 rfl <| AK .n (.t rfl) (.t rfl) rfl rfl <| Lex.nil) ?_
            refine As (.t rfl) rfl (fun h13 => ?_) (fun h13 => ?_)
            · try simp only [tst] at h13
              refine Aw ?_
              refine Ae ?_
              refine AC ?_
              refine Ae ?_
              refine Ae ?_
              refine Ad (Af .n (.t rfl) rfl <| Af .n (.t rfl) rfl <| Bc .n (.t rfl) (.t rfl) sl_27 (fun _ => by omega) rfl <| Az .n (.t rfl) rfl ic_2 rfl <| AK .n (.t rfl) (.c rfl) rfl rfl <| Lex.nil) ?_
              refine As (.t rfl) rfl (fun h14 => ?_) (fun h14 => ?_)
              · try simp only [tst] at h14
                refine Ba rfl ?_
                refine Ad (Af .n (.t rfl) rfl <| BQ .n (.t rfl) (.c rfl) (fun _ => by omega) rfl <| Ag .n (.t rfl) rfl <| Lex.nil) ?_
                exact A6 (x3.1 + 1, x3.2) ⟨by omega, by omega, by omega⟩ (by omega) (sub_of [] ⟨rfl, rfl, rfl, rfl, rfl, trivial⟩ ⟨rfl, trivial⟩ rfl)
              · try simp only [tst] at h14
                refine Aw ?_
                refine Ae ?_
                refine Ad (Af .n (.t rfl) rfl <| AG .n (.t rfl) rfl <| AM .n (.t rfl) fo_26_1 rfl <| Az .n (.t rfl) rfl ic_24 rfl <| Af .n (.t rfl) rfl <| Bc .n (.t rfl) (.t rfl) sl_24 (fun _ => by omega) rfl <| Ag .n (.t rfl) rfl <| Lex.nil) ?_
                refine Ae ?_
                refine Ad (Af .n (.t rfl) rfl <| Af .n (.t rfl) rfl <| Af .n (.t rfl) rfl <| Bc .n (.t rfl) (.t rfl) sl_27 (fun _ => by omega) rfl <| Az .n (.t rfl) rfl ic_2 rfl <| AR (full := false) .n .f en_107 (.cons (.t rfl) (.cons (.t rfl) .nil)) (.cons (.b (.a (.same rfl))) (.cons (.b (.a (.same rfl))) .nil)) (fun hg => c_spec_l13Start (at' m_.Airways x3.1) (at' flows x3.1)) rfl (fun h => Bool.noConfusion h) rfl <| Ag .n (.t rfl) rfl <| Lex.nil) ?_
                refine Ae ?_
                refine Ad (Af .n (.t rfl) rfl <| Af .n (.t rfl) rfl <| Af .n (.t rfl) rfl <| Bc .n (.t rfl) (.t rfl) sl_27 (fun _ => by omega) rfl <| Az .n (.t rfl) rfl ic_2 rfl <| q_neg .n (.t rfl) rfl <| AR (full := false) .n .f en_107 (.cons (.t rfl) (.cons (.t rfl) .nil)) (.cons (.b (.a (.same rfl))) (.cons (.b (.a (.same rfl))) .nil)) (fun hg => c_spec_l13Start (at' m_.Airways x3.1) (IntKind.wrap .i64 (0 - (at' flows x3.1)))) rfl (fun h => Bool.noConfusion h) rfl <| Ag .n (.t rfl) rfl <| Lex.nil) ?_
                refine Ae ?_
                refine Ae ?_
                refine Ad (Af .n (.t rfl) rfl <| Af .n (.t rfl) rfl <| AX .n (.t rfl) (.t rfl) sl_27 (fun _ => by ((have hw0 := start_in (at' flows x3.1) (hp1.at (i := x3.1) (by omega)); first | omega | (simp only [lens] at * <;> omega)))) rfl <| A3 .n (.t rfl) rfl (fun _ => by ((have hw0 := start_in (at' flows x3.1) (hp1.at (i := x3.1) (by omega)); first | omega | (simp only [lens] at * <;> omega)))) rfl rfl rfl ic_2 rfl <| AK .n (.t rfl) (.c rfl) rfl rfl <| Lex.nil) ?_
                refine As (.t rfl) rfl (fun h15 => ?_) (fun h15 => ?_)
                · try simp only [tst] at h15
                  refine Ba rfl ?_
                  refine Ad (Af .n (.t rfl) rfl <| BQ .n (.t rfl) (.c rfl) (fun _ => by omega) rfl <| Ag .n (.t rfl) rfl <| Lex.nil) ?_
                  exact A6 (x3.1 + 1, x3.2) ⟨by omega, by omega, by omega⟩ (by omega) (sub_of [] ⟨rfl, rfl, rfl, rfl, rfl, trivial⟩ ⟨rfl, trivial⟩ rfl)
                · try simp only [tst] at h15
                  refine Aw ?_
                  refine Ae ?_
                  refine Bl fmo (Af .n (.t rfl) rfl <| Af .n (.t rfl) rfl <| AX .n (.t rfl) (.t rfl) sl_27 (fun _ => by ((have hw0 := start_in (at' flows x3.1) (hp1.at (i := x3.1) (by omega)); first | omega | (simp only [lens] at * <;> omega)))) rfl <| A3 .n (.t rfl) rfl (fun _ => by ((have hw0 := start_in (at' flows x3.1) (hp1.at (i := x3.1) (by omega)); first | omega | (simp only [lens] at * <;> omega)))) rfl rfl rfl ic_2 rfl <| Af .n (.t rfl) rfl <| Af .n (.t rfl) rfl <| Af .n (.t rfl) rfl <| Bc .n (.t rfl) (.t rfl) sl_27 (fun _ => by omega) rfl <| Az .n (.t rfl) rfl ic_2 rfl <| AR (full := false) .n .f en_108 (.cons (.t rfl) (.cons (.t rfl) .nil)) (.cons (.b (.a (.same rfl))) (.cons (.b (.a (.same rfl))) .nil)) (fun hg => c_spec_l03Time (at' m_.Airways x3.1) (at' flows x3.1) (by (exact hp2.at (by omega))) (by omega)) rfl (fun h => Bool.noConfusion h) rfl <| AK .n (.t rfl) (.t rfl) rfl rfl <| Ag .n (.t rfl) rfl <| Lex.nil) (by kernel_rfl) ?_
                  refine Ae ?_
                  refine Ad (Af .n (.t rfl) rfl <| Af .n (.t rfl) rfl <| AX .n (.t rfl) (.t rfl) sl_27 (fun _ => by ((have hw0 := start_in (IntKind.wrap .i64 (0 - at' flows x3.1)) (hp1.at (i := x3.1) (by omega)); first | omega | (simp only [lens] at * <;> omega)))) rfl <| A3 .n (.t rfl) rfl (fun _ => by ((have hw0 := start_in (IntKind.wrap .i64 (0 - at' flows x3.1)) (hp1.at (i := x3.1) (by omega)); first | omega | (simp only [lens] at * <;> omega)))) rfl rfl rfl ic_2 rfl <| AK .n (.t rfl) (.c rfl) rfl rfl <| Af .n (.t rfl) rfl <| Af (.f rfl rfl) (.t rfl) rfl <| Af (.f rfl rfl) (.t rfl) rfl <| Af (.f rfl rfl) (.t rfl) rfl <| AX (.f rfl rfl) (.u rfl id) (.u rfl id) sl_27 (fun hg => by simp only [tst] at hg; ((have hw0 := start_in (IntKind.wrap .i64 (0 - at' flows x3.1)) (hp1.at (i := x3.1) (by omega)); first | omega | (simp only [lens] at * <;> omega)))) rfl <| A3 (.f rfl rfl) (.u rfl id) rfl (fun hg => by simp only [tst] at hg; ((have hw0 := start_in (IntKind.wrap .i64 (0 - at' flows x3.1)) (hp1.at (i := x3.1) (by omega)); first | omega | (simp only [lens] at * <;> omega)))) rfl rfl rfl ic_2 rfl <| AK (.f rfl rfl) (.u rfl id) (.u rfl id) rfl rfl <| q_or .n (.t rfl) (.u rfl id) rfl <| Lex.nil) ?_
                  refine As (.t rfl) rfl (fun h16 => ?_) (fun h16 => ?_)
                  · try simp only [tst] at h16
                    refine Ad (Af .n (.t rfl) rfl <| Af .n (.t rfl) rfl <| Af .n (.t rfl) rfl <| AX .n (.t rfl) (.t rfl) sl_27 (fun _ => by ((have hw0 := start_in (IntKind.wrap .i64 (0 - at' flows x3.1)) (hp1.at (i := x3.1) (by omega)); first | omega | (simp only [lens] at * <;> omega)))) rfl <| B0 (IntKind.wrap .i64 ((at' x3.2 (Bj (at' m_.Airways x3.1) (at' flows x3.1))) + (Cv (at' m_.Airways x3.1) (at' flows x3.1)))) .n rfl (.t rfl) (.t rfl) rfl ts_2 (by ((have hw0 := start_in (IntKind.wrap .i64 (0 - at' flows x3.1)) (hp1.at (i := x3.1) (by omega)); first | omega | (simp only [lens] at * <;> omega)))) rfl rfl <| Lex.nil) ?_
                    refine AS ?_
                    refine Ad (Af .n (.t rfl) rfl <| BQ .n (.t rfl) (.c rfl) (fun _ => by omega) rfl <| Ag .n (.t rfl) rfl <| Lex.nil) ?_
                    exact A6 (x3.1 + 1, put' x3.2 (Bj (at' m_.Airways x3.1) (IntKind.wrap .i64 (0 - (at' flows x3.1)))) (IntKind.wrap .i64 ((at' x3.2 (Bj (at' m_.Airways x3.1) (at' flows x3.1))) + (Cv (at' m_.Airways x3.1) (at' flows x3.1))))) ⟨by omega, by omega, by (simp only [lens] at * <;> omega)⟩ (by omega) (sub_of [] ⟨rfl, rfl, os_len rfl (by first | (simp only [put_len]; done) | (first | omega | assumption | (simp only [lens] at * <;> omega) | (((have hw0 := start_in (at' flows f.Airway) (hp1.at (i := f.Airway) (by omega)); first | omega | (simp only [lens] at * <;> omega))); done) | (((have hw0 := start_in (IntKind.wrap .i64 (0 - at' flows f.Airway)) (hp1.at (i := f.Airway) (by omega)); first | omega | (simp only [lens] at * <;> omega))); done) | (((have hw0 := start_in (at' flows x3.1) (hp1.at (i := x3.1) (by omega)); first | omega | (simp only [lens] at * <;> omega))); done) | (((have hw0 := start_in (IntKind.wrap .i64 (0 - at' flows x3.1)) (hp1.at (i := x3.1) (by omega)); first | omega | (simp only [lens] at * <;> omega))); done) | ((exact hp2.at (by omega)); done))), rfl, rfl, trivial⟩ ⟨rfl, trivial⟩ rfl)
                  · try simp only [tst] at h16
                    refine Aw ?_
                    refine AS ?_
                    refine Ad (Af .n (.t rfl) rfl <| BQ .n (.t rfl) (.c rfl) (fun _ => by omega) rfl <| Ag .n (.t rfl) rfl <| Lex.nil) ?_
                    exact A6 (x3.1 + 1, x3.2) ⟨by omega, by omega, by omega⟩ (by omega) (sub_of [] ⟨rfl, rfl, rfl, rfl, rfl, trivial⟩ ⟨rfl, trivial⟩ rfl)
            · try simp only [tst] at h13
              refine Ba rfl ?_
              exact AY hk11 (x3.1, x3.2) ⟨by omega, by omega, by omega, by omega⟩ (sub_of [] ⟨rfl, rfl, rfl, rfl, trivial⟩ ⟨rfl, trivial⟩ rfl)
        · try simp only [tst] at h10
          refine Ba rfl ?_
          exact AY hk8 (x2.1, x2.2) ⟨by omega, by omega, by omega, by omega⟩ (sub_of [] ⟨rfl, trivial⟩ ⟨rfl, trivial⟩ rfl)
  · intro rec1 k1 hk3 x1 i4
    obtain ⟨e38, e39, e40, e41⟩ := i4
    try dsimp only at *
    refine Ae ?_
    refine Ae ?_
    refine Ad (Af .n (.t rfl) rfl <| Af .n (.t rfl) rfl <| AG .n (.t rfl) rfl <| AM .n (.t rfl) fo_26_0 rfl <| Az .n (.t rfl) rfl ic_2 rfl <| AK .n (.t rfl) (.t rfl) rfl rfl <| Lex.nil) ?_
    refine As (.t rfl) rfl (fun h5 => ?_) (fun h5 => ?_)
    · try simp only [tst] at h5
      refine Aw ?_
      refine Ae ?_
      refine AC ?_
      refine Ad (Af .n (.t rfl) rfl <| AW K_7 (f := V.int .i64) (l := 201) .n rfl rfl (.cons (.c rfl) .nil) rfl si_27 zv_2 rfl rfl rfl <| CD (xs := x1.1) (ys := K_7) (f := V.int .i64) (l := 202) .n rfl (.ow (.t rfl) rfl (take_all (by simp only [len_map, put_len] <;> rfl)) (by simp only [len_map, put_len] <;> rfl)) (.ow (.t rfl) rfl (take_all (by simp only [len_map, put_len] <;> rfl)) (by simp only [len_map, put_len] <;> rfl)) si_27 zv_2 rfl (by (simp only [lens] at * <;> omega)) rfl rfl <| Ag .n (.t rfl) rfl <| Lex.nil) ?_
      refine AS ?_
      refine Ad (Af .n (.t rfl) rfl <| BQ .n (.t rfl) (.c rfl) (fun _ => by omega) rfl <| Ag .n (.t rfl) rfl <| Lex.nil) ?_
      exact A6 (x1.1 ++ K_7, x1.2 + 1) ⟨by omega, by omega, by (simp only [lens] at * <;> omega), by (simp only [lens] at * <;> omega)⟩ (by omega) (sub_of [(200, 202)] ⟨rfl, rfl, rfl, rfl, rfl, trivial⟩ ⟨rfl, trivial⟩ rfl)
    · try simp only [tst] at h5
      refine Ba rfl ?_
      exact AY hk3 (x1.1, x1.2) ⟨by omega, by omega, by omega, by omega, by omega⟩ (sub_of [] ⟨rfl, rfl, rfl, rfl, trivial⟩ ⟨rfl, trivial⟩ rfl)

/-! ### spec_l19DrawArrivals -/
set_option maxRecDepth 100000 in
set_option maxHeartbeats 4000000 in
theorem c_spec_l19DrawArrivals (s_ : Aj) (m_ : AH) (hp1 : Lim s_ 200000) (hp2 : m_.Airways.length ≤ 30) : ConG Tryz.prog 55 [.op 0 0 0 0, .rp [.int .i64 m_.Junctions, .sl 7 (m_.Airways.map Au.v)]] [(0, some (.box 100 [.sl 1 (s_.code.map (V.int .u8)), .int .i64 s_.at_, .int .u64 s_.seed]))] (.os 100 (AD s_ m_).1.length) ([(100, some (.row 2 1 ((AD s_ m_).1.map (V.int .i64)))), (0, some (.box 100 [.sl 1 ((AD s_ m_).2.code.map (V.int .u8)), .int .i64 (AD s_ m_).2.at_, .int .u64 (AD s_ m_).2.seed]))]) := by
  refine con_introG (out := fun r : (List Int) × Aj => ((.os 100 r.1.length : V), ([(100, some (.row 2 1 (r.1.map (V.int .i64)))), (0, some (.box 100 [.sl 1 (r.2.code.map (V.int .u8)), .int .i64 r.2.at_, .int .u64 r.2.seed]))] : List (Nat × Option O)))) (r := (AD s_ m_)) Tryz.func55 rfl Tryz.ntmps55 rfl ?_
  have hM := min17 (a := m_.Junctions)
  refine BV (t := 1) 1 rfl rfl fun hl => ?_
  have l1 := hl; clear hl; simp only [List.length_map] at l1
  refine Ae ?_
  refine Ad (Ag .n (.c rfl) rfl <| Lex.nil) ?_
  refine Ae ?_
  refine Ae ?_
  refine Ad (Af .n (.t rfl) rfl <| AR (full := false) .n .f en_50 (.cons (.t rfl) .nil) (.cons (.b (.a (.same rfl))) .nil) (fun hg => c_spec_l04Ok m_) rfl (fun h => Bool.noConfusion h) rfl <| Af .n (.t rfl) rfl <| Af (.t rfl rfl) (.t rfl) rfl <| AG (.t rfl rfl) (.u rfl id) rfl <| AM (.t rfl rfl) (.u rfl id) fo_26_1 rfl <| Az (.t rfl rfl) (.u rfl id) rfl ic_24 rfl <| BD (.t rfl rfl) (.u rfl id) rfl len_map ss_24 rfl <| AK (.t rfl rfl) (.u rfl id) (.c rfl) rfl rfl <| Cz .n (.t rfl) (.u rfl id) rfl <| Af .n (.t rfl) rfl <| Af (.t rfl rfl) (.t rfl) rfl <| q_callGM (full := false) (m0 := 0) (L := 0) (v := .int .i64 (Aa s_ 3).1) (o' := .box 100 [.sl 1 ((bif ((AO m_) && (decide (0 < (m_.Airways.length : Int)))) then (Aa s_ 3).2 else s_).code.map (V.int .u8)), .int .i64 (bif ((AO m_) && (decide (0 < (m_.Airways.length : Int)))) then (Aa s_ 3).2 else s_).at_, .int .u64 (bif ((AO m_) && (decide (0 < (m_.Airways.length : Int)))) then (Aa s_ 3).2 else s_).seed]) (.t rfl rfl) (fun hg => .f) en_22 (fun hg => (.cons (.u rfl (fun _ => id hg)) (.cons (.c rfl) .nil))) (.cons (.b (.mutp rfl)) (.cons (.b (.a (.same rfl))) .nil)) (fun hg => AJ s_ 3 (by (try dsimp only); (with_reducible (first | apply Lim.mono | apply Lim.out | apply LimA.mono)); (repeat (with_reducible (first | assumption | apply Lim.bif1 | apply Lim.bifp | apply Lim.among | apply Lim.pick | apply Lim.arr19 | apply Lim.fire17 | apply Lim.flows7 | apply Lim.mk))); omega)) ⟨rfl, trivial⟩ rfl (fun h => Bool.noConfusion h) (fun h => Bool.noConfusion h) rfl (fun hg => by simp only [Bool.true_and] at hg; rw [hg]; exact ⟨rfl, rfl⟩) (fun hg => by simp only [Bool.true_and] at hg; rw [hg]; rfl) <| AK (.t rfl rfl) (.u rfl id) (.c rfl) rfl rfl <| Cz .n (.t rfl) (.u rfl id) rfl <| Lex.nil) ?_
  refine C7 _ _ rfl (fun v2 : (List Int) × Int × Int => LimA v2.1 v2.2.1 200200) (fun v2 => ⟨[(0, some (true, .op 0 0 0 0)), (1, some (true, .rp [.int .i64 m_.Junctions, .sl 7 (m_.Airways.map Au.v)]))], [(0, some (.box 100 [.sl 1 (v2.1.map (V.int .u8)), .int .i64 v2.2.1, .int .u64 v2.2.2]))]⟩) (fun v2 hv24 => ?_) (fun j3 hj4 => ?_)
  · have e25 := hv24
    refine Ae ?_
    refine Ad (AW K_6 (f := V.int .i64) (l := 203) .n rfl rfl .nil rfl si_27 zv_2 rfl rfl rfl <| Ag .n (.t rfl) rfl <| Lex.nil) ?_
    refine Ae ?_
    refine Ae ?_
    refine Ad (Ag .n (.c rfl) rfl <| Lex.nil) ?_
    refine AC ?_
    refine Dm (Cj s_ m_ v2) _ _ _ rfl (fun (x1 : (List Int) × Int × Int × (List Int) × Int) => 0 ≤ x1.2.2.2.2 ∧ (x1.2.2.2.1.length : Int) + 0 ≤ x1.2.2.2.2 + (K_6.length : Int) ∧ (0 ≤ x1.2.2.2.2 ∧ x1.2.2.2.2 ≤ 17) ∧ (x1.2.2.2.1.length : Int) = x1.2.2.2.2 ∧ LimA x1.1 x1.2.1 (200200 + 4 * x1.2.2.2.2)) (fun x1 => 0 ≤ x1.2.2.2.2 ∧ (x1.2.2.2.1.length : Int) + 0 ≤ x1.2.2.2.2 + (K_6.length : Int) ∧ (0 ≤ x1.2.2.2.2 ∧ x1.2.2.2.2 ≤ 17) ∧ (x1.2.2.2.1.length : Int) = x1.2.2.2.2 ∧ LimA x1.1 x1.2.1 (200200 + 4 * x1.2.2.2.2)) (fun x1 => ((A5 m_.Junctions 17) - x1.2.2.2.2 : Int).toNat) (fun x1 => ⟨[(0, some (true, .op 0 0 0 0)), (1, some (true, .rp [.int .i64 m_.Junctions, .sl 7 (m_.Airways.map Au.v)])), (7, some (true, .os 203 x1.2.2.2.1.length)), (8, some (true, .int .i64 x1.2.2.2.2))], [(0, some (.box 100 [.sl 1 (x1.1.map (V.int .u8)), .int .i64 x1.2.1, .int .u64 x1.2.2.1])), (203, some (.row 2 1 (x1.2.2.2.1.map (V.int .i64))))]⟩) (fun x1 => ⟨[(0, some (true, .op 0 0 0 0)), (7, some (true, .os 203 x1.2.2.2.1.length))], [(0, some (.box 100 [.sl 1 (x1.1.map (V.int .u8)), .int .i64 x1.2.1, .int .u64 x1.2.2.1])), (203, some (.row 2 1 (x1.2.2.2.1.map (V.int .i64))))]⟩) ⟨by (simp only [lens] at * <;> omega), by (simp only [lens] at * <;> omega), by (simp only [lens] at * <;> omega), by (simp only [lens] at * <;> omega), by (try dsimp only); (with_reducible (first | apply Lim.mono | apply Lim.out | apply LimA.mono)); (repeat (with_reducible (first | assumption | apply Lim.bif1 | apply Lim.bifp | apply Lim.among | apply Lim.pick | apply Lim.arr19 | apply Lim.fire17 | apply Lim.flows7 | apply Lim.mk))); omega⟩ (by (simp only [lens] at * <;> omega)) (sub_of [] ⟨rfl, rfl, rfl, rfl, trivial⟩ ⟨rfl, rfl, trivial⟩ rfl) rfl ?_ ?_
    · intro x1 i10
      obtain ⟨e14, e15, e16, e17, e18⟩ := i10
      try dsimp only at *
      refine Ae ?_
      refine Ae ?_
      refine Ad (Af .n (.t rfl) rfl <| AV (full := false) [(0, 0)] [] .n rfl .f en_22 (.cons (.t rfl) (.cons (.c rfl) .nil)) (.cons (.b (.mutp rfl)) (.cons (.b (.a (.same rfl))) .nil)) (AJ (Aj.mk x1.1 x1.2.1 x1.2.2.1) 16 (by (try dsimp only); (with_reducible (first | apply Lim.mono | apply Lim.out | apply LimA.mono)); (repeat (with_reducible (first | assumption | apply Lim.bif1 | apply Lim.bifp | apply Lim.among | apply Lim.pick | apply Lim.arr19 | apply Lim.fire17 | apply Lim.flows7 | apply Lim.mk))); omega)) ⟨rfl, trivial⟩ rfl rfl (fun h => Bool.noConfusion h) (fun h => Bool.noConfusion h) rfl <| Lex.nil) ?_
      refine AC ?_
      refine Ae ?_
      refine Ad (AK .n (.t rfl) (.c rfl) rfl rfl <| Ag .n (.t rfl) rfl <| Lex.nil) ?_
      refine As (.t rfl) rfl (fun h11 => ?_) (fun h11 => ?_)
      · try simp only [tst] at h11
        refine Ad (Af .n (.t rfl) rfl <| AW K_7 (f := V.int .i64) (l := 207) .n rfl rfl (.cons (.c rfl) .nil) rfl si_27 zv_2 rfl rfl rfl <| CD (xs := x1.2.2.2.1) (ys := K_7) (f := V.int .i64) (l := 208) .n rfl (.ow (.t rfl) rfl (take_all (by simp only [len_map, put_len] <;> rfl)) (by simp only [len_map, put_len] <;> rfl)) (.ow (.t rfl) rfl (take_all (by simp only [len_map, put_len] <;> rfl)) (by simp only [len_map, put_len] <;> rfl)) si_27 zv_2 rfl (by (simp only [lens] at * <;> omega)) rfl rfl <| Ag .n (.t rfl) rfl <| Lex.nil) ?_
        refine AS ?_
        refine Ae ?_
        refine Ad (Af .n (.t rfl) rfl <| Ag .n (.t rfl) rfl <| Lex.nil) ?_
        exact Ay [(100, 208)] (.cons (.t rfl rfl) .nil) (by first | rfl | (simp only [put_len]; rfl)) ⟨rfl, rfl, trivial⟩ rfl
      · try simp only [tst] at h11
        refine Ae ?_
        refine Ad (AK .n (.t rfl) (.c rfl) rfl rfl <| Ag .n (.t rfl) rfl <| Lex.nil) ?_
        refine As (.t rfl) rfl (fun h12 => ?_) (fun h12 => ?_)
        · try simp only [tst] at h12
          refine Ae ?_
          refine Ad (Af .n (.t rfl) rfl <| BD .n (.t rfl) rfl rfl ss_27 rfl <| AK .n (.t rfl) (.c rfl) rfl rfl <| Lex.nil) ?_
          refine As (.t rfl) rfl (fun h13 => ?_) (fun h13 => ?_)
          · try simp only [tst] at h13
            refine Ad (Af .n (.t rfl) rfl <| AX .n (.t rfl) (.c rfl) sl_27 (fun _ => by omega) rfl <| B0 (-2) .n rfl (.t rfl) (.c rfl) rfl ts_2 (by omega) rfl rfl <| Lex.nil) ?_
            refine AS ?_
            refine Ae ?_
            refine Ad (Af .n (.t rfl) rfl <| Ag .n (.t rfl) rfl <| Lex.nil) ?_
            exact Ay [(100, 203)] (.cons (.t rfl rfl) .nil) (by first | rfl | (simp only [put_len]; rfl)) ⟨rfl, rfl, trivial⟩ rfl
          · try simp only [tst] at h13
            refine Aw ?_
            refine AS ?_
            refine Ae ?_
            refine Ad (Af .n (.t rfl) rfl <| Ag .n (.t rfl) rfl <| Lex.nil) ?_
            exact Ay [(100, 203)] (.cons (.t rfl rfl) .nil) (by first | rfl | (simp only [put_len]; rfl)) ⟨rfl, rfl, trivial⟩ rfl
        · try simp only [tst] at h12
          refine Aw ?_
          refine AS ?_
          refine Ae ?_
          refine Ad (Af .n (.t rfl) rfl <| Ag .n (.t rfl) rfl <| Lex.nil) ?_
          exact Ay [(100, 203)] (.cons (.t rfl rfl) .nil) (by first | rfl | (simp only [put_len]; rfl)) ⟨rfl, rfl, trivial⟩ rfl
    · intro rec1 k1 hk7 x1 i8
      obtain ⟨e19, e20, e21, e22, e23⟩ := i8
      try dsimp only at *
      refine Ae ?_
      refine Ae ?_
      refine Ad (Af .n (.t rfl) rfl <| Af .n (.t rfl) rfl <| AG .n (.t rfl) rfl <| AM .n (.t rfl) fo_26_0 rfl <| Az .n (.t rfl) rfl ic_2 rfl <| AR (full := false) .n .f en_94 (.cons (.t rfl) (.cons (.c rfl) .nil)) (.cons (.b (.a (.same rfl))) (.cons (.b (.a (.same rfl))) .nil)) (fun hg => c_spec_l00Min m_.Junctions 17) rfl (fun h => Bool.noConfusion h) rfl <| AK .n (.t rfl) (.t rfl) rfl rfl <| Lex.nil) ?_
      refine As (.t rfl) rfl (fun h9 => ?_) (fun h9 => ?_)
      · try simp only [tst] at h9
        refine Aw ?_
        refine Ae ?_
        refine AC ?_
        refine Ae ?_
        refine Ad (Af .n (.t rfl) rfl <| AV (full := false) [(0, 0)] [] .n rfl .f en_22 (.cons (.t rfl) (.cons (.c rfl) .nil)) (.cons (.b (.mutp rfl)) (.cons (.b (.a (.same rfl))) .nil)) (AJ (Aj.mk x1.1 x1.2.1 x1.2.2.1) 60 (by (try dsimp only); (with_reducible (first | apply Lim.mono | apply Lim.out | apply LimA.mono)); (repeat (with_reducible (first | assumption | apply Lim.bif1 | apply Lim.bifp | apply Lim.among | apply Lim.pick | apply Lim.arr19 | apply Lim.fire17 | apply Lim.flows7 | apply Lim.mk))); omega)) ⟨rfl, trivial⟩ rfl rfl (fun h => Bool.noConfusion h) (fun h => Bool.noConfusion h) rfl <| AK .n (.c rfl) (.t rfl) rfl rfl <| Ag .n (.t rfl) rfl <| Lex.nil) ?_
        refine Ad (Af .n (.t rfl) rfl <| Af .n (.t rfl) rfl <| Af .n (.t rfl) rfl <| Af .n (.t rfl) rfl <| Af .n (.t rfl) rfl <| AW ([(-1), (-1), IntKind.wrap .i64 (30 * (Aa (Aj.mk x1.1 x1.2.1 x1.2.2.1) 60).1), IntKind.wrap .i64 (30 * (Aa (Aj.mk x1.1 x1.2.1 x1.2.2.1) 60).1), IntKind.wrap .i64 (30 * (Aa (Aj.mk x1.1 x1.2.1 x1.2.2.1) 60).1)] : List Int) (f := V.int .i64) (l := 204) .n rfl rfl (.cons (.c rfl) (.cons (.c rfl) (.cons (.t rfl) (.cons (.t rfl) (.cons (.t rfl) .nil))))) rfl si_27 zv_2 rfl rfl rfl <| AV (full := false) [(0, 0), (1, 204)] [] .n rfl .f en_24 (.cons (.t rfl) (.cons (.t rfl) .nil)) (.cons (.b (.mutp rfl)) (.cons (.b (.muts rfl)) .nil)) (A1 (Aa (Aj.mk x1.1 x1.2.1 x1.2.2.1) 60).2 ([(-1), (-1), IntKind.wrap .i64 (30 * (Aa (Aj.mk x1.1 x1.2.1 x1.2.2.1) 60).1), IntKind.wrap .i64 (30 * (Aa (Aj.mk x1.1 x1.2.1 x1.2.2.1) 60).1), IntKind.wrap .i64 (30 * (Aa (Aj.mk x1.1 x1.2.1 x1.2.2.1) 60).1)] : List Int) (by (try dsimp only); (with_reducible (first | apply Lim.mono | apply Lim.out | apply LimA.mono)); (repeat (with_reducible (first | assumption | apply Lim.bif1 | apply Lim.bifp | apply Lim.among | apply Lim.pick | apply Lim.arr19 | apply Lim.fire17 | apply Lim.flows7 | apply Lim.mk))); omega) (by (simp only [lens] at * <;> omega))) ⟨rfl, rfl, trivial⟩ rfl rfl (fun h => Bool.noConfusion h) (fun h => Bool.noConfusion h) rfl <| AW ([(Ak (Aa (Aj.mk x1.1 x1.2.1 x1.2.2.1) 60).2 ([(-1), (-1), IntKind.wrap .i64 (30 * (Aa (Aj.mk x1.1 x1.2.1 x1.2.2.1) 60).1), IntKind.wrap .i64 (30 * (Aa (Aj.mk x1.1 x1.2.1 x1.2.2.1) 60).1), IntKind.wrap .i64 (30 * (Aa (Aj.mk x1.1 x1.2.1 x1.2.2.1) 60).1)] : List Int)).1] : List Int) (f := V.int .i64) (l := 205) .n rfl rfl (.cons (.t rfl) .nil) rfl si_27 zv_2 rfl rfl rfl <| CD (xs := x1.2.2.2.1) (ys := ([(Ak (Aa (Aj.mk x1.1 x1.2.1 x1.2.2.1) 60).2 ([(-1), (-1), IntKind.wrap .i64 (30 * (Aa (Aj.mk x1.1 x1.2.1 x1.2.2.1) 60).1), IntKind.wrap .i64 (30 * (Aa (Aj.mk x1.1 x1.2.1 x1.2.2.1) 60).1), IntKind.wrap .i64 (30 * (Aa (Aj.mk x1.1 x1.2.1 x1.2.2.1) 60).1)] : List Int)).1] : List Int)) (f := V.int .i64) (l := 206) .n rfl (.ow (.t rfl) rfl (take_all (by simp only [len_map, put_len] <;> rfl)) (by simp only [len_map, put_len] <;> rfl)) (.ow (.t rfl) rfl (take_all (by simp only [len_map, put_len] <;> rfl)) (by simp only [len_map, put_len] <;> rfl)) si_27 zv_2 rfl (by (simp only [lens] at * <;> omega)) rfl rfl <| Ag .n (.t rfl) rfl <| Lex.nil) ?_
        refine AS ?_
        refine Ad (Af .n (.t rfl) rfl <| BQ .n (.t rfl) (.c rfl) (fun _ => by omega) rfl <| Ag .n (.t rfl) rfl <| Lex.nil) ?_
        exact Cy ((Ak (Aa (Aj.mk x1.1 x1.2.1 x1.2.2.1) 60).2 ([(-1), (-1), IntKind.wrap .i64 (30 * (Aa (Aj.mk x1.1 x1.2.1 x1.2.2.1) 60).1), IntKind.wrap .i64 (30 * (Aa (Aj.mk x1.1 x1.2.1 x1.2.2.1) 60).1), IntKind.wrap .i64 (30 * (Aa (Aj.mk x1.1 x1.2.1 x1.2.2.1) 60).1)] : List Int)).2.1.code, (Ak (Aa (Aj.mk x1.1 x1.2.1 x1.2.2.1) 60).2 ([(-1), (-1), IntKind.wrap .i64 (30 * (Aa (Aj.mk x1.1 x1.2.1 x1.2.2.1) 60).1), IntKind.wrap .i64 (30 * (Aa (Aj.mk x1.1 x1.2.1 x1.2.2.1) 60).1), IntKind.wrap .i64 (30 * (Aa (Aj.mk x1.1 x1.2.1 x1.2.2.1) 60).1)] : List Int)).2.1.at_, (Ak (Aa (Aj.mk x1.1 x1.2.1 x1.2.2.1) 60).2 ([(-1), (-1), IntKind.wrap .i64 (30 * (Aa (Aj.mk x1.1 x1.2.1 x1.2.2.1) 60).1), IntKind.wrap .i64 (30 * (Aa (Aj.mk x1.1 x1.2.1 x1.2.2.1) 60).1), IntKind.wrap .i64 (30 * (Aa (Aj.mk x1.1 x1.2.1 x1.2.2.1) 60).1)] : List Int)).2.1.seed, x1.2.2.2.1 ++ ([(Ak (Aa (Aj.mk x1.1 x1.2.1 x1.2.2.1) 60).2 ([(-1), (-1), IntKind.wrap .i64 (30 * (Aa (Aj.mk x1.1 x1.2.1 x1.2.2.1) 60).1), IntKind.wrap .i64 (30 * (Aa (Aj.mk x1.1 x1.2.1 x1.2.2.1) 60).1), IntKind.wrap .i64 (30 * (Aa (Aj.mk x1.1 x1.2.1 x1.2.2.1) 60).1)] : List Int)).1] : List Int), x1.2.2.2.2 + 1) ⟨by (simp only [lens] at * <;> omega), by (simp only [lens] at * <;> omega), by (simp only [lens] at * <;> omega), by (simp only [lens] at * <;> omega), by (try dsimp only); (with_reducible (first | apply Lim.mono | apply Lim.out | apply LimA.mono)); (repeat (with_reducible (first | assumption | apply Lim.bif1 | apply Lim.bifp | apply Lim.among | apply Lim.pick | apply Lim.arr19 | apply Lim.fire17 | apply Lim.flows7 | apply Lim.mk))); omega⟩ (by (simp only [lens] at * <;> omega)) (sub_of [(203, 206)] ⟨rfl, rfl, rfl, rfl, trivial⟩ ⟨rfl, rfl, trivial⟩ rfl)
      · try simp only [tst] at h9
        refine Ba rfl ?_
        exact AY hk7 (x1.1, x1.2.1, x1.2.2.1, x1.2.2.2.1, x1.2.2.2.2) ⟨by omega, by omega, by omega, by omega, by (try dsimp only); (with_reducible (first | apply Lim.mono | apply Lim.out | apply LimA.mono)); (repeat (with_reducible (first | assumption | apply Lim.bif1 | apply Lim.bifp | apply Lim.among | apply Lim.pick | apply Lim.arr19 | apply Lim.fire17 | apply Lim.flows7 | apply Lim.mk))); omega⟩ (sub_of [] ⟨rfl, rfl, trivial⟩ ⟨rfl, rfl, trivial⟩ rfl)
  · refine As (.t rfl) rfl (fun h5 => ?_) (fun h5 => ?_)
    · try simp only [tst] at h5
      try have hf0h5 := l04Ok_imp h5
      try have hf1h5 := l04Ok_imp h5.1
      try have hf2h5 := l04Ok_imp h5.2
      try have hf3h5 := l04Ok_imp h5.1.1
      try have hf4h5 := l04Ok_imp h5.1.2
      try have hf5h5 := l04Ok_imp h5.2.1
      try have hf6h5 := l04Ok_imp h5.2.2
      refine Ae ?_
      refine run_ro <| ro_lex (l1 := [_, _]) (l2 := [_, _]) rfl (Af .n (.t rfl) rfl <| Af .n (.t rfl) rfl <| Lex.nil) <| ro_callGM [(0, 0)] [(100, 200)] .f en_90 (.cons (.t rfl) (.cons (.t rfl) .nil)) (.cons (.b (.mutp rfl)) (.cons (.b (.a (.same rfl))) .nil)) (c_spec_l07DrawFlows (bif ((AO m_) && (decide (0 < (m_.Airways.length : Int)))) then (Aa s_ 3).2 else s_) m_ (by (try dsimp only); (with_reducible (first | apply Lim.mono | apply Lim.out | apply LimA.mono)); (repeat (with_reducible (first | assumption | apply Lim.bif1 | apply Lim.bifp | apply Lim.among | apply Lim.pick | apply Lim.arr19 | apply Lim.fire17 | apply Lim.flows7 | apply Lim.mk))); omega) (by omega)) ⟨rfl, trivial⟩ rfl rfl rfl rfl rfl <| ro_lex (l1 := [_]) (l2 := []) rfl (Ag .n (.t rfl) rfl <| Lex.nil) <| ro_end ?_
      refine Ae ?_
      refine Ad (Af .n (.t rfl) rfl <| Af .n (.t rfl) rfl <| AV (full := false) [(0, 0)] [] .n rfl .f en_91 (.cons (.t rfl) (.cons (.t rfl) .nil)) (.cons (.b (.mutp rfl)) (.cons (.b (.a (.same rfl))) .nil)) (c_spec_l17DrawFire (AU (bif ((AO m_) && (decide (0 < (m_.Airways.length : Int)))) then (Aa s_ 3).2 else s_) m_).2 m_ (by (try dsimp only); (with_reducible (first | apply Lim.mono | apply Lim.out | apply LimA.mono)); (repeat (with_reducible (first | assumption | apply Lim.bif1 | apply Lim.bifp | apply Lim.among | apply Lim.pick | apply Lim.arr19 | apply Lim.fire17 | apply Lim.flows7 | apply Lim.mk))); omega)) ⟨rfl, trivial⟩ rfl rfl (fun h => Bool.noConfusion h) (fun h => Bool.noConfusion h) rfl <| BG (l := 201) .n rfl zv_135 rfl rfl <| AL [.int .i64 (A4 (AU (bif ((AO m_) && (decide (0 < (m_.Airways.length : Int)))) then (Aa s_ 3).2 else s_) m_).2 m_).1.Airway, .int .i64 (A4 (AU (bif ((AO m_) && (decide (0 < (m_.Airways.length : Int)))) then (Aa s_ 3).2 else s_) m_).2 m_).1.At, .int .i64 (A4 (AU (bif ((AO m_) && (decide (0 < (m_.Airways.length : Int)))) then (Aa s_ 3).2 else s_) m_).2 m_).1.Start] .n rfl (.t rfl) (.t rfl) rfl ts_135 rfl rfl <| Lex.nil) ?_
      refine Ae ?_
      refine Ad (Af .n (.t rfl) rfl <| Af .n (.t rfl) rfl <| AR (full := true) .n .f en_92 (.cons (.t rfl) (.cons (.t rfl) (.cons (.t rfl) .nil))) (.cons (.b (.a (.same rfl))) (.cons (.b (.a (.own rfl rfl rfl (take_all (by simp only [len_map, put_len] <;> rfl)) (by simp only [len_map, put_len] <;> rfl)))) (.cons (.b (.ptr rfl rfl (.inr rfl) rfl rfl (.cons (.same rfl) (.cons (.same rfl) (.cons (.same rfl) .nil))))) .nil))) (fun hg => c_spec_l17Ask m_ (AU (bif ((AO m_) && (decide (0 < (m_.Airways.length : Int)))) then (Aa s_ 3).2 else s_) m_).1 (A4 (AU (bif ((AO m_) && (decide (0 < (m_.Airways.length : Int)))) then (Aa s_ 3).2 else s_) m_).2 m_).1) rfl (fun _ => rfl) rfl <| AK .n (.t rfl) (.c rfl) rfl rfl <| Lex.nil) ?_
      refine As (.t rfl) rfl (fun h6 => ?_) (fun h6 => ?_)
      · try simp only [tst] at h6
        try have hf0h6 := l17Ask_impM h6
        try have hf1h6 := l17Ask_impM h6.1
        try have hf2h6 := l17Ask_impM h6.2
        try have hf3h6 := l17Ask_impM h6.1.1
        try have hf4h6 := l17Ask_impM h6.1.2
        try have hf5h6 := l17Ask_impM h6.2.1
        try have hf6h6 := l17Ask_impM h6.2.2
        try have hf7h6 := l17Ask_impF h6
        try have hf8h6 := l17Ask_impF h6.1
        try have hf9h6 := l17Ask_impF h6.2
        try have hf10h6 := l17Ask_impF h6.1.1
        try have hf11h6 := l17Ask_impF h6.1.2
        try have hf12h6 := l17Ask_impF h6.2.1
        try have hf13h6 := l17Ask_impF h6.2.2
        try have hf14h6 := l17Ask_impS h6
        try have hf15h6 := l17Ask_impS h6.1
        try have hf16h6 := l17Ask_impS h6.2
        try have hf17h6 := l17Ask_impS h6.1.1
        try have hf18h6 := l17Ask_impS h6.1.2
        try have hf19h6 := l17Ask_impS h6.2.1
        try have hf20h6 := l17Ask_impS h6.2.2
        try have hf21h6 := l17Ask_impJ h6
        try have hf22h6 := l17Ask_impJ h6.1
        try have hf23h6 := l17Ask_impJ h6.2
        try have hf24h6 := l17Ask_impJ h6.1.1
        try have hf25h6 := l17Ask_impJ h6.1.2
        try have hf26h6 := l17Ask_impJ h6.2.1
        try have hf27h6 := l17Ask_impJ h6.2.2
        refine Ae ?_
        refine Ad (Af .n (.t rfl) rfl <| Af .n (.t rfl) rfl <| AV (full := true) [] [(100, 202)] .n rfl .f en_93 (.cons (.t rfl) (.cons (.t rfl) (.cons (.t rfl) .nil))) (.cons (.b (.a (.same rfl))) (.cons (.b (.a (.own rfl rfl rfl (take_all (by simp only [len_map, put_len] <;> rfl)) (by simp only [len_map, put_len] <;> rfl)))) (.cons (.b (.ptr rfl rfl (.inr rfl) rfl rfl (.cons (.same rfl) (.cons (.same rfl) (.cons (.same rfl) .nil))))) .nil))) (c_spec_l17Arrival m_ (AU (bif ((AO m_) && (decide (0 < (m_.Airways.length : Int)))) then (Aa s_ 3).2 else s_) m_).1 (A4 (AU (bif ((AO m_) && (decide (0 < (m_.Airways.length : Int)))) then (Aa s_ 3).2 else s_) m_).2 m_).1 (by omega) (by omega) (by omega)) trivial rfl rfl (fun _ => rfl) (fun _ => (hr_row (fun _ => rfl) hr_nil)) rfl <| Ag .n (.t rfl) rfl <| Lex.nil) ?_
        exact Ay [(100, 202)] (.cons (.t rfl rfl) .nil) (by first | rfl | (simp only [put_len]; rfl)) ⟨rfl, rfl, trivial⟩ rfl
      · try simp only [tst] at h6
        try have hf0h6 := l17Ask_impM h6
        try have hf1h6 := l17Ask_impM h6.1
        try have hf2h6 := l17Ask_impM h6.2
        try have hf3h6 := l17Ask_impM h6.1.1
        try have hf4h6 := l17Ask_impM h6.1.2
        try have hf5h6 := l17Ask_impM h6.2.1
        try have hf6h6 := l17Ask_impM h6.2.2
        try have hf7h6 := l17Ask_impF h6
        try have hf8h6 := l17Ask_impF h6.1
        try have hf9h6 := l17Ask_impF h6.2
        try have hf10h6 := l17Ask_impF h6.1.1
        try have hf11h6 := l17Ask_impF h6.1.2
        try have hf12h6 := l17Ask_impF h6.2.1
        try have hf13h6 := l17Ask_impF h6.2.2
        try have hf14h6 := l17Ask_impS h6
        try have hf15h6 := l17Ask_impS h6.1
        try have hf16h6 := l17Ask_impS h6.2
        try have hf17h6 := l17Ask_impS h6.1.1
        try have hf18h6 := l17Ask_impS h6.1.2
        try have hf19h6 := l17Ask_impS h6.2.1
        try have hf20h6 := l17Ask_impS h6.2.2
        try have hf21h6 := l17Ask_impJ h6
        try have hf22h6 := l17Ask_impJ h6.1
        try have hf23h6 := l17Ask_impJ h6.2
        try have hf24h6 := l17Ask_impJ h6.1.1
        try have hf25h6 := l17Ask_impJ h6.1.2
        try have hf26h6 := l17Ask_impJ h6.2.1
        try have hf27h6 := l17Ask_impJ h6.2.2
        refine Aw ?_
        exact AY hj4 ((A4 (AU (bif ((AO m_) && (decide (0 < (m_.Airways.length : Int)))) then (Aa s_ 3).2 else s_) m_).2 m_).2.code, (A4 (AU (bif ((AO m_) && (decide (0 < (m_.Airways.length : Int)))) then (Aa s_ 3).2 else s_) m_).2 m_).2.at_, (A4 (AU (bif ((AO m_) && (decide (0 < (m_.Airways.length : Int)))) then (Aa s_ 3).2 else s_) m_).2 m_).2.seed) (by (try dsimp only); (with_reducible (first | apply Lim.mono | apply Lim.out | apply LimA.mono)); (repeat (with_reducible (first | assumption | apply Lim.bif1 | apply Lim.bifp | apply Lim.among | apply Lim.pick | apply Lim.arr19 | apply Lim.fire17 | apply Lim.flows7 | apply Lim.mk))); omega) (sub_of [] ⟨rfl, rfl, trivial⟩ ⟨rfl, trivial⟩ rfl)
    · try simp only [tst] at h5
      try have hf0h5 := l04Ok_imp h5
      try have hf1h5 := l04Ok_imp h5.1
      try have hf2h5 := l04Ok_imp h5.2
      try have hf3h5 := l04Ok_imp h5.1.1
      try have hf4h5 := l04Ok_imp h5.1.2
      try have hf5h5 := l04Ok_imp h5.2.1
      try have hf6h5 := l04Ok_imp h5.2.2
      refine Aw ?_
      exact AY hj4 ((bif ((AO m_) && (decide (0 < (m_.Airways.length : Int)))) then (Aa s_ 3).2 else s_).code, (bif ((AO m_) && (decide (0 < (m_.Airways.length : Int)))) then (Aa s_ 3).2 else s_).at_, (bif ((AO m_) && (decide (0 < (m_.Airways.length : Int)))) then (Aa s_ 3).2 else s_).seed) (by (try dsimp only); (with_reducible (first | apply Lim.mono | apply Lim.out | apply LimA.mono)); (repeat (with_reducible (first | assumption | apply Lim.bif1 | apply Lim.bifp | apply Lim.among | apply Lim.pick | apply Lim.arr19 | apply Lim.fire17 | apply Lim.flows7 | apply Lim.mk))); omega) (sub_of [] ⟨rfl, rfl, trivial⟩ ⟨rfl, trivial⟩ rfl)

/-! ### spec_l19DrawCrew -/
set_option maxRecDepth 100000 in
set_option maxHeartbeats 4000000 in
theorem DE (s_ : Aj) (m_ : AH) (hp1 : Lim s_ 300000) : Con Tryz.prog 56 [.op 0 0 0 0, .rp [.int .i64 m_.Junctions, .sl 7 (m_.Airways.map Au.v)]] [(0, some (.box 100 [.sl 1 (s_.code.map (V.int .u8)), .int .i64 s_.at_, .int .u64 s_.seed]))] (.st [.str (Av s_ m_).1.Id, .int .i64 (Av s_ m_).1.Junction, .int .i64 (Av s_ m_).1.Speed]) ([(0, some (.box 100 [.sl 1 ((Av s_ m_).2.code.map (V.int .u8)), .int .i64 (Av s_ m_).2.at_, .int .u64 (Av s_ m_).2.seed]))]) := by
  refine con_intro (out := fun r : Bi × Aj => ((.st [.str r.1.Id, .int .i64 r.1.Junction, .int .i64 r.1.Speed] : V), ([(0, some (.box 100 [.sl 1 (r.2.code.map (V.int .u8)), .int .i64 r.2.at_, .int .u64 r.2.seed]))] : List (Nat × Option O)))) (r := (Av s_ m_)) Tryz.func56 rfl Tryz.ntmps56 rfl ?_
  refine BV (t := 1) 1 rfl rfl fun hl => ?_
  have l1 := hl; clear hl; simp only [List.length_map] at l1
  refine Ae ?_
  refine Ad (BG (l := 200) .n rfl zv_37 rfl rfl <| Lex.nil) ?_
  refine Ae ?_
  refine Ad (Af .n (.t rfl) rfl <| AW K_1 (f := V.str) (l := 201) .n rfl rfl (.cons (.c rfl) (.cons (.c rfl) (.cons (.c rfl) .nil))) rfl si_103 zv_9 rfl rfl rfl <| AV (full := false) [(0, 0), (1, 201)] [] .n rfl .f en_95 (.cons (.t rfl) (.cons (.t rfl) .nil)) (.cons (.b (.mutp rfl)) (.cons (.b (.muts rfl)) .nil)) (DD s_ K_1 (by (try dsimp only); (with_reducible (first | apply Lim.mono | apply Lim.out | apply LimA.mono)); (repeat (with_reducible (first | assumption | apply Lim.among | apply Lim.text | apply Lim.pick | apply Lim.crew19 | apply Lim.mk))); omega) (by (simp only [lens] at * <;> omega))) ⟨rfl, rfl, trivial⟩ rfl rfl (fun h => Bool.noConfusion h) (fun h => Bool.noConfusion h) rfl <| Af .n (.t rfl) rfl <| AV (full := false) [(0, 0)] [] .n rfl .f en_22 (.cons (.t rfl) (.cons (.c rfl) .nil)) (.cons (.b (.mutp rfl)) (.cons (.b (.a (.same rfl))) .nil)) (AJ (Ab s_ K_1).2.1 150 (by (try dsimp only); (with_reducible (first | apply Lim.mono | apply Lim.out | apply LimA.mono)); (repeat (with_reducible (first | assumption | apply Lim.among | apply Lim.text | apply Lim.pick | apply Lim.crew19 | apply Lim.mk))); omega)) ⟨rfl, trivial⟩ rfl rfl (fun h => Bool.noConfusion h) (fun h => Bool.noConfusion h) rfl <| AK .n (.c rfl) (.t rfl) rfl rfl <| Dw (us := [.str (Ab s_ K_1).1, .int .i64 0, .int .i64 (IntKind.wrap .i64 (30 + (Aa (Ab s_ K_1).2.1 150).1))]) .n (.cons (.t rfl) (.cons (.t rfl) .nil)) zv_37 pl_37 rfl rfl rfl <| BG (l := 202) .n rfl zv_37 rfl rfl <| AL [.str (Ab s_ K_1).1, .int .i64 0, .int .i64 (IntKind.wrap .i64 (30 + (Aa (Ab s_ K_1).2.1 150).1))] .n rfl (.t rfl) (.t rfl) rfl ts_37 rfl rfl <| Lex.nil) ?_
  refine Ae ?_
  refine Ad (Af .n (.t rfl) rfl <| Af .n (.t rfl) rfl <| AG .n (.t rfl) rfl <| AM .n (.t rfl) fo_26_0 rfl <| Az .n (.t rfl) rfl ic_2 rfl <| AR (full := false) .n .f en_94 (.cons (.t rfl) (.cons (.c rfl) .nil)) (.cons (.b (.a (.same rfl))) (.cons (.b (.a (.same rfl))) .nil)) (fun hg => c_spec_l00Min m_.Junctions 16) rfl (fun h => Bool.noConfusion h) rfl <| AR (full := false) .n .f en_59 (.cons (.c rfl) (.cons (.t rfl) .nil)) (.cons (.b (.a (.same rfl))) (.cons (.b (.a (.same rfl))) .nil)) (fun hg => Dj 1 (A5 m_.Junctions 16)) rfl (fun h => Bool.noConfusion h) rfl <| AV (full := false) [(0, 0)] [] .n rfl .f en_22 (.cons (.t rfl) (.cons (.t rfl) .nil)) (.cons (.b (.mutp rfl)) (.cons (.b (.a (.same rfl))) .nil)) (AJ (Aa (Ab s_ K_1).2.1 150).2 (AF 1 (A5 m_.Junctions 16)) (by (try dsimp only); (with_reducible (first | apply Lim.mono | apply Lim.out | apply LimA.mono)); (repeat (with_reducible (first | assumption | apply Lim.among | apply Lim.text | apply Lim.pick | apply Lim.crew19 | apply Lim.mk))); omega)) ⟨rfl, trivial⟩ rfl rfl (fun h => Bool.noConfusion h) (fun h => Bool.noConfusion h) rfl <| AE .n (.t rfl) fo_37_1 rfl <| AL [.str (Ab s_ K_1).1, .int .i64 (Aa (Aa (Ab s_ K_1).2.1 150).2 (AF 1 (A5 m_.Junctions 16))).1, .int .i64 (IntKind.wrap .i64 (30 + (Aa (Ab s_ K_1).2.1 150).1))] .n rfl (.t rfl) (.t rfl) rfl ts_2 rfl rfl <| Lex.nil) ?_
  refine Ae ?_
  refine Ae ?_
  refine Ad (Af .n (.t rfl) rfl <| AV (full := false) [(0, 0)] [] .n rfl .f en_22 (.cons (.t rfl) (.cons (.c rfl) .nil)) (.cons (.b (.mutp rfl)) (.cons (.b (.a (.same rfl))) .nil)) (AJ (Aa (Aa (Ab s_ K_1).2.1 150).2 (AF 1 (A5 m_.Junctions 16))).2 20 (by (try dsimp only); (with_reducible (first | apply Lim.mono | apply Lim.out | apply LimA.mono)); (repeat (with_reducible (first | assumption | apply Lim.among | apply Lim.text | apply Lim.pick | apply Lim.crew19 | apply Lim.mk))); omega)) ⟨rfl, trivial⟩ rfl rfl (fun h => Bool.noConfusion h) (fun h => Bool.noConfusion h) rfl <| Lex.nil) ?_
  refine AC ?_
  refine Ae ?_
  refine Ad (AK .n (.t rfl) (.c rfl) rfl rfl <| Ag .n (.t rfl) rfl <| Lex.nil) ?_
  refine As (.t rfl) rfl (fun h2 => ?_) (fun h2 => ?_)
  · try simp only [tst] at h2
    refine Ad (Af .n (.t rfl) rfl <| Af .n (.t rfl) rfl <| AG .n (.t rfl) rfl <| AM .n (.t rfl) fo_26_0 rfl <| Az .n (.t rfl) rfl ic_2 rfl <| AW ([(-1), m_.Junctions, 15, 16] : List Int) (f := V.int .i64) (l := 203) .n rfl rfl (.cons (.c rfl) (.cons (.t rfl) (.cons (.c rfl) (.cons (.c rfl) .nil)))) rfl si_27 zv_2 rfl rfl rfl <| AV (full := false) [(0, 0), (1, 203)] [] .n rfl .f en_24 (.cons (.t rfl) (.cons (.t rfl) .nil)) (.cons (.b (.mutp rfl)) (.cons (.b (.muts rfl)) .nil)) (A1 (Aa (Aa (Aa (Ab s_ K_1).2.1 150).2 (AF 1 (A5 m_.Junctions 16))).2 20).2 ([(-1), m_.Junctions, 15, 16] : List Int) (by (try dsimp only); (with_reducible (first | apply Lim.mono | apply Lim.out | apply LimA.mono)); (repeat (with_reducible (first | assumption | apply Lim.among | apply Lim.text | apply Lim.pick | apply Lim.crew19 | apply Lim.mk))); omega) (by (simp only [lens] at * <;> omega))) ⟨rfl, rfl, trivial⟩ rfl rfl (fun h => Bool.noConfusion h) (fun h => Bool.noConfusion h) rfl <| AE .n (.t rfl) fo_37_1 rfl <| AL [.str (Ab s_ K_1).1, .int .i64 (Ak (Aa (Aa (Aa (Ab s_ K_1).2.1 150).2 (AF 1 (A5 m_.Junctions 16))).2 20).2 ([(-1), m_.Junctions, 15, 16] : List Int)).1, .int .i64 (IntKind.wrap .i64 (30 + (Aa (Ab s_ K_1).2.1 150).1))] .n rfl (.t rfl) (.t rfl) rfl ts_2 rfl rfl <| Lex.nil) ?_
    refine AS ?_
    refine Ae ?_
    refine Ad (Bb .n (.t rfl) rfl (.inr rfl) ag_37 (fun _ => rfl) rfl rfl <| AL [.str (Ab s_ K_1).1, .int .i64 (Ak (Aa (Aa (Aa (Ab s_ K_1).2.1 150).2 (AF 1 (A5 m_.Junctions 16))).2 20).2 ([(-1), m_.Junctions, 15, 16] : List Int)).1, .int .i64 (IntKind.wrap .i64 (30 + (Aa (Ab s_ K_1).2.1 150).1))] .n rfl (.t rfl) (.t rfl) rfl ts_37 rfl rfl <| Lex.nil) ?_
    exact Ay [] (.cons (.cN rfl rfl ag_37 rfl rfl) .nil) (by first | rfl | (simp only [put_len]; rfl)) ⟨rfl, trivial⟩ rfl
  · try simp only [tst] at h2
    refine Ae ?_
    refine Ad (AK .n (.t rfl) (.c rfl) rfl rfl <| Ag .n (.t rfl) rfl <| Lex.nil) ?_
    refine As (.t rfl) rfl (fun h3 => ?_) (fun h3 => ?_)
    · try simp only [tst] at h3
      refine Ad (Af .n (.t rfl) rfl <| AW ([9, 10, 300, 301] : List Int) (f := V.int .i64) (l := 204) .n rfl rfl (.cons (.c rfl) (.cons (.c rfl) (.cons (.c rfl) (.cons (.c rfl) .nil)))) rfl si_27 zv_2 rfl rfl rfl <| AV (full := false) [(0, 0), (1, 204)] [] .n rfl .f en_24 (.cons (.t rfl) (.cons (.t rfl) .nil)) (.cons (.b (.mutp rfl)) (.cons (.b (.muts rfl)) .nil)) (A1 (Aa (Aa (Aa (Ab s_ K_1).2.1 150).2 (AF 1 (A5 m_.Junctions 16))).2 20).2 ([9, 10, 300, 301] : List Int) (by (try dsimp only); (with_reducible (first | apply Lim.mono | apply Lim.out | apply LimA.mono)); (repeat (with_reducible (first | assumption | apply Lim.among | apply Lim.text | apply Lim.pick | apply Lim.crew19 | apply Lim.mk))); omega) (by (simp only [lens] at * <;> omega))) ⟨rfl, rfl, trivial⟩ rfl rfl (fun h => Bool.noConfusion h) (fun h => Bool.noConfusion h) rfl <| AE .n (.t rfl) fo_37_2 rfl <| AL [.str (Ab s_ K_1).1, .int .i64 (Aa (Aa (Ab s_ K_1).2.1 150).2 (AF 1 (A5 m_.Junctions 16))).1, .int .i64 (Ak (Aa (Aa (Aa (Ab s_ K_1).2.1 150).2 (AF 1 (A5 m_.Junctions 16))).2 20).2 ([9, 10, 300, 301] : List Int)).1] .n rfl (.t rfl) (.t rfl) rfl ts_2 rfl rfl <| Lex.nil) ?_
      refine AS ?_
      refine Ae ?_
      refine Ad (Bb .n (.t rfl) rfl (.inr rfl) ag_37 (fun _ => rfl) rfl rfl <| AL [.str (Ab s_ K_1).1, .int .i64 (Aa (Aa (Ab s_ K_1).2.1 150).2 (AF 1 (A5 m_.Junctions 16))).1, .int .i64 (Ak (Aa (Aa (Aa (Ab s_ K_1).2.1 150).2 (AF 1 (A5 m_.Junctions 16))).2 20).2 ([9, 10, 300, 301] : List Int)).1] .n rfl (.t rfl) (.t rfl) rfl ts_37 rfl rfl <| Lex.nil) ?_
      exact Ay [] (.cons (.cN rfl rfl ag_37 rfl rfl) .nil) (by first | rfl | (simp only [put_len]; rfl)) ⟨rfl, trivial⟩ rfl
    · try simp only [tst] at h3
      refine Aw ?_
      refine AS ?_
      refine Ae ?_
      refine Ad (Bb .n (.t rfl) rfl (.inr rfl) ag_37 (fun _ => rfl) rfl rfl <| AL [.str (Ab s_ K_1).1, .int .i64 (Aa (Aa (Ab s_ K_1).2.1 150).2 (AF 1 (A5 m_.Junctions 16))).1, .int .i64 (IntKind.wrap .i64 (30 + (Aa (Ab s_ K_1).2.1 150).1))] .n rfl (.t rfl) (.t rfl) rfl ts_37 rfl rfl <| Lex.nil) ?_
      exact Ay [] (.cons (.cN rfl rfl ag_37 rfl rfl) .nil) (by first | rfl | (simp only [put_len]; rfl)) ⟨rfl, trivial⟩ rfl

/-! ### spec_l19DrawAll -/
set_option maxRecDepth 100000 in
set_option maxHeartbeats 4000000 in
theorem c_spec_l19DrawAll (s_ : Aj) (hp1 : Lim s_ 100000) : ConG Tryz.prog 20 [.op 0 0 0 0] [(0, some (.box 100 [.sl 1 (s_.code.map (V.int .u8)), .int .i64 s_.at_, .int .u64 s_.seed]))] (.tup [.st [.int .i64 (Ao s_).1.Junctions, .sl 7 ((Ao s_).1.Airways.map Au.v)], .os 100 (Ao s_).2.1.length, .int .i64 (Ao s_).2.2.1, .st [.str (Ao s_).2.2.2.1.Id, .int .i64 (Ao s_).2.2.2.1.Junction, .int .i64 (Ao s_).2.2.2.1.Speed], .int .i64 (Ao s_).2.2.2.2.1]) ([(100, some (.row 2 1 ((Ao s_).2.1.map (V.int .i64)))), (0, some (.box 100 [.sl 1 ((Ao s_).2.2.2.2.2.code.map (V.int .u8)), .int .i64 (Ao s_).2.2.2.2.2.at_, .int .u64 (Ao s_).2.2.2.2.2.seed]))]) := by
  refine con_introG (out := fun r : AH × (List Int) × Int × Bi × Int × Aj => ((.tup [.st [.int .i64 r.1.Junctions, .sl 7 (r.1.Airways.map Au.v)], .os 100 r.2.1.length, .int .i64 r.2.2.1, .st [.str r.2.2.2.1.Id, .int .i64 r.2.2.2.1.Junction, .int .i64 r.2.2.2.1.Speed], .int .i64 r.2.2.2.2.1] : V), ([(100, some (.row 2 1 (r.2.1.map (V.int .i64)))), (0, some (.box 100 [.sl 1 (r.2.2.2.2.2.code.map (V.int .u8)), .int .i64 r.2.2.2.2.2.at_, .int .u64 r.2.2.2.2.2.seed]))] : List (Nat × Option O)))) (r := (Ao s_)) Tryz.func20 rfl Tryz.ntmps20 rfl ?_
  have hD := (Lim.draw4 hp1).len
  refine Ae ?_
  refine Ad (BG (l := 200) .n rfl zv_26 rfl rfl <| Ag .n (.c rfl) rfl <| Ag .n (.c rfl) rfl <| BG (l := 201) .n rfl zv_37 rfl rfl <| Ag .n (.c rfl) rfl <| Lex.nil) ?_
  refine Ae ?_
  refine Ad (Af .n (.t rfl) rfl <| AV (full := false) [(0, 0)] [(100, 202)] .n rfl .f en_39 (.cons (.t rfl) .nil) (.cons (.b (.mutp rfl)) .nil) (c_spec_l04Draw s_ (by (try dsimp only); (with_reducible (first | apply Lim.mono | apply Lim.out | apply LimA.mono)); (repeat (with_reducible (first | assumption | apply Lim.pick | apply Lim.crew19 | apply Lim.arr19 | apply Lim.dmk | apply Lim.all19 | apply Lim.mk))); omega)) ⟨rfl, trivial⟩ rfl rfl (fun h => Bool.noConfusion h) (fun h => Bool.noConfusion h) rfl <| BG (l := 203) .n rfl zv_26 rfl rfl <| AL [.int .i64 (Al s_).1.Junctions, .os 202 (Al s_).1.Airways.length] .n rfl (.t rfl) (.t rfl) rfl ts_26 rfl rfl <| Lex.nil) ?_
  refine Ae ?_
  refine run_freezeC (l := 203) (lb := 202) 1 rfl rfl rfl rfl (take_all (by simp only [len_map, put_len] <;> rfl)) (by simp only [len_map, put_len] <;> rfl) rfl ?_
  refine run_freezeB (t := 7) rfl rfl rfl rfl ?_
  refine run_ro <| ro_lex (l1 := [_]) (l2 := [_, _]) rfl (Af .n (.t rfl) rfl <| Lex.nil) <| ro_callGM [(0, 0)] [(100, 205)] .f en_55 (.cons (.t rfl) (.cons (.t rfl) .nil)) (.cons (.b (.mutp rfl)) (.cons (.b (.a (.same rfl))) .nil)) (c_spec_l19DrawArrivals (Al s_).2 (AH.mk (Al s_).1.Junctions (Al s_).1.Airways) (by (try dsimp only); (with_reducible (first | apply Lim.mono | apply Lim.out | apply LimA.mono)); (repeat (with_reducible (first | assumption | apply Lim.pick | apply Lim.crew19 | apply Lim.arr19 | apply Lim.dmk | apply Lim.all19 | apply Lim.mk))); omega) (by omega)) ⟨rfl, trivial⟩ rfl rfl rfl rfl rfl <| ro_lex (l1 := [_]) (l2 := []) rfl (Ag .n (.t rfl) rfl <| Lex.nil) <| ro_end ?_
  refine Ae ?_
  refine Ad (Af .n (.t rfl) rfl <| AV (full := false) [(0, 0)] [] .n rfl .f en_22 (.cons (.t rfl) (.cons (.c rfl) .nil)) (.cons (.b (.mutp rfl)) (.cons (.b (.a (.same rfl))) .nil)) (AJ (AD (Al s_).2 (AH.mk (Al s_).1.Junctions (Al s_).1.Airways)).2 9 (by (try dsimp only); (with_reducible (first | apply Lim.mono | apply Lim.out | apply LimA.mono)); (repeat (with_reducible (first | assumption | apply Lim.pick | apply Lim.crew19 | apply Lim.arr19 | apply Lim.dmk | apply Lim.all19 | apply Lim.mk))); omega)) ⟨rfl, trivial⟩ rfl rfl (fun h => Bool.noConfusion h) (fun h => Bool.noConfusion h) rfl <| AK .n (.t rfl) (.c rfl) rfl rfl <| Ag .n (.t rfl) rfl <| Lex.nil) ?_
  refine Ae ?_
  refine Ad (Af .n (.t rfl) rfl <| AV (full := false) [(0, 0)] [] .n rfl .f en_56 (.cons (.t rfl) (.cons (.t rfl) .nil)) (.cons (.b (.mutp rfl)) (.cons (.b (.a (.same rfl))) .nil)) (DE (Aa (AD (Al s_).2 (AH.mk (Al s_).1.Junctions (Al s_).1.Airways)).2 9).2 (AH.mk (Al s_).1.Junctions (Al s_).1.Airways) (by (try dsimp only); (with_reducible (first | apply Lim.mono | apply Lim.out | apply LimA.mono)); (repeat (with_reducible (first | assumption | apply Lim.pick | apply Lim.crew19 | apply Lim.arr19 | apply Lim.dmk | apply Lim.all19 | apply Lim.mk))); omega)) ⟨rfl, trivial⟩ rfl rfl (fun h => Bool.noConfusion h) (fun h => Bool.noConfusion h) rfl <| BG (l := 206) .n rfl zv_37 rfl rfl <| AL [.str (Av (Aa (AD (Al s_).2 (AH.mk (Al s_).1.Junctions (Al s_).1.Airways)).2 9).2 (AH.mk (Al s_).1.Junctions (Al s_).1.Airways)).1.Id, .int .i64 (Av (Aa (AD (Al s_).2 (AH.mk (Al s_).1.Junctions (Al s_).1.Airways)).2 9).2 (AH.mk (Al s_).1.Junctions (Al s_).1.Airways)).1.Junction, .int .i64 (Av (Aa (AD (Al s_).2 (AH.mk (Al s_).1.Junctions (Al s_).1.Airways)).2 9).2 (AH.mk (Al s_).1.Junctions (Al s_).1.Airways)).1.Speed] .n rfl (.t rfl) (.t rfl) rfl ts_37 rfl rfl <| Lex.nil) ?_
  refine Ae ?_
  refine Ad (Af .n (.t rfl) rfl <| AV (full := false) [(0, 0)] [] .n rfl .f en_22 (.cons (.t rfl) (.cons (.c rfl) .nil)) (.cons (.b (.mutp rfl)) (.cons (.b (.a (.same rfl))) .nil)) (AJ (Av (Aa (AD (Al s_).2 (AH.mk (Al s_).1.Junctions (Al s_).1.Airways)).2 9).2 (AH.mk (Al s_).1.Junctions (Al s_).1.Airways)).2 30 (by (try dsimp only); (with_reducible (first | apply Lim.mono | apply Lim.out | apply LimA.mono)); (repeat (with_reducible (first | assumption | apply Lim.pick | apply Lim.crew19 | apply Lim.arr19 | apply Lim.dmk | apply Lim.all19 | apply Lim.mk))); omega)) ⟨rfl, trivial⟩ rfl rfl (fun h => Bool.noConfusion h) (fun h => Bool.noConfusion h) rfl <| AK .n (.c rfl) (.t rfl) rfl rfl <| Ag .n (.t rfl) rfl <| Lex.nil) ?_
  refine Ae ?_
  refine Bl fmo (Dq .n (.t rfl) ag_26 rfl rfl rfl <| Af .n (.t rfl) rfl <| Af .n (.t rfl) rfl <| Bb .n (.t rfl) rfl (.inr rfl) ag_37 (fun _ => rfl) rfl rfl <| Af .n (.t rfl) rfl <| Af .n (.t rfl) rfl <| Af .n (.t rfl) rfl <| Af .n (.t rfl) rfl <| AW ([IntKind.wrap .i64 (20 * (Aa (Av (Aa (AD (Al s_).2 (AH.mk (Al s_).1.Junctions (Al s_).1.Airways)).2 9).2 (AH.mk (Al s_).1.Junctions (Al s_).1.Airways)).2 30).1), IntKind.wrap .i64 (20 * (Aa (Av (Aa (AD (Al s_).2 (AH.mk (Al s_).1.Junctions (Al s_).1.Airways)).2 9).2 (AH.mk (Al s_).1.Junctions (Al s_).1.Airways)).2 30).1), IntKind.wrap .i64 (20 * (Aa (Av (Aa (AD (Al s_).2 (AH.mk (Al s_).1.Junctions (Al s_).1.Airways)).2 9).2 (AH.mk (Al s_).1.Junctions (Al s_).1.Airways)).2 30).1), 0, 0, 36000, 36001, (-1)] : List Int) (f := V.int .i64) (l := 207) .n rfl rfl (.cons (.t rfl) (.cons (.t rfl) (.cons (.t rfl) (.cons (.c rfl) (.cons (.c rfl) (.cons (.c rfl) (.cons (.c rfl) (.cons (.c rfl) .nil)))))))) rfl si_27 zv_2 rfl rfl rfl <| AV (full := false) [(0, 0), (1, 207)] [] .n rfl .f en_24 (.cons (.t rfl) (.cons (.t rfl) .nil)) (.cons (.b (.mutp rfl)) (.cons (.b (.muts rfl)) .nil)) (A1 (Aa (Av (Aa (AD (Al s_).2 (AH.mk (Al s_).1.Junctions (Al s_).1.Airways)).2 9).2 (AH.mk (Al s_).1.Junctions (Al s_).1.Airways)).2 30).2 ([IntKind.wrap .i64 (20 * (Aa (Av (Aa (AD (Al s_).2 (AH.mk (Al s_).1.Junctions (Al s_).1.Airways)).2 9).2 (AH.mk (Al s_).1.Junctions (Al s_).1.Airways)).2 30).1), IntKind.wrap .i64 (20 * (Aa (Av (Aa (AD (Al s_).2 (AH.mk (Al s_).1.Junctions (Al s_).1.Airways)).2 9).2 (AH.mk (Al s_).1.Junctions (Al s_).1.Airways)).2 30).1), IntKind.wrap .i64 (20 * (Aa (Av (Aa (AD (Al s_).2 (AH.mk (Al s_).1.Junctions (Al s_).1.Airways)).2 9).2 (AH.mk (Al s_).1.Junctions (Al s_).1.Airways)).2 30).1), 0, 0, 36000, 36001, (-1)] : List Int) (by (try dsimp only); (with_reducible (first | apply Lim.mono | apply Lim.out | apply LimA.mono)); (repeat (with_reducible (first | assumption | apply Lim.pick | apply Lim.crew19 | apply Lim.arr19 | apply Lim.dmk | apply Lim.all19 | apply Lim.mk))); omega) (by (simp only [lens] at * <;> omega))) ⟨rfl, rfl, trivial⟩ rfl rfl (fun h => Bool.noConfusion h) (fun h => Bool.noConfusion h) rfl <| AL [.int .i64 (Al s_).1.Junctions, .sl 7 ((Al s_).1.Airways.map Au.v)] .n rfl (.t rfl) (.t rfl) rfl ts_26 rfl rfl <| Ag .n (.t rfl) rfl <| Ag .n (.t rfl) rfl <| AL [.str (Av (Aa (AD (Al s_).2 (AH.mk (Al s_).1.Junctions (Al s_).1.Airways)).2 9).2 (AH.mk (Al s_).1.Junctions (Al s_).1.Airways)).1.Id, .int .i64 (Av (Aa (AD (Al s_).2 (AH.mk (Al s_).1.Junctions (Al s_).1.Airways)).2 9).2 (AH.mk (Al s_).1.Junctions (Al s_).1.Airways)).1.Junction, .int .i64 (Av (Aa (AD (Al s_).2 (AH.mk (Al s_).1.Junctions (Al s_).1.Airways)).2 9).2 (AH.mk (Al s_).1.Junctions (Al s_).1.Airways)).1.Speed] .n rfl (.t rfl) (.t rfl) rfl ts_37 rfl rfl <| Ag .n (.t rfl) rfl <| Lex.nil) (by kernel_rfl) ?_
  exact Ay [(100, 205)] (.cons (.cN rfl rfl ag_26 rfl rfl) (.cons (.t rfl rfl) (.cons (.t rfl rfl) (.cons (.cN rfl rfl ag_37 rfl rfl) (.cons (.t rfl rfl) .nil))))) (by first | rfl | (simp only [put_len]; rfl)) ⟨rfl, rfl, trivial⟩ rfl

/-! ### spec_l19DrawList -/
set_option maxRecDepth 100000 in
set_option maxHeartbeats 4000000 in
theorem c_spec_l19DrawList (s_ : Aj) (m_ : AH) (hp1 : Lim s_ 200000) : Con Tryz.prog 21 [.op 0 0 0 0, .rp [.int .i64 m_.Junctions, .sl 7 (m_.Airways.map Au.v)]] [(0, some (.box 100 [.sl 1 (s_.code.map (V.int .u8)), .int .i64 s_.at_, .int .u64 s_.seed]))] (.os 100 (AZ s_ m_).1.length) ([(100, some (.row 37 3 ((AZ s_ m_).1.map Bi.v))), (0, some (.box 100 [.sl 1 ((AZ s_ m_).2.code.map (V.int .u8)), .int .i64 (AZ s_ m_).2.at_, .int .u64 (AZ s_ m_).2.seed]))]) := by
  refine con_intro (out := fun r : (List Bi) × Aj => ((.os 100 r.1.length : V), ([(100, some (.row 37 3 (r.1.map Bi.v))), (0, some (.box 100 [.sl 1 (r.2.code.map (V.int .u8)), .int .i64 r.2.at_, .int .u64 r.2.seed]))] : List (Nat × Option O)))) (r := (AZ s_ m_)) Tryz.func21 rfl Tryz.ntmps21 rfl ?_
  have hn00 := hp1.num (k := 4)
  have hn0 := hn00.2 (by omega)
  have hn1 := ((hp1.pick (k := 4)).one (k := 12)).num (k := 3)
  have hn2 := hn1.2 (by omega)
  have hn3 := wr64 (n := 7 + (Aa (Ai (Aa s_ 4).2 12).2 3).1) (by omega)
  refine BV (t := 1) 1 rfl rfl fun hl => ?_
  have l1 := hl; clear hl; simp only [List.length_map] at l1
  refine Ae ?_
  refine Ad (Ag .n (.c rfl) rfl <| Lex.nil) ?_
  refine Ae ?_
  refine Ad (AW K_4 (f := V.str) (l := 200) .n rfl rfl (.cons (.c rfl) (.cons (.c rfl) (.cons (.c rfl) (.cons (.c rfl) (.cons (.c rfl) (.cons (.c rfl) (.cons (.c rfl) (.cons (.c rfl) (.cons (.c rfl) .nil))))))))) rfl si_103 zv_9 rfl rfl rfl <| Ag .n (.t rfl) rfl <| Lex.nil) ?_
  refine Ae ?_
  refine Ad (AW ([] : List Bi) (f := Bi.v) (l := 201) .n rfl rfl .nil rfl si_28 zv_37 rfl rfl rfl <| Ag .n (.t rfl) rfl <| Lex.nil) ?_
  refine Ae ?_
  refine Ad (Af .n (.t rfl) rfl <| AV (full := false) [(0, 0)] [] .n rfl .f en_22 (.cons (.t rfl) (.cons (.c rfl) .nil)) (.cons (.b (.mutp rfl)) (.cons (.b (.a (.same rfl))) .nil)) (AJ s_ 4 (by (try dsimp only); (with_reducible (first | apply Lim.mono | apply Lim.out | apply LimA.mono)); (repeat (with_reducible (first | assumption | apply Lim.one | apply Lim.pick | apply Lim.crew19 | apply Lim.list19 | apply Lim.mk))); omega)) ⟨rfl, trivial⟩ rfl rfl (fun h => Bool.noConfusion h) (fun h => Bool.noConfusion h) rfl <| Ag .n (.t rfl) rfl <| Lex.nil) ?_
  refine Ae ?_
  refine Ae ?_
  refine Ad (Af .n (.t rfl) rfl <| AV (full := false) [(0, 0)] [] .n rfl .f en_23 (.cons (.t rfl) (.cons (.c rfl) .nil)) (.cons (.b (.mutp rfl)) (.cons (.b (.a (.same rfl))) .nil)) (BS (Aa s_ 4).2 12 (by (try dsimp only); (with_reducible (first | apply Lim.mono | apply Lim.out | apply LimA.mono)); (repeat (with_reducible (first | assumption | apply Lim.one | apply Lim.pick | apply Lim.crew19 | apply Lim.list19 | apply Lim.mk))); omega)) ⟨rfl, trivial⟩ rfl rfl (fun h => Bool.noConfusion h) (fun h => Bool.noConfusion h) rfl <| Lex.nil) ?_
  refine C7 _ _ rfl (fun v2 : (List Int) × Int × Int × Int => LimA v2.1 v2.2.1 200006 ∧ (0 ≤ v2.2.2.2 ∧ v2.2.2.2 ≤ 9)) (fun v2 => ⟨[(0, some (true, .op 0 0 0 0)), (1, some (true, .rp [.int .i64 m_.Junctions, .sl 7 (m_.Airways.map Au.v)])), (5, some (true, .os 200 K_4.length)), (6, some (true, .os 201 ([] : List Bi).length)), (7, some (true, .int .i64 v2.2.2.2))], [(0, some (.box 100 [.sl 1 (v2.1.map (V.int .u8)), .int .i64 v2.2.1, .int .u64 v2.2.2.1])), (200, some (.row 9 1 (K_4.map V.str))), (201, some (.row 37 3 (([] : List Bi).map Bi.v)))]⟩) (fun v2 hv22 => ?_) (fun j3 hj4 => ?_)
  · obtain ⟨e23, e24⟩ := hv22
    refine Ae ?_
    refine Ae ?_
    refine Ad (Ag .n (.c rfl) rfl <| Lex.nil) ?_
    refine AC ?_
    refine Bp (CF s_ m_ v2) _ _ _ rfl (fun (x1 : (List Int) × Int × Int × (List Bi) × Int) => 0 ≤ x1.2.2.2.2 ∧ x1.2.2.2.2 ≤ v2.2.2.2 ∧ (x1.2.2.2.1.length : Int) + 0 ≤ x1.2.2.2.2 + (([] : List Bi).length : Int) ∧ (x1.2.2.2.1.length : Int) = x1.2.2.2.2 ∧ LimA x1.1 x1.2.1 (200006 + 12 * x1.2.2.2.2)) (fun x1 => 0 ≤ x1.2.2.2.2 ∧ x1.2.2.2.2 ≤ v2.2.2.2 ∧ (x1.2.2.2.1.length : Int) + 0 ≤ x1.2.2.2.2 + (([] : List Bi).length : Int) ∧ (x1.2.2.2.1.length : Int) = x1.2.2.2.2 ∧ LimA x1.1 x1.2.1 (200006 + 12 * x1.2.2.2.2) ∧ v2.2.2.2 ≤ x1.2.2.2.2) (fun x1 => (v2.2.2.2 - x1.2.2.2.2 : Int).toNat) (fun x1 => ⟨[(0, some (true, .op 0 0 0 0)), (1, some (true, .rp [.int .i64 m_.Junctions, .sl 7 (m_.Airways.map Au.v)])), (5, some (true, .os 200 K_4.length)), (6, some (true, .os 201 x1.2.2.2.1.length)), (7, some (true, .int .i64 v2.2.2.2)), (8, some (true, .int .i64 x1.2.2.2.2))], [(0, some (.box 100 [.sl 1 (x1.1.map (V.int .u8)), .int .i64 x1.2.1, .int .u64 x1.2.2.1])), (200, some (.row 9 1 (K_4.map V.str))), (201, some (.row 37 3 (x1.2.2.2.1.map Bi.v)))]⟩) (fun x1 => ⟨[(0, some (true, .op 0 0 0 0)), (1, some (true, .rp [.int .i64 m_.Junctions, .sl 7 (m_.Airways.map Au.v)])), (6, some (true, .os 201 x1.2.2.2.1.length))], [(0, some (.box 100 [.sl 1 (x1.1.map (V.int .u8)), .int .i64 x1.2.1, .int .u64 x1.2.2.1])), (201, some (.row 37 3 (x1.2.2.2.1.map Bi.v)))]⟩) ⟨by (simp only [lens] at * <;> omega), by (simp only [lens] at * <;> omega), by (simp only [lens] at * <;> omega), by (simp only [lens] at * <;> omega), by (try dsimp only); (with_reducible (first | apply Lim.mono | apply Lim.out | apply LimA.mono)); (repeat (with_reducible (first | assumption | apply Lim.one | apply Lim.pick | apply Lim.crew19 | apply Lim.list19 | apply Lim.mk))); omega⟩ (by (simp only [lens] at * <;> omega)) (sub_of [] ⟨rfl, rfl, rfl, rfl, rfl, rfl, trivial⟩ ⟨rfl, rfl, rfl, trivial⟩ rfl) ?_ ?_
    · intro x1 i9
      obtain ⟨e11, e12, e13, e14, e15, e16⟩ := i9
      try dsimp only at *
      refine Ae ?_
      refine Ae ?_
      refine Ad (Af .n (.t rfl) rfl <| AV (full := false) [(0, 0)] [] .n rfl .f en_23 (.cons (.t rfl) (.cons (.c rfl) .nil)) (.cons (.b (.mutp rfl)) (.cons (.b (.a (.same rfl))) .nil)) (BS (Aj.mk x1.1 x1.2.1 x1.2.2.1) 16 (by (try dsimp only); (with_reducible (first | apply Lim.mono | apply Lim.out | apply LimA.mono)); (repeat (with_reducible (first | assumption | apply Lim.one | apply Lim.pick | apply Lim.crew19 | apply Lim.list19 | apply Lim.mk))); omega)) ⟨rfl, trivial⟩ rfl rfl (fun h => Bool.noConfusion h) (fun h => Bool.noConfusion h) rfl <| Lex.nil) ?_
      refine As (.t rfl) rfl (fun h10 => ?_) (fun h10 => ?_)
      · try simp only [tst] at h10
        refine Ad (Af .n (.t rfl) rfl <| Af .n (.t rfl) rfl <| Af .n (.t rfl) rfl <| AV (full := false) [(0, 0)] [] .n rfl .f en_56 (.cons (.t rfl) (.cons (.t rfl) .nil)) (.cons (.b (.mutp rfl)) (.cons (.b (.a (.same rfl))) .nil)) (DE (Ai (Aj.mk x1.1 x1.2.1 x1.2.2.1) 16).2 m_ (by (try dsimp only); (with_reducible (first | apply Lim.mono | apply Lim.out | apply LimA.mono)); (repeat (with_reducible (first | assumption | apply Lim.one | apply Lim.pick | apply Lim.crew19 | apply Lim.list19 | apply Lim.mk))); omega)) ⟨rfl, trivial⟩ rfl rfl (fun h => Bool.noConfusion h) (fun h => Bool.noConfusion h) rfl <| AW ([(Av (Ai (Aj.mk x1.1 x1.2.1 x1.2.2.1) 16).2 m_).1] : List Bi) (f := Bi.v) (l := 205) .n rfl rfl (.cons (.t rfl) .nil) rfl si_28 zv_37 rfl rfl rfl <| CD (xs := x1.2.2.2.1) (ys := ([(Av (Ai (Aj.mk x1.1 x1.2.1 x1.2.2.1) 16).2 m_).1] : List Bi)) (f := Bi.v) (l := 206) .n rfl (.ow (.t rfl) rfl (take_all (by simp only [len_map, put_len] <;> rfl)) (by simp only [len_map, put_len] <;> rfl)) (.ow (.t rfl) rfl (take_all (by simp only [len_map, put_len] <;> rfl)) (by simp only [len_map, put_len] <;> rfl)) si_28 zv_37 rfl (by (simp only [lens] at * <;> omega)) rfl rfl <| Ag .n (.t rfl) rfl <| Lex.nil) ?_
        refine Ae ?_
        refine Ad (Af .n (.t rfl) rfl <| Ag .n (.t rfl) rfl <| Lex.nil) ?_
        exact Ay [(100, 206)] (.cons (.t rfl rfl) .nil) (by first | rfl | (simp only [put_len]; rfl)) ⟨rfl, rfl, trivial⟩ rfl
      · try simp only [tst] at h10
        refine Aw ?_
        refine Ae ?_
        refine Ad (Af .n (.t rfl) rfl <| Ag .n (.t rfl) rfl <| Lex.nil) ?_
        exact Ay [(100, 201)] (.cons (.t rfl rfl) .nil) (by first | rfl | (simp only [put_len]; rfl)) ⟨rfl, rfl, trivial⟩ rfl
    · intro rec1 k1 hk6 x1 i7
      obtain ⟨e17, e18, e19, e20, e21⟩ := i7
      try dsimp only at *
      refine Ae ?_
      refine Ae ?_
      refine Ad (Af .n (.t rfl) rfl <| Af .n (.t rfl) rfl <| AK .n (.t rfl) (.t rfl) rfl rfl <| Lex.nil) ?_
      refine As (.t rfl) rfl (fun h8 => ?_) (fun h8 => ?_)
      · try simp only [tst] at h8
        refine Aw ?_
        refine Ae ?_
        refine AC ?_
        refine Ae ?_
        refine Ad (Af .n (.t rfl) rfl <| Af .n (.t rfl) rfl <| AV (full := false) [(0, 0)] [] .n rfl .f en_56 (.cons (.t rfl) (.cons (.t rfl) .nil)) (.cons (.b (.mutp rfl)) (.cons (.b (.a (.same rfl))) .nil)) (DE (Aj.mk x1.1 x1.2.1 x1.2.2.1) m_ (by (try dsimp only); (with_reducible (first | apply Lim.mono | apply Lim.out | apply LimA.mono)); (repeat (with_reducible (first | assumption | apply Lim.one | apply Lim.pick | apply Lim.crew19 | apply Lim.list19 | apply Lim.mk))); omega)) ⟨rfl, trivial⟩ rfl rfl (fun h => Bool.noConfusion h) (fun h => Bool.noConfusion h) rfl <| BG (l := 202) .n rfl zv_37 rfl rfl <| AL [.str (Av (Aj.mk x1.1 x1.2.1 x1.2.2.1) m_).1.Id, .int .i64 (Av (Aj.mk x1.1 x1.2.1 x1.2.2.1) m_).1.Junction, .int .i64 (Av (Aj.mk x1.1 x1.2.1 x1.2.2.1) m_).1.Speed] .n rfl (.t rfl) (.t rfl) rfl ts_37 rfl rfl <| Lex.nil) ?_
        refine Ae ?_
        refine Ad (Af .n (.t rfl) rfl <| Af .n (.t rfl) rfl <| AX .n (.t rfl) (.t rfl) sl_103 (fun _ => by (simp only [lens] at * <;> omega)) rfl <| A3 .n (.t rfl) rfl (fun _ => by (simp only [lens] at * <;> omega)) rfl rfl rfl ic_9 rfl <| AE .n (.t rfl) fo_37_0 rfl <| AL [.str (at' K_4 x1.2.2.2.2), .int .i64 (Av (Aj.mk x1.1 x1.2.1 x1.2.2.1) m_).1.Junction, .int .i64 (Av (Aj.mk x1.1 x1.2.1 x1.2.2.1) m_).1.Speed] .n rfl (.t rfl) (.t rfl) rfl ts_9 rfl rfl <| Lex.nil) ?_
        refine Ad (Af .n (.t rfl) rfl <| Bb .n (.t rfl) rfl (.inr rfl) ag_37 (fun _ => rfl) rfl rfl <| AW ([Bi.mk (at' K_4 x1.2.2.2.2) (Av (Aj.mk x1.1 x1.2.1 x1.2.2.1) m_).1.Junction (Av (Aj.mk x1.1 x1.2.1 x1.2.2.1) m_).1.Speed] : List Bi) (f := Bi.v) (l := 203) .n rfl rfl (.cons (.t rfl) .nil) rfl si_28 zv_37 rfl rfl rfl <| CD (xs := x1.2.2.2.1) (ys := ([Bi.mk (at' K_4 x1.2.2.2.2) (Av (Aj.mk x1.1 x1.2.1 x1.2.2.1) m_).1.Junction (Av (Aj.mk x1.1 x1.2.1 x1.2.2.1) m_).1.Speed] : List Bi)) (f := Bi.v) (l := 204) .n rfl (.ow (.t rfl) rfl (take_all (by simp only [len_map, put_len] <;> rfl)) (by simp only [len_map, put_len] <;> rfl)) (.ow (.t rfl) rfl (take_all (by simp only [len_map, put_len] <;> rfl)) (by simp only [len_map, put_len] <;> rfl)) si_28 zv_37 rfl (by (simp only [lens] at * <;> omega)) rfl rfl <| Ag .n (.t rfl) rfl <| Lex.nil) ?_
        refine AS ?_
        refine Ad (Af .n (.t rfl) rfl <| BQ .n (.t rfl) (.c rfl) (fun _ => by omega) rfl <| Ag .n (.t rfl) rfl <| Lex.nil) ?_
        exact A6 ((Av (Aj.mk x1.1 x1.2.1 x1.2.2.1) m_).2.code, (Av (Aj.mk x1.1 x1.2.1 x1.2.2.1) m_).2.at_, (Av (Aj.mk x1.1 x1.2.1 x1.2.2.1) m_).2.seed, x1.2.2.2.1 ++ ([Bi.mk (at' K_4 x1.2.2.2.2) (Av (Aj.mk x1.1 x1.2.1 x1.2.2.1) m_).1.Junction (Av (Aj.mk x1.1 x1.2.1 x1.2.2.1) m_).1.Speed] : List Bi), x1.2.2.2.2 + 1) ⟨by (simp only [lens] at * <;> omega), by assumption, by (simp only [lens] at * <;> omega), by (simp only [lens] at * <;> omega), by (try dsimp only); (with_reducible (first | apply Lim.mono | apply Lim.out | apply LimA.mono)); (repeat (with_reducible (first | assumption | apply Lim.one | apply Lim.pick | apply Lim.crew19 | apply Lim.list19 | apply Lim.mk))); omega⟩ (by (simp only [lens] at * <;> omega)) (sub_of [(201, 204)] ⟨rfl, rfl, rfl, rfl, rfl, rfl, trivial⟩ ⟨rfl, rfl, rfl, trivial⟩ rfl)
      · try simp only [tst] at h8
        refine Ba rfl ?_
        exact AY hk6 (x1.1, x1.2.1, x1.2.2.1, x1.2.2.2.1, x1.2.2.2.2) ⟨by omega, by omega, by omega, by omega, by (try dsimp only); (with_reducible (first | apply Lim.mono | apply Lim.out | apply LimA.mono)); (repeat (with_reducible (first | assumption | apply Lim.one | apply Lim.pick | apply Lim.crew19 | apply Lim.list19 | apply Lim.mk))); omega, by omega⟩ (sub_of [] ⟨rfl, rfl, rfl, trivial⟩ ⟨rfl, rfl, trivial⟩ rfl)
  · refine As (.t rfl) rfl (fun h5 => ?_) (fun h5 => ?_)
    · try simp only [tst] at h5
      refine Ad (Af .n (.t rfl) rfl <| AV (full := false) [(0, 0)] [] .n rfl .f en_22 (.cons (.t rfl) (.cons (.c rfl) .nil)) (.cons (.b (.mutp rfl)) (.cons (.b (.a (.same rfl))) .nil)) (AJ (Ai (Aa s_ 4).2 12).2 3 (by (try dsimp only); (with_reducible (first | apply Lim.mono | apply Lim.out | apply LimA.mono)); (repeat (with_reducible (first | assumption | apply Lim.one | apply Lim.pick | apply Lim.crew19 | apply Lim.list19 | apply Lim.mk))); omega)) ⟨rfl, trivial⟩ rfl rfl (fun h => Bool.noConfusion h) (fun h => Bool.noConfusion h) rfl <| AK .n (.c rfl) (.t rfl) rfl rfl <| Ag .n (.t rfl) rfl <| Lex.nil) ?_
      exact AY hj4 ((Aa (Ai (Aa s_ 4).2 12).2 3).2.code, (Aa (Ai (Aa s_ 4).2 12).2 3).2.at_, (Aa (Ai (Aa s_ 4).2 12).2 3).2.seed, IntKind.wrap .i64 (7 + (Aa (Ai (Aa s_ 4).2 12).2 3).1)) ⟨by (try dsimp only); (with_reducible (first | apply Lim.mono | apply Lim.out | apply LimA.mono)); (repeat (with_reducible (first | assumption | apply Lim.one | apply Lim.pick | apply Lim.crew19 | apply Lim.list19 | apply Lim.mk))); omega, by (simp only [lens] at * <;> omega)⟩ (sub_of [] ⟨rfl, rfl, rfl, rfl, rfl, trivial⟩ ⟨rfl, rfl, rfl, trivial⟩ rfl)
    · try simp only [tst] at h5
      refine Aw ?_
      exact AY hj4 ((Ai (Aa s_ 4).2 12).2.code, (Ai (Aa s_ 4).2 12).2.at_, (Ai (Aa s_ 4).2 12).2.seed, (Aa s_ 4).1) ⟨by (try dsimp only); (with_reducible (first | apply Lim.mono | apply Lim.out | apply LimA.mono)); (repeat (with_reducible (first | assumption | apply Lim.one | apply Lim.pick | apply Lim.crew19 | apply Lim.list19 | apply Lim.mk))); omega, by (simp only [lens] at * <;> omega)⟩ (sub_of [] ⟨rfl, rfl, rfl, rfl, rfl, trivial⟩ ⟨rfl, rfl, rfl, trivial⟩ rfl)

/-! ### spec_l20DrawOne -/
theorem c_spec_l20DrawOne (s_ : Aj) (id : List UInt8) (junction : Int) (hp1 : Lim s_ 700000) : Con Tryz.prog 58 [.op 0 0 0 0, .str id, .int .i64 junction] [(0, some (.box 100 [.sl 1 (s_.code.map (V.int .u8)), .int .i64 s_.at_, .int .u64 s_.seed]))] (.st [.str (AN s_ id junction).1.Id, .int .i64 (AN s_ id junction).1.Junction, .int .i64 (AN s_ id junction).1.Places, .int .i64 (AN s_ id junction).1.Air]) ([(0, some (.box 100 [.sl 1 ((AN s_ id junction).2.code.map (V.int .u8)), .int .i64 (AN s_ id junction).2.at_, .int .u64 (AN s_ id junction).2.seed]))]) := by
  refine con_intro (out := fun r : AI × Aj => ((.st [.str r.1.Id, .int .i64 r.1.Junction, .int .i64 r.1.Places, .int .i64 r.1.Air] : V), ([(0, some (.box 100 [.sl 1 (r.2.code.map (V.int .u8)), .int .i64 r.2.at_, .int .u64 r.2.seed]))] : List (Nat × Option O)))) (r := (AN s_ id junction)) Tryz.func58 rfl Tryz.ntmps58 rfl ?_
  refine Ae ?_
  refine Ad (BG (l := 200) .n rfl zv_39 rfl rfl <| Lex.nil) ?_
  refine Ae ?_
  refine Ad (Af .n (.t rfl) rfl <| Af .n (.t rfl) rfl <| Af .n (.t rfl) rfl <| AV (full := false) [(0, 0)] [] .n rfl .f en_22 (.cons (.t rfl) (.cons (.c rfl) .nil)) (.cons (.b (.mutp rfl)) (.cons (.b (.a (.same rfl))) .nil)) (AJ s_ 20 (by (try dsimp only); (with_reducible (first | apply Lim.mono | apply Lim.out | apply LimA.mono)); (repeat (with_reducible (first | assumption | apply Lim.among | apply Lim.pick | apply Lim.one20 | apply Lim.mk))); omega)) ⟨rfl, trivial⟩ rfl rfl (fun h => Bool.noConfusion h) (fun h => Bool.noConfusion h) rfl <| AK .n (.c rfl) (.t rfl) rfl rfl <| Dw (us := [.str id, .int .i64 junction, .int .i64 (IntKind.wrap .i64 (1 + (Aa s_ 20).1)), .int .i64 0]) .n (.cons (.t rfl) (.cons (.t rfl) (.cons (.t rfl) .nil))) zv_39 pl_39 rfl rfl rfl <| BG (l := 201) .n rfl zv_39 rfl rfl <| AL [.str id, .int .i64 junction, .int .i64 (IntKind.wrap .i64 (1 + (Aa s_ 20).1)), .int .i64 0] .n rfl (.t rfl) (.t rfl) rfl ts_39 rfl rfl <| Lex.nil) ?_
  refine Ae ?_
  refine Ad (Af .n (.t rfl) rfl <| AW ([0, 1000, 5000, 40000, 10000000] : List Int) (f := V.int .i64) (l := 202) .n rfl rfl (.cons (.c rfl) (.cons (.c rfl) (.cons (.c rfl) (.cons (.c rfl) (.cons (.c rfl) .nil))))) rfl si_27 zv_2 rfl rfl rfl <| AV (full := false) [(0, 0), (1, 202)] [] .n rfl .f en_24 (.cons (.t rfl) (.cons (.t rfl) .nil)) (.cons (.b (.mutp rfl)) (.cons (.b (.muts rfl)) .nil)) (A1 (Aa s_ 20).2 ([0, 1000, 5000, 40000, 10000000] : List Int) (by (try dsimp only); (with_reducible (first | apply Lim.mono | apply Lim.out | apply LimA.mono)); (repeat (with_reducible (first | assumption | apply Lim.among | apply Lim.pick | apply Lim.one20 | apply Lim.mk))); omega) (by (simp only [lens] at * <;> omega))) ⟨rfl, rfl, trivial⟩ rfl rfl (fun h => Bool.noConfusion h) (fun h => Bool.noConfusion h) rfl <| AE .n (.t rfl) fo_39_3 rfl <| AL [.str id, .int .i64 junction, .int .i64 (IntKind.wrap .i64 (1 + (Aa s_ 20).1)), .int .i64 (Ak (Aa s_ 20).2 ([0, 1000, 5000, 40000, 10000000] : List Int)).1] .n rfl (.t rfl) (.t rfl) rfl ts_2 rfl rfl <| Lex.nil) ?_
  refine Ae ?_
  refine Ad (Bb .n (.t rfl) rfl (.inr rfl) ag_39 (fun _ => rfl) rfl rfl <| AL [.str id, .int .i64 junction, .int .i64 (IntKind.wrap .i64 (1 + (Aa s_ 20).1)), .int .i64 (Ak (Aa s_ 20).2 ([0, 1000, 5000, 40000, 10000000] : List Int)).1] .n rfl (.t rfl) (.t rfl) rfl ts_39 rfl rfl <| Lex.nil) ?_
  exact Ay [] (.cons (.cN rfl rfl ag_39 rfl rfl) .nil) (by first | rfl | (simp only [put_len]; rfl)) ⟨rfl, trivial⟩ rfl

/-! ### spec_l20Bend -/
set_option maxRecDepth 100000 in
set_option maxHeartbeats 4000000 in
theorem c_spec_l20Bend (s_ : Aj) (x_ : AI) (hp1 : Lim s_ 700000) : Con Tryz.prog 60 [.op 0 0 0 0, .st [.str x_.Id, .int .i64 x_.Junction, .int .i64 x_.Places, .int .i64 x_.Air]] [(0, some (.box 100 [.sl 1 (s_.code.map (V.int .u8)), .int .i64 s_.at_, .int .u64 s_.seed]))] (.st [.str (BI s_ x_).1.Id, .int .i64 (BI s_ x_).1.Junction, .int .i64 (BI s_ x_).1.Places, .int .i64 (BI s_ x_).1.Air]) ([(0, some (.box 100 [.sl 1 ((BI s_ x_).2.code.map (V.int .u8)), .int .i64 (BI s_ x_).2.at_, .int .u64 (BI s_ x_).2.seed]))]) := by
  refine con_intro (out := fun r : AI × Aj => ((.st [.str r.1.Id, .int .i64 r.1.Junction, .int .i64 r.1.Places, .int .i64 r.1.Air] : V), ([(0, some (.box 100 [.sl 1 (r.2.code.map (V.int .u8)), .int .i64 r.2.at_, .int .u64 r.2.seed]))] : List (Nat × Option O)))) (r := (BI s_ x_)) Tryz.func60 rfl Tryz.ntmps60 rfl ?_
  refine Ae ?_
  refine Ad (q_box (l := 200) .n rfl (.t rfl) rfl rfl rfl rfl <| BG (l := 201) .n rfl zv_39 rfl rfl <| Lex.nil) ?_
  refine Ae ?_
  refine Ae ?_
  refine Ad (Af .n (.t rfl) rfl <| AV (full := false) [(0, 0)] [] .n rfl .f en_22 (.cons (.t rfl) (.cons (.c rfl) .nil)) (.cons (.b (.mutp rfl)) (.cons (.b (.a (.same rfl))) .nil)) (AJ s_ 20 (by (try dsimp only); (with_reducible (first | apply Lim.mono | apply Lim.out | apply LimA.mono)); (repeat (with_reducible (first | assumption | apply Lim.among | apply Lim.text | apply Lim.pick | apply Lim.bend20 | apply Lim.mk))); omega)) ⟨rfl, trivial⟩ rfl rfl (fun h => Bool.noConfusion h) (fun h => Bool.noConfusion h) rfl <| Lex.nil) ?_
  refine AC ?_
  refine Ae ?_
  refine Ad (AK .n (.t rfl) (.c rfl) rfl rfl <| Ag .n (.t rfl) rfl <| Lex.nil) ?_
  refine As (.t rfl) rfl (fun h1 => ?_) (fun h1 => ?_)
  · try simp only [tst] at h1
    refine Ad (Af .n (.t rfl) rfl <| AW ([(-1), 15, 16] : List Int) (f := V.int .i64) (l := 202) .n rfl rfl (.cons (.c rfl) (.cons (.c rfl) (.cons (.c rfl) .nil))) rfl si_27 zv_2 rfl rfl rfl <| AV (full := false) [(0, 0), (1, 202)] [] .n rfl .f en_24 (.cons (.t rfl) (.cons (.t rfl) .nil)) (.cons (.b (.mutp rfl)) (.cons (.b (.muts rfl)) .nil)) (A1 (Aa s_ 20).2 ([(-1), 15, 16] : List Int) (by (try dsimp only); (with_reducible (first | apply Lim.mono | apply Lim.out | apply LimA.mono)); (repeat (with_reducible (first | assumption | apply Lim.among | apply Lim.text | apply Lim.pick | apply Lim.bend20 | apply Lim.mk))); omega) (by (simp only [lens] at * <;> omega))) ⟨rfl, rfl, trivial⟩ rfl rfl (fun h => Bool.noConfusion h) (fun h => Bool.noConfusion h) rfl <| AE .n (.t rfl) fo_39_1 rfl <| AL [.str x_.Id, .int .i64 (Ak (Aa s_ 20).2 ([(-1), 15, 16] : List Int)).1, .int .i64 x_.Places, .int .i64 x_.Air] .n rfl (.t rfl) (.t rfl) rfl ts_2 rfl rfl <| Lex.nil) ?_
    refine AS ?_
    refine Ae ?_
    refine Ad (Bb .n (.t rfl) rfl (.inr rfl) ag_39 (fun _ => rfl) rfl rfl <| AL [.str x_.Id, .int .i64 (Ak (Aa s_ 20).2 ([(-1), 15, 16] : List Int)).1, .int .i64 x_.Places, .int .i64 x_.Air] .n rfl (.t rfl) (.t rfl) rfl ts_39 rfl rfl <| Lex.nil) ?_
    exact Ay [] (.cons (.cN rfl rfl ag_39 rfl rfl) .nil) (by first | rfl | (simp only [put_len]; rfl)) ⟨rfl, trivial⟩ rfl
  · try simp only [tst] at h1
    refine Ae ?_
    refine Ad (AK .n (.t rfl) (.c rfl) rfl rfl <| Ag .n (.t rfl) rfl <| Lex.nil) ?_
    refine As (.t rfl) rfl (fun h2 => ?_) (fun h2 => ?_)
    · try simp only [tst] at h2
      refine Ad (Af .n (.t rfl) rfl <| AW K_9 (f := V.int .i64) (l := 203) .n rfl rfl (.cons (.c rfl) (.cons (.c rfl) (.cons (.c rfl) .nil))) rfl si_27 zv_2 rfl rfl rfl <| AV (full := false) [(0, 0), (1, 203)] [] .n rfl .f en_24 (.cons (.t rfl) (.cons (.t rfl) .nil)) (.cons (.b (.mutp rfl)) (.cons (.b (.muts rfl)) .nil)) (A1 (Aa s_ 20).2 K_9 (by (try dsimp only); (with_reducible (first | apply Lim.mono | apply Lim.out | apply LimA.mono)); (repeat (with_reducible (first | assumption | apply Lim.among | apply Lim.text | apply Lim.pick | apply Lim.bend20 | apply Lim.mk))); omega) (by (simp only [lens] at * <;> omega))) ⟨rfl, rfl, trivial⟩ rfl rfl (fun h => Bool.noConfusion h) (fun h => Bool.noConfusion h) rfl <| AE .n (.t rfl) fo_39_2 rfl <| AL [.str x_.Id, .int .i64 x_.Junction, .int .i64 (Ak (Aa s_ 20).2 K_9).1, .int .i64 x_.Air] .n rfl (.t rfl) (.t rfl) rfl ts_2 rfl rfl <| Lex.nil) ?_
      refine AS ?_
      refine Ae ?_
      refine Ad (Bb .n (.t rfl) rfl (.inr rfl) ag_39 (fun _ => rfl) rfl rfl <| AL [.str x_.Id, .int .i64 x_.Junction, .int .i64 (Ak (Aa s_ 20).2 K_9).1, .int .i64 x_.Air] .n rfl (.t rfl) (.t rfl) rfl ts_39 rfl rfl <| Lex.nil) ?_
      exact Ay [] (.cons (.cN rfl rfl ag_39 rfl rfl) .nil) (by first | rfl | (simp only [put_len]; rfl)) ⟨rfl, trivial⟩ rfl
    · try simp only [tst] at h2
      refine Ae ?_
      refine Ad (AK .n (.t rfl) (.c rfl) rfl rfl <| Ag .n (.t rfl) rfl <| Lex.nil) ?_
      refine As (.t rfl) rfl (fun h3 => ?_) (fun h3 => ?_)
      · try simp only [tst] at h3
        refine Ad (Af .n (.t rfl) rfl <| AW ([(-1), 10000001] : List Int) (f := V.int .i64) (l := 204) .n rfl rfl (.cons (.c rfl) (.cons (.c rfl) .nil)) rfl si_27 zv_2 rfl rfl rfl <| AV (full := false) [(0, 0), (1, 204)] [] .n rfl .f en_24 (.cons (.t rfl) (.cons (.t rfl) .nil)) (.cons (.b (.mutp rfl)) (.cons (.b (.muts rfl)) .nil)) (A1 (Aa s_ 20).2 ([(-1), 10000001] : List Int) (by (try dsimp only); (with_reducible (first | apply Lim.mono | apply Lim.out | apply LimA.mono)); (repeat (with_reducible (first | assumption | apply Lim.among | apply Lim.text | apply Lim.pick | apply Lim.bend20 | apply Lim.mk))); omega) (by (simp only [lens] at * <;> omega))) ⟨rfl, rfl, trivial⟩ rfl rfl (fun h => Bool.noConfusion h) (fun h => Bool.noConfusion h) rfl <| AE .n (.t rfl) fo_39_3 rfl <| AL [.str x_.Id, .int .i64 x_.Junction, .int .i64 x_.Places, .int .i64 (Ak (Aa s_ 20).2 ([(-1), 10000001] : List Int)).1] .n rfl (.t rfl) (.t rfl) rfl ts_2 rfl rfl <| Lex.nil) ?_
        refine AS ?_
        refine Ae ?_
        refine Ad (Bb .n (.t rfl) rfl (.inr rfl) ag_39 (fun _ => rfl) rfl rfl <| AL [.str x_.Id, .int .i64 x_.Junction, .int .i64 x_.Places, .int .i64 (Ak (Aa s_ 20).2 ([(-1), 10000001] : List Int)).1] .n rfl (.t rfl) (.t rfl) rfl ts_39 rfl rfl <| Lex.nil) ?_
        exact Ay [] (.cons (.cN rfl rfl ag_39 rfl rfl) .nil) (by first | rfl | (simp only [put_len]; rfl)) ⟨rfl, trivial⟩ rfl
      · try simp only [tst] at h3
        refine Ae ?_
        refine Ad (AK .n (.t rfl) (.c rfl) rfl rfl <| Ag .n (.t rfl) rfl <| Lex.nil) ?_
        refine As (.t rfl) rfl (fun h4 => ?_) (fun h4 => ?_)
        · try simp only [tst] at h4
          refine Ad (Af .n (.t rfl) rfl <| AW K_5 (f := V.str) (l := 205) .n rfl rfl (.cons (.c rfl) (.cons (.c rfl) .nil)) rfl si_103 zv_9 rfl rfl rfl <| AV (full := false) [(0, 0), (1, 205)] [] .n rfl .f en_95 (.cons (.t rfl) (.cons (.t rfl) .nil)) (.cons (.b (.mutp rfl)) (.cons (.b (.muts rfl)) .nil)) (DD (Aa s_ 20).2 K_5 (by (try dsimp only); (with_reducible (first | apply Lim.mono | apply Lim.out | apply LimA.mono)); (repeat (with_reducible (first | assumption | apply Lim.among | apply Lim.text | apply Lim.pick | apply Lim.bend20 | apply Lim.mk))); omega) (by (simp only [lens] at * <;> omega))) ⟨rfl, rfl, trivial⟩ rfl rfl (fun h => Bool.noConfusion h) (fun h => Bool.noConfusion h) rfl <| AE .n (.t rfl) fo_39_0 rfl <| AL [.str (Ab (Aa s_ 20).2 K_5).1, .int .i64 x_.Junction, .int .i64 x_.Places, .int .i64 x_.Air] .n rfl (.t rfl) (.t rfl) rfl ts_9 rfl rfl <| Lex.nil) ?_
          refine AS ?_
          refine Ae ?_
          refine Ad (Bb .n (.t rfl) rfl (.inr rfl) ag_39 (fun _ => rfl) rfl rfl <| AL [.str (Ab (Aa s_ 20).2 K_5).1, .int .i64 x_.Junction, .int .i64 x_.Places, .int .i64 x_.Air] .n rfl (.t rfl) (.t rfl) rfl ts_39 rfl rfl <| Lex.nil) ?_
          exact Ay [] (.cons (.cN rfl rfl ag_39 rfl rfl) .nil) (by first | rfl | (simp only [put_len]; rfl)) ⟨rfl, trivial⟩ rfl
        · try simp only [tst] at h4
          refine Aw ?_
          refine AS ?_
          refine Ae ?_
          refine Ad (Bb .n (.t rfl) rfl (.inr rfl) ag_39 (fun _ => rfl) rfl rfl <| AL [.str x_.Id, .int .i64 x_.Junction, .int .i64 x_.Places, .int .i64 x_.Air] .n rfl (.t rfl) (.t rfl) rfl ts_39 rfl rfl <| Lex.nil) ?_
          exact Ay [] (.cons (.cN rfl rfl ag_39 rfl rfl) .nil) (by first | rfl | (simp only [put_len]; rfl)) ⟨rfl, trivial⟩ rfl

/-! ### spec_l01Dec -/
theorem c_spec_l01Dec (n_ : Int) (hp1 : -9223372036854775808 ≤ n_ ∧ n_ ≤ 9223372036854775807) : Con Tryz.prog 61 [.int .i64 n_] [] (.str (BE n_)) ([]) := by
  refine con_intro (out := fun r : (List UInt8) => ((.str r : V), ([] : List (Nat × Option O)))) (r := (BE n_)) Tryz.func61 rfl Tryz.ntmps61 rfl ?_
  refine Ae ?_
  refine Ad (Ag .n (.c rfl) rfl <| Lex.nil) ?_
  refine Ae ?_
  refine Ae ?_
  refine Ad (Af .n (.t rfl) rfl <| AK .n (.t rfl) (.c rfl) rfl rfl <| Lex.nil) ?_
  refine As (.t rfl) rfl (fun h1 => ?_) (fun h1 => ?_)
  · try simp only [tst] at h1
    refine Ae ?_
    refine Ad (Ag .n (.c rfl) rfl <| Lex.nil) ?_
    exact Ay [] (.cons (.t rfl rfl) .nil) rfl trivial rfl
  · try simp only [tst] at h1
    refine Aw ?_
    refine Ae ?_
    refine Ad (AW K_6 (f := V.int .u8) (l := 200) .n rfl rfl .nil rfl si_22 zv_5 rfl rfl rfl <| Ag .n (.t rfl) rfl <| Lex.nil) ?_
    refine Ae ?_
    refine Ae ?_
    refine Ad (Af .n (.t rfl) rfl <| Ag .n (.t rfl) rfl <| Lex.nil) ?_
    refine AC ?_
    refine Bp (m_spec_l01Dec_b1 n_) _ _ _ rfl (fun (x1 : (List Int) × Int) => DecI x1.1.length x1.2) (fun x1 => DecI x1.1.length x1.2) (fun x1 => x1.2.natAbs) (fun x1 => ⟨[(0, some (true, .int .i64 n_)), (3, some (true, .os 200 x1.1.length)), (4, some (true, .int .i64 x1.2))], [(200, some (.row 5 1 (x1.1.map (V.int .u8))))]⟩) (fun x1 => ⟨[(0, some (true, .int .i64 n_)), (3, some (true, .os 200 x1.1.length))], [(200, some (.row 5 1 (x1.1.map (V.int .u8))))]⟩) (by (exact DecI.start (by assumption))) (by omega) (sub_of [] ⟨rfl, rfl, rfl, trivial⟩ ⟨rfl, trivial⟩ rfl) ?_ ?_
    · intro x1 i9
      have e26 := i9
      try dsimp only at *
      refine Ae ?_
      refine Ae ?_
      refine Ad (Af .n (.t rfl) rfl <| AK .n (.t rfl) (.c rfl) rfl rfl <| Lex.nil) ?_
      refine C7 _ _ rfl (fun v10 : (List Int) => v10.length ≤ 20) (fun v10 => ⟨[(3, some (true, .os 204 v10.length))], [(204, some (.row 5 1 (v10.map (V.int .u8))))]⟩) (fun v10 hv24 => ?_) (fun j11 hj12 => ?_)
      · have e25 := hv24
        refine Ae ?_
        refine Ad (AW K_6 (f := V.int .u8) (l := 205) .n rfl rfl .nil rfl si_22 zv_5 rfl rfl rfl <| Ag .n (.t rfl) rfl <| Lex.nil) ?_
        refine Ae ?_
        refine Ae ?_
        refine Ad (Af .n (.t rfl) rfl <| BD .n (.t rfl) rfl rfl ss_22 rfl <| AK .n (.t rfl) (.c rfl) rfl rfl <| Ag .n (.t rfl) rfl <| Lex.nil) ?_
        refine AC ?_
        refine Bp (Dr n_ x1 v10) _ _ _ rfl (fun (x2 : (List Int) × Int) => x2.2 ≤ IntKind.wrap .i64 ((v10.length : Int) - 1) ∧ (x2.1.length : Int) + x2.2 + 1 = v10.length ∧ -1 ≤ x2.2) (fun x2 => x2.2 ≤ IntKind.wrap .i64 ((v10.length : Int) - 1) ∧ (x2.1.length : Int) + x2.2 + 1 = v10.length ∧ -1 ≤ x2.2) (fun x2 => (x2.2 + 1 : Int).toNat) (fun x2 => ⟨[(3, some (true, .os 204 v10.length)), (6, some (true, .os 205 x2.1.length)), (7, some (true, .int .i64 x2.2))], [(204, some (.row 5 1 (v10.map (V.int .u8)))), (205, some (.row 5 1 (x2.1.map (V.int .u8))))]⟩) (fun x2 => ⟨[(6, some (true, .os 205 x2.1.length))], [(205, some (.row 5 1 (x2.1.map (V.int .u8))))]⟩) ⟨by omega, by ((rw [wr64 (by omega)]; simp only [List.length_append, List.length_cons, List.length_nil] at *; omega)), by ((rw [wr64 (by omega)]; simp only [List.length_append, List.length_cons, List.length_nil] at *; omega))⟩ (by ((rw [wr64 (by omega)]; simp only [List.length_append, List.length_cons, List.length_nil] at *; omega))) (sub_of [] ⟨rfl, rfl, rfl, trivial⟩ ⟨rfl, rfl, trivial⟩ rfl) ?_ ?_
        · intro x2 i17
          obtain ⟨e18, e19, e20⟩ := i17
          try dsimp only at *
          refine Ae ?_
          refine Ad (Af .n (.t rfl) rfl <| q_b2s (xs := x2.1) .n (.ow (.t rfl) rfl (take_all (by simp only [len_map, put_len] <;> rfl)) (by simp only [len_map, put_len] <;> rfl)) bs_22_9 rfl <| Ag .n (.t rfl) rfl <| Lex.nil) ?_
          exact Ay [] (.cons (.t rfl rfl) .nil) rfl trivial rfl
        · intro rec2 k2 hk14 x2 i15
          obtain ⟨e21, e22, e23⟩ := i15
          try dsimp only at *
          refine Ae ?_
          refine Ae ?_
          refine Ad (Af .n (.t rfl) rfl <| AK .n (.t rfl) (.c rfl) rfl rfl <| Lex.nil) ?_
          refine As (.t rfl) rfl (fun h16 => ?_) (fun h16 => ?_)
          · try simp only [tst] at h16
            refine Aw ?_
            refine Ae ?_
            refine AC ?_
            refine Ad (Af .n (.t rfl) rfl <| Af .n (.t rfl) rfl <| Af .n (.t rfl) rfl <| AX .n (.t rfl) (.t rfl) sl_22 (fun _ => by omega) rfl <| A3 .n (.t rfl) rfl (fun _ => by omega) rfl rfl rfl ic_5 rfl <| AW ([at' v10 x2.2] : List Int) (f := V.int .u8) (l := 206) .n rfl rfl (.cons (.t rfl) .nil) rfl si_22 zv_5 rfl rfl rfl <| CD (xs := x2.1) (ys := ([at' v10 x2.2] : List Int)) (f := V.int .u8) (l := 207) .n rfl (.ow (.t rfl) rfl (take_all (by simp only [len_map, put_len] <;> rfl)) (by simp only [len_map, put_len] <;> rfl)) (.ow (.t rfl) rfl (take_all (by simp only [len_map, put_len] <;> rfl)) (by simp only [len_map, put_len] <;> rfl)) si_22 zv_5 rfl (by (simp only [lens] at * <;> omega)) rfl rfl <| Ag .n (.t rfl) rfl <| Lex.nil) ?_
            refine AS ?_
            refine Ad (Af .n (.t rfl) rfl <| q_sub .n (.t rfl) (.c rfl) (fun _ => by omega) rfl <| Ag .n (.t rfl) rfl <| Lex.nil) ?_
            exact A6 (x2.1 ++ ([at' v10 x2.2] : List Int), x2.2 - 1) ⟨by omega, by (simp only [lens] at * <;> omega), by omega⟩ (by omega) (sub_of [(205, 207)] ⟨rfl, rfl, rfl, trivial⟩ ⟨rfl, rfl, trivial⟩ rfl)
          · try simp only [tst] at h16
            refine Ba rfl ?_
            exact AY hk14 (x2.1, x2.2) ⟨by omega, by omega, by omega⟩ (sub_of [] ⟨rfl, trivial⟩ ⟨rfl, trivial⟩ rfl)
      · refine As (.t rfl) rfl (fun h13 => ?_) (fun h13 => ?_)
        · try simp only [tst] at h13
          refine Ad (Af .n (.t rfl) rfl <| AW ([45] : List Int) (f := V.int .u8) (l := 203) .n rfl rfl (.cons (.c rfl) .nil) rfl si_22 zv_5 rfl rfl rfl <| CD (xs := x1.1) (ys := ([45] : List Int)) (f := V.int .u8) (l := 204) .n rfl (.ow (.t rfl) rfl (take_all (by simp only [len_map, put_len] <;> rfl)) (by simp only [len_map, put_len] <;> rfl)) (.ow (.t rfl) rfl (take_all (by simp only [len_map, put_len] <;> rfl)) (by simp only [len_map, put_len] <;> rfl)) si_22 zv_5 rfl (by ((have hq := DecI.len (by assumption); first | omega | (simp only [List.length_append, List.length_cons, List.length_nil] at *; omega)))) rfl rfl <| Ag .n (.t rfl) rfl <| Lex.nil) ?_
          exact AY hj12 (x1.1 ++ ([45] : List Int)) (by ((have hq := DecI.len (by assumption); first | omega | (simp only [List.length_append, List.length_cons, List.length_nil] at *; omega)))) (sub_of [] ⟨rfl, trivial⟩ ⟨rfl, trivial⟩ rfl)
        · try simp only [tst] at h13
          refine Aw ?_
          exact AY hj12 x1.1 (by ((have hq := DecI.len (by assumption); first | omega | (simp only [List.length_append, List.length_cons, List.length_nil] at *; omega)))) (sub_of [(204, 200)] ⟨rfl, trivial⟩ ⟨rfl, trivial⟩ rfl)
    · intro rec1 k1 hk2 x1 i3
      have e27 := i3
      try dsimp only at *
      refine Ae ?_
      refine Ae ?_
      refine Ad (Af .n (.t rfl) rfl <| AK .n (.t rfl) (.c rfl) rfl rfl <| Lex.nil) ?_
      refine As (.t rfl) rfl (fun h4 => ?_) (fun h4 => ?_)
      · try simp only [tst] at h4
        refine Aw ?_
        refine Ae ?_
        refine AC ?_
        refine Ae ?_
        refine Ad (Af .n (.t rfl) rfl <| q_rem .n (.t rfl) (.c rfl) (fun _ => by decide) rfl <| Ag .n (.t rfl) rfl <| Lex.nil) ?_
        refine Ae ?_
        refine Ae ?_
        refine Ad (Af .n (.t rfl) rfl <| AK .n (.t rfl) (.c rfl) rfl rfl <| Lex.nil) ?_
        refine C7 _ _ rfl (fun v5 : Int => True) (fun v5 => ⟨[(0, some (true, .int .i64 n_)), (3, some (true, .os 200 x1.1.length)), (4, some (true, .int .i64 x1.2)), (5, some (true, .int .i64 v5))], [(200, some (.row 5 1 (x1.1.map (V.int .u8))))]⟩) (fun v5 _ => ?_) (fun j6 hj7 => ?_)
        · refine Ad (Af .n (.t rfl) rfl <| Af .n (.t rfl) rfl <| AK .n (.c rfl) (.t rfl) rfl rfl <| q_conv .n (.t rfl) cv_2_5 rfl <| AW ([IntKind.wrap .u8 (IntKind.wrap .i64 (48 + v5))] : List Int) (f := V.int .u8) (l := 201) .n rfl rfl (.cons (.t rfl) .nil) rfl si_22 zv_5 rfl rfl rfl <| CD (xs := x1.1) (ys := ([IntKind.wrap .u8 (IntKind.wrap .i64 (48 + v5))] : List Int)) (f := V.int .u8) (l := 202) .n rfl (.ow (.t rfl) rfl (take_all (by simp only [len_map, put_len] <;> rfl)) (by simp only [len_map, put_len] <;> rfl)) (.ow (.t rfl) rfl (take_all (by simp only [len_map, put_len] <;> rfl)) (by simp only [len_map, put_len] <;> rfl)) si_22 zv_5 rfl (by ((have hq := DecI.len (by assumption); first | omega | (simp only [List.length_append, List.length_cons, List.length_nil] at *; omega)))) rfl rfl <| Ag .n (.t rfl) rfl <| Lex.nil) ?_
          refine AS ?_
          refine Ad (Af .n (.t rfl) rfl <| q_quo .n (.t rfl) (.c rfl) (fun _ => by decide) rfl <| Ag .n (.t rfl) rfl <| Lex.nil) ?_
          exact A6 (x1.1 ++ ([IntKind.wrap .u8 (IntKind.wrap .i64 (48 + v5))] : List Int), IntKind.wrap .i64 (Int.tdiv x1.2 10)) (by (exact DecI.step (by assumption) (by assumption))) (by (exact dec_mu (by assumption) (by assumption))) (sub_of [(200, 202)] ⟨rfl, rfl, rfl, trivial⟩ ⟨rfl, trivial⟩ rfl)
        · refine As (.t rfl) rfl (fun h8 => ?_) (fun h8 => ?_)
          · try simp only [tst] at h8
            refine Ad (Af .n (.t rfl) rfl <| q_neg .n (.t rfl) rfl <| Ag .n (.t rfl) rfl <| Lex.nil) ?_
            exact AY hj7 (IntKind.wrap .i64 (0 - (Int.tmod x1.2 10))) trivial (sub_of [] ⟨rfl, rfl, rfl, rfl, trivial⟩ ⟨rfl, trivial⟩ rfl)
          · try simp only [tst] at h8
            refine Aw ?_
            exact AY hj7 (Int.tmod x1.2 10) trivial (sub_of [] ⟨rfl, rfl, rfl, rfl, trivial⟩ ⟨rfl, trivial⟩ rfl)
      · try simp only [tst] at h4
        refine Ba rfl ?_
        exact AY hk2 (x1.1, x1.2) (by omega) (sub_of [] ⟨rfl, rfl, trivial⟩ ⟨rfl, trivial⟩ rfl)


end Go.Proofs.YtibbfdojcdkopaaGreat
