/-
  THE WALKS: each Go function computes its model. Conditions: as each theorem states them (hp1, hp2 ..).
-/
import Derived.Test.YtibbfdojcdkopaaGreatRefugesWalks3
set_option linter.unusedVariables false
set_option linter.unusedSimpArgs false
set_option linter.unusedSectionVars false
set_option linter.unnecessarySimpa false
namespace Go.Proofs.YtibbfdojcdkopaaGreat
open Go Go.RowKit Go.Proofs Go.Proofs.YtibbfdojcdkopaaGreat.E
/-! ### spec_l20DrawList -/
set_option maxRecDepth 100000 in
set_option maxHeartbeats 4000000 in
theorem c_spec_l20DrawList (s_ : Aj) (m_ : AH) (hp1 : Lim s_ 400000) : Con Tryz.prog 25 [.op 0 0 0 0, .rp [.int .i64 m_.Junctions, .sl 7 (m_.Airways.map Au.v)]] [(0, some (.box 100 [.sl 1 (s_.code.map (V.int .u8)), .int .i64 s_.at_, .int .u64 s_.seed]))] (.os 100 (A8 s_ m_).1.length) ([(100, some (.row 39 4 ((A8 s_ m_).1.map AI.v))), (0, some (.box 100 [.sl 1 ((A8 s_ m_).2.code.map (V.int .u8)), .int .i64 (A8 s_ m_).2.at_, .int .u64 (A8 s_ m_).2.seed]))]) := by
  refine con_intro (out := fun r : (List AI) × Aj => ((.os 100 r.1.length : V), ([(100, some (.row 39 4 (r.1.map AI.v))), (0, some (.box 100 [.sl 1 (r.2.code.map (V.int .u8)), .int .i64 r.2.at_, .int .u64 r.2.seed]))] : List (Nat × Option O)))) (r := (A8 s_ m_)) Tryz.func25 rfl Tryz.ntmps25 rfl ?_
  have hN3 : ((K_3.length : Nat) : Int) = 3 := rfl
  refine BV (t := 1) 1 rfl rfl fun hl => ?_
  have l1 := hl; clear hl; simp only [List.length_map] at l1
  refine Ae ?_
  refine Ad (Ag .n (.c rfl) rfl <| Lex.nil) ?_
  refine Ae ?_
  refine Ad (AW K_3 (f := V.str) (l := 200) .n rfl rfl (.cons (.c rfl) (.cons (.c rfl) (.cons (.c rfl) .nil))) rfl si_103 zv_9 rfl rfl rfl <| Ag .n (.t rfl) rfl <| Lex.nil) ?_
  refine Ae ?_
  refine Ad (AW ([] : List AI) (f := AI.v) (l := 201) .n rfl rfl .nil rfl si_29 zv_39 rfl rfl rfl <| Ag .n (.t rfl) rfl <| Lex.nil) ?_
  refine Ae ?_
  refine Ae ?_
  refine Ad (Ag .n (.c rfl) rfl <| Lex.nil) ?_
  refine AC ?_
  refine Bp (Dd s_ m_) _ _ _ rfl (fun (x1 : (List Int) × Int × Int × (List AI) × Int) => 0 ≤ x1.2.2.2.2 ∧ x1.2.2.2.2 ≤ (K_3.length : Int) ∧ (x1.2.2.2.1.length : Int) + 0 ≤ x1.2.2.2.2 + (([] : List AI).length : Int) ∧ x1.2.2.2.2 ≤ 3 ∧ (x1.2.2.2.1.length : Int) ≤ x1.2.2.2.2 ∧ LimA x1.1 x1.2.1 (400000 + 10 * x1.2.2.2.2)) (fun x1 => 0 ≤ x1.2.2.2.2 ∧ x1.2.2.2.2 ≤ (K_3.length : Int) ∧ (x1.2.2.2.1.length : Int) + 0 ≤ x1.2.2.2.2 + (([] : List AI).length : Int) ∧ x1.2.2.2.2 ≤ 3 ∧ (x1.2.2.2.1.length : Int) ≤ x1.2.2.2.2 ∧ LimA x1.1 x1.2.1 (400000 + 10 * x1.2.2.2.2) ∧ (K_3.length : Int) ≤ x1.2.2.2.2) (fun x1 => ((K_3.length : Int) - x1.2.2.2.2 : Int).toNat) (fun x1 => ⟨[(0, some (true, .op 0 0 0 0)), (1, some (true, .rp [.int .i64 m_.Junctions, .sl 7 (m_.Airways.map Au.v)])), (5, some (true, .os 200 K_3.length)), (6, some (true, .os 201 x1.2.2.2.1.length)), (7, some (true, .int .i64 x1.2.2.2.2))], [(0, some (.box 100 [.sl 1 (x1.1.map (V.int .u8)), .int .i64 x1.2.1, .int .u64 x1.2.2.1])), (200, some (.row 9 1 (K_3.map V.str))), (201, some (.row 39 4 (x1.2.2.2.1.map AI.v)))]⟩) (fun x1 => ⟨[(0, some (true, .op 0 0 0 0)), (6, some (true, .os 201 x1.2.2.2.1.length))], [(0, some (.box 100 [.sl 1 (x1.1.map (V.int .u8)), .int .i64 x1.2.1, .int .u64 x1.2.2.1])), (201, some (.row 39 4 (x1.2.2.2.1.map AI.v)))]⟩) ⟨by (simp only [lens] at * <;> omega), by (simp only [lens] at * <;> omega), by (simp only [lens] at * <;> omega), by (simp only [lens] at * <;> omega), by (simp only [lens] at * <;> omega), by (try dsimp only); (with_reducible (first | apply Lim.mono | apply Lim.out | apply LimA.mono)); (repeat (with_reducible (first | assumption | apply Lim.among | apply Lim.one | apply Lim.pick | apply Lim.one20 | apply Lim.bend20 | apply Lim.list20 | apply Lim.mk))); omega⟩ (by (simp only [lens] at * <;> omega)) (sub_of [] ⟨rfl, rfl, rfl, rfl, rfl, trivial⟩ ⟨rfl, rfl, rfl, trivial⟩ rfl) ?_ ?_
  · intro x1 i6
    obtain ⟨e26, e27, e28, e29, e30, e31, e32⟩ := i6
    try dsimp only at *
    refine Ae ?_
    refine Ae ?_
    refine Ad (Af .n (.t rfl) rfl <| AV (full := false) [(0, 0)] [] .n rfl .f en_22 (.cons (.t rfl) (.cons (.c rfl) .nil)) (.cons (.b (.mutp rfl)) (.cons (.b (.a (.same rfl))) .nil)) (AJ (Aj.mk x1.1 x1.2.1 x1.2.2.1) 20 (by (try dsimp only); (with_reducible (first | apply Lim.mono | apply Lim.out | apply LimA.mono)); (repeat (with_reducible (first | assumption | apply Lim.among | apply Lim.one | apply Lim.pick | apply Lim.one20 | apply Lim.bend20 | apply Lim.list20 | apply Lim.mk))); omega)) ⟨rfl, trivial⟩ rfl rfl (fun h => Bool.noConfusion h) (fun h => Bool.noConfusion h) rfl <| Lex.nil) ?_
    refine AC ?_
    refine Ae ?_
    refine Ad (AK .n (.t rfl) (.c rfl) rfl rfl <| Ag .n (.t rfl) rfl <| Lex.nil) ?_
    refine As (.t rfl) rfl (fun h7 => ?_) (fun h7 => ?_)
    · try simp only [tst] at h7
      refine Ad (Af .n (.t rfl) rfl <| Af .n (.t rfl) rfl <| Af .n (.t rfl) rfl <| AV (full := false) [(0, 0)] [] .n rfl .f en_58 (.cons (.t rfl) (.cons (.c rfl) (.cons (.c rfl) .nil))) (.cons (.b (.mutp rfl)) (.cons (.b (.a (.same rfl))) (.cons (.b (.a (.same rfl))) .nil))) (c_spec_l20DrawOne (Aa (Aj.mk x1.1 x1.2.1 x1.2.2.1) 20).2 ([122, 122] : List UInt8) 0 (by (try dsimp only); (with_reducible (first | apply Lim.mono | apply Lim.out | apply LimA.mono)); (repeat (with_reducible (first | assumption | apply Lim.among | apply Lim.one | apply Lim.pick | apply Lim.one20 | apply Lim.bend20 | apply Lim.list20 | apply Lim.mk))); omega)) ⟨rfl, trivial⟩ rfl rfl (fun h => Bool.noConfusion h) (fun h => Bool.noConfusion h) rfl <| AV (full := false) [(0, 0)] [] .n rfl .f en_60 (.cons (.t rfl) (.cons (.t rfl) .nil)) (.cons (.b (.mutp rfl)) (.cons (.sts rfl) .nil)) (c_spec_l20Bend (AN (Aa (Aj.mk x1.1 x1.2.1 x1.2.2.1) 20).2 ([122, 122] : List UInt8) 0).2 (AN (Aa (Aj.mk x1.1 x1.2.1 x1.2.2.1) 20).2 ([122, 122] : List UInt8) 0).1 (by (try dsimp only); (with_reducible (first | apply Lim.mono | apply Lim.out | apply LimA.mono)); (repeat (with_reducible (first | assumption | apply Lim.among | apply Lim.one | apply Lim.pick | apply Lim.one20 | apply Lim.bend20 | apply Lim.list20 | apply Lim.mk))); omega)) ⟨rfl, trivial⟩ rfl rfl (fun h => Bool.noConfusion h) (fun h => Bool.noConfusion h) rfl <| AW ([(BI (AN (Aa (Aj.mk x1.1 x1.2.1 x1.2.2.1) 20).2 ([122, 122] : List UInt8) 0).2 (AN (Aa (Aj.mk x1.1 x1.2.1 x1.2.2.1) 20).2 ([122, 122] : List UInt8) 0).1).1] : List AI) (f := AI.v) (l := 204) .n rfl rfl (.cons (.t rfl) .nil) rfl si_29 zv_39 rfl rfl rfl <| CD (xs := x1.2.2.2.1) (ys := ([(BI (AN (Aa (Aj.mk x1.1 x1.2.1 x1.2.2.1) 20).2 ([122, 122] : List UInt8) 0).2 (AN (Aa (Aj.mk x1.1 x1.2.1 x1.2.2.1) 20).2 ([122, 122] : List UInt8) 0).1).1] : List AI)) (f := AI.v) (l := 205) .n rfl (.ow (.t rfl) rfl (take_all (by simp only [len_map, put_len] <;> rfl)) (by simp only [len_map, put_len] <;> rfl)) (.ow (.t rfl) rfl (take_all (by simp only [len_map, put_len] <;> rfl)) (by simp only [len_map, put_len] <;> rfl)) si_29 zv_39 rfl (by (simp only [lens] at * <;> omega)) rfl rfl <| Ag .n (.t rfl) rfl <| Lex.nil) ?_
      refine AS ?_
      refine Ae ?_
      refine Ad (Af .n (.t rfl) rfl <| Ag .n (.t rfl) rfl <| Lex.nil) ?_
      exact Ay [(100, 205)] (.cons (.t rfl rfl) .nil) (by first | rfl | (simp only [put_len]; rfl)) ⟨rfl, rfl, trivial⟩ rfl
    · try simp only [tst] at h7
      refine Ae ?_
      refine Ad (AK .n (.t rfl) (.c rfl) rfl rfl <| Ag .n (.t rfl) rfl <| Lex.nil) ?_
      refine As (.t rfl) rfl (fun h8 => ?_) (fun h8 => ?_)
      · try simp only [tst] at h8
        refine Ae ?_
        refine Ad (Af .n (.t rfl) rfl <| AW ([8, 9] : List Int) (f := V.int .i64) (l := 206) .n rfl rfl (.cons (.c rfl) (.cons (.c rfl) .nil)) rfl si_27 zv_2 rfl rfl rfl <| AV (full := false) [(0, 0), (1, 206)] [] .n rfl .f en_24 (.cons (.t rfl) (.cons (.t rfl) .nil)) (.cons (.b (.mutp rfl)) (.cons (.b (.muts rfl)) .nil)) (A1 (Aa (Aj.mk x1.1 x1.2.1 x1.2.2.1) 20).2 ([8, 9] : List Int) (by (try dsimp only); (with_reducible (first | apply Lim.mono | apply Lim.out | apply LimA.mono)); (repeat (with_reducible (first | assumption | apply Lim.among | apply Lim.one | apply Lim.pick | apply Lim.one20 | apply Lim.bend20 | apply Lim.list20 | apply Lim.mk))); omega) (by (simp only [lens] at * <;> omega))) ⟨rfl, rfl, trivial⟩ rfl rfl (fun h => Bool.noConfusion h) (fun h => Bool.noConfusion h) rfl <| Ag .n (.t rfl) rfl <| Lex.nil) ?_
        refine Ae ?_
        refine Ad (AW ([] : List AI) (f := AI.v) (l := 207) .n rfl rfl .nil rfl si_29 zv_39 rfl rfl rfl <| Ag .n (.t rfl) rfl <| Lex.nil) ?_
        refine Ae ?_
        refine Ad (Ag .n (.c rfl) rfl <| Lex.nil) ?_
        refine AC ?_
        refine Bp (Dc s_ m_ x1) _ _ _ rfl (fun (x2 : (List Int) × Int × Int × (List AI) × Int) => 0 ≤ x2.2.2.2.2 ∧ x2.2.2.2.2 ≤ (Ak (Aa (Aj.mk x1.1 x1.2.1 x1.2.2.1) 20).2 ([8, 9] : List Int)).1 ∧ (x2.2.2.2.1.length : Int) + 0 ≤ x2.2.2.2.2 + (([] : List AI).length : Int) ∧ (x2.2.2.2.1.length : Int) = x2.2.2.2.2 ∧ x2.2.2.2.2 ≤ 9 ∧ LimA x2.1 x2.2.1 (400050 + 4 * x2.2.2.2.2)) (fun x2 => 0 ≤ x2.2.2.2.2 ∧ x2.2.2.2.2 ≤ (Ak (Aa (Aj.mk x1.1 x1.2.1 x1.2.2.1) 20).2 ([8, 9] : List Int)).1 ∧ (x2.2.2.2.1.length : Int) + 0 ≤ x2.2.2.2.2 + (([] : List AI).length : Int) ∧ (x2.2.2.2.1.length : Int) = x2.2.2.2.2 ∧ x2.2.2.2.2 ≤ 9 ∧ LimA x2.1 x2.2.1 (400050 + 4 * x2.2.2.2.2) ∧ (Ak (Aa (Aj.mk x1.1 x1.2.1 x1.2.2.1) 20).2 ([8, 9] : List Int)).1 ≤ x2.2.2.2.2) (fun x2 => ((Ak (Aa (Aj.mk x1.1 x1.2.1 x1.2.2.1) 20).2 ([8, 9] : List Int)).1 - x2.2.2.2.2 : Int).toNat) (fun x2 => ⟨[(0, some (true, .op 0 0 0 0)), (6, some (true, .os 207 x2.2.2.2.1.length)), (8, some (true, .int .i64 (Ak (Aa (Aj.mk x1.1 x1.2.1 x1.2.2.1) 20).2 ([8, 9] : List Int)).1)), (9, some (true, .int .i64 x2.2.2.2.2))], [(0, some (.box 100 [.sl 1 (x2.1.map (V.int .u8)), .int .i64 x2.2.1, .int .u64 x2.2.2.1])), (207, some (.row 39 4 (x2.2.2.2.1.map AI.v)))]⟩) (fun x2 => ⟨[(6, some (true, .os 207 x2.2.2.2.1.length))], [(0, some (.box 100 [.sl 1 (x2.1.map (V.int .u8)), .int .i64 x2.2.1, .int .u64 x2.2.2.1])), (207, some (.row 39 4 (x2.2.2.2.1.map AI.v)))]⟩) ⟨by (simp only [lens] at * <;> omega), by ((have hM := among_rng (x := 8) (y := 9) (Lim.pick (k := 20) (Lim.mk (c := x1.1) (a := x1.2.1) (b := x1.2.2.1) (by assumption))) (by decide); (try dsimp only); (try simp only [List.length_append, List.length_cons, List.length_nil]); omega)), by (simp only [lens] at * <;> omega), by (simp only [lens] at * <;> omega), by (simp only [lens] at * <;> omega), by (try dsimp only); (with_reducible (first | apply Lim.mono | apply Lim.out | apply LimA.mono)); (repeat (with_reducible (first | assumption | apply Lim.among | apply Lim.one | apply Lim.pick | apply Lim.one20 | apply Lim.bend20 | apply Lim.list20 | apply Lim.mk))); omega⟩ (by (simp only [lens] at * <;> omega)) (sub_of [] ⟨rfl, rfl, rfl, rfl, trivial⟩ ⟨rfl, rfl, trivial⟩ rfl) ?_ ?_
        · intro x2 i12
          obtain ⟨e13, e14, e15, e16, e17, e18, e19⟩ := i12
          try dsimp only at *
          refine AS ?_
          refine Ae ?_
          refine Ad (Af .n (.t rfl) rfl <| Ag .n (.t rfl) rfl <| Lex.nil) ?_
          exact Ay [(100, 207)] (.cons (.t rfl rfl) .nil) (by first | rfl | (simp only [put_len]; rfl)) ⟨rfl, rfl, trivial⟩ rfl
        · intro rec2 k2 hk9 x2 i10
          obtain ⟨e20, e21, e22, e23, e24, e25⟩ := i10
          try dsimp only at *
          refine Ae ?_
          refine Ae ?_
          refine Ad (Af .n (.t rfl) rfl <| Af .n (.t rfl) rfl <| AK .n (.t rfl) (.t rfl) rfl rfl <| Lex.nil) ?_
          refine As (.t rfl) rfl (fun h11 => ?_) (fun h11 => ?_)
          · try simp only [tst] at h11
            refine Aw ?_
            refine Ae ?_
            refine AC ?_
            refine Ad (Af .n (.t rfl) rfl <| Af .n (.t rfl) rfl <| Af .n (.t rfl) rfl <| AR (full := false) .n .f en_61 (.cons (.t rfl) .nil) (.cons (.b (.a (.same rfl))) .nil) (fun hg => c_spec_l01Dec x2.2.2.2.2 (by omega)) rfl (fun h => Bool.noConfusion h) rfl <| q_strcat .n (.c rfl) (.t rfl) (fun _ => by ((have hM := among_rng (x := 8) (y := 9) (Lim.pick (k := 20) (Lim.mk (c := x1.1) (a := x1.2.1) (b := x1.2.2.1) (by assumption))) (by decide); have hd := dec_le (n := x2.2.2.2.2) (by omega); (try simp only [List.length_append, List.length_cons, List.length_nil]); omega))) rfl <| AV (full := false) [(0, 0)] [] .n rfl .f en_58 (.cons (.t rfl) (.cons (.t rfl) (.cons (.c rfl) .nil))) (.cons (.b (.mutp rfl)) (.cons (.b (.a (.same rfl))) (.cons (.b (.a (.same rfl))) .nil))) (c_spec_l20DrawOne (Aj.mk x2.1 x2.2.1 x2.2.2.1) (K_8 ++ (BE x2.2.2.2.2)) 0 (by (try dsimp only); (with_reducible (first | apply Lim.mono | apply Lim.out | apply LimA.mono)); (repeat (with_reducible (first | assumption | apply Lim.among | apply Lim.one | apply Lim.pick | apply Lim.one20 | apply Lim.bend20 | apply Lim.list20 | apply Lim.mk))); omega)) ⟨rfl, trivial⟩ rfl rfl (fun h => Bool.noConfusion h) (fun h => Bool.noConfusion h) rfl <| AW ([(AN (Aj.mk x2.1 x2.2.1 x2.2.2.1) (K_8 ++ (BE x2.2.2.2.2)) 0).1] : List AI) (f := AI.v) (l := 208) .n rfl rfl (.cons (.t rfl) .nil) rfl si_29 zv_39 rfl rfl rfl <| CD (xs := x2.2.2.2.1) (ys := ([(AN (Aj.mk x2.1 x2.2.1 x2.2.2.1) (K_8 ++ (BE x2.2.2.2.2)) 0).1] : List AI)) (f := AI.v) (l := 209) .n rfl (.ow (.t rfl) rfl (take_all (by simp only [len_map, put_len] <;> rfl)) (by simp only [len_map, put_len] <;> rfl)) (.ow (.t rfl) rfl (take_all (by simp only [len_map, put_len] <;> rfl)) (by simp only [len_map, put_len] <;> rfl)) si_29 zv_39 rfl (by (simp only [lens] at * <;> omega)) rfl rfl <| Ag .n (.t rfl) rfl <| Lex.nil) ?_
            refine AS ?_
            refine Ad (Af .n (.t rfl) rfl <| BQ .n (.t rfl) (.c rfl) (fun _ => by omega) rfl <| Ag .n (.t rfl) rfl <| Lex.nil) ?_
            exact A6 ((AN (Aj.mk x2.1 x2.2.1 x2.2.2.1) (K_8 ++ (BE x2.2.2.2.2)) 0).2.code, (AN (Aj.mk x2.1 x2.2.1 x2.2.2.1) (K_8 ++ (BE x2.2.2.2.2)) 0).2.at_, (AN (Aj.mk x2.1 x2.2.1 x2.2.2.1) (K_8 ++ (BE x2.2.2.2.2)) 0).2.seed, x2.2.2.2.1 ++ ([(AN (Aj.mk x2.1 x2.2.1 x2.2.2.1) (K_8 ++ (BE x2.2.2.2.2)) 0).1] : List AI), x2.2.2.2.2 + 1) ⟨by (simp only [lens] at * <;> omega), by assumption, by (simp only [lens] at * <;> omega), by (simp only [lens] at * <;> omega), by ((have hM := among_rng (x := 8) (y := 9) (Lim.pick (k := 20) (Lim.mk (c := x1.1) (a := x1.2.1) (b := x1.2.2.1) (by assumption))) (by decide); (try dsimp only); (try simp only [List.length_append, List.length_cons, List.length_nil]); omega)), by (try dsimp only); (with_reducible (first | apply Lim.mono | apply Lim.out | apply LimA.mono)); (repeat (with_reducible (first | assumption | apply Lim.among | apply Lim.one | apply Lim.pick | apply Lim.one20 | apply Lim.bend20 | apply Lim.list20 | apply Lim.mk))); omega⟩ (by (simp only [lens] at * <;> omega)) (sub_of [(207, 209)] ⟨rfl, rfl, rfl, rfl, trivial⟩ ⟨rfl, rfl, trivial⟩ rfl)
          · try simp only [tst] at h11
            refine Ba rfl ?_
            exact AY hk9 (x2.1, x2.2.1, x2.2.2.1, x2.2.2.2.1, x2.2.2.2.2) ⟨by omega, by omega, by omega, by omega, by omega, by (try dsimp only); (with_reducible (first | apply Lim.mono | apply Lim.out | apply LimA.mono)); (repeat (with_reducible (first | assumption | apply Lim.among | apply Lim.one | apply Lim.pick | apply Lim.one20 | apply Lim.bend20 | apply Lim.list20 | apply Lim.mk))); omega, by omega⟩ (sub_of [] ⟨rfl, trivial⟩ ⟨rfl, rfl, trivial⟩ rfl)
      · try simp only [tst] at h8
        refine Aw ?_
        refine AS ?_
        refine Ae ?_
        refine Ad (Af .n (.t rfl) rfl <| Ag .n (.t rfl) rfl <| Lex.nil) ?_
        exact Ay [(100, 201)] (.cons (.t rfl rfl) .nil) (by first | rfl | (simp only [put_len]; rfl)) ⟨rfl, rfl, trivial⟩ rfl
  · intro rec1 k1 hk2 x1 i3
    obtain ⟨e33, e34, e35, e36, e37, e38⟩ := i3
    try dsimp only at *
    refine Ae ?_
    refine Ae ?_
    refine Ad (Af .n (.t rfl) rfl <| Af .n (.t rfl) rfl <| BD .n (.t rfl) rfl rfl ss_103 rfl <| AK .n (.t rfl) (.t rfl) rfl rfl <| Lex.nil) ?_
    refine As (.t rfl) rfl (fun h4 => ?_) (fun h4 => ?_)
    · try simp only [tst] at h4
      refine Aw ?_
      refine Ae ?_
      refine AC ?_
      refine Ae ?_
      refine Ad (Af .n (.t rfl) rfl <| AV (full := false) [(0, 0)] [] .n rfl .f en_23 (.cons (.t rfl) (.cons (.c rfl) .nil)) (.cons (.b (.mutp rfl)) (.cons (.b (.a (.same rfl))) .nil)) (BS (Aj.mk x1.1 x1.2.1 x1.2.2.1) 3 (by (try dsimp only); (with_reducible (first | apply Lim.mono | apply Lim.out | apply LimA.mono)); (repeat (with_reducible (first | assumption | apply Lim.among | apply Lim.one | apply Lim.pick | apply Lim.one20 | apply Lim.bend20 | apply Lim.list20 | apply Lim.mk))); omega)) ⟨rfl, trivial⟩ rfl rfl (fun h => Bool.noConfusion h) (fun h => Bool.noConfusion h) rfl <| Cr .n (.t rfl) rfl <| Lex.nil) ?_
      refine As (.t rfl) rfl (fun h5 => ?_) (fun h5 => ?_)
      · try simp only [tst] at h5
        refine Bl fmo (Af .n (.t rfl) rfl <| Af .n (.t rfl) rfl <| Af .n (.t rfl) rfl <| Af .n (.t rfl) rfl <| AX .n (.t rfl) (.t rfl) sl_103 (fun _ => by omega) rfl <| A3 .n (.t rfl) rfl (fun _ => by omega) rfl rfl rfl ic_9 rfl <| Af .n (.t rfl) rfl <| Af .n (.t rfl) rfl <| AG .n (.t rfl) rfl <| AM .n (.t rfl) fo_26_0 rfl <| Az .n (.t rfl) rfl ic_2 rfl <| AR (full := false) .n .f en_59 (.cons (.c rfl) (.cons (.t rfl) .nil)) (.cons (.b (.a (.same rfl))) (.cons (.b (.a (.same rfl))) .nil)) (fun hg => Dj 1 m_.Junctions) rfl (fun h => Bool.noConfusion h) rfl <| AV (full := false) [(0, 0)] [] .n rfl .f en_22 (.cons (.t rfl) (.cons (.t rfl) .nil)) (.cons (.b (.mutp rfl)) (.cons (.b (.a (.same rfl))) .nil)) (AJ (Ai (Aj.mk x1.1 x1.2.1 x1.2.2.1) 3).2 (AF 1 m_.Junctions) (by (try dsimp only); (with_reducible (first | apply Lim.mono | apply Lim.out | apply LimA.mono)); (repeat (with_reducible (first | assumption | apply Lim.among | apply Lim.one | apply Lim.pick | apply Lim.one20 | apply Lim.bend20 | apply Lim.list20 | apply Lim.mk))); omega)) ⟨rfl, trivial⟩ rfl rfl (fun h => Bool.noConfusion h) (fun h => Bool.noConfusion h) rfl <| AV (full := false) [(0, 0)] [] .n rfl .f en_58 (.cons (.t rfl) (.cons (.t rfl) (.cons (.t rfl) .nil))) (.cons (.b (.mutp rfl)) (.cons (.b (.a (.same rfl))) (.cons (.b (.a (.same rfl))) .nil))) (c_spec_l20DrawOne (Aa (Ai (Aj.mk x1.1 x1.2.1 x1.2.2.1) 3).2 (AF 1 m_.Junctions)).2 (at' K_3 x1.2.2.2.2) (Aa (Ai (Aj.mk x1.1 x1.2.1 x1.2.2.1) 3).2 (AF 1 m_.Junctions)).1 (by (try dsimp only); (with_reducible (first | apply Lim.mono | apply Lim.out | apply LimA.mono)); (repeat (with_reducible (first | assumption | apply Lim.among | apply Lim.one | apply Lim.pick | apply Lim.one20 | apply Lim.bend20 | apply Lim.list20 | apply Lim.mk))); omega)) ⟨rfl, trivial⟩ rfl rfl (fun h => Bool.noConfusion h) (fun h => Bool.noConfusion h) rfl <| AW ([(AN (Aa (Ai (Aj.mk x1.1 x1.2.1 x1.2.2.1) 3).2 (AF 1 m_.Junctions)).2 (at' K_3 x1.2.2.2.2) (Aa (Ai (Aj.mk x1.1 x1.2.1 x1.2.2.1) 3).2 (AF 1 m_.Junctions)).1).1] : List AI) (f := AI.v) (l := 202) .n rfl rfl (.cons (.t rfl) .nil) rfl si_29 zv_39 rfl rfl rfl <| CD (xs := x1.2.2.2.1) (ys := ([(AN (Aa (Ai (Aj.mk x1.1 x1.2.1 x1.2.2.1) 3).2 (AF 1 m_.Junctions)).2 (at' K_3 x1.2.2.2.2) (Aa (Ai (Aj.mk x1.1 x1.2.1 x1.2.2.1) 3).2 (AF 1 m_.Junctions)).1).1] : List AI)) (f := AI.v) (l := 203) .n rfl (.ow (.t rfl) rfl (take_all (by simp only [len_map, put_len] <;> rfl)) (by simp only [len_map, put_len] <;> rfl)) (.ow (.t rfl) rfl (take_all (by simp only [len_map, put_len] <;> rfl)) (by simp only [len_map, put_len] <;> rfl)) si_29 zv_39 rfl (by (simp only [lens] at * <;> omega)) rfl rfl <| Ag .n (.t rfl) rfl <| Lex.nil) (by kernel_rfl) ?_
        refine AS ?_
        refine Ad (Af .n (.t rfl) rfl <| BQ .n (.t rfl) (.c rfl) (fun _ => by omega) rfl <| Ag .n (.t rfl) rfl <| Lex.nil) ?_
        exact A6 ((AN (Aa (Ai (Aj.mk x1.1 x1.2.1 x1.2.2.1) 3).2 (AF 1 m_.Junctions)).2 (at' K_3 x1.2.2.2.2) (Aa (Ai (Aj.mk x1.1 x1.2.1 x1.2.2.1) 3).2 (AF 1 m_.Junctions)).1).2.code, (AN (Aa (Ai (Aj.mk x1.1 x1.2.1 x1.2.2.1) 3).2 (AF 1 m_.Junctions)).2 (at' K_3 x1.2.2.2.2) (Aa (Ai (Aj.mk x1.1 x1.2.1 x1.2.2.1) 3).2 (AF 1 m_.Junctions)).1).2.at_, (AN (Aa (Ai (Aj.mk x1.1 x1.2.1 x1.2.2.1) 3).2 (AF 1 m_.Junctions)).2 (at' K_3 x1.2.2.2.2) (Aa (Ai (Aj.mk x1.1 x1.2.1 x1.2.2.1) 3).2 (AF 1 m_.Junctions)).1).2.seed, x1.2.2.2.1 ++ ([(AN (Aa (Ai (Aj.mk x1.1 x1.2.1 x1.2.2.1) 3).2 (AF 1 m_.Junctions)).2 (at' K_3 x1.2.2.2.2) (Aa (Ai (Aj.mk x1.1 x1.2.1 x1.2.2.1) 3).2 (AF 1 m_.Junctions)).1).1] : List AI), x1.2.2.2.2 + 1) ⟨by (simp only [lens] at * <;> omega), by assumption, by (simp only [lens] at * <;> omega), by assumption, by (simp only [lens] at * <;> omega), by (try dsimp only); (with_reducible (first | apply Lim.mono | apply Lim.out | apply LimA.mono)); (repeat (with_reducible (first | assumption | apply Lim.among | apply Lim.one | apply Lim.pick | apply Lim.one20 | apply Lim.bend20 | apply Lim.list20 | apply Lim.mk))); omega⟩ (by (simp only [lens] at * <;> omega)) (sub_of [(201, 203)] ⟨rfl, rfl, rfl, rfl, rfl, trivial⟩ ⟨rfl, rfl, rfl, trivial⟩ rfl)
      · try simp only [tst] at h5
        refine Aw ?_
        refine AS ?_
        refine Ad (Af .n (.t rfl) rfl <| BQ .n (.t rfl) (.c rfl) (fun _ => by omega) rfl <| Ag .n (.t rfl) rfl <| Lex.nil) ?_
        exact A6 ((Ai (Aj.mk x1.1 x1.2.1 x1.2.2.1) 3).2.code, (Ai (Aj.mk x1.1 x1.2.1 x1.2.2.1) 3).2.at_, (Ai (Aj.mk x1.1 x1.2.1 x1.2.2.1) 3).2.seed, x1.2.2.2.1, x1.2.2.2.2 + 1) ⟨by (simp only [lens] at * <;> omega), by assumption, by (simp only [lens] at * <;> omega), by assumption, by (simp only [lens] at * <;> omega), by (try dsimp only); (with_reducible (first | apply Lim.mono | apply Lim.out | apply LimA.mono)); (repeat (with_reducible (first | assumption | apply Lim.among | apply Lim.one | apply Lim.pick | apply Lim.one20 | apply Lim.bend20 | apply Lim.list20 | apply Lim.mk))); omega⟩ (by (simp only [lens] at * <;> omega)) (sub_of [] ⟨rfl, rfl, rfl, rfl, rfl, trivial⟩ ⟨rfl, rfl, rfl, trivial⟩ rfl)
    · try simp only [tst] at h4
      refine Ba rfl ?_
      exact AY hk2 (x1.1, x1.2.1, x1.2.2.1, x1.2.2.2.1, x1.2.2.2.2) ⟨by omega, by omega, by omega, by omega, by omega, by (try dsimp only); (with_reducible (first | apply Lim.mono | apply Lim.out | apply LimA.mono)); (repeat (with_reducible (first | assumption | apply Lim.among | apply Lim.one | apply Lim.pick | apply Lim.one20 | apply Lim.bend20 | apply Lim.list20 | apply Lim.mk))); omega, by omega⟩ (sub_of [] ⟨rfl, rfl, trivial⟩ ⟨rfl, rfl, trivial⟩ rfl)

/-! ### spec_DrawAssignCrews -/
set_option maxRecDepth 100000 in
set_option maxHeartbeats 4000000 in
theorem c_spec_DrawAssignCrews (code : List Int) (hp1 : ∀ y ∈ code, 0 ≤ y ∧ y ≤ 255) : ConG Tryz.prog 6 [.sl 1 (code.map (V.int .u8))] [] (.tup [.st [.int .i64 (Ac code).1.Junctions, .sl 7 ((Ac code).1.Airways.map Au.v)], .os 100 (Ac code).2.1.length, .int .i64 (Ac code).2.2.1, .os 101 (Ac code).2.2.2.1.length, .os 102 (Ac code).2.2.2.2.1.length, .int .i64 (Ac code).2.2.2.2.2.1, .os 103 (Ac code).2.2.2.2.2.2.1.length, .int .i64 (Ac code).2.2.2.2.2.2.2]) ([(100, some (.row 2 1 ((Ac code).2.1.map (V.int .i64)))), (101, some (.row 37 3 ((Ac code).2.2.2.1.map Bi.v))), (102, some (.row 2 1 ((Ac code).2.2.2.2.1.map (V.int .i64)))), (103, some (.row 39 4 ((Ac code).2.2.2.2.2.2.1.map AI.v)))]) := by
  refine con_introG (out := fun r : AH × (List Int) × Int × (List Bi) × (List Int) × Int × (List AI) × Int => ((.tup [.st [.int .i64 r.1.Junctions, .sl 7 (r.1.Airways.map Au.v)], .os 100 r.2.1.length, .int .i64 r.2.2.1, .os 101 r.2.2.2.1.length, .os 102 r.2.2.2.2.1.length, .int .i64 r.2.2.2.2.2.1, .os 103 r.2.2.2.2.2.2.1.length, .int .i64 r.2.2.2.2.2.2.2] : V), ([(100, some (.row 2 1 (r.2.1.map (V.int .i64)))), (101, some (.row 37 3 (r.2.2.2.1.map Bi.v))), (102, some (.row 2 1 (r.2.2.2.2.1.map (V.int .i64)))), (103, some (.row 39 4 (r.2.2.2.2.2.2.1.map AI.v)))] : List (Nat × Option O)))) (r := (Ac code)) Tryz.func6 rfl Tryz.ntmps6 rfl ?_
  have hF := Lim.from hp1
  have hD := draw19 hF
  have hD1 := hD.air
  have hD2 := hD.arr
  have hC := (draw19l (m := (Ao (Ap code)).1) hD.lim).len
  refine Bo (t := 0) rfl fun hl => ?_
  have l1 := hl; clear hl; simp only [List.length_map] at l1
  refine Ae ?_
  refine Ad (BG (l := 200) .n rfl zv_26 rfl rfl <| Ag .n (.c rfl) rfl <| Ag .n (.c rfl) rfl <| Ag .n (.c rfl) rfl <| Ag .n (.c rfl) rfl <| Ag .n (.c rfl) rfl <| Ag .n (.c rfl) rfl <| Ag .n (.c rfl) rfl <| Lex.nil) ?_
  refine Ae ?_
  refine Ad (Af .n (.t rfl) rfl <| AV (full := false) [] [(100, 201)] .n rfl .f en_19 (.cons (.t rfl) .nil) (.cons (.b (.a (.same rfl))) .nil) (c_spec_l00From code) trivial rfl rfl (fun h => Bool.noConfusion h) (fun h => Bool.noConfusion h) rfl <| Ag .n (.t rfl) rfl <| Lex.nil) ?_
  refine Ae ?_
  refine run_ro <| ro_lex (l1 := [_]) (l2 := [_, _, _, _, _, _, _, _, _, _, _, _, _, _]) rfl (Af .n (.t rfl) rfl <| Lex.nil) <| ro_callGM [(0, 201)] [(100, 202)] .f en_20 (.cons (.t rfl) .nil) (.cons (.b (.mutp rfl)) .nil) (c_spec_l19DrawAll (Ap code) (by (try dsimp only); (with_reducible (first | apply Lim.mono | apply Lim.out | apply LimA.mono)); (repeat (with_reducible (first | assumption | apply Lim.bif1 | apply Lim.bifp | apply Lim.among | apply Lim.one | apply Lim.pick | apply Lim.list19 | apply Lim.all19 | apply Lim.list20 | apply Lim.from | apply Lim.mk))); omega)) ⟨rfl, trivial⟩ rfl rfl rfl rfl rfl <| ro_lex (l1 := [_, _, _, _, _, _, _, _, _, _, _, _, _]) (l2 := []) rfl (Af .n (.t rfl) rfl <| C3 .n (.t rfl) rfl rfl rfl <| C3 .n (.t rfl) rfl rfl rfl <| C3 .n (.t rfl) rfl rfl rfl <| C3 .n (.t rfl) rfl rfl rfl <| C3 .n (.t rfl) rfl rfl rfl <| BG (l := 203) .n rfl zv_26 rfl rfl <| BG (l := 204) .n rfl zv_37 rfl rfl <| AL [.int .i64 (Ao (Ap code)).1.Junctions, .sl 7 ((Ao (Ap code)).1.Airways.map Au.v)] .n rfl (.t rfl) (.t rfl) rfl ts_26 rfl rfl <| Ag .n (.t rfl) rfl <| Ag .n (.t rfl) rfl <| AL [.str (Ao (Ap code)).2.2.2.1.Id, .int .i64 (Ao (Ap code)).2.2.2.1.Junction, .int .i64 (Ao (Ap code)).2.2.2.1.Speed] .n rfl (.t rfl) (.t rfl) rfl ts_37 rfl rfl <| Ag .n (.t rfl) rfl <| Lex.nil) <| ro_end ?_
  refine Ae ?_
  refine run_freezeB (t := 11) rfl rfl rfl rfl ?_
  refine Ad (Af .n (.t rfl) rfl <| AV (full := false) [(0, 201)] [(100, 206)] .n rfl .f en_21 (.cons (.t rfl) (.cons (.t rfl) .nil)) (.cons (.b (.mutp rfl)) (.cons (.b (.a (.same rfl))) .nil)) (c_spec_l19DrawList (Ao (Ap code)).2.2.2.2.2 (Ao (Ap code)).1 (by (try dsimp only); (with_reducible (first | apply Lim.mono | apply Lim.out | apply LimA.mono)); (repeat (with_reducible (first | assumption | apply Lim.bif1 | apply Lim.bifp | apply Lim.among | apply Lim.one | apply Lim.pick | apply Lim.list19 | apply Lim.all19 | apply Lim.list20 | apply Lim.from | apply Lim.mk))); omega)) ⟨rfl, trivial⟩ rfl rfl (fun h => Bool.noConfusion h) (fun h => Bool.noConfusion h) rfl <| Ag .n (.t rfl) rfl <| Lex.nil) ?_
  refine Ae ?_
  refine Ad (AW K_6 (f := V.int .i64) (l := 207) .n rfl rfl .nil rfl si_27 zv_2 rfl rfl rfl <| Ag .n (.t rfl) rfl <| Lex.nil) ?_
  refine Ae ?_
  refine Ae ?_
  refine Ad (Ag .n (.c rfl) rfl <| Lex.nil) ?_
  refine AC ?_
  refine Dm (Dp code) _ _ _ rfl (fun (x1 : (List Int) × Int × Int × (List Int) × Int) => 0 ≤ x1.2.2.2.2 ∧ x1.2.2.2.2 ≤ ((AZ (Ao (Ap code)).2.2.2.2.2 (Ao (Ap code)).1).1.length : Int) ∧ (x1.2.2.2.1.length : Int) + 0 ≤ x1.2.2.2.2 + (K_6.length : Int) ∧ (x1.2.2.2.1.length : Int) = x1.2.2.2.2 ∧ LimA x1.1 x1.2.1 (2000 + 2 * x1.2.2.2.2)) (fun x1 => 0 ≤ x1.2.2.2.2 ∧ x1.2.2.2.2 ≤ ((AZ (Ao (Ap code)).2.2.2.2.2 (Ao (Ap code)).1).1.length : Int) ∧ (x1.2.2.2.1.length : Int) + 0 ≤ x1.2.2.2.2 + (K_6.length : Int) ∧ (x1.2.2.2.1.length : Int) = x1.2.2.2.2 ∧ LimA x1.1 x1.2.1 (2000 + 2 * x1.2.2.2.2) ∧ ((AZ (Ao (Ap code)).2.2.2.2.2 (Ao (Ap code)).1).1.length : Int) ≤ x1.2.2.2.2) (fun x1 => (((AZ (Ao (Ap code)).2.2.2.2.2 (Ao (Ap code)).1).1.length : Int) - x1.2.2.2.2 : Int).toNat) (fun x1 => ⟨[(2, some (true, .op 200 0 0 0)), (10, some (true, .op 201 0 0 0)), (11, some (true, .rp [.int .i64 (Ao (Ap code)).1.Junctions, .sl 7 ((Ao (Ap code)).1.Airways.map Au.v)])), (12, some (true, .os 202 (Ao (Ap code)).2.1.length)), (13, some (true, .int .i64 (Ao (Ap code)).2.2.1)), (15, some (true, .int .i64 (Ao (Ap code)).2.2.2.2.1)), (16, some (true, .os 206 (AZ (Ao (Ap code)).2.2.2.2.2 (Ao (Ap code)).1).1.length)), (17, some (true, .os 207 x1.2.2.2.1.length)), (18, some (true, .int .i64 x1.2.2.2.2))], [(200, some (.box 26 [.int .i64 0, .nls])), (201, some (.box 100 [.sl 1 (x1.1.map (V.int .u8)), .int .i64 x1.2.1, .int .u64 x1.2.2.1])), (202, some (.row 2 1 ((Ao (Ap code)).2.1.map (V.int .i64)))), (206, some (.row 37 3 ((AZ (Ao (Ap code)).2.2.2.2.2 (Ao (Ap code)).1).1.map Bi.v))), (207, some (.row 2 1 (x1.2.2.2.1.map (V.int .i64))))]⟩) (fun x1 => ⟨[(2, some (true, .op 200 0 0 0)), (10, some (true, .op 201 0 0 0)), (11, some (true, .rp [.int .i64 (Ao (Ap code)).1.Junctions, .sl 7 ((Ao (Ap code)).1.Airways.map Au.v)])), (12, some (true, .os 202 (Ao (Ap code)).2.1.length)), (13, some (true, .int .i64 (Ao (Ap code)).2.2.1)), (15, some (true, .int .i64 (Ao (Ap code)).2.2.2.2.1)), (16, some (true, .os 206 (AZ (Ao (Ap code)).2.2.2.2.2 (Ao (Ap code)).1).1.length)), (17, some (true, .os 207 x1.2.2.2.1.length))], [(200, some (.box 26 [.int .i64 0, .nls])), (201, some (.box 100 [.sl 1 (x1.1.map (V.int .u8)), .int .i64 x1.2.1, .int .u64 x1.2.2.1])), (202, some (.row 2 1 ((Ao (Ap code)).2.1.map (V.int .i64)))), (206, some (.row 37 3 ((AZ (Ao (Ap code)).2.2.2.2.2 (Ao (Ap code)).1).1.map Bi.v))), (207, some (.row 2 1 (x1.2.2.2.1.map (V.int .i64))))]⟩) ⟨by (simp only [lens] at * <;> omega), by (simp only [lens] at * <;> omega), by (simp only [lens] at * <;> omega), by (simp only [lens] at * <;> omega), by (try dsimp only); (with_reducible (first | apply Lim.mono | apply Lim.out | apply LimA.mono)); (repeat (with_reducible (first | assumption | apply Lim.bif1 | apply Lim.bifp | apply Lim.among | apply Lim.one | apply Lim.pick | apply Lim.list19 | apply Lim.all19 | apply Lim.list20 | apply Lim.from | apply Lim.mk))); omega⟩ (by (simp only [lens] at * <;> omega)) (sub_of [] ⟨rfl, rfl, rfl, rfl, rfl, rfl, rfl, rfl, rfl, trivial⟩ ⟨rfl, rfl, rfl, rfl, rfl, trivial⟩ rfl) rfl ?_ ?_
  · intro x1 i5
    obtain ⟨e17, e18, e19, e20, e21, e22⟩ := i5
    try dsimp only at *
    refine Ae ?_
    refine Ae ?_
    refine Ad (Af .n (.t rfl) rfl <| BD .n (.t rfl) rfl rfl ss_27 rfl <| AK .n (.t rfl) (.c rfl) rfl rfl <| Af .n (.t rfl) rfl <| Af (.t rfl rfl) (.t rfl) rfl <| q_callGM (full := false) (m0 := 0) (L := 201) (v := .bool (Ai (Aj.mk x1.1 x1.2.1 x1.2.2.1) 14).1) (o' := .box 100 [.sl 1 ((bif (decide (0 < (x1.2.2.2.1.length : Int))) then (Ai (Aj.mk x1.1 x1.2.1 x1.2.2.1) 14).2 else (Aj.mk x1.1 x1.2.1 x1.2.2.1)).code.map (V.int .u8)), .int .i64 (bif (decide (0 < (x1.2.2.2.1.length : Int))) then (Ai (Aj.mk x1.1 x1.2.1 x1.2.2.1) 14).2 else (Aj.mk x1.1 x1.2.1 x1.2.2.1)).at_, .int .u64 (bif (decide (0 < (x1.2.2.2.1.length : Int))) then (Ai (Aj.mk x1.1 x1.2.1 x1.2.2.1) 14).2 else (Aj.mk x1.1 x1.2.1 x1.2.2.1)).seed]) (.t rfl rfl) (fun hg => .f) en_23 (fun hg => (.cons (.u rfl (fun _ => id hg)) (.cons (.c rfl) .nil))) (.cons (.b (.mutp rfl)) (.cons (.b (.a (.same rfl))) .nil)) (fun hg => BS (Aj.mk x1.1 x1.2.1 x1.2.2.1) 14 (by (try dsimp only); (with_reducible (first | apply Lim.mono | apply Lim.out | apply LimA.mono)); (repeat (with_reducible (first | assumption | apply Lim.bif1 | apply Lim.bifp | apply Lim.among | apply Lim.one | apply Lim.pick | apply Lim.list19 | apply Lim.all19 | apply Lim.list20 | apply Lim.from | apply Lim.mk))); omega)) ⟨rfl, trivial⟩ rfl (fun h => Bool.noConfusion h) (fun h => Bool.noConfusion h) rfl (fun hg => by simp only [Bool.true_and] at hg; rw [hg]; exact ⟨rfl, rfl⟩) (fun hg => by simp only [Bool.true_and] at hg; rw [hg]; rfl) <| Cz .n (.t rfl) (.u rfl id) rfl <| Lex.nil) ?_
    refine C7 _ _ rfl (fun v6 : (List Int) × Int × Int × (List Int) => LimA v6.1 v6.2.1 2100 ∧ v6.2.2.2.length ≤ 10) (fun v6 => ⟨[(2, some (true, .op 200 0 0 0)), (10, some (true, .op 201 0 0 0)), (11, some (true, .rp [.int .i64 (Ao (Ap code)).1.Junctions, .sl 7 ((Ao (Ap code)).1.Airways.map Au.v)])), (12, some (true, .os 202 (Ao (Ap code)).2.1.length)), (13, some (true, .int .i64 (Ao (Ap code)).2.2.1)), (15, some (true, .int .i64 (Ao (Ap code)).2.2.2.2.1)), (16, some (true, .os 206 (AZ (Ao (Ap code)).2.2.2.2.2 (Ao (Ap code)).1).1.length)), (17, some (true, .os 207 v6.2.2.2.length))], [(200, some (.box 26 [.int .i64 0, .nls])), (201, some (.box 100 [.sl 1 (v6.1.map (V.int .u8)), .int .i64 v6.2.1, .int .u64 v6.2.2.1])), (202, some (.row 2 1 ((Ao (Ap code)).2.1.map (V.int .i64)))), (206, some (.row 37 3 ((AZ (Ao (Ap code)).2.2.2.2.2 (Ao (Ap code)).1).1.map Bi.v))), (207, some (.row 2 1 (v6.2.2.2.map (V.int .i64))))]⟩) (fun v6 hv14 => ?_) (fun j7 hj8 => ?_)
    · obtain ⟨e15, e16⟩ := hv14
      refine Ae ?_
      refine Ad (Af .n (.t rfl) rfl <| AV (full := false) [(0, 201)] [(100, 211)] .n rfl .f en_25 (.cons (.t rfl) (.cons (.t rfl) .nil)) (.cons (.b (.mutp rfl)) (.cons (.b (.a (.same rfl))) .nil)) (c_spec_l20DrawList (Aj.mk v6.1 v6.2.1 v6.2.2.1) (Ao (Ap code)).1 (by (try dsimp only); (with_reducible (first | apply Lim.mono | apply Lim.out | apply LimA.mono)); (repeat (with_reducible (first | assumption | apply Lim.bif1 | apply Lim.bifp | apply Lim.among | apply Lim.one | apply Lim.pick | apply Lim.list19 | apply Lim.all19 | apply Lim.list20 | apply Lim.from | apply Lim.mk))); omega)) ⟨rfl, trivial⟩ rfl rfl (fun h => Bool.noConfusion h) (fun h => Bool.noConfusion h) rfl <| Ag .n (.t rfl) rfl <| Lex.nil) ?_
      refine Ae ?_
      refine Ad (Af .n (.t rfl) rfl <| AV (full := false) [(0, 201)] [] .n rfl .f en_22 (.cons (.t rfl) (.cons (.c rfl) .nil)) (.cons (.b (.mutp rfl)) (.cons (.b (.a (.same rfl))) .nil)) (AJ (A8 (Aj.mk v6.1 v6.2.1 v6.2.2.1) (Ao (Ap code)).1).2 400 (by (try dsimp only); (with_reducible (first | apply Lim.mono | apply Lim.out | apply LimA.mono)); (repeat (with_reducible (first | assumption | apply Lim.bif1 | apply Lim.bifp | apply Lim.among | apply Lim.one | apply Lim.pick | apply Lim.list19 | apply Lim.all19 | apply Lim.list20 | apply Lim.from | apply Lim.mk))); omega)) ⟨rfl, trivial⟩ rfl rfl (fun h => Bool.noConfusion h) (fun h => Bool.noConfusion h) rfl <| AK .n (.t rfl) (.c rfl) rfl rfl <| Ag .n (.t rfl) rfl <| Lex.nil) ?_
      refine Ae ?_
      refine Ae ?_
      refine Ad (Af .n (.t rfl) rfl <| AV (full := false) [(0, 201)] [] .n rfl .f en_23 (.cons (.t rfl) (.cons (.c rfl) .nil)) (.cons (.b (.mutp rfl)) (.cons (.b (.a (.same rfl))) .nil)) (BS (Aa (A8 (Aj.mk v6.1 v6.2.1 v6.2.2.1) (Ao (Ap code)).1).2 400).2 6 (by (try dsimp only); (with_reducible (first | apply Lim.mono | apply Lim.out | apply LimA.mono)); (repeat (with_reducible (first | assumption | apply Lim.bif1 | apply Lim.bifp | apply Lim.among | apply Lim.one | apply Lim.pick | apply Lim.list19 | apply Lim.all19 | apply Lim.list20 | apply Lim.from | apply Lim.mk))); omega)) ⟨rfl, trivial⟩ rfl rfl (fun h => Bool.noConfusion h) (fun h => Bool.noConfusion h) rfl <| Lex.nil) ?_
      refine C7 _ _ rfl (fun v10 : Int => True) (fun v10 => ⟨[(2, some (true, .op 200 0 0 0)), (11, some (true, .rp [.int .i64 (Ao (Ap code)).1.Junctions, .sl 7 ((Ao (Ap code)).1.Airways.map Au.v)])), (12, some (true, .os 202 (Ao (Ap code)).2.1.length)), (13, some (true, .int .i64 (Ao (Ap code)).2.2.1)), (15, some (true, .int .i64 (Ao (Ap code)).2.2.2.2.1)), (16, some (true, .os 206 (AZ (Ao (Ap code)).2.2.2.2.2 (Ao (Ap code)).1).1.length)), (17, some (true, .os 207 v6.2.2.2.length)), (19, some (true, .os 211 (A8 (Aj.mk v6.1 v6.2.1 v6.2.2.1) (Ao (Ap code)).1).1.length)), (20, some (true, .int .i64 v10))], [(200, some (.box 26 [.int .i64 0, .nls])), (202, some (.row 2 1 ((Ao (Ap code)).2.1.map (V.int .i64)))), (206, some (.row 37 3 ((AZ (Ao (Ap code)).2.2.2.2.2 (Ao (Ap code)).1).1.map Bi.v))), (207, some (.row 2 1 (v6.2.2.2.map (V.int .i64)))), (211, some (.row 39 4 ((A8 (Aj.mk v6.1 v6.2.1 v6.2.2.1) (Ao (Ap code)).1).1.map AI.v)))]⟩) (fun v10 _ => ?_) (fun j11 hj12 => ?_)
      · refine Ae ?_
        refine Ad (Dq .n (.t rfl) ag_26 rfl rfl rfl <| Af .n (.t rfl) rfl <| Af .n (.t rfl) rfl <| Af .n (.t rfl) rfl <| Af .n (.t rfl) rfl <| Af .n (.t rfl) rfl <| Af .n (.t rfl) rfl <| Af .n (.t rfl) rfl <| AL [.int .i64 (Ao (Ap code)).1.Junctions, .sl 7 ((Ao (Ap code)).1.Airways.map Au.v)] .n rfl (.t rfl) (.t rfl) rfl ts_26 rfl rfl <| Ag .n (.t rfl) rfl <| Ag .n (.t rfl) rfl <| Ag .n (.t rfl) rfl <| Ag .n (.t rfl) rfl <| Ag .n (.t rfl) rfl <| Ag .n (.t rfl) rfl <| Ag .n (.t rfl) rfl <| Lex.nil) ?_
        exact Ay [(100, 202), (101, 206), (102, 207), (103, 211)] (.cons (.cN rfl rfl ag_26 rfl rfl) (.cons (.t rfl rfl) (.cons (.t rfl rfl) (.cons (.t rfl rfl) (.cons (.t rfl rfl) (.cons (.t rfl rfl) (.cons (.t rfl rfl) (.cons (.t rfl rfl) .nil)))))))) (by first | rfl | (simp only [put_len]; rfl)) ⟨rfl, rfl, rfl, rfl, trivial⟩ rfl
      · refine As (.t rfl) rfl (fun h13 => ?_) (fun h13 => ?_)
        · try simp only [tst] at h13
          refine Ad (Af .n (.t rfl) rfl <| AW ([0, 1, 4, 20000, 20001] : List Int) (f := V.int .i64) (l := 212) .n rfl rfl (.cons (.c rfl) (.cons (.c rfl) (.cons (.c rfl) (.cons (.c rfl) (.cons (.c rfl) .nil))))) rfl si_27 zv_2 rfl rfl rfl <| AV (full := false) [(0, 201), (1, 212)] [] .n rfl .f en_24 (.cons (.t rfl) (.cons (.t rfl) .nil)) (.cons (.b (.mutp rfl)) (.cons (.b (.muts rfl)) .nil)) (A1 (Ai (Aa (A8 (Aj.mk v6.1 v6.2.1 v6.2.2.1) (Ao (Ap code)).1).2 400).2 6).2 ([0, 1, 4, 20000, 20001] : List Int) (by (try dsimp only); (with_reducible (first | apply Lim.mono | apply Lim.out | apply LimA.mono)); (repeat (with_reducible (first | assumption | apply Lim.bif1 | apply Lim.bifp | apply Lim.among | apply Lim.one | apply Lim.pick | apply Lim.list19 | apply Lim.all19 | apply Lim.list20 | apply Lim.from | apply Lim.mk))); omega) (by (simp only [lens] at * <;> omega))) ⟨rfl, rfl, trivial⟩ rfl rfl (fun h => Bool.noConfusion h) (fun h => Bool.noConfusion h) rfl <| Ag .n (.t rfl) rfl <| Lex.nil) ?_
          exact AY hj12 (Ak (Ai (Aa (A8 (Aj.mk v6.1 v6.2.1 v6.2.2.1) (Ao (Ap code)).1).2 400).2 6).2 ([0, 1, 4, 20000, 20001] : List Int)).1 trivial (sub_of [] ⟨rfl, rfl, rfl, rfl, rfl, rfl, rfl, rfl, rfl, trivial⟩ ⟨rfl, rfl, rfl, rfl, rfl, trivial⟩ rfl)
        · try simp only [tst] at h13
          refine Aw ?_
          exact AY hj12 (IntKind.wrap .i64 ((Aa (A8 (Aj.mk v6.1 v6.2.1 v6.2.2.1) (Ao (Ap code)).1).2 400).1 + 1)) trivial (sub_of [] ⟨rfl, rfl, rfl, rfl, rfl, rfl, rfl, rfl, rfl, trivial⟩ ⟨rfl, rfl, rfl, rfl, rfl, trivial⟩ rfl)
    · refine As (.t rfl) rfl (fun h9 => ?_) (fun h9 => ?_)
      · try simp only [tst] at h9
        refine Ad (Af .n (.t rfl) rfl <| Af .n (.t rfl) rfl <| AW K_9 (f := V.int .i64) (l := 210) .n rfl rfl (.cons (.c rfl) (.cons (.c rfl) (.cons (.c rfl) .nil))) rfl si_27 zv_2 rfl rfl rfl <| AV (full := false) [(0, 201), (1, 210)] [] .n rfl .f en_24 (.cons (.t rfl) (.cons (.t rfl) .nil)) (.cons (.b (.mutp rfl)) (.cons (.b (.muts rfl)) .nil)) (A1 (bif (decide (0 < (x1.2.2.2.1.length : Int))) then (Ai (Aj.mk x1.1 x1.2.1 x1.2.2.1) 14).2 else (Aj.mk x1.1 x1.2.1 x1.2.2.1)) K_9 (by (try dsimp only); (with_reducible (first | apply Lim.mono | apply Lim.out | apply LimA.mono)); (repeat (with_reducible (first | assumption | apply Lim.bif1 | apply Lim.bifp | apply Lim.among | apply Lim.one | apply Lim.pick | apply Lim.list19 | apply Lim.all19 | apply Lim.list20 | apply Lim.from | apply Lim.mk))); omega) (by (simp only [lens] at * <;> omega))) ⟨rfl, rfl, trivial⟩ rfl rfl (fun h => Bool.noConfusion h) (fun h => Bool.noConfusion h) rfl <| AX .n (.t rfl) (.c rfl) sl_27 (fun _ => by omega) rfl <| B0 (Ak (bif (decide (0 < (x1.2.2.2.1.length : Int))) then (Ai (Aj.mk x1.1 x1.2.1 x1.2.2.1) 14).2 else (Aj.mk x1.1 x1.2.1 x1.2.2.1)) K_9).1 .n rfl (.t rfl) (.t rfl) rfl ts_2 (by omega) rfl rfl <| Lex.nil) ?_
        exact AY hj8 ((Ak (bif (decide (0 < (x1.2.2.2.1.length : Int))) then (Ai (Aj.mk x1.1 x1.2.1 x1.2.2.1) 14).2 else (Aj.mk x1.1 x1.2.1 x1.2.2.1)) K_9).2.1.code, (Ak (bif (decide (0 < (x1.2.2.2.1.length : Int))) then (Ai (Aj.mk x1.1 x1.2.1 x1.2.2.1) 14).2 else (Aj.mk x1.1 x1.2.1 x1.2.2.1)) K_9).2.1.at_, (Ak (bif (decide (0 < (x1.2.2.2.1.length : Int))) then (Ai (Aj.mk x1.1 x1.2.1 x1.2.2.1) 14).2 else (Aj.mk x1.1 x1.2.1 x1.2.2.1)) K_9).2.1.seed, put' x1.2.2.2.1 0 (Ak (bif (decide (0 < (x1.2.2.2.1.length : Int))) then (Ai (Aj.mk x1.1 x1.2.1 x1.2.2.1) 14).2 else (Aj.mk x1.1 x1.2.1 x1.2.2.1)) K_9).1) ⟨by (try dsimp only); (with_reducible (first | apply Lim.mono | apply Lim.out | apply LimA.mono)); (repeat (with_reducible (first | assumption | apply Lim.bif1 | apply Lim.bifp | apply Lim.among | apply Lim.one | apply Lim.pick | apply Lim.list19 | apply Lim.all19 | apply Lim.list20 | apply Lim.from | apply Lim.mk))); omega, by (simp only [lens] at * <;> omega)⟩ (sub_of [] ⟨rfl, rfl, rfl, rfl, rfl, rfl, rfl, os_len rfl (by first | (simp only [put_len]; done) | (first | omega | assumption | (simp only [lens] at * <;> omega) | ((((try dsimp only); (try simp only [List.length_append, List.length_cons, List.length_nil, put_len]); omega)); done) | (((have hq := (draw20 (m := (Ao (Ap code)).1) (Lim.mk (b := v6.2.2.1) (by assumption))).len; omega)); done))), trivial⟩ ⟨rfl, rfl, rfl, rfl, rfl, trivial⟩ rfl)
      · try simp only [tst] at h9
        refine Aw ?_
        exact AY hj8 ((bif (decide (0 < (x1.2.2.2.1.length : Int))) then (Ai (Aj.mk x1.1 x1.2.1 x1.2.2.1) 14).2 else (Aj.mk x1.1 x1.2.1 x1.2.2.1)).code, (bif (decide (0 < (x1.2.2.2.1.length : Int))) then (Ai (Aj.mk x1.1 x1.2.1 x1.2.2.1) 14).2 else (Aj.mk x1.1 x1.2.1 x1.2.2.1)).at_, (bif (decide (0 < (x1.2.2.2.1.length : Int))) then (Ai (Aj.mk x1.1 x1.2.1 x1.2.2.1) 14).2 else (Aj.mk x1.1 x1.2.1 x1.2.2.1)).seed, x1.2.2.2.1) ⟨by (try dsimp only); (with_reducible (first | apply Lim.mono | apply Lim.out | apply LimA.mono)); (repeat (with_reducible (first | assumption | apply Lim.bif1 | apply Lim.bifp | apply Lim.among | apply Lim.one | apply Lim.pick | apply Lim.list19 | apply Lim.all19 | apply Lim.list20 | apply Lim.from | apply Lim.mk))); omega, by (simp only [lens] at * <;> omega)⟩ (sub_of [] ⟨rfl, rfl, rfl, rfl, rfl, rfl, rfl, rfl, trivial⟩ ⟨rfl, rfl, rfl, rfl, rfl, trivial⟩ rfl)
  · intro rec1 k1 hk2 x1 i3
    obtain ⟨e23, e24, e25, e26, e27⟩ := i3
    try dsimp only at *
    refine Ae ?_
    refine Ae ?_
    refine Ad (Af .n (.t rfl) rfl <| Af .n (.t rfl) rfl <| BD .n (.t rfl) rfl rfl ss_28 rfl <| AK .n (.t rfl) (.t rfl) rfl rfl <| Lex.nil) ?_
    refine As (.t rfl) rfl (fun h4 => ?_) (fun h4 => ?_)
    · try simp only [tst] at h4
      refine Aw ?_
      refine Ae ?_
      refine AC ?_
      refine Ad (Af .n (.t rfl) rfl <| Af .n (.t rfl) rfl <| AV (full := false) [(0, 201)] [] .n rfl .f en_22 (.cons (.t rfl) (.cons (.c rfl) .nil)) (.cons (.b (.mutp rfl)) (.cons (.b (.a (.same rfl))) .nil)) (AJ (Aj.mk x1.1 x1.2.1 x1.2.2.1) 9 (by (try dsimp only); (with_reducible (first | apply Lim.mono | apply Lim.out | apply LimA.mono)); (repeat (with_reducible (first | assumption | apply Lim.bif1 | apply Lim.bifp | apply Lim.among | apply Lim.one | apply Lim.pick | apply Lim.list19 | apply Lim.all19 | apply Lim.list20 | apply Lim.from | apply Lim.mk))); omega)) ⟨rfl, trivial⟩ rfl rfl (fun h => Bool.noConfusion h) (fun h => Bool.noConfusion h) rfl <| AK .n (.c rfl) (.t rfl) rfl rfl <| AW ([IntKind.wrap .i64 (1 + (Aa (Aj.mk x1.1 x1.2.1 x1.2.2.1) 9).1)] : List Int) (f := V.int .i64) (l := 208) .n rfl rfl (.cons (.t rfl) .nil) rfl si_27 zv_2 rfl rfl rfl <| CD (xs := x1.2.2.2.1) (ys := ([IntKind.wrap .i64 (1 + (Aa (Aj.mk x1.1 x1.2.1 x1.2.2.1) 9).1)] : List Int)) (f := V.int .i64) (l := 209) .n rfl (.ow (.t rfl) rfl (take_all (by simp only [len_map, put_len] <;> rfl)) (by simp only [len_map, put_len] <;> rfl)) (.ow (.t rfl) rfl (take_all (by simp only [len_map, put_len] <;> rfl)) (by simp only [len_map, put_len] <;> rfl)) si_27 zv_2 rfl (by (simp only [lens] at * <;> omega)) rfl rfl <| Ag .n (.t rfl) rfl <| Lex.nil) ?_
      refine AS ?_
      refine Ad (Af .n (.t rfl) rfl <| BQ .n (.t rfl) (.c rfl) (fun _ => by omega) rfl <| Ag .n (.t rfl) rfl <| Lex.nil) ?_
      exact Cy ((Aa (Aj.mk x1.1 x1.2.1 x1.2.2.1) 9).2.code, (Aa (Aj.mk x1.1 x1.2.1 x1.2.2.1) 9).2.at_, (Aa (Aj.mk x1.1 x1.2.1 x1.2.2.1) 9).2.seed, x1.2.2.2.1 ++ ([IntKind.wrap .i64 (1 + (Aa (Aj.mk x1.1 x1.2.1 x1.2.2.1) 9).1)] : List Int), x1.2.2.2.2 + 1) ⟨by (simp only [lens] at * <;> omega), by assumption, by (simp only [lens] at * <;> omega), by (simp only [lens] at * <;> omega), by (try dsimp only); (with_reducible (first | apply Lim.mono | apply Lim.out | apply LimA.mono)); (repeat (with_reducible (first | assumption | apply Lim.bif1 | apply Lim.bifp | apply Lim.among | apply Lim.one | apply Lim.pick | apply Lim.list19 | apply Lim.all19 | apply Lim.list20 | apply Lim.from | apply Lim.mk))); omega⟩ (by (simp only [lens] at * <;> omega)) (sub_of [(207, 209)] ⟨rfl, rfl, rfl, rfl, rfl, rfl, rfl, rfl, rfl, trivial⟩ ⟨rfl, rfl, rfl, rfl, rfl, trivial⟩ rfl)
    · try simp only [tst] at h4
      refine Ba rfl ?_
      exact AY hk2 (x1.1, x1.2.1, x1.2.2.1, x1.2.2.2.1, x1.2.2.2.2) ⟨by omega, by omega, by omega, by omega, by (try dsimp only); (with_reducible (first | apply Lim.mono | apply Lim.out | apply LimA.mono)); (repeat (with_reducible (first | assumption | apply Lim.bif1 | apply Lim.bifp | apply Lim.among | apply Lim.one | apply Lim.pick | apply Lim.list19 | apply Lim.all19 | apply Lim.list20 | apply Lim.from | apply Lim.mk))); omega, by omega⟩ (sub_of [] ⟨rfl, rfl, rfl, rfl, rfl, rfl, rfl, rfl, trivial⟩ ⟨rfl, rfl, rfl, rfl, rfl, trivial⟩ rfl)

/-! ### slices_IndexFunc_int64 -/
theorem c_slices_IndexFunc_int64 (s_ : List Int) (f : Int → Bool) (F_f : FuncId) (C_f : List V) (he_f : entB Tryz.prog F_f = true) (hr_f : C_f.all V.ro = true) (hc_f : ∀ (a0 : Int), Con Tryz.prog F_f ([.int .i64 a0] ++ C_f) [] (.bool (f a0)) []) : Con Tryz.prog 86 [.sl 1 (s_.map (V.int .i64)), .clo F_f C_f] [] (.int .i64 (CO s_ f)) ([]) := by
  refine con_intro (out := fun r : Int => ((.int .i64 r : V), ([] : List (Nat × Option O)))) (r := (CO s_ f)) Tryz.func86 rfl Tryz.ntmps86 rfl ?_
  refine Bo (t := 0) rfl fun hl => ?_
  have l1 := hl; clear hl; simp only [List.length_map] at l1
  refine Ae ?_
  refine Ad (Ag .n (.c rfl) rfl <| Lex.nil) ?_
  refine Ae ?_
  refine Ae ?_
  refine Ad (Af .n (.t rfl) rfl <| BD .n (.t rfl) rfl len_map ss_27 rfl <| Af .n (.c rfl) rfl <| Lex.nil) ?_
  refine AC ?_
  refine Bp (BH s_ f) _ _ _ rfl (fun (x1 : Int) => 0 ≤ x1 ∧ x1 ≤ (s_.length : Int)) (fun x1 => 0 ≤ x1 ∧ x1 ≤ (s_.length : Int) ∧ (s_.length : Int) ≤ x1) (fun x1 => ((s_.length : Int) - x1 : Int).toNat) (fun x1 => ⟨[(0, some (true, .sl 1 (s_.map (V.int .i64)))), (1, some (true, .clo F_f C_f)), (7, some (true, .int .i64 (s_.length : Int))), (8, some (true, .int .i64 x1))], []⟩) (fun x1 => ⟨[], []⟩) ⟨by omega, by omega⟩ (by omega) (sub_of [] ⟨rfl, clo_ren hr_f rfl, rfl, rfl, trivial⟩ trivial rfl) ?_ ?_
  · intro x1 i6
    obtain ⟨e7, e8, e9⟩ := i6
    try dsimp only at *
    refine Ae ?_
    refine Ad (Ag .n (.c rfl) rfl <| Lex.nil) ?_
    exact Ay [] (.cons (.t rfl rfl) .nil) rfl trivial rfl
  · intro rec1 k1 hk2 x1 i3
    obtain ⟨e10, e11⟩ := i3
    try dsimp only at *
    refine Ae ?_
    refine Ad (AK .n (.t rfl) (.t rfl) rfl rfl <| Lex.nil) ?_
    refine Ae ?_
    refine As (.t rfl) rfl (fun h4 => ?_) (fun h4 => ?_)
    · try simp only [tst] at h4
      refine Aw ?_
      refine Ae ?_
      refine AC ?_
      refine Ae ?_
      refine Ad (Af .n (.t rfl) rfl <| Ag .n (.t rfl) rfl <| Lex.nil) ?_
      refine Ae ?_
      refine Ad (Af .n (.t rfl) rfl <| Af .n (.t rfl) rfl <| Af .n (.t rfl) rfl <| Bc .n (.t rfl) (.t rfl) sl_27 (fun _ => by omega) rfl <| Az .n (.t rfl) rfl ic_2 rfl <| AR (full := false) .n (.c (.t rfl)) he_f (.cons (.t rfl) .nil) (passes_app hr_f (.cons (.b (.a (.same rfl))) .nil)) (fun hg => hc_f (at' s_ x1)) rfl (fun h => Bool.noConfusion h) rfl <| Lex.nil) ?_
      refine As (.t rfl) rfl (fun h5 => ?_) (fun h5 => ?_)
      · try simp only [tst] at h5
        refine Ae ?_
        refine Ad (Af .n (.t rfl) rfl <| Ag .n (.t rfl) rfl <| Lex.nil) ?_
        exact Ay [] (.cons (.t rfl rfl) .nil) rfl trivial rfl
      · try simp only [tst] at h5
        refine Aw ?_
        refine AS ?_
        refine Ad (BQ .n (.t rfl) (.c rfl) (fun _ => by omega) rfl <| Af .n (.t rfl) rfl <| Lex.nil) ?_
        exact A6 (x1 + 1) ⟨by omega, by omega⟩ (by omega) (sub_of [] ⟨rfl, clo_ren hr_f rfl, rfl, rfl, trivial⟩ trivial rfl)
    · try simp only [tst] at h4
      refine Ba rfl ?_
      exact AY hk2 x1 ⟨by omega, by omega, by omega⟩ (sub_of [] trivial trivial rfl)

/-! ### slices_ContainsFunc_int64 -/
theorem c_slices_ContainsFunc_int64 (s_ : List Int) (f : Int → Bool) (F_f : FuncId) (C_f : List V) (he_f : entB Tryz.prog F_f = true) (hr_f : C_f.all V.ro = true) (hc_f : ∀ (a0 : Int), Con Tryz.prog F_f ([.int .i64 a0] ++ C_f) [] (.bool (f a0)) []) : Con Tryz.prog 47 [.sl 1 (s_.map (V.int .i64)), .clo F_f C_f] [] (.bool (BO s_ f)) ([]) := by
  refine con_intro (out := fun r : Bool => ((.bool r : V), ([] : List (Nat × Option O)))) (r := (BO s_ f)) Tryz.func47 rfl Tryz.ntmps47 rfl ?_
  refine Bo (t := 0) rfl fun hl => ?_
  have l1 := hl; clear hl; simp only [List.length_map] at l1
  refine Ae ?_
  refine Ad (Ag .n (.c rfl) rfl <| Lex.nil) ?_
  refine Ae ?_
  refine Ad (Af .n (.t rfl) rfl <| Af .n (.t rfl) rfl <| AR (full := false) .n .f en_86 (.cons (.t rfl) (.cons (.t rfl) .nil)) (.cons (.b (.a (.same rfl))) (.cons (.clo (passBs_ro hr_f)) .nil)) (fun hg => c_slices_IndexFunc_int64 s_ f F_f C_f he_f hr_f hc_f) rfl (fun h => Bool.noConfusion h) rfl <| AK .n (.t rfl) (.c rfl) rfl rfl <| Ag .n (.t rfl) rfl <| Lex.nil) ?_
  exact Ay [] (.cons (.t rfl rfl) .nil) rfl trivial rfl

/-! ### impl_within -/
theorem BF (n_ : Int) (low : Int) (high : Int) : Con Tryz.prog 37 [.int .i64 n_, .int .i64 low, .int .i64 high] [] (.bool (Bf n_ low high)) ([]) := by
  refine con_intro (out := fun r : Bool => ((.bool r : V), ([] : List (Nat × Option O)))) (r := (Bf n_ low high)) Tryz.func37 rfl Tryz.ntmps37 rfl ?_
  refine Ae ?_
  refine Ad (Ag .n (.c rfl) rfl <| Lex.nil) ?_
  refine Ae ?_
  refine Ad (Af .n (.t rfl) rfl <| Af .n (.t rfl) rfl <| AK .n (.t rfl) (.t rfl) rfl rfl <| Af .n (.t rfl) rfl <| Af (.t rfl rfl) (.t rfl) rfl <| Af (.t rfl rfl) (.t rfl) rfl <| AK (.t rfl rfl) (.u rfl id) (.u rfl id) rfl rfl <| Cz .n (.t rfl) (.u rfl id) rfl <| Ag .n (.t rfl) rfl <| Lex.nil) ?_
  exact Ay [] (.cons (.t rfl rfl) .nil) rfl trivial rfl

/-! ### impl_allWithin_1 -/
theorem c_impl_allWithin_1 (n_ : Int) (p1 : Int) (p2 : Int) : Con Tryz.prog 64 [.int .i64 n_, .rp [.int .i64 p1], .rp [.int .i64 p2]] [] (.bool (CG n_ p1 p2)) ([]) := by
  refine con_intro (out := fun r : Bool => ((.bool r : V), ([] : List (Nat × Option O)))) (r := (CG n_ p1 p2)) Tryz.func64 rfl Tryz.ntmps64 rfl ?_
  refine Ae ?_
  refine Ad (Ag .n (.c rfl) rfl <| Lex.nil) ?_
  refine Ae ?_
  refine Ad (Af .n (.t rfl) rfl <| Az .n (.t rfl) rfl ic_2 rfl <| Az .n (.t rfl) rfl ic_2 rfl <| AR (full := false) .n .f en_37 (.cons (.t rfl) (.cons (.t rfl) (.cons (.t rfl) .nil))) (.cons (.b (.a (.same rfl))) (.cons (.b (.a (.same rfl))) (.cons (.b (.a (.same rfl))) .nil))) (fun hg => BF n_ p1 p2) rfl (fun h => Bool.noConfusion h) rfl <| Cr .n (.t rfl) rfl <| Ag .n (.t rfl) rfl <| Lex.nil) ?_
  exact Ay [] (.cons (.t rfl rfl) .nil) rfl trivial rfl

/-! ### impl_allWithin -/
theorem C0 (list : List Int) (low : Int) (high : Int) : Con Tryz.prog 29 [.sl 1 (list.map (V.int .i64)), .int .i64 low, .int .i64 high] [] (.bool (Bn list low high)) ([]) := by
  refine con_intro (out := fun r : Bool => ((.bool r : V), ([] : List (Nat × Option O)))) (r := (Bn list low high)) Tryz.func29 rfl Tryz.ntmps29 rfl ?_
  refine Bo (t := 0) rfl fun hl => ?_
  have l1 := hl; clear hl; simp only [List.length_map] at l1
  refine Ae ?_
  refine Ad (q_box (l := 200) .n rfl (.t rfl) rfl rfl rfl rfl <| q_box (l := 201) .n rfl (.t rfl) rfl rfl rfl rfl <| Ag .n (.c rfl) rfl <| Lex.nil) ?_
  refine Ae ?_
  refine Ad (Af .n (.t rfl) rfl <| q_clo .n (.cons (.t rfl) (.cons (.t rfl) .nil)) rfl rfl <| AR (full := true) .n .f en_47 (.cons (.t rfl) (.cons (.t rfl) .nil)) (.cons (.b (.a (.same rfl))) (.cons (.clo (.cons (.ptr rfl rfl (.inr rfl) rfl rfl (.cons (.same rfl) .nil)) (.cons (.ptr rfl rfl (.inr rfl) rfl rfl (.cons (.same rfl) .nil)) .nil))) .nil)) (fun hg => c_slices_ContainsFunc_int64 list (fun (a0 : Int) => CG a0 low high) 64 [.rp [.int .i64 low], .rp [.int .i64 high]] en_64 rfl (fun a0 => c_impl_allWithin_1 a0 low high)) rfl (fun _ => rfl) rfl <| Cr .n (.t rfl) rfl <| Ag .n (.t rfl) rfl <| Lex.nil) ?_
  exact Ay [] (.cons (.t rfl rfl) .nil) rfl trivial rfl

/-! ### impl_onlyNameBytes -/
theorem c_impl_onlyNameBytes (s_ : List UInt8) (hp1 : s_.length ≤ 10) : Con Tryz.prog 101 [.str s_] [] (.bool (CL s_)) ([]) := by
  refine con_intro (out := fun r : Bool => ((.bool r : V), ([] : List (Nat × Option O)))) (r := (CL s_)) Tryz.func101 rfl Tryz.ntmps101 rfl ?_
  refine Ae ?_
  refine Ad (Ag .n (.c rfl) rfl <| Lex.nil) ?_
  refine Ae ?_
  refine Ae ?_
  refine Ad (Af .n (.t rfl) rfl <| BD .n (.t rfl) rfl rfl st_9 rfl <| Af .n (.c rfl) rfl <| Lex.nil) ?_
  refine AC ?_
  refine Bp (CT s_) _ _ _ rfl (fun (x1 : Int) => 0 ≤ x1 ∧ x1 ≤ (s_.length : Int)) (fun x1 => 0 ≤ x1 ∧ x1 ≤ (s_.length : Int) ∧ (s_.length : Int) ≤ x1) (fun x1 => ((s_.length : Int) - x1 : Int).toNat) (fun x1 => ⟨[(0, some (true, .str s_)), (6, some (true, .int .i64 (s_.length : Int))), (7, some (true, .int .i64 x1))], []⟩) (fun x1 => ⟨[], []⟩) ⟨by omega, by omega⟩ (by omega) (sub_of [] ⟨rfl, rfl, rfl, trivial⟩ trivial rfl) ?_ ?_
  · intro x1 i5
    obtain ⟨e6, e7, e8⟩ := i5
    try dsimp only at *
    refine Ae ?_
    refine Ad (Ag .n (.c rfl) rfl <| Lex.nil) ?_
    exact Ay [] (.cons (.t rfl rfl) .nil) rfl trivial rfl
  · intro rec1 k1 hk1 x1 i2
    obtain ⟨e9, e10⟩ := i2
    try dsimp only at *
    refine Ae ?_
    refine Ad (AK .n (.t rfl) (.t rfl) rfl rfl <| Lex.nil) ?_
    refine Ae ?_
    refine As (.t rfl) rfl (fun h3 => ?_) (fun h3 => ?_)
    · try simp only [tst] at h3
      refine Aw ?_
      refine Ae ?_
      refine AC ?_
      refine Ae ?_
      refine Ad (Af .n (.t rfl) rfl <| Ag .n (.t rfl) rfl <| Lex.nil) ?_
      refine Ae ?_
      refine Ad (Af .n (.t rfl) rfl <| Af .n (.t rfl) rfl <| q_strat .n (.t rfl) (.t rfl) st_9 (fun _ => by omega) rfl <| Ag .n (.t rfl) rfl <| Lex.nil) ?_
      refine Ae ?_
      refine Ad (Af .n (.t rfl) rfl <| AK .n (.t rfl) (.c rfl) rfl rfl <| Af .n (.t rfl) rfl <| Af (.f rfl rfl) (.t rfl) rfl <| AK (.f rfl rfl) (.u rfl id) (.c rfl) rfl rfl <| q_or .n (.t rfl) (.u rfl id) rfl <| Af .n (.t rfl) rfl <| Af (.t rfl rfl) (.t rfl) rfl <| AK (.t rfl rfl) (.u rfl id) (.c rfl) rfl rfl <| Af (.t rfl rfl) (.u rfl id) rfl <| Af (.f rfl rfl) (.t rfl) rfl <| AK (.f rfl rfl) (.u rfl id) (.c rfl) rfl rfl <| q_or (.t rfl rfl) (.u rfl id) (.u rfl id) rfl <| Cz .n (.t rfl) (.u rfl id) rfl <| Lex.nil) ?_
      refine As (.t rfl) rfl (fun h4 => ?_) (fun h4 => ?_)
      · try simp only [tst] at h4
        refine Ae ?_
        refine Ad (Ag .n (.c rfl) rfl <| Lex.nil) ?_
        exact Ay [] (.cons (.t rfl rfl) .nil) rfl trivial rfl
      · try simp only [tst] at h4
        refine Aw ?_
        refine AS ?_
        refine Ad (BQ .n (.t rfl) (.c rfl) (fun _ => by omega) rfl <| Af .n (.t rfl) rfl <| Lex.nil) ?_
        exact A6 (x1 + 1) ⟨by omega, by omega⟩ (by omega) (sub_of [] ⟨rfl, rfl, rfl, trivial⟩ trivial rfl)
    · try simp only [tst] at h3
      refine Ba rfl ?_
      exact AY hk1 x1 ⟨by omega, by omega, by omega⟩ (sub_of [] trivial trivial rfl)

/-! ### impl_IsName -/
theorem c_impl_IsName (s_ : List UInt8) : Con Tryz.prog 79 [.str s_] [] (.bool (CU s_)) ([]) := by
  refine con_intro (out := fun r : Bool => ((.bool r : V), ([] : List (Nat × Option O)))) (r := (CU s_)) Tryz.func79 rfl Tryz.ntmps79 rfl ?_
  refine Ae ?_
  refine Ad (Ag .n (.c rfl) rfl <| Lex.nil) ?_
  refine Ae ?_
  refine Ae ?_
  refine Ad (Af .n (.t rfl) rfl <| BD .n (.t rfl) rfl rfl st_9 rfl <| AK .n (.t rfl) (.c rfl) rfl rfl <| Af .n (.t rfl) rfl <| Af (.f rfl rfl) (.t rfl) rfl <| BD (.f rfl rfl) (.u rfl id) rfl rfl st_9 rfl <| AK (.f rfl rfl) (.u rfl id) (.c rfl) rfl rfl <| q_or .n (.t rfl) (.u rfl id) rfl <| Af .n (.t rfl) rfl <| Af (.f rfl rfl) (.t rfl) rfl <| q_strat (.f rfl rfl) (.u rfl id) (.c rfl) st_9 (fun hg => by simp only [tst] at hg; omega) rfl <| AK (.f rfl rfl) (.u rfl id) (.c rfl) rfl rfl <| q_or .n (.t rfl) (.u rfl id) rfl <| Af .n (.t rfl) rfl <| Af (.f rfl rfl) (.t rfl) rfl <| q_strat (.f rfl rfl) (.u rfl id) (.c rfl) st_9 (fun hg => by simp only [tst] at hg; omega) rfl <| AK (.f rfl rfl) (.u rfl id) (.c rfl) rfl rfl <| q_or .n (.t rfl) (.u rfl id) rfl <| Lex.nil) ?_
  refine As (.t rfl) rfl (fun h1 => ?_) (fun h1 => ?_)
  · try simp only [tst] at h1
    refine Ae ?_
    refine Ad (Ag .n (.c rfl) rfl <| Lex.nil) ?_
    exact Ay [] (.cons (.t rfl rfl) .nil) rfl trivial rfl
  · try simp only [tst] at h1
    refine Aw ?_
    refine Ae ?_
    refine Ad (Af .n (.t rfl) rfl <| AR (full := false) .n .f en_101 (.cons (.t rfl) .nil) (.cons (.b (.a (.same rfl))) .nil) (fun hg => c_impl_onlyNameBytes s_ (by omega)) rfl (fun h => Bool.noConfusion h) rfl <| Ag .n (.t rfl) rfl <| Lex.nil) ?_
    exact Ay [] (.cons (.t rfl rfl) .nil) rfl trivial rfl

/-! ### impl_junctionOk -/
theorem Dk (n_ : Int) : Con Tryz.prog 80 [.int .i64 n_] [] (.bool (B1 n_)) ([]) := by
  refine con_intro (out := fun r : Bool => ((.bool r : V), ([] : List (Nat × Option O)))) (r := (B1 n_)) Tryz.func80 rfl Tryz.ntmps80 rfl ?_
  refine Ae ?_
  refine Ad (Ag .n (.c rfl) rfl <| Lex.nil) ?_
  refine Ae ?_
  refine Ad (Af .n (.t rfl) rfl <| AR (full := false) .n .f en_37 (.cons (.t rfl) (.cons (.c rfl) (.cons (.c rfl) .nil))) (.cons (.b (.a (.same rfl))) (.cons (.b (.a (.same rfl))) (.cons (.b (.a (.same rfl))) .nil))) (fun hg => BF n_ 0 15) rfl (fun h => Bool.noConfusion h) rfl <| Ag .n (.t rfl) rfl <| Lex.nil) ?_
  exact Ay [] (.cons (.t rfl rfl) .nil) rfl trivial rfl

/-! ### impl_ValidAirway -/
theorem c_impl_ValidAirway (a : Au) : Con Tryz.prog 84 [.st [.str a.Id, .int .i64 a.From, .int .i64 a.To, .int .i64 a.Length, .int .i64 a.Section, .int .i64 a.Friction, .int .i64 a.Shock]] [] (.bool (CH a)) ([]) := by
  refine con_intro (out := fun r : Bool => ((.bool r : V), ([] : List (Nat × Option O)))) (r := (CH a)) Tryz.func84 rfl Tryz.ntmps84 rfl ?_
  refine Ae ?_
  refine Ad (q_box (l := 200) .n rfl (.t rfl) rfl rfl rfl rfl <| Ag .n (.c rfl) rfl <| Lex.nil) ?_
  refine Ae ?_
  refine Ad (AE .n (.t rfl) fo_112_0 rfl <| AP .n (.t rfl) rfl (.inr rfl) (fun _ => rfl) rfl ic_9 rfl <| AR (full := false) .n .f en_79 (.cons (.t rfl) .nil) (.cons (.b (.a (.same rfl))) .nil) (fun hg => c_impl_IsName a.Id) rfl (fun h => Bool.noConfusion h) rfl <| Af .n (.t rfl) rfl <| AE (.t rfl rfl) (.t rfl) fo_112_1 rfl <| AP (.t rfl rfl) (.u rfl id) rfl (.inr rfl) (fun _ => rfl) rfl ic_2 rfl <| AR (full := false) (.t rfl rfl) .f en_80 (.cons (.u rfl id) .nil) (.cons (.b (.a (.same rfl))) .nil) (fun hg => Dk a.From) rfl (fun h => Bool.noConfusion h) rfl <| Cz .n (.t rfl) (.u rfl id) rfl <| Af .n (.t rfl) rfl <| AE (.t rfl rfl) (.t rfl) fo_112_2 rfl <| AP (.t rfl rfl) (.u rfl id) rfl (.inr rfl) (fun _ => rfl) rfl ic_2 rfl <| AR (full := false) (.t rfl rfl) .f en_80 (.cons (.u rfl id) .nil) (.cons (.b (.a (.same rfl))) .nil) (fun hg => Dk a.To) rfl (fun h => Bool.noConfusion h) rfl <| Cz .n (.t rfl) (.u rfl id) rfl <| Af .n (.t rfl) rfl <| AE (.t rfl rfl) (.t rfl) fo_112_1 rfl <| AP (.t rfl rfl) (.u rfl id) rfl (.inr rfl) (fun _ => rfl) rfl ic_2 rfl <| AE (.t rfl rfl) (.t rfl) fo_112_2 rfl <| AP (.t rfl rfl) (.u rfl id) rfl (.inr rfl) (fun _ => rfl) rfl ic_2 rfl <| AK (.t rfl rfl) (.u rfl id) (.u rfl id) rfl rfl <| Cz .n (.t rfl) (.u rfl id) rfl <| Af .n (.t rfl) rfl <| AE (.t rfl rfl) (.t rfl) fo_112_3 rfl <| AP (.t rfl rfl) (.u rfl id) rfl (.inr rfl) (fun _ => rfl) rfl ic_2 rfl <| AR (full := false) (.t rfl rfl) .f en_37 (.cons (.u rfl id) (.cons (.c rfl) (.cons (.c rfl) .nil))) (.cons (.b (.a (.same rfl))) (.cons (.b (.a (.same rfl))) (.cons (.b (.a (.same rfl))) .nil))) (fun hg => BF a.Length 1 10000) rfl (fun h => Bool.noConfusion h) rfl <| Cz .n (.t rfl) (.u rfl id) rfl <| Af .n (.t rfl) rfl <| AE (.t rfl rfl) (.t rfl) fo_112_4 rfl <| AP (.t rfl rfl) (.u rfl id) rfl (.inr rfl) (fun _ => rfl) rfl ic_2 rfl <| AR (full := false) (.t rfl rfl) .f en_37 (.cons (.u rfl id) (.cons (.c rfl) (.cons (.c rfl) .nil))) (.cons (.b (.a (.same rfl))) (.cons (.b (.a (.same rfl))) (.cons (.b (.a (.same rfl))) .nil))) (fun hg => BF a.Section 50 5000) rfl (fun h => Bool.noConfusion h) rfl <| Cz .n (.t rfl) (.u rfl id) rfl <| Af .n (.t rfl) rfl <| AE (.t rfl rfl) (.t rfl) fo_112_5 rfl <| AP (.t rfl rfl) (.u rfl id) rfl (.inr rfl) (fun _ => rfl) rfl ic_2 rfl <| AR (full := false) (.t rfl rfl) .f en_37 (.cons (.u rfl id) (.cons (.c rfl) (.cons (.c rfl) .nil))) (.cons (.b (.a (.same rfl))) (.cons (.b (.a (.same rfl))) (.cons (.b (.a (.same rfl))) .nil))) (fun hg => BF a.Friction 1 1000) rfl (fun h => Bool.noConfusion h) rfl <| Cz .n (.t rfl) (.u rfl id) rfl <| Af .n (.t rfl) rfl <| AE (.t rfl rfl) (.t rfl) fo_112_6 rfl <| AP (.t rfl rfl) (.u rfl id) rfl (.inr rfl) (fun _ => rfl) rfl ic_2 rfl <| AR (full := false) (.t rfl rfl) .f en_37 (.cons (.u rfl id) (.cons (.c rfl) (.cons (.c rfl) .nil))) (.cons (.b (.a (.same rfl))) (.cons (.b (.a (.same rfl))) (.cons (.b (.a (.same rfl))) .nil))) (fun hg => BF a.Shock 0 1000) rfl (fun h => Bool.noConfusion h) rfl <| Cz .n (.t rfl) (.u rfl id) rfl <| Ag .n (.t rfl) rfl <| Lex.nil) ?_
  exact Ay [] (.cons (.t rfl rfl) .nil) rfl trivial rfl

/-! ### impl_Mine_hasJunction -/
theorem B9 (m_ : AH) (n_ : Int) : Con Tryz.prog 43 [.st [.int .i64 m_.Junctions, .sl 7 (m_.Airways.map Au.v)], .int .i64 n_] [] (.bool (A2 m_ n_)) ([]) := by
  refine con_intro (out := fun r : Bool => ((.bool r : V), ([] : List (Nat × Option O)))) (r := (A2 m_ n_)) Tryz.func43 rfl Tryz.ntmps43 rfl ?_
  refine CA (t := 0) 1 rfl rfl fun hl => ?_
  have l1 := hl; clear hl; simp only [List.length_map] at l1
  refine Ae ?_
  refine Ad (q_box (l := 200) .n rfl (.t rfl) rfl rfl rfl rfl <| Ag .n (.c rfl) rfl <| Lex.nil) ?_
  refine Ae ?_
  refine Ad (Af .n (.t rfl) rfl <| AE .n (.t rfl) fo_26_0 rfl <| AP .n (.t rfl) rfl (.inr rfl) (fun _ => rfl) rfl ic_2 rfl <| AK .n (.t rfl) (.c rfl) rfl rfl <| AR (full := false) .n .f en_37 (.cons (.t rfl) (.cons (.c rfl) (.cons (.t rfl) .nil))) (.cons (.b (.a (.same rfl))) (.cons (.b (.a (.same rfl))) (.cons (.b (.a (.same rfl))) .nil))) (fun hg => BF n_ 0 (IntKind.wrap .i64 (m_.Junctions - 1))) rfl (fun h => Bool.noConfusion h) rfl <| Ag .n (.t rfl) rfl <| Lex.nil) ?_
  exact Ay [] (.cons (.t rfl rfl) .nil) rfl trivial rfl

/-! ### impl_Mine_hasEnds -/
theorem c_impl_Mine_hasEnds (m_ : AH) (a : Au) : Con Tryz.prog 85 [.st [.int .i64 m_.Junctions, .sl 7 (m_.Airways.map Au.v)], .st [.str a.Id, .int .i64 a.From, .int .i64 a.To, .int .i64 a.Length, .int .i64 a.Section, .int .i64 a.Friction, .int .i64 a.Shock]] [] (.bool (CV m_ a)) ([]) := by
  refine con_intro (out := fun r : Bool => ((.bool r : V), ([] : List (Nat × Option O)))) (r := (CV m_ a)) Tryz.func85 rfl Tryz.ntmps85 rfl ?_
  refine CA (t := 0) 1 rfl rfl fun hl => ?_
  have l1 := hl; clear hl; simp only [List.length_map] at l1
  refine Ae ?_
  refine Ad (q_box (l := 200) .n rfl (.t rfl) rfl rfl rfl rfl <| q_box (l := 201) .n rfl (.t rfl) rfl rfl rfl rfl <| Ag .n (.c rfl) rfl <| Lex.nil) ?_
  refine Ae ?_
  refine Ad (Bb .n (.t rfl) rfl (.inr rfl) ag_26 (fun _ => rfl) rfl rfl <| AE .n (.t rfl) fo_112_1 rfl <| AP .n (.t rfl) rfl (.inr rfl) (fun _ => rfl) rfl ic_2 rfl <| AR (full := false) .n .f en_43 (.cons (.t rfl) (.cons (.t rfl) .nil)) (.cons (.sts rfl) (.cons (.b (.a (.same rfl))) .nil)) (fun hg => B9 m_ a.From) rfl (fun h => Bool.noConfusion h) rfl <| Af .n (.t rfl) rfl <| Bb (.t rfl rfl) (.t rfl) rfl (.inr rfl) ag_26 (fun _ => rfl) rfl rfl <| AE (.t rfl rfl) (.t rfl) fo_112_2 rfl <| AP (.t rfl rfl) (.u rfl id) rfl (.inr rfl) (fun _ => rfl) rfl ic_2 rfl <| AR (full := false) (.t rfl rfl) .f en_43 (.cons (.u rfl id) (.cons (.u rfl id) .nil)) (.cons (.sts rfl) (.cons (.b (.a (.same rfl))) .nil)) (fun hg => B9 m_ a.To) rfl (fun h => Bool.noConfusion h) rfl <| Cz .n (.t rfl) (.u rfl id) rfl <| Ag .n (.t rfl) rfl <| Lex.nil) ?_
  exact Ay [] (.cons (.t rfl rfl) .nil) rfl trivial rfl

/-! ### impl_ValidMine -/
theorem c_impl_ValidMine (m_ : AH) : Con Tryz.prog 42 [.st [.int .i64 m_.Junctions, .sl 7 (m_.Airways.map Au.v)]] [] (.bool (Bz m_)) ([]) := by
  refine con_intro (out := fun r : Bool => ((.bool r : V), ([] : List (Nat × Option O)))) (r := (Bz m_)) Tryz.func42 rfl Tryz.ntmps42 rfl ?_
  refine CA (t := 0) 1 rfl rfl fun hl => ?_
  have l1 := hl; clear hl; simp only [List.length_map] at l1
  refine Ae ?_
  refine Ad (q_box (l := 200) .n rfl (.t rfl) rfl rfl rfl rfl <| Ag .n (.c rfl) rfl <| Lex.nil) ?_
  refine Ae ?_
  refine Ae ?_
  refine Ad (AE .n (.t rfl) fo_26_0 rfl <| AP .n (.t rfl) rfl (.inr rfl) (fun _ => rfl) rfl ic_2 rfl <| AR (full := false) .n .f en_37 (.cons (.t rfl) (.cons (.c rfl) (.cons (.c rfl) .nil))) (.cons (.b (.a (.same rfl))) (.cons (.b (.a (.same rfl))) (.cons (.b (.a (.same rfl))) .nil))) (fun hg => BF m_.Junctions 1 16) rfl (fun h => Bool.noConfusion h) rfl <| Cr .n (.t rfl) rfl <| Af .n (.t rfl) rfl <| AE (.f rfl rfl) (.t rfl) fo_26_1 rfl <| AP (.f rfl rfl) (.u rfl id) rfl (.inr rfl) (fun _ => rfl) rfl ic_24 rfl <| BD (.f rfl rfl) (.u rfl id) rfl len_map ss_24 rfl <| AK (.f rfl rfl) (.u rfl id) (.c rfl) rfl rfl <| q_or .n (.t rfl) (.u rfl id) rfl <| Lex.nil) ?_
  refine As (.t rfl) rfl (fun h2 => ?_) (fun h2 => ?_)
  · try simp only [tst] at h2
    try have hf0h2 := within_imp h2
    try have hf1h2 := within_imp h2.1
    try have hf2h2 := within_imp h2.2
    try have hf3h2 := within_imp h2.1.1
    try have hf4h2 := within_imp h2.1.2
    try have hf5h2 := within_imp h2.2.1
    try have hf6h2 := within_imp h2.2.2
    refine Ae ?_
    refine Ad (Ag .n (.c rfl) rfl <| Lex.nil) ?_
    exact Ay [] (.cons (.t rfl rfl) .nil) rfl trivial rfl
  · try simp only [tst] at h2
    try have hf0h2 := within_imp h2
    try have hf1h2 := within_imp h2.1
    try have hf2h2 := within_imp h2.2
    try have hf3h2 := within_imp h2.1.1
    try have hf4h2 := within_imp h2.1.2
    try have hf5h2 := within_imp h2.2.1
    try have hf6h2 := within_imp h2.2.2
    refine Aw ?_
    refine Ae ?_
    refine Ae ?_
    refine Ad (AE .n (.t rfl) fo_26_1 rfl <| AP .n (.t rfl) rfl (.inr rfl) (fun _ => rfl) rfl ic_24 rfl <| BD .n (.t rfl) rfl len_map ss_24 rfl <| Af .n (.c rfl) rfl <| Lex.nil) ?_
    refine AC ?_
    refine Bp (Dv m_) _ _ _ rfl (fun (x1 : Int) => 0 ≤ x1 ∧ x1 ≤ (m_.Airways.length : Int)) (fun x1 => 0 ≤ x1 ∧ x1 ≤ (m_.Airways.length : Int) ∧ (m_.Airways.length : Int) ≤ x1) (fun x1 => ((m_.Airways.length : Int) - x1 : Int).toNat) (fun x1 => ⟨[(1, some (true, .op 200 0 0 0)), (16, some (true, .sl 7 (m_.Airways.map Au.v))), (17, some (true, .int .i64 (m_.Airways.length : Int))), (18, some (true, .int .i64 x1))], [(200, some (.box 26 [.int .i64 m_.Junctions, .sl 7 (m_.Airways.map Au.v)]))]⟩) (fun x1 => ⟨[], []⟩) ⟨by omega, by omega⟩ (by omega) (sub_of [] ⟨rfl, rfl, rfl, rfl, trivial⟩ ⟨rfl, trivial⟩ rfl) ?_ ?_
    · intro x1 i7
      obtain ⟨e8, e9, e10⟩ := i7
      try dsimp only at *
      refine Ae ?_
      refine Ad (Ag .n (.c rfl) rfl <| Lex.nil) ?_
      exact Ay [] (.cons (.t rfl rfl) .nil) rfl trivial rfl
    · intro rec1 k1 hk3 x1 i4
      obtain ⟨e11, e12⟩ := i4
      try dsimp only at *
      refine Ae ?_
      refine Ad (AK .n (.t rfl) (.t rfl) rfl rfl <| Lex.nil) ?_
      refine Ae ?_
      refine As (.t rfl) rfl (fun h5 => ?_) (fun h5 => ?_)
      · try simp only [tst] at h5
        refine Aw ?_
        refine Ae ?_
        refine AC ?_
        refine Ae ?_
        refine Ad (Af .n (.t rfl) rfl <| Bc .n (.t rfl) (.t rfl) sl_24 (fun _ => by omega) rfl <| Dq .n (.t rfl) ag_112 rfl rfl rfl <| BG (l := 201) .n rfl zv_112 rfl rfl <| Ag .n (.t rfl) rfl <| AL [.str (at' m_.Airways x1).Id, .int .i64 (at' m_.Airways x1).From, .int .i64 (at' m_.Airways x1).To, .int .i64 (at' m_.Airways x1).Length, .int .i64 (at' m_.Airways x1).Section, .int .i64 (at' m_.Airways x1).Friction, .int .i64 (at' m_.Airways x1).Shock] .n rfl (.t rfl) (.t rfl) rfl ts_112 rfl rfl <| Lex.nil) ?_
        refine Ae ?_
        refine Bl fmo (Bb .n (.t rfl) rfl (.inr rfl) ag_112 (fun _ => rfl) rfl rfl <| AR (full := false) .n .f en_84 (.cons (.t rfl) .nil) (.cons (.sts rfl) .nil) (fun hg => c_impl_ValidAirway (at' m_.Airways x1)) rfl (fun h => Bool.noConfusion h) rfl <| Cr .n (.t rfl) rfl <| Af .n (.t rfl) rfl <| Bb (.f rfl rfl) (.t rfl) rfl (.inr rfl) ag_26 (fun _ => rfl) rfl rfl <| Bb (.f rfl rfl) (.t rfl) rfl (.inr rfl) ag_112 (fun _ => rfl) rfl rfl <| AR (full := false) (.f rfl rfl) .f en_85 (.cons (.u rfl id) (.cons (.u rfl id) .nil)) (.cons (.sts rfl) (.cons (.sts rfl) .nil)) (fun hg => c_impl_Mine_hasEnds m_ (at' m_.Airways x1)) rfl (fun h => Bool.noConfusion h) rfl <| Cr (.f rfl rfl) (.u rfl id) rfl <| q_or .n (.t rfl) (.u rfl id) rfl <| Af .n (.t rfl) rfl <| Af (.f rfl rfl) (.t rfl) rfl <| AK (.f rfl rfl) (.u rfl id) (.c rfl) rfl rfl <| Af (.f rfl rfl) (.u rfl id) rfl <| AE (.t rfl rfl) (.t rfl) fo_112_0 rfl <| AP (.t rfl rfl) (.u rfl id) rfl (.inr rfl) (fun _ => rfl) rfl ic_9 rfl <| AE (.t rfl rfl) (.t rfl) fo_26_1 rfl <| AP (.t rfl rfl) (.u rfl id) rfl (.inr rfl) (fun _ => rfl) rfl ic_24 rfl <| Af (.t rfl rfl) (.t rfl) rfl <| q_sub (.t rfl rfl) (.u rfl id) (.c rfl) (fun hg => by simp only [tst] at hg; omega) rfl <| Bc (.t rfl rfl) (.u rfl id) (.u rfl id) sl_24 (fun hg => by simp only [tst] at hg; omega) rfl <| AM (.t rfl rfl) (.u rfl id) fo_112_0 rfl <| Az (.t rfl rfl) (.u rfl id) rfl ic_9 rfl <| q_strcmp (.t rfl rfl) (.u rfl id) (.u rfl id) rfl rfl <| Cz (.f rfl rfl) (.u rfl id) (.u rfl id) rfl <| q_or .n (.t rfl) (.u rfl id) rfl <| Lex.nil) (by kernel_rfl) ?_
        refine As (.t rfl) rfl (fun h6 => ?_) (fun h6 => ?_)
        · try simp only [tst] at h6
          refine Ae ?_
          refine Ad (Ag .n (.c rfl) rfl <| Lex.nil) ?_
          exact Ay [] (.cons (.t rfl rfl) .nil) rfl trivial rfl
        · try simp only [tst] at h6
          refine Aw ?_
          refine AS ?_
          refine Ad (BQ .n (.t rfl) (.c rfl) (fun _ => by omega) rfl <| Af .n (.t rfl) rfl <| Lex.nil) ?_
          exact A6 (x1 + 1) ⟨by omega, by omega⟩ (by omega) (sub_of [] ⟨rfl, rfl, rfl, rfl, trivial⟩ ⟨rfl, trivial⟩ rfl)
      · try simp only [tst] at h5
        refine Ba rfl ?_
        exact AY hk3 x1 ⟨by omega, by omega, by omega⟩ (sub_of [] trivial trivial rfl)

/-! ### impl_Crew_valid -/
theorem c_impl_Crew_valid (c_ : Bi) : Con Tryz.prog 96 [.st [.str c_.Id, .int .i64 c_.Junction, .int .i64 c_.Speed]] [] (.bool (Cd c_)) ([]) := by
  refine con_intro (out := fun r : Bool => ((.bool r : V), ([] : List (Nat × Option O)))) (r := (Cd c_)) Tryz.func96 rfl Tryz.ntmps96 rfl ?_
  refine Ae ?_
  refine Ad (q_box (l := 200) .n rfl (.t rfl) rfl rfl rfl rfl <| Ag .n (.c rfl) rfl <| Lex.nil) ?_
  refine Ae ?_
  refine Ad (AE .n (.t rfl) fo_37_0 rfl <| AP .n (.t rfl) rfl (.inr rfl) (fun _ => rfl) rfl ic_9 rfl <| AR (full := false) .n .f en_79 (.cons (.t rfl) .nil) (.cons (.b (.a (.same rfl))) .nil) (fun hg => c_impl_IsName c_.Id) rfl (fun h => Bool.noConfusion h) rfl <| Af .n (.t rfl) rfl <| AE (.t rfl rfl) (.t rfl) fo_37_1 rfl <| AP (.t rfl rfl) (.u rfl id) rfl (.inr rfl) (fun _ => rfl) rfl ic_2 rfl <| AR (full := false) (.t rfl rfl) .f en_80 (.cons (.u rfl id) .nil) (.cons (.b (.a (.same rfl))) .nil) (fun hg => Dk c_.Junction) rfl (fun h => Bool.noConfusion h) rfl <| Cz .n (.t rfl) (.u rfl id) rfl <| Af .n (.t rfl) rfl <| AE (.t rfl rfl) (.t rfl) fo_37_2 rfl <| AP (.t rfl rfl) (.u rfl id) rfl (.inr rfl) (fun _ => rfl) rfl ic_2 rfl <| AR (full := false) (.t rfl rfl) .f en_37 (.cons (.u rfl id) (.cons (.c rfl) (.cons (.c rfl) .nil))) (.cons (.b (.a (.same rfl))) (.cons (.b (.a (.same rfl))) (.cons (.b (.a (.same rfl))) .nil))) (fun hg => BF c_.Speed 10 300) rfl (fun h => Bool.noConfusion h) rfl <| Cz .n (.t rfl) (.u rfl id) rfl <| Ag .n (.t rfl) rfl <| Lex.nil) ?_
  exact Ay [] (.cons (.t rfl rfl) .nil) rfl trivial rfl

/-! ### impl_ValidCrews -/
theorem c_impl_ValidCrews (m_ : AH) (list : List Bi) : Con Tryz.prog 62 [.st [.int .i64 m_.Junctions, .sl 7 (m_.Airways.map Au.v)], .sl 3 (list.map Bi.v)] [] (.bool (Ce m_ list)) ([]) := by
  refine con_intro (out := fun r : Bool => ((.bool r : V), ([] : List (Nat × Option O)))) (r := (Ce m_ list)) Tryz.func62 rfl Tryz.ntmps62 rfl ?_
  refine CA (t := 0) 1 rfl rfl fun hl => ?_
  have l1 := hl; clear hl; simp only [List.length_map] at l1
  refine Bo (t := 1) rfl fun hl => ?_
  have l2 := hl; clear hl; simp only [List.length_map] at l2
  refine Ae ?_
  refine Ad (q_box (l := 200) .n rfl (.t rfl) rfl rfl rfl rfl <| Ag .n (.c rfl) rfl <| Lex.nil) ?_
  refine Ae ?_
  refine Ae ?_
  refine Ad (Bb .n (.t rfl) rfl (.inr rfl) ag_26 (fun _ => rfl) rfl rfl <| AR (full := false) .n .f en_42 (.cons (.t rfl) .nil) (.cons (.sts rfl) .nil) (fun hg => c_impl_ValidMine m_) rfl (fun h => Bool.noConfusion h) rfl <| Cr .n (.t rfl) rfl <| Af .n (.t rfl) rfl <| Af (.f rfl rfl) (.t rfl) rfl <| BD (.f rfl rfl) (.u rfl id) rfl len_map ss_28 rfl <| AK (.f rfl rfl) (.u rfl id) (.c rfl) rfl rfl <| q_or .n (.t rfl) (.u rfl id) rfl <| Lex.nil) ?_
  refine As (.t rfl) rfl (fun h3 => ?_) (fun h3 => ?_)
  · try simp only [tst] at h3
    try have hf0h3 := ValidMine_imp h3
    try have hf1h3 := ValidMine_imp h3.1
    try have hf2h3 := ValidMine_imp h3.2
    try have hf3h3 := ValidMine_imp h3.1.1
    try have hf4h3 := ValidMine_imp h3.1.2
    try have hf5h3 := ValidMine_imp h3.2.1
    try have hf6h3 := ValidMine_imp h3.2.2
    refine Ae ?_
    refine Ad (Ag .n (.c rfl) rfl <| Lex.nil) ?_
    exact Ay [] (.cons (.t rfl rfl) .nil) rfl trivial rfl
  · try simp only [tst] at h3
    try have hf0h3 := ValidMine_imp h3
    try have hf1h3 := ValidMine_imp h3.1
    try have hf2h3 := ValidMine_imp h3.2
    try have hf3h3 := ValidMine_imp h3.1.1
    try have hf4h3 := ValidMine_imp h3.1.2
    try have hf5h3 := ValidMine_imp h3.2.1
    try have hf6h3 := ValidMine_imp h3.2.2
    refine Aw ?_
    refine Ae ?_
    refine Ae ?_
    refine Ad (Af .n (.t rfl) rfl <| BD .n (.t rfl) rfl len_map ss_28 rfl <| Af .n (.c rfl) rfl <| Lex.nil) ?_
    refine AC ?_
    refine Bp (Dl m_ list) _ _ _ rfl (fun (x1 : Int) => 0 ≤ x1 ∧ x1 ≤ (list.length : Int)) (fun x1 => 0 ≤ x1 ∧ x1 ≤ (list.length : Int) ∧ (list.length : Int) ≤ x1) (fun x1 => ((list.length : Int) - x1 : Int).toNat) (fun x1 => ⟨[(1, some (true, .sl 3 (list.map Bi.v))), (2, some (true, .op 200 0 0 0)), (15, some (true, .sl 3 (list.map Bi.v))), (16, some (true, .int .i64 (list.length : Int))), (17, some (true, .int .i64 x1))], [(200, some (.box 26 [.int .i64 m_.Junctions, .sl 7 (m_.Airways.map Au.v)]))]⟩) (fun x1 => ⟨[], []⟩) ⟨by omega, by omega⟩ (by omega) (sub_of [] ⟨rfl, rfl, rfl, rfl, rfl, trivial⟩ ⟨rfl, trivial⟩ rfl) ?_ ?_
    · intro x1 i8
      obtain ⟨e9, e10, e11⟩ := i8
      try dsimp only at *
      refine Ae ?_
      refine Ad (Ag .n (.c rfl) rfl <| Lex.nil) ?_
      exact Ay [] (.cons (.t rfl rfl) .nil) rfl trivial rfl
    · intro rec1 k1 hk4 x1 i5
      obtain ⟨e12, e13⟩ := i5
      try dsimp only at *
      refine Ae ?_
      refine Ad (AK .n (.t rfl) (.t rfl) rfl rfl <| Lex.nil) ?_
      refine Ae ?_
      refine As (.t rfl) rfl (fun h6 => ?_) (fun h6 => ?_)
      · try simp only [tst] at h6
        refine Aw ?_
        refine Ae ?_
        refine AC ?_
        refine Ae ?_
        refine Ad (Af .n (.t rfl) rfl <| Bc .n (.t rfl) (.t rfl) sl_28 (fun _ => by omega) rfl <| Dq .n (.t rfl) ag_37 rfl rfl rfl <| BG (l := 201) .n rfl zv_37 rfl rfl <| Ag .n (.t rfl) rfl <| AL [.str (at' list x1).Id, .int .i64 (at' list x1).Junction, .int .i64 (at' list x1).Speed] .n rfl (.t rfl) (.t rfl) rfl ts_37 rfl rfl <| Lex.nil) ?_
        refine Ae ?_
        refine Bl fmo (Bb .n (.t rfl) rfl (.inr rfl) ag_37 (fun _ => rfl) rfl rfl <| AR (full := false) .n .f en_96 (.cons (.t rfl) .nil) (.cons (.sts rfl) .nil) (fun hg => c_impl_Crew_valid (at' list x1)) rfl (fun h => Bool.noConfusion h) rfl <| Cr .n (.t rfl) rfl <| Af .n (.t rfl) rfl <| Bb (.f rfl rfl) (.t rfl) rfl (.inr rfl) ag_26 (fun _ => rfl) rfl rfl <| AE (.f rfl rfl) (.t rfl) fo_37_1 rfl <| AP (.f rfl rfl) (.u rfl id) rfl (.inr rfl) (fun _ => rfl) rfl ic_2 rfl <| AR (full := false) (.f rfl rfl) .f en_43 (.cons (.u rfl id) (.cons (.u rfl id) .nil)) (.cons (.sts rfl) (.cons (.b (.a (.same rfl))) .nil)) (fun hg => B9 m_ (at' list x1).Junction) rfl (fun h => Bool.noConfusion h) rfl <| Cr (.f rfl rfl) (.u rfl id) rfl <| q_or .n (.t rfl) (.u rfl id) rfl <| Af .n (.t rfl) rfl <| Af (.f rfl rfl) (.t rfl) rfl <| AK (.f rfl rfl) (.u rfl id) (.c rfl) rfl rfl <| Af (.f rfl rfl) (.u rfl id) rfl <| AE (.t rfl rfl) (.t rfl) fo_37_0 rfl <| AP (.t rfl rfl) (.u rfl id) rfl (.inr rfl) (fun _ => rfl) rfl ic_9 rfl <| Af (.t rfl rfl) (.t rfl) rfl <| Af (.t rfl rfl) (.t rfl) rfl <| q_sub (.t rfl rfl) (.u rfl id) (.c rfl) (fun hg => by simp only [tst] at hg; omega) rfl <| Bc (.t rfl rfl) (.u rfl id) (.u rfl id) sl_28 (fun hg => by simp only [tst] at hg; omega) rfl <| AM (.t rfl rfl) (.u rfl id) fo_37_0 rfl <| Az (.t rfl rfl) (.u rfl id) rfl ic_9 rfl <| q_strcmp (.t rfl rfl) (.u rfl id) (.u rfl id) rfl rfl <| Cz (.f rfl rfl) (.u rfl id) (.u rfl id) rfl <| q_or .n (.t rfl) (.u rfl id) rfl <| Lex.nil) (by kernel_rfl) ?_
        refine As (.t rfl) rfl (fun h7 => ?_) (fun h7 => ?_)
        · try simp only [tst] at h7
          refine Ae ?_
          refine Ad (Ag .n (.c rfl) rfl <| Lex.nil) ?_
          exact Ay [] (.cons (.t rfl rfl) .nil) rfl trivial rfl
        · try simp only [tst] at h7
          refine Aw ?_
          refine AS ?_
          refine Ad (BQ .n (.t rfl) (.c rfl) (fun _ => by omega) rfl <| Af .n (.t rfl) rfl <| Lex.nil) ?_
          exact A6 (x1 + 1) ⟨by omega, by omega⟩ (by omega) (sub_of [] ⟨rfl, rfl, rfl, rfl, rfl, trivial⟩ ⟨rfl, trivial⟩ rfl)
      · try simp only [tst] at h6
        refine Ba rfl ?_
        exact AY hk4 x1 ⟨by omega, by omega, by omega⟩ (sub_of [] trivial trivial rfl)

/-! ### impl_increasing -/
theorem c_impl_increasing (list : List Int) : Con Tryz.prog 97 [.sl 1 (list.map (V.int .i64))] [] (.bool (m_impl_increasing list)) ([]) := by
  refine con_intro (out := fun r : Bool => ((.bool r : V), ([] : List (Nat × Option O)))) (r := (m_impl_increasing list)) Tryz.func97 rfl Tryz.ntmps97 rfl ?_
  refine Bo (t := 0) rfl fun hl => ?_
  have l1 := hl; clear hl; simp only [List.length_map] at l1
  refine Ae ?_
  refine Ad (Ag .n (.c rfl) rfl <| Lex.nil) ?_
  refine Ae ?_
  refine Ae ?_
  refine Ad (Ag .n (.c rfl) rfl <| Lex.nil) ?_
  refine AC ?_
  refine Bp (m_impl_increasing_b1 list) _ _ _ rfl (fun (x1 : Int) => 1 ≤ x1) (fun x1 => 1 ≤ x1) (fun x1 => ((list.length : Int) - x1 : Int).toNat) (fun x1 => ⟨[(0, some (true, .sl 1 (list.map (V.int .i64)))), (3, some (true, .int .i64 x1))], []⟩) (fun x1 => ⟨[], []⟩) (by omega) (by omega) (sub_of [] ⟨rfl, rfl, trivial⟩ trivial rfl) ?_ ?_
  · intro x1 i6
    have e7 := i6
    try dsimp only at *
    refine Ae ?_
    refine Ad (Ag .n (.c rfl) rfl <| Lex.nil) ?_
    exact Ay [] (.cons (.t rfl rfl) .nil) rfl trivial rfl
  · intro rec1 k1 hk2 x1 i3
    have e8 := i3
    try dsimp only at *
    refine Ae ?_
    refine Ae ?_
    refine Ad (Af .n (.t rfl) rfl <| Af .n (.t rfl) rfl <| BD .n (.t rfl) rfl len_map ss_27 rfl <| AK .n (.t rfl) (.t rfl) rfl rfl <| Lex.nil) ?_
    refine As (.t rfl) rfl (fun h4 => ?_) (fun h4 => ?_)
    · try simp only [tst] at h4
      refine Aw ?_
      refine Ae ?_
      refine AC ?_
      refine Ae ?_
      refine Bl fmo (Af .n (.t rfl) rfl <| Af .n (.t rfl) rfl <| Bc .n (.t rfl) (.t rfl) sl_27 (fun _ => by omega) rfl <| Az .n (.t rfl) rfl ic_2 rfl <| Af .n (.t rfl) rfl <| Af .n (.t rfl) rfl <| q_sub .n (.t rfl) (.c rfl) (fun _ => by omega) rfl <| Bc .n (.t rfl) (.t rfl) sl_27 (fun _ => by omega) rfl <| Az .n (.t rfl) rfl ic_2 rfl <| AK .n (.t rfl) (.t rfl) rfl rfl <| Lex.nil) (by kernel_rfl) ?_
      refine As (.t rfl) rfl (fun h5 => ?_) (fun h5 => ?_)
      · try simp only [tst] at h5
        refine Ae ?_
        refine Ad (Ag .n (.c rfl) rfl <| Lex.nil) ?_
        exact Ay [] (.cons (.t rfl rfl) .nil) rfl trivial rfl
      · try simp only [tst] at h5
        refine Aw ?_
        refine AS ?_
        refine Ad (Af .n (.t rfl) rfl <| BQ .n (.t rfl) (.c rfl) (fun _ => by omega) rfl <| Ag .n (.t rfl) rfl <| Lex.nil) ?_
        exact A6 (x1 + 1) (by omega) (by omega) (sub_of [] ⟨rfl, rfl, trivial⟩ trivial rfl)
    · try simp only [tst] at h4
      refine Ba rfl ?_
      exact AY hk2 x1 (by omega) (sub_of [] trivial trivial rfl)

/-! ### impl_Mine_hasJunctions -/
theorem c_impl_Mine_hasJunctions (m_ : AH) (list : List Int) : Con Tryz.prog 63 [.st [.int .i64 m_.Junctions, .sl 7 (m_.Airways.map Au.v)], .sl 1 (list.map (V.int .i64))] [] (.bool (Cn m_ list)) ([]) := by
  refine con_intro (out := fun r : Bool => ((.bool r : V), ([] : List (Nat × Option O)))) (r := (Cn m_ list)) Tryz.func63 rfl Tryz.ntmps63 rfl ?_
  refine CA (t := 0) 1 rfl rfl fun hl => ?_
  have l1 := hl; clear hl; simp only [List.length_map] at l1
  refine Bo (t := 1) rfl fun hl => ?_
  have l2 := hl; clear hl; simp only [List.length_map] at l2
  refine Ae ?_
  refine Ad (q_box (l := 200) .n rfl (.t rfl) rfl rfl rfl rfl <| Ag .n (.c rfl) rfl <| Lex.nil) ?_
  refine Ae ?_
  refine Ad (Af .n (.t rfl) rfl <| AR (full := false) .n .f en_97 (.cons (.t rfl) .nil) (.cons (.b (.a (.same rfl))) .nil) (fun hg => c_impl_increasing list) rfl (fun h => Bool.noConfusion h) rfl <| Af .n (.t rfl) rfl <| Af (.t rfl rfl) (.t rfl) rfl <| AE (.t rfl rfl) (.t rfl) fo_26_0 rfl <| AP (.t rfl rfl) (.u rfl id) rfl (.inr rfl) (fun _ => rfl) rfl ic_2 rfl <| AK (.t rfl rfl) (.u rfl id) (.c rfl) rfl rfl <| AR (full := false) (.t rfl rfl) .f en_29 (.cons (.u rfl id) (.cons (.c rfl) (.cons (.u rfl id) .nil))) (.cons (.b (.a (.same rfl))) (.cons (.b (.a (.same rfl))) (.cons (.b (.a (.same rfl))) .nil))) (fun hg => C0 list 0 (IntKind.wrap .i64 (m_.Junctions - 1))) rfl (fun h => Bool.noConfusion h) rfl <| Cz .n (.t rfl) (.u rfl id) rfl <| Ag .n (.t rfl) rfl <| Lex.nil) ?_
  exact Ay [] (.cons (.t rfl rfl) .nil) rfl trivial rfl

/-! ### impl_escapeOf -/
theorem c_impl_escapeOf (m_ : AH) (arrivals : List Int) (blocked : Int) (list : List Bi) (start : Int) (exits : List Int) : Con Tryz.prog 26 [.st [.int .i64 m_.Junctions, .sl 7 (m_.Airways.map Au.v)], .sl 1 (arrivals.map (V.int .i64)), .int .i64 blocked, .sl 3 (list.map Bi.v), .int .i64 start, .sl 1 (exits.map (V.int .i64))] [] (.tup [.st [.int .i64 (AA m_ arrivals blocked list start exits).1.mine.Junctions, .sl 7 ((AA m_ arrivals blocked list start exits).1.mine.Airways.map Au.v), .sl 1 ((AA m_ arrivals blocked list start exits).1.arrivals.map (V.int .i64)), .int .i64 (AA m_ arrivals blocked list start exits).1.blocked], .int .i64 (AA m_ arrivals blocked list start exits).2]) ([]) := by
  refine con_intro (out := fun r : Cb × Int => ((.tup [.st [.int .i64 r.1.mine.Junctions, .sl 7 (r.1.mine.Airways.map Au.v), .sl 1 (r.1.arrivals.map (V.int .i64)), .int .i64 r.1.blocked], .int .i64 r.2] : V), ([] : List (Nat × Option O)))) (r := (AA m_ arrivals blocked list start exits)) Tryz.func26 rfl Tryz.ntmps26 rfl ?_
  refine CA (t := 0) 1 rfl rfl fun hl => ?_
  have l1 := hl; clear hl; simp only [List.length_map] at l1
  refine Bo (t := 1) rfl fun hl => ?_
  have l2 := hl; clear hl; simp only [List.length_map] at l2
  refine Bo (t := 3) rfl fun hl => ?_
  have l3 := hl; clear hl; simp only [List.length_map] at l3
  refine Bo (t := 5) rfl fun hl => ?_
  have l4 := hl; clear hl; simp only [List.length_map] at l4
  refine Ae ?_
  refine Ad (q_box (l := 200) .n rfl (.t rfl) rfl rfl rfl rfl <| BG (l := 201) .n rfl zv_67 rfl rfl <| Ag .n (.c rfl) rfl <| Lex.nil) ?_
  refine Ae ?_
  refine AC ?_
  refine Ae ?_
  refine Ad (Bb .n (.t rfl) rfl (.inr rfl) ag_26 (fun _ => rfl) rfl rfl <| Af .n (.t rfl) rfl <| AR (full := false) .n .f en_62 (.cons (.t rfl) (.cons (.t rfl) .nil)) (.cons (.sts rfl) (.cons (.b (.a (.same rfl))) .nil)) (fun hg => c_impl_ValidCrews m_ list) rfl (fun h => Bool.noConfusion h) rfl <| Cr .n (.t rfl) rfl <| Ag .n (.t rfl) rfl <| Lex.nil) ?_
  refine As (.t rfl) rfl (fun h5 => ?_) (fun h5 => ?_)
  · try simp only [tst] at h5
    refine Ae ?_
    refine Ad (Dw (us := [.int .i64 0, .nls, .nls, .int .i64 0]) .n .nil zv_67 pl_67 rfl rfl rfl <| AL [.int .i64 0, .nls, .nls, .int .i64 0] .n rfl (.t rfl) (.t rfl) rfl ts_67 rfl rfl <| Ag .n (.c rfl) rfl <| Lex.nil) ?_
    refine CN (sub_nlsB (b := 201) [.int .i64 0, .sl 7 (([] : List Au).map Au.v), .sl 1 (K_6.map (V.int .i64)), .int .i64 0] rfl ⟨.inl rfl, .inr ⟨rfl, _, rfl⟩, .inr ⟨rfl, _, rfl⟩, .inl rfl, trivial⟩) ?_
    exact Ay [] (.cons (.cN rfl rfl ag_67 rfl rfl) (.cons (.t rfl rfl) .nil)) (by first | rfl | (simp only [put_len]; rfl)) trivial rfl
  · try simp only [tst] at h5
    refine Ae ?_
    refine Ad (Af .n (.t rfl) rfl <| AE .n (.t rfl) fo_26_1 rfl <| AP .n (.t rfl) rfl (.inr rfl) (fun _ => rfl) rfl ic_24 rfl <| BD .n (.t rfl) rfl len_map ss_24 rfl <| q_sub .n (.t rfl) (.c rfl) (fun _ => by omega) rfl <| AR (full := false) .n .f en_37 (.cons (.t rfl) (.cons (.c rfl) (.cons (.t rfl) .nil))) (.cons (.b (.a (.same rfl))) (.cons (.b (.a (.same rfl))) (.cons (.b (.a (.same rfl))) .nil))) (fun hg => BF blocked (-1) ((m_.Airways.length : Int) - 1)) rfl (fun h => Bool.noConfusion h) rfl <| Cr .n (.t rfl) rfl <| Af .n (.t rfl) rfl <| Af (.f rfl rfl) (.t rfl) rfl <| AR (full := false) (.f rfl rfl) .f en_37 (.cons (.u rfl id) (.cons (.c rfl) (.cons (.c rfl) .nil))) (.cons (.b (.a (.same rfl))) (.cons (.b (.a (.same rfl))) (.cons (.b (.a (.same rfl))) .nil))) (fun hg => BF start 0 36000) rfl (fun h => Bool.noConfusion h) rfl <| Cr (.f rfl rfl) (.u rfl id) rfl <| q_or .n (.t rfl) (.u rfl id) rfl <| Ag .n (.t rfl) rfl <| Lex.nil) ?_
    refine As (.t rfl) rfl (fun h6 => ?_) (fun h6 => ?_)
    · try simp only [tst] at h6
      try have hf0h6 := within_imp h6
      try have hf1h6 := within_imp h6.1
      try have hf2h6 := within_imp h6.2
      try have hf3h6 := within_imp h6.1.1
      try have hf4h6 := within_imp h6.1.2
      try have hf5h6 := within_imp h6.2.1
      try have hf6h6 := within_imp h6.2.2
      refine Ae ?_
      refine Ad (Dw (us := [.int .i64 0, .nls, .nls, .int .i64 0]) .n .nil zv_67 pl_67 rfl rfl rfl <| AL [.int .i64 0, .nls, .nls, .int .i64 0] .n rfl (.t rfl) (.t rfl) rfl ts_67 rfl rfl <| Ag .n (.c rfl) rfl <| Lex.nil) ?_
      refine CN (sub_nlsB (b := 201) [.int .i64 0, .sl 7 (([] : List Au).map Au.v), .sl 1 (K_6.map (V.int .i64)), .int .i64 0] rfl ⟨.inl rfl, .inr ⟨rfl, _, rfl⟩, .inr ⟨rfl, _, rfl⟩, .inl rfl, trivial⟩) ?_
      exact Ay [] (.cons (.cN rfl rfl ag_67 rfl rfl) (.cons (.t rfl rfl) .nil)) (by first | rfl | (simp only [put_len]; rfl)) trivial rfl
    · try simp only [tst] at h6
      try have hf0h6 := within_imp h6
      try have hf1h6 := within_imp h6.1
      try have hf2h6 := within_imp h6.2
      try have hf3h6 := within_imp h6.1.1
      try have hf4h6 := within_imp h6.1.2
      try have hf5h6 := within_imp h6.2.1
      try have hf6h6 := within_imp h6.2.2
      refine Ae ?_
      refine Ad (Af .n (.t rfl) rfl <| BD .n (.t rfl) rfl len_map ss_27 rfl <| AE .n (.t rfl) fo_26_0 rfl <| AP .n (.t rfl) rfl (.inr rfl) (fun _ => rfl) rfl ic_2 rfl <| AK .n (.t rfl) (.t rfl) rfl rfl <| Af .n (.t rfl) rfl <| Af (.f rfl rfl) (.t rfl) rfl <| AR (full := false) (.f rfl rfl) .f en_29 (.cons (.u rfl id) (.cons (.c rfl) (.cons (.c rfl) .nil))) (.cons (.b (.a (.same rfl))) (.cons (.b (.a (.same rfl))) (.cons (.b (.a (.same rfl))) .nil))) (fun hg => C0 arrivals (-1) 1000000000000) rfl (fun h => Bool.noConfusion h) rfl <| Cr (.f rfl rfl) (.u rfl id) rfl <| q_or .n (.t rfl) (.u rfl id) rfl <| Af .n (.t rfl) rfl <| Bb (.f rfl rfl) (.t rfl) rfl (.inr rfl) ag_26 (fun _ => rfl) rfl rfl <| Af (.f rfl rfl) (.t rfl) rfl <| AR (full := false) (.f rfl rfl) .f en_63 (.cons (.u rfl id) (.cons (.u rfl id) .nil)) (.cons (.sts rfl) (.cons (.b (.a (.same rfl))) .nil)) (fun hg => c_impl_Mine_hasJunctions m_ exits) rfl (fun h => Bool.noConfusion h) rfl <| Cr (.f rfl rfl) (.u rfl id) rfl <| q_or .n (.t rfl) (.u rfl id) rfl <| Ag .n (.t rfl) rfl <| Lex.nil) ?_
      refine As (.t rfl) rfl (fun h7 => ?_) (fun h7 => ?_)
      · try simp only [tst] at h7
        try have hf0h7 := aw_imp h7
        try have hf1h7 := aw_imp h7.1
        try have hf2h7 := aw_imp h7.2
        try have hf3h7 := aw_imp h7.1.1
        try have hf4h7 := aw_imp h7.1.2
        try have hf5h7 := aw_imp h7.2.1
        try have hf6h7 := aw_imp h7.2.2
        refine Ae ?_
        refine Ad (Dw (us := [.int .i64 0, .nls, .nls, .int .i64 0]) .n .nil zv_67 pl_67 rfl rfl rfl <| AL [.int .i64 0, .nls, .nls, .int .i64 0] .n rfl (.t rfl) (.t rfl) rfl ts_67 rfl rfl <| Ag .n (.c rfl) rfl <| Lex.nil) ?_
        refine CN (sub_nlsB (b := 201) [.int .i64 0, .sl 7 (([] : List Au).map Au.v), .sl 1 (K_6.map (V.int .i64)), .int .i64 0] rfl ⟨.inl rfl, .inr ⟨rfl, _, rfl⟩, .inr ⟨rfl, _, rfl⟩, .inl rfl, trivial⟩) ?_
        exact Ay [] (.cons (.cN rfl rfl ag_67 rfl rfl) (.cons (.t rfl rfl) .nil)) (by first | rfl | (simp only [put_len]; rfl)) trivial rfl
      · try simp only [tst] at h7
        try have hf0h7 := aw_imp h7
        try have hf1h7 := aw_imp h7.1
        try have hf2h7 := aw_imp h7.2
        try have hf3h7 := aw_imp h7.1.1
        try have hf4h7 := aw_imp h7.1.2
        try have hf5h7 := aw_imp h7.2.1
        try have hf6h7 := aw_imp h7.2.2
        refine Aw ?_
        refine AS ?_
        refine Ae ?_
        refine Ad (Bb .n (.t rfl) rfl (.inr rfl) ag_26 (fun _ => rfl) rfl rfl <| Af .n (.t rfl) rfl <| Af .n (.t rfl) rfl <| Dw (us := [.int .i64 m_.Junctions, .sl 7 (m_.Airways.map Au.v), .sl 1 (arrivals.map (V.int .i64)), .int .i64 blocked]) .n (.cons (.t rfl) (.cons (.t rfl) (.cons (.t rfl) .nil))) zv_67 pl_67 rfl rfl rfl <| AL [.int .i64 m_.Junctions, .sl 7 (m_.Airways.map Au.v), .sl 1 (arrivals.map (V.int .i64)), .int .i64 blocked] .n rfl (.t rfl) (.t rfl) rfl ts_67 rfl rfl <| Ag .n (.c rfl) rfl <| Lex.nil) ?_
        exact Ay [] (.cons (.cN rfl rfl ag_67 rfl rfl) (.cons (.t rfl rfl) .nil)) (by first | rfl | (simp only [put_len]; rfl)) trivial rfl

/-! ### impl_Refuge_valid -/
theorem c_impl_Refuge_valid (x_ : AI) : Con Tryz.prog 36 [.st [.str x_.Id, .int .i64 x_.Junction, .int .i64 x_.Places, .int .i64 x_.Air]] [] (.bool (BB x_)) ([]) := by
  refine con_intro (out := fun r : Bool => ((.bool r : V), ([] : List (Nat × Option O)))) (r := (BB x_)) Tryz.func36 rfl Tryz.ntmps36 rfl ?_
  refine Ae ?_
  refine Ad (q_box (l := 200) .n rfl (.t rfl) rfl rfl rfl rfl <| Ag .n (.c rfl) rfl <| Lex.nil) ?_
  refine Ae ?_
  refine Ad (AE .n (.t rfl) fo_39_0 rfl <| AP .n (.t rfl) rfl (.inr rfl) (fun _ => rfl) rfl ic_9 rfl <| AR (full := false) .n .f en_79 (.cons (.t rfl) .nil) (.cons (.b (.a (.same rfl))) .nil) (fun hg => c_impl_IsName x_.Id) rfl (fun h => Bool.noConfusion h) rfl <| Af .n (.t rfl) rfl <| AE (.t rfl rfl) (.t rfl) fo_39_1 rfl <| AP (.t rfl rfl) (.u rfl id) rfl (.inr rfl) (fun _ => rfl) rfl ic_2 rfl <| AR (full := false) (.t rfl rfl) .f en_80 (.cons (.u rfl id) .nil) (.cons (.b (.a (.same rfl))) .nil) (fun hg => Dk x_.Junction) rfl (fun h => Bool.noConfusion h) rfl <| Cz .n (.t rfl) (.u rfl id) rfl <| Af .n (.t rfl) rfl <| AE (.t rfl rfl) (.t rfl) fo_39_2 rfl <| AP (.t rfl rfl) (.u rfl id) rfl (.inr rfl) (fun _ => rfl) rfl ic_2 rfl <| AR (full := false) (.t rfl rfl) .f en_37 (.cons (.u rfl id) (.cons (.c rfl) (.cons (.c rfl) .nil))) (.cons (.b (.a (.same rfl))) (.cons (.b (.a (.same rfl))) (.cons (.b (.a (.same rfl))) .nil))) (fun hg => BF x_.Places 1 200) rfl (fun h => Bool.noConfusion h) rfl <| Cz .n (.t rfl) (.u rfl id) rfl <| Af .n (.t rfl) rfl <| AE (.t rfl rfl) (.t rfl) fo_39_3 rfl <| AP (.t rfl rfl) (.u rfl id) rfl (.inr rfl) (fun _ => rfl) rfl ic_2 rfl <| AR (full := false) (.t rfl rfl) .f en_37 (.cons (.u rfl id) (.cons (.c rfl) (.cons (.c rfl) .nil))) (.cons (.b (.a (.same rfl))) (.cons (.b (.a (.same rfl))) (.cons (.b (.a (.same rfl))) .nil))) (fun hg => BF x_.Air 0 10000000) rfl (fun h => Bool.noConfusion h) rfl <| Cz .n (.t rfl) (.u rfl id) rfl <| Ag .n (.t rfl) rfl <| Lex.nil) ?_
  exact Ay [] (.cons (.t rfl rfl) .nil) rfl trivial rfl

/-! ### impl_ValidRefuges -/
theorem c_impl_ValidRefuges (m_ : AH) (list : List AI) : Con Tryz.prog 27 [.st [.int .i64 m_.Junctions, .sl 7 (m_.Airways.map Au.v)], .sl 4 (list.map AI.v)] [] (.bool (Bk m_ list)) ([]) := by
  refine con_intro (out := fun r : Bool => ((.bool r : V), ([] : List (Nat × Option O)))) (r := (Bk m_ list)) Tryz.func27 rfl Tryz.ntmps27 rfl ?_
  refine CA (t := 0) 1 rfl rfl fun hl => ?_
  have l1 := hl; clear hl; simp only [List.length_map] at l1
  refine Bo (t := 1) rfl fun hl => ?_
  have l2 := hl; clear hl; simp only [List.length_map] at l2
  refine Ae ?_
  refine Ad (q_box (l := 200) .n rfl (.t rfl) rfl rfl rfl rfl <| Ag .n (.c rfl) rfl <| Lex.nil) ?_
  refine Ae ?_
  refine Ae ?_
  refine Ad (Bb .n (.t rfl) rfl (.inr rfl) ag_26 (fun _ => rfl) rfl rfl <| AR (full := false) .n .f en_42 (.cons (.t rfl) .nil) (.cons (.sts rfl) .nil) (fun hg => c_impl_ValidMine m_) rfl (fun h => Bool.noConfusion h) rfl <| Cr .n (.t rfl) rfl <| Af .n (.t rfl) rfl <| Af (.f rfl rfl) (.t rfl) rfl <| BD (.f rfl rfl) (.u rfl id) rfl len_map ss_29 rfl <| AK (.f rfl rfl) (.u rfl id) (.c rfl) rfl rfl <| q_or .n (.t rfl) (.u rfl id) rfl <| Lex.nil) ?_
  refine As (.t rfl) rfl (fun h3 => ?_) (fun h3 => ?_)
  · try simp only [tst] at h3
    try have hf0h3 := ValidMine_imp h3
    try have hf1h3 := ValidMine_imp h3.1
    try have hf2h3 := ValidMine_imp h3.2
    try have hf3h3 := ValidMine_imp h3.1.1
    try have hf4h3 := ValidMine_imp h3.1.2
    try have hf5h3 := ValidMine_imp h3.2.1
    try have hf6h3 := ValidMine_imp h3.2.2
    refine Ae ?_
    refine Ad (Ag .n (.c rfl) rfl <| Lex.nil) ?_
    exact Ay [] (.cons (.t rfl rfl) .nil) rfl trivial rfl
  · try simp only [tst] at h3
    try have hf0h3 := ValidMine_imp h3
    try have hf1h3 := ValidMine_imp h3.1
    try have hf2h3 := ValidMine_imp h3.2
    try have hf3h3 := ValidMine_imp h3.1.1
    try have hf4h3 := ValidMine_imp h3.1.2
    try have hf5h3 := ValidMine_imp h3.2.1
    try have hf6h3 := ValidMine_imp h3.2.2
    refine Aw ?_
    refine Ae ?_
    refine Ae ?_
    refine Ad (Af .n (.t rfl) rfl <| BD .n (.t rfl) rfl len_map ss_29 rfl <| Af .n (.c rfl) rfl <| Lex.nil) ?_
    refine AC ?_
    refine Bp (C6 m_ list) _ _ _ rfl (fun (x1 : Int) => 0 ≤ x1 ∧ x1 ≤ (list.length : Int)) (fun x1 => 0 ≤ x1 ∧ x1 ≤ (list.length : Int) ∧ (list.length : Int) ≤ x1) (fun x1 => ((list.length : Int) - x1 : Int).toNat) (fun x1 => ⟨[(1, some (true, .sl 4 (list.map AI.v))), (2, some (true, .op 200 0 0 0)), (15, some (true, .sl 4 (list.map AI.v))), (16, some (true, .int .i64 (list.length : Int))), (17, some (true, .int .i64 x1))], [(200, some (.box 26 [.int .i64 m_.Junctions, .sl 7 (m_.Airways.map Au.v)]))]⟩) (fun x1 => ⟨[], []⟩) ⟨by omega, by omega⟩ (by omega) (sub_of [] ⟨rfl, rfl, rfl, rfl, rfl, trivial⟩ ⟨rfl, trivial⟩ rfl) ?_ ?_
    · intro x1 i8
      obtain ⟨e9, e10, e11⟩ := i8
      try dsimp only at *
      refine Ae ?_
      refine Ad (Ag .n (.c rfl) rfl <| Lex.nil) ?_
      exact Ay [] (.cons (.t rfl rfl) .nil) rfl trivial rfl
    · intro rec1 k1 hk4 x1 i5
      obtain ⟨e12, e13⟩ := i5
      try dsimp only at *
      refine Ae ?_
      refine Ad (AK .n (.t rfl) (.t rfl) rfl rfl <| Lex.nil) ?_
      refine Ae ?_
      refine As (.t rfl) rfl (fun h6 => ?_) (fun h6 => ?_)
      · try simp only [tst] at h6
        refine Aw ?_
        refine Ae ?_
        refine AC ?_
        refine Ae ?_
        refine Ad (Af .n (.t rfl) rfl <| Bc .n (.t rfl) (.t rfl) sl_29 (fun _ => by omega) rfl <| Dq .n (.t rfl) ag_39 rfl rfl rfl <| BG (l := 201) .n rfl zv_39 rfl rfl <| Ag .n (.t rfl) rfl <| AL [.str (at' list x1).Id, .int .i64 (at' list x1).Junction, .int .i64 (at' list x1).Places, .int .i64 (at' list x1).Air] .n rfl (.t rfl) (.t rfl) rfl ts_39 rfl rfl <| Lex.nil) ?_
        refine Ae ?_
        refine Bl fmo (Bb .n (.t rfl) rfl (.inr rfl) ag_39 (fun _ => rfl) rfl rfl <| AR (full := false) .n .f en_36 (.cons (.t rfl) .nil) (.cons (.sts rfl) .nil) (fun hg => c_impl_Refuge_valid (at' list x1)) rfl (fun h => Bool.noConfusion h) rfl <| Cr .n (.t rfl) rfl <| Af .n (.t rfl) rfl <| Bb (.f rfl rfl) (.t rfl) rfl (.inr rfl) ag_26 (fun _ => rfl) rfl rfl <| AE (.f rfl rfl) (.t rfl) fo_39_1 rfl <| AP (.f rfl rfl) (.u rfl id) rfl (.inr rfl) (fun _ => rfl) rfl ic_2 rfl <| AR (full := false) (.f rfl rfl) .f en_43 (.cons (.u rfl id) (.cons (.u rfl id) .nil)) (.cons (.sts rfl) (.cons (.b (.a (.same rfl))) .nil)) (fun hg => B9 m_ (at' list x1).Junction) rfl (fun h => Bool.noConfusion h) rfl <| Cr (.f rfl rfl) (.u rfl id) rfl <| q_or .n (.t rfl) (.u rfl id) rfl <| Af .n (.t rfl) rfl <| Af (.f rfl rfl) (.t rfl) rfl <| AK (.f rfl rfl) (.u rfl id) (.c rfl) rfl rfl <| Af (.f rfl rfl) (.u rfl id) rfl <| AE (.t rfl rfl) (.t rfl) fo_39_0 rfl <| AP (.t rfl rfl) (.u rfl id) rfl (.inr rfl) (fun _ => rfl) rfl ic_9 rfl <| Af (.t rfl rfl) (.t rfl) rfl <| Af (.t rfl rfl) (.t rfl) rfl <| q_sub (.t rfl rfl) (.u rfl id) (.c rfl) (fun hg => by simp only [tst] at hg; omega) rfl <| Bc (.t rfl rfl) (.u rfl id) (.u rfl id) sl_29 (fun hg => by simp only [tst] at hg; omega) rfl <| AM (.t rfl rfl) (.u rfl id) fo_39_0 rfl <| Az (.t rfl rfl) (.u rfl id) rfl ic_9 rfl <| q_strcmp (.t rfl rfl) (.u rfl id) (.u rfl id) rfl rfl <| Cz (.f rfl rfl) (.u rfl id) (.u rfl id) rfl <| q_or .n (.t rfl) (.u rfl id) rfl <| Lex.nil) (by kernel_rfl) ?_
        refine As (.t rfl) rfl (fun h7 => ?_) (fun h7 => ?_)
        · try simp only [tst] at h7
          refine Ae ?_
          refine Ad (Ag .n (.c rfl) rfl <| Lex.nil) ?_
          exact Ay [] (.cons (.t rfl rfl) .nil) rfl trivial rfl
        · try simp only [tst] at h7
          refine Aw ?_
          refine AS ?_
          refine Ad (BQ .n (.t rfl) (.c rfl) (fun _ => by omega) rfl <| Af .n (.t rfl) rfl <| Lex.nil) ?_
          exact A6 (x1 + 1) ⟨by omega, by omega⟩ (by omega) (sub_of [] ⟨rfl, rfl, rfl, rfl, rfl, trivial⟩ ⟨rfl, trivial⟩ rfl)
      · try simp only [tst] at h6
        refine Ba rfl ?_
        exact AY hk4 x1 ⟨by omega, by omega, by omega⟩ (sub_of [] trivial trivial rfl)

/-! ### impl_budgetValid -/
theorem c_impl_budgetValid (budget : Int) : Con Tryz.prog 28 [.int .i64 budget] [] (.bool (Co budget)) ([]) := by
  refine con_intro (out := fun r : Bool => ((.bool r : V), ([] : List (Nat × Option O)))) (r := (Co budget)) Tryz.func28 rfl Tryz.ntmps28 rfl ?_
  refine Ae ?_
  refine Ad (Ag .n (.c rfl) rfl <| Lex.nil) ?_
  refine Ae ?_
  refine Ad (Af .n (.t rfl) rfl <| AR (full := false) .n .f en_37 (.cons (.t rfl) (.cons (.c rfl) (.cons (.c rfl) .nil))) (.cons (.b (.a (.same rfl))) (.cons (.b (.a (.same rfl))) (.cons (.b (.a (.same rfl))) .nil))) (fun hg => BF budget 1 20000) rfl (fun h => Bool.noConfusion h) rfl <| Ag .n (.t rfl) rfl <| Lex.nil) ?_
  exact Ay [] (.cons (.t rfl rfl) .nil) rfl trivial rfl

/-! ### math_bits_Mul32 -/
theorem c_math_bits_Mul32 (x_ : Int) (y : Int) : Con Tryz.prog 109 [.int .u32 x_, .int .u32 y] [] (.tup [.int .u32 (CP x_ y).1, .int .u32 (CP x_ y).2]) ([]) := by
  refine con_intro (out := fun r : Int × Int => ((.tup [.int .u32 r.1, .int .u32 r.2] : V), ([] : List (Nat × Option O)))) (r := (CP x_ y)) Tryz.func109 rfl Tryz.ntmps109 rfl ?_
  refine Ae ?_
  refine Ad (Ag .n (.c rfl) rfl <| Ag .n (.c rfl) rfl <| Lex.nil) ?_
  refine Ae ?_
  refine Ad (Af .n (.t rfl) rfl <| q_conv .n (.t rfl) cv_147_98 rfl <| Af .n (.t rfl) rfl <| q_conv .n (.t rfl) cv_147_98 rfl <| AK .n (.t rfl) (.t rfl) rfl rfl <| Ag .n (.t rfl) rfl <| Lex.nil) ?_
  refine Ae ?_
  refine Ad (Af .n (.t rfl) rfl <| q_shr .n (.t rfl) (.c rfl) (fun _ => by omega) rfl <| q_conv .n (.t rfl) cv_98_147 rfl <| Af .n (.t rfl) rfl <| q_conv .n (.t rfl) cv_98_147 rfl <| Ag .n (.t rfl) rfl <| Ag .n (.t rfl) rfl <| Lex.nil) ?_
  exact Ay [] (.cons (.t rfl rfl) (.cons (.t rfl rfl) .nil)) rfl trivial rfl

/-! ### math_bits_Mul64 -/
theorem c_math_bits_Mul64 (x_ : Int) (y : Int) : Con Tryz.prog 110 [.int .u64 x_, .int .u64 y] [] (.tup [.int .u64 (CQ x_ y).1, .int .u64 (CQ x_ y).2]) ([]) := by
  refine con_intro (out := fun r : Int × Int => ((.tup [.int .u64 r.1, .int .u64 r.2] : V), ([] : List (Nat × Option O)))) (r := (CQ x_ y)) Tryz.func110 rfl Tryz.ntmps110 rfl ?_
  refine Ae ?_
  refine Ad (Ag .n (.c rfl) rfl <| Ag .n (.c rfl) rfl <| Lex.nil) ?_
  refine Ae ?_
  refine Ad (Af .n (.t rfl) rfl <| AK .n (.t rfl) (.c rfl) rfl rfl <| Ag .n (.t rfl) rfl <| Lex.nil) ?_
  refine Ae ?_
  refine Ad (Af .n (.t rfl) rfl <| q_shr .n (.t rfl) (.c rfl) (fun _ => by omega) rfl <| Ag .n (.t rfl) rfl <| Lex.nil) ?_
  refine Ae ?_
  refine Ad (Af .n (.t rfl) rfl <| AK .n (.t rfl) (.c rfl) rfl rfl <| Ag .n (.t rfl) rfl <| Lex.nil) ?_
  refine Ae ?_
  refine Ad (Af .n (.t rfl) rfl <| q_shr .n (.t rfl) (.c rfl) (fun _ => by omega) rfl <| Ag .n (.t rfl) rfl <| Lex.nil) ?_
  refine Ae ?_
  refine Ad (Af .n (.t rfl) rfl <| Af .n (.t rfl) rfl <| AK .n (.t rfl) (.t rfl) rfl rfl <| Ag .n (.t rfl) rfl <| Lex.nil) ?_
  refine Ae ?_
  refine Ad (Af .n (.t rfl) rfl <| Af .n (.t rfl) rfl <| AK .n (.t rfl) (.t rfl) rfl rfl <| Af .n (.t rfl) rfl <| q_shr .n (.t rfl) (.c rfl) (fun _ => by omega) rfl <| AK .n (.t rfl) (.t rfl) rfl rfl <| Ag .n (.t rfl) rfl <| Lex.nil) ?_
  refine Ae ?_
  refine Ad (Af .n (.t rfl) rfl <| AK .n (.t rfl) (.c rfl) rfl rfl <| Ag .n (.t rfl) rfl <| Lex.nil) ?_
  refine Ae ?_
  refine Ad (Af .n (.t rfl) rfl <| q_shr .n (.t rfl) (.c rfl) (fun _ => by omega) rfl <| Ag .n (.t rfl) rfl <| Lex.nil) ?_
  refine Ae ?_
  refine Ad (Af .n (.t rfl) rfl <| Af .n (.t rfl) rfl <| Af .n (.t rfl) rfl <| AK .n (.t rfl) (.t rfl) rfl rfl <| AK .n (.t rfl) (.t rfl) rfl rfl <| Ag .n (.t rfl) rfl <| Lex.nil) ?_
  refine Ae ?_
  refine Ad (Af .n (.t rfl) rfl <| Af .n (.t rfl) rfl <| AK .n (.t rfl) (.t rfl) rfl rfl <| Af .n (.t rfl) rfl <| AK .n (.t rfl) (.t rfl) rfl rfl <| Af .n (.t rfl) rfl <| q_shr .n (.t rfl) (.c rfl) (fun _ => by omega) rfl <| AK .n (.t rfl) (.t rfl) rfl rfl <| Ag .n (.t rfl) rfl <| Lex.nil) ?_
  refine Ae ?_
  refine Ad (Af .n (.t rfl) rfl <| Af .n (.t rfl) rfl <| AK .n (.t rfl) (.t rfl) rfl rfl <| Ag .n (.t rfl) rfl <| Lex.nil) ?_
  exact Ay [] (.cons (.t rfl rfl) (.cons (.t rfl rfl) .nil)) rfl trivial rfl

/-! ### math_bits_Mul -/
theorem c_math_bits_Mul (x_ : Int) (y : Int) : Con Tryz.prog 98 [.int .u64 x_, .int .u64 y] [] (.tup [.int .u64 (B5 x_ y).1, .int .u64 (B5 x_ y).2]) ([]) := by
  refine con_intro (out := fun r : Int × Int => ((.tup [.int .u64 r.1, .int .u64 r.2] : V), ([] : List (Nat × Option O)))) (r := (B5 x_ y)) Tryz.func98 rfl Tryz.ntmps98 rfl ?_
  refine Ae ?_
  refine Ad (Ag .n (.c rfl) rfl <| Ag .n (.c rfl) rfl <| Lex.nil) ?_
  refine Ae ?_
  refine As (.c rfl) rfl (fun h1 => ?_) (fun h1 => ?_)
  · try simp only [tst] at h1
    refine Ae ?_
    refine Ad (Af .n (.t rfl) rfl <| q_conv .n (.t rfl) cv_141_147 rfl <| Af .n (.t rfl) rfl <| q_conv .n (.t rfl) cv_141_147 rfl <| AR (full := false) .n .f en_109 (.cons (.t rfl) (.cons (.t rfl) .nil)) (.cons (.b (.a (.same rfl))) (.cons (.b (.a (.same rfl))) .nil)) (fun hg => c_math_bits_Mul32 (IntKind.wrap .u32 x_) (IntKind.wrap .u32 y)) rfl (fun h => Bool.noConfusion h) rfl <| Af .n (.t rfl) rfl <| C3 .n (.t rfl) rfl rfl rfl <| C3 .n (.t rfl) rfl rfl rfl <| Ag .n (.t rfl) rfl <| Ag .n (.t rfl) rfl <| Lex.nil) ?_
    refine Ae ?_
    refine Ad (Af .n (.t rfl) rfl <| q_conv .n (.t rfl) cv_147_141 rfl <| Af .n (.t rfl) rfl <| q_conv .n (.t rfl) cv_147_141 rfl <| Ag .n (.t rfl) rfl <| Ag .n (.t rfl) rfl <| Lex.nil) ?_
    exact Ay [] (.cons (.t rfl rfl) (.cons (.t rfl rfl) .nil)) rfl trivial rfl
  · try simp only [tst] at h1
    refine Aw ?_
    refine Ae ?_
    refine Ad (Af .n (.t rfl) rfl <| Af .n (.t rfl) rfl <| AR (full := false) .n .f en_110 (.cons (.t rfl) (.cons (.t rfl) .nil)) (.cons (.b (.a (.same rfl))) (.cons (.b (.a (.same rfl))) .nil)) (fun hg => c_math_bits_Mul64 x_ y) rfl (fun h => Bool.noConfusion h) rfl <| Af .n (.t rfl) rfl <| C3 .n (.t rfl) rfl rfl rfl <| C3 .n (.t rfl) rfl rfl rfl <| Ag .n (.t rfl) rfl <| Ag .n (.t rfl) rfl <| Lex.nil) ?_
    refine Ae ?_
    refine Ad (Af .n (.t rfl) rfl <| Af .n (.t rfl) rfl <| Ag .n (.t rfl) rfl <| Ag .n (.t rfl) rfl <| Lex.nil) ?_
    exact Ay [] (.cons (.t rfl rfl) (.cons (.t rfl rfl) .nil)) rfl trivial rfl

/-! ### slices_Repeat_int64 -/
theorem c_slices_Repeat_int64 (x_ : List Int) (count : Int) (hp1 : x_.length = 1) (hp2 : 1 ≤ count ∧ count ≤ 16) : Con Tryz.prog 65 [.sl 1 (x_.map (V.int .i64)), .int .i64 count] [] (.os 100 (Bh x_ count).length) ([(100, some (.row 2 1 ((Bh x_ count).map (V.int .i64))))]) := by
  refine con_intro (out := fun r : (List Int) => ((.os 100 r.length : V), ([(100, some (.row 2 1 (r.map (V.int .i64))))] : List (Nat × Option O)))) (r := (Bh x_ count)) Tryz.func65 rfl Tryz.ntmps65 rfl ?_
  have hM := mul_rep (n := (x_.length : Int)) (c := count) (by omega) hp2
  have hW := wr64 (n := count) (by omega)
  refine Bo (t := 0) rfl fun hl => ?_
  have l1 := hl; clear hl; simp only [List.length_map] at l1
  refine Ae ?_
  refine Ad (Ag .n (.c rfl) rfl <| Lex.nil) ?_
  refine Ae ?_
  refine Ae ?_
  refine Ad (Af .n (.t rfl) rfl <| AK .n (.t rfl) (.c rfl) rfl rfl <| Lex.nil) ?_
  refine run_if (.t rfl) (fun h2 => ?_) (fun h2 => ?_)
  · try simp only [tst] at h2
    exfalso; omega
  · try simp only [tst] at h2
    refine Aw ?_
    refine Ae ?_
    refine Ad (Af .n (.t rfl) rfl <| BD .n (.t rfl) rfl len_map ss_27 rfl <| q_conv .n (.t rfl) cv_3_141 rfl <| Af .n (.t rfl) rfl <| q_conv .n (.t rfl) cv_3_141 rfl <| AR (full := false) .n .f en_98 (.cons (.t rfl) (.cons (.t rfl) .nil)) (.cons (.b (.a (.same rfl))) (.cons (.b (.a (.same rfl))) .nil)) (fun hg => c_math_bits_Mul (IntKind.wrap .u64 (x_.length : Int)) (IntKind.wrap .u64 count)) rfl (fun h => Bool.noConfusion h) rfl <| Af .n (.t rfl) rfl <| C3 .n (.t rfl) rfl rfl rfl <| C3 .n (.t rfl) rfl rfl rfl <| Ag .n (.t rfl) rfl <| Ag .n (.t rfl) rfl <| Lex.nil) ?_
    refine Ae ?_
    refine Ae ?_
    refine Ad (Af .n (.t rfl) rfl <| AK .n (.t rfl) (.c rfl) rfl rfl <| Af .n (.t rfl) rfl <| Af (.f rfl rfl) (.t rfl) rfl <| AK (.f rfl rfl) (.u rfl id) (.c rfl) rfl rfl <| q_or .n (.t rfl) (.u rfl id) rfl <| Lex.nil) ?_
    refine run_if (.t rfl) (fun h3 => ?_) (fun h3 => ?_)
    · try simp only [tst] at h3
      exfalso; ((simp only [hM, hW, List.length_replicate] at *; omega))
    · try simp only [tst] at h3
      refine Aw ?_
      refine Ae ?_
      refine Ad (Af .n (.t rfl) rfl <| q_conv .n (.t rfl) cv_141_3 rfl <| q_makem (f := V.int .i64) (l := 200) (0 : Int) .n rfl (.t rfl) (.t rfl) si_27 zv_2 (by ((simp only [hM, hW, List.length_replicate] at *; omega))) rfl rfl rfl <| Ag .n (.t rfl) rfl <| Lex.nil) ?_
      refine Ae ?_
      refine Ad (Af .n (.t rfl) rfl <| Af .n (.t rfl) rfl <| q_copym (ys := x_) (off := 0) (m := (List.replicate (IntKind.wrap .i64 (B5 (IntKind.wrap .u64 (x_.length : Int)) (IntKind.wrap .u64 count)).2 : Int).toNat (0 : Int)).length) .n rfl (.os (.t rfl)) rfl (by omega) (.ro (.t rfl)) sl_27 rfl rfl <| Ag .n (.t rfl) rfl <| Lex.nil) ?_
      refine Ae ?_
      refine AC ?_
      refine Bp (Cp x_ count) _ _ _ rfl (fun (x1 : (List Int) × Int) => (x1.1.length : Int) = count ∧ (1 ≤ x1.2 ∧ x1.2 ≤ count)) (fun x1 => (x1.1.length : Int) = count ∧ (1 ≤ x1.2 ∧ x1.2 ≤ count)) (fun x1 => (count - x1.2 : Int).toNat) (fun x1 => ⟨[(7, some (true, .os 200 x1.1.length)), (8, some (true, .int .i64 x1.2))], [(200, some (.row 2 1 (x1.1.map (V.int .i64))))]⟩) (fun x1 => ⟨[(7, some (true, .os 200 x1.1.length))], [(200, some (.row 2 1 (x1.1.map (V.int .i64))))]⟩) ⟨by ((dsimp only; rw [cpy_len (by simp only [List.length_take, List.length_replicate, hM, hW] at *; omega)]; simp only [List.length_replicate, hM, hW]; omega)), by ((simp only [hM, hW, List.length_replicate] at *; omega))⟩ (by omega) (sub_of [] ⟨os_len rfl (by first | (simp only [put_len]; done) | (((rw [cpy_len (by simp only [List.length_take] at *; omega)]; done)))), rfl, trivial⟩ ⟨rfl, trivial⟩ rfl) ?_ ?_
      · intro x1 i7
        obtain ⟨e8, e9⟩ := i7
        try dsimp only at *
        refine Ae ?_
        refine Ad (Af .n (.t rfl) rfl <| Ag .n (.t rfl) rfl <| Lex.nil) ?_
        exact Ay [(100, 200)] (.cons (.t rfl rfl) .nil) (by first | rfl | (simp only [put_len]; rfl)) ⟨rfl, trivial⟩ rfl
      · intro rec1 k1 hk4 x1 i5
        obtain ⟨e10, e11⟩ := i5
        try dsimp only at *
        refine Ae ?_
        refine Ae ?_
        refine Ad (Af .n (.t rfl) rfl <| Af .n (.t rfl) rfl <| BD .n (.t rfl) rfl rfl ss_27 rfl <| AK .n (.t rfl) (.t rfl) rfl rfl <| Lex.nil) ?_
        refine As (.t rfl) rfl (fun h6 => ?_) (fun h6 => ?_)
        · try simp only [tst] at h6
          refine Aw ?_
          refine AC ?_
          refine Bl fmo (Af .n (.t rfl) rfl <| Af .n (.t rfl) rfl <| Af .n (.t rfl) rfl <| q_cut_oss (x1.1.length : Int) .n (.t rfl) (.s (.t rfl)) .n sl_27 rfl (fun _ => by omega) rfl <| Af .n (.t rfl) rfl <| Af .n (.t rfl) rfl <| q_cut_owm (xs := x1.1) (b := x1.2) .n (.t rfl) (.s (.t rfl)) sl_27 (fun _ => by omega) rfl <| q_copym (ys := pre' x1.1 x1.2) (off := x1.2.toNat) (m := ((x1.1.length : Int).toNat - x1.2.toNat)) .n rfl (.oss (.t rfl)) rfl (by omega) (.ow (.t rfl) rfl pre_map (by simp only [len_map, pre_len])) sl_27 rfl rfl <| AK .n (.t rfl) (.t rfl) rfl rfl <| Ag .n (.t rfl) rfl <| Lex.nil) (by kernel_rfl) ?_
          refine AS ?_
          exact A6 (cpy x1.1 (x1.2.toNat) ((pre' x1.1 x1.2).take (min (pre' x1.1 x1.2).length ((x1.1.length : Int).toNat - x1.2.toNat))), IntKind.wrap .i64 (x1.2 + (((min (pre' x1.1 x1.2).length ((x1.1.length : Int).toNat - x1.2.toNat)) : Nat) : Int))) ⟨by ((have hq := rep_step (by assumption) (by assumption) hp2.2 (by assumption); dsimp only at hq ⊢; omega)), by ((have hq := rep_step (by assumption) (by assumption) hp2.2 (by assumption); dsimp only at hq ⊢; omega))⟩ (by ((have hq := rep_step (by assumption) (by assumption) hp2.2 (by assumption); dsimp only at hq ⊢; omega))) (sub_of [] ⟨os_len rfl (by first | (simp only [put_len]; done) | (((have hq := rep_step (by assumption) (by assumption) hp2.2 (by assumption); dsimp only at hq ⊢; omega)))), rfl, trivial⟩ ⟨rfl, trivial⟩ rfl)
        · try simp only [tst] at h6
          refine Ba rfl ?_
          exact AY hk4 (x1.1, x1.2) ⟨by omega, by omega⟩ (sub_of [] ⟨rfl, trivial⟩ ⟨rfl, trivial⟩ rfl)

/-! ### impl_escape_mayBe -/
theorem c_impl_escape_mayBe (e : Cb) (junction : Int) (second : Int) (hp1 : 0 ≤ junction ∧ junction < e.arrivals.length) : Con Tryz.prog 66 [.st [.int .i64 e.mine.Junctions, .sl 7 (e.mine.Airways.map Au.v), .sl 1 (e.arrivals.map (V.int .i64)), .int .i64 e.blocked], .int .i64 junction, .int .i64 second] [] (.bool (Cf e junction second)) ([]) := by
  refine con_intro (out := fun r : Bool => ((.bool r : V), ([] : List (Nat × Option O)))) (r := (Cf e junction second)) Tryz.func66 rfl Tryz.ntmps66 rfl ?_
  refine CA (t := 0) 1 rfl rfl fun hl => ?_
  have l1 := hl; clear hl; simp only [List.length_map] at l1
  refine CA (t := 0) 2 rfl rfl fun hl => ?_
  have l2 := hl; clear hl; simp only [List.length_map] at l2
  refine Ae ?_
  refine Ad (q_box (l := 200) .n rfl (.t rfl) rfl rfl rfl rfl <| Ag .n (.c rfl) rfl <| Lex.nil) ?_
  refine Ae ?_
  refine Ad (AE .n (.t rfl) fo_67_1 rfl <| AP .n (.t rfl) rfl (.inr rfl) (fun _ => rfl) rfl ic_27 rfl <| Af .n (.t rfl) rfl <| Bc .n (.t rfl) (.t rfl) sl_27 (fun _ => by omega) rfl <| Az .n (.t rfl) rfl ic_2 rfl <| AK .n (.t rfl) (.c rfl) rfl rfl <| Af .n (.t rfl) rfl <| AE (.f rfl rfl) (.t rfl) fo_67_1 rfl <| AP (.f rfl rfl) (.u rfl id) rfl (.inr rfl) (fun _ => rfl) rfl ic_27 rfl <| Af (.f rfl rfl) (.t rfl) rfl <| Bc (.f rfl rfl) (.u rfl id) (.u rfl id) sl_27 (fun hg => by simp only [tst] at hg; omega) rfl <| Az (.f rfl rfl) (.u rfl id) rfl ic_2 rfl <| Af (.f rfl rfl) (.t rfl) rfl <| AK (.f rfl rfl) (.u rfl id) (.u rfl id) rfl rfl <| q_or .n (.t rfl) (.u rfl id) rfl <| Ag .n (.t rfl) rfl <| Lex.nil) ?_
  exact Ay [] (.cons (.t rfl rfl) .nil) rfl trivial rfl

/-! ### impl_divUp -/
theorem c_impl_divUp (a : Int) (b : Int) (hp1 : ¬ b = 0) : Con Tryz.prog 99 [.int .i64 a, .int .i64 b] [] (.int .i64 (BP a b)) ([]) := by
  refine con_intro (out := fun r : Int => ((.int .i64 r : V), ([] : List (Nat × Option O)))) (r := (BP a b)) Tryz.func99 rfl Tryz.ntmps99 rfl ?_
  refine Ae ?_
  refine Ad (Ag .n (.c rfl) rfl <| Lex.nil) ?_
  refine Ae ?_
  refine Ad (Af .n (.t rfl) rfl <| Af .n (.t rfl) rfl <| AK .n (.t rfl) (.t rfl) rfl rfl <| AK .n (.t rfl) (.c rfl) rfl rfl <| Af .n (.t rfl) rfl <| q_quo .n (.t rfl) (.t rfl) (fun hg => by omega) rfl <| Ag .n (.t rfl) rfl <| Lex.nil) ?_
  exact Ay [] (.cons (.t rfl rfl) .nil) rfl trivial rfl

/-! ### impl_Airway_walkTime -/
theorem c_impl_Airway_walkTime (a : Au) (speed : Int) (hp1 : 10 ≤ speed ∧ speed ≤ 300) : Con Tryz.prog 67 [.st [.str a.Id, .int .i64 a.From, .int .i64 a.To, .int .i64 a.Length, .int .i64 a.Section, .int .i64 a.Friction, .int .i64 a.Shock], .int .i64 speed] [] (.int .i64 (A7 a speed)) ([]) := by
  refine con_intro (out := fun r : Int => ((.int .i64 r : V), ([] : List (Nat × Option O)))) (r := (A7 a speed)) Tryz.func67 rfl Tryz.ntmps67 rfl ?_
  refine Ae ?_
  refine Ad (q_box (l := 200) .n rfl (.t rfl) rfl rfl rfl rfl <| Ag .n (.c rfl) rfl <| Lex.nil) ?_
  refine Ae ?_
  refine Ad (AE .n (.t rfl) fo_112_3 rfl <| AP .n (.t rfl) rfl (.inr rfl) (fun _ => rfl) rfl ic_2 rfl <| AK .n (.c rfl) (.t rfl) rfl rfl <| Af .n (.t rfl) rfl <| AR (full := false) .n .f en_99 (.cons (.t rfl) (.cons (.t rfl) .nil)) (.cons (.b (.a (.same rfl))) (.cons (.b (.a (.same rfl))) .nil)) (fun hg => c_impl_divUp (IntKind.wrap .i64 (100 * a.Length)) speed (by omega)) rfl (fun h => Bool.noConfusion h) rfl <| Ag .n (.t rfl) rfl <| Lex.nil) ?_
  exact Ay [] (.cons (.t rfl rfl) .nil) rfl trivial rfl

/-! ### impl_escape_times -/
set_option maxHeartbeats 4000000 in
theorem c_impl_escape_times (e : Cb) (c_ : Bi) (start : Int) (hp1 : MineIn e.mine) (hp2 : (e.arrivals.length : Int) = e.mine.Junctions) (hp3 : CrewIn e.mine c_) (hp4 : 0 ≤ start ∧ start ≤ 36000) : Con Tryz.prog 30 [.st [.int .i64 e.mine.Junctions, .sl 7 (e.mine.Airways.map Au.v), .sl 1 (e.arrivals.map (V.int .i64)), .int .i64 e.blocked], .st [.str c_.Id, .int .i64 c_.Junction, .int .i64 c_.Speed], .int .i64 start] [] (.os 100 (Bm e c_ start).length) ([(100, some (.row 2 1 ((Bm e c_ start).map (V.int .i64))))]) := by
  refine con_intro (out := fun r : (List Int) => ((.os 100 r.length : V), ([(100, some (.row 2 1 (r.map (V.int .i64))))] : List (Nat × Option O)))) (r := (Bm e c_ start)) Tryz.func30 rfl Tryz.ntmps30 rfl ?_
  have hRl := rep_len hp1.1
  have hJ := hp1.1
  have hA := hp1.2.1
  have hC1 := hp3.1
  have hC2 := hp3.2
  have hJ1 := hp1.1
  have hA1 := hp1.2.1
  refine CA (t := 0) 1 rfl rfl fun hl => ?_
  have l1 := hl; clear hl; simp only [List.length_map] at l1
  refine CA (t := 0) 2 rfl rfl fun hl => ?_
  have l2 := hl; clear hl; simp only [List.length_map] at l2
  refine Ae ?_
  refine Ad (q_box (l := 200) .n rfl (.t rfl) rfl rfl rfl rfl <| q_box (l := 201) .n rfl (.t rfl) rfl rfl rfl rfl <| Ag .n (.c rfl) rfl <| Lex.nil) ?_
  refine Ae ?_
  refine Ad (AW K_7 (f := V.int .i64) (l := 202) .n rfl rfl (.cons (.c rfl) .nil) rfl si_27 zv_2 rfl rfl rfl <| AE .n (.t rfl) fo_67_0 rfl <| AE .n (.t rfl) fo_26_0 rfl <| AP .n (.t rfl) rfl (.inr rfl) (fun _ => rfl) rfl ic_2 rfl <| AV (full := true) [] [(100, 203)] .n rfl .f en_65 (.cons (.t rfl) (.cons (.t rfl) .nil)) (.cons (.b (.a (.own rfl rfl rfl (take_all (by simp only [len_map, put_len] <;> rfl)) (by simp only [len_map, put_len] <;> rfl)))) (.cons (.b (.a (.same rfl))) .nil)) (c_slices_Repeat_int64 K_7 e.mine.Junctions (by (simp only [lens] at * <;> omega)) (by omega)) trivial rfl rfl (fun _ => rfl) (fun _ => (hr_row (fun _ => rfl) hr_nil)) rfl <| Ag .n (.t rfl) rfl <| Lex.nil) ?_
  refine Ae ?_
  refine Ae ?_
  refine Ad (Bb .n (.t rfl) rfl (.inr rfl) ag_67 (fun _ => rfl) rfl rfl <| AE .n (.t rfl) fo_37_1 rfl <| AP .n (.t rfl) rfl (.inr rfl) (fun _ => rfl) rfl ic_2 rfl <| Af .n (.t rfl) rfl <| AR (full := false) .n .f en_66 (.cons (.t rfl) (.cons (.t rfl) (.cons (.t rfl) .nil))) (.cons (.sts rfl) (.cons (.b (.a (.same rfl))) (.cons (.b (.a (.same rfl))) .nil))) (fun hg => c_impl_escape_mayBe e c_.Junction start (by omega)) rfl (fun h => Bool.noConfusion h) rfl <| Cr .n (.t rfl) rfl <| Lex.nil) ?_
  refine As (.t rfl) rfl (fun h3 => ?_) (fun h3 => ?_)
  · try simp only [tst] at h3
    refine Ae ?_
    refine Ad (Af .n (.t rfl) rfl <| Ag .n (.t rfl) rfl <| Lex.nil) ?_
    exact Ay [(100, 203)] (.cons (.t rfl rfl) .nil) (by first | rfl | (simp only [put_len]; rfl)) ⟨rfl, trivial⟩ rfl
  · try simp only [tst] at h3
    refine Aw ?_
    refine Ae ?_
    refine Ad (Af .n (.t rfl) rfl <| AE .n (.t rfl) fo_37_1 rfl <| AP .n (.t rfl) rfl (.inr rfl) (fun _ => rfl) rfl ic_2 rfl <| Af .n (.t rfl) rfl <| AX .n (.t rfl) (.t rfl) sl_27 (fun _ => by omega) rfl <| B0 start .n rfl (.t rfl) (.t rfl) rfl ts_2 (by omega) rfl rfl <| Lex.nil) ?_
    refine Ae ?_
    refine Ae ?_
    refine Ad (Ag .n (.c rfl) rfl <| Lex.nil) ?_
    refine AC ?_
    refine Bp (CC e c_ start) _ _ _ rfl (fun (x1 : (List Int) × Bool) => SmB e.mine.Junctions x1.1) (fun x1 => SmB e.mine.Junctions x1.1) (fun x1 => pot x1.1 + (bif x1.2 then 1 else 0)) (fun x1 => ⟨[(3, some (true, .op 200 0 0 0)), (4, some (true, .op 201 0 0 0)), (7, some (true, .os 203 x1.1.length)), (8, some (true, .bool x1.2))], [(200, some (.box 67 [.int .i64 e.mine.Junctions, .sl 7 (e.mine.Airways.map Au.v), .sl 1 (e.arrivals.map (V.int .i64)), .int .i64 e.blocked])), (201, some (.box 37 [.str c_.Id, .int .i64 c_.Junction, .int .i64 c_.Speed])), (203, some (.row 2 1 (x1.1.map (V.int .i64))))]⟩) (fun x1 => ⟨[(7, some (true, .os 203 x1.1.length))], [(203, some (.row 2 1 (x1.1.map (V.int .i64))))]⟩) (by (exact cw_start hp1 hp3 hp4)) (by (exact cw_pot hp1 hp3 hp4)) (sub_of [] ⟨rfl, rfl, os_len rfl (by first | (simp only [put_len]; done) | (first | omega | assumption | (simp only [lens] at * <;> omega) | ((exact cw_start hp1 hp3 hp4); done) | ((exact cw_pot hp1 hp3 hp4); done) | ((exact SmI.refl (by assumption)); done) | ((exact SmI.mu (by assumption) (by assumption)); done) | ((exact And.left (by assumption)); done) | (((have hS : SmI e.mine.Junctions x1.1 x3.1 x3.2.1 := (by assumption); have hl := hS.1.1; have hw0 := hp1.at (i := x2.2.2) (by omega); unfold AirIn at hw0; have hw1 := at2 hw0 (q := x3.2.2) (by omega); omega)); done) | (((have hS : SmI e.mine.Junctions x1.1 x3.1 x3.2.1 := (by assumption); have hl := hS.1.1; exact times_put hp1 hp3.2 hS (by omega) (by omega) (by assumption))); done))), rfl, trivial⟩ ⟨rfl, rfl, rfl, trivial⟩ rfl) ?_ ?_
    · intro x1 i32
      have e33 := i32
      try dsimp only at *
      refine Ae ?_
      refine Ad (Af .n (.t rfl) rfl <| Ag .n (.t rfl) rfl <| Lex.nil) ?_
      exact Ay [(100, 203)] (.cons (.t rfl rfl) .nil) (by first | rfl | (simp only [put_len]; rfl)) ⟨rfl, trivial⟩ rfl
    · intro rec1 k1 hk4 x1 i5
      have e34 := i5
      try dsimp only at *
      refine Ae ?_
      refine Ae ?_
      refine Ad (Af .n (.t rfl) rfl <| Lex.nil) ?_
      refine As (.t rfl) rfl (fun h6 => ?_) (fun h6 => ?_)
      · try simp only [tst] at h6
        refine Aw ?_
        refine AC ?_
        refine Ae ?_
        refine Ad (Ag .n (.c rfl) rfl <| Lex.nil) ?_
        refine Ae ?_
        refine Ad (AE .n (.t rfl) fo_67_0 rfl <| AE .n (.t rfl) fo_26_1 rfl <| AP .n (.t rfl) rfl (.inr rfl) (fun _ => rfl) rfl ic_24 rfl <| BD .n (.t rfl) rfl len_map ss_24 rfl <| Af .n (.c rfl) rfl <| Lex.nil) ?_
        refine AC ?_
        refine Bp (Cc e c_ start rec1 k1 x1) _ _ _ rfl (fun (x2 : (List Int) × Bool × Int) => 0 ≤ x2.2.2 ∧ x2.2.2 ≤ (e.mine.Airways.length : Int) ∧ SmI e.mine.Junctions x1.1 x2.1 x2.2.1) (fun x2 => 0 ≤ x2.2.2 ∧ x2.2.2 ≤ (e.mine.Airways.length : Int) ∧ SmI e.mine.Junctions x1.1 x2.1 x2.2.1 ∧ (e.mine.Airways.length : Int) ≤ x2.2.2) (fun x2 => ((e.mine.Airways.length : Int) - x2.2.2 : Int).toNat) (fun x2 => ⟨[(3, some (true, .op 200 0 0 0)), (4, some (true, .op 201 0 0 0)), (7, some (true, .os 203 x2.1.length)), (8, some (true, .bool x2.2.1)), (35, some (true, .sl 7 (e.mine.Airways.map Au.v))), (36, some (true, .int .i64 (e.mine.Airways.length : Int))), (37, some (true, .int .i64 x2.2.2))], [(200, some (.box 67 [.int .i64 e.mine.Junctions, .sl 7 (e.mine.Airways.map Au.v), .sl 1 (e.arrivals.map (V.int .i64)), .int .i64 e.blocked])), (201, some (.box 37 [.str c_.Id, .int .i64 c_.Junction, .int .i64 c_.Speed])), (203, some (.row 2 1 (x2.1.map (V.int .i64))))]⟩) (fun x2 => ⟨[(3, some (true, .op 200 0 0 0)), (4, some (true, .op 201 0 0 0)), (7, some (true, .os 203 x2.1.length)), (8, some (true, .bool x2.2.1))], [(200, some (.box 67 [.int .i64 e.mine.Junctions, .sl 7 (e.mine.Airways.map Au.v), .sl 1 (e.arrivals.map (V.int .i64)), .int .i64 e.blocked])), (201, some (.box 37 [.str c_.Id, .int .i64 c_.Junction, .int .i64 c_.Speed])), (203, some (.row 2 1 (x2.1.map (V.int .i64))))]⟩) ⟨by (simp only [lens] at * <;> omega), by (simp only [lens] at * <;> omega), by (exact SmI.refl (by assumption))⟩ (by (simp only [lens] at * <;> omega)) (sub_of [] ⟨rfl, rfl, rfl, rfl, rfl, rfl, rfl, trivial⟩ ⟨rfl, rfl, rfl, trivial⟩ rfl) ?_ ?_
        · intro x2 i24
          obtain ⟨e25, e26, e27, e28⟩ := i24
          try dsimp only at *
          refine AS ?_
          exact A6 (x2.1, x2.2.1) (by (exact And.left (by assumption))) (by (exact SmI.mu (by assumption) (by assumption))) (sub_of [] ⟨rfl, rfl, rfl, rfl, trivial⟩ ⟨rfl, rfl, rfl, trivial⟩ rfl)
        · intro rec2 k2 hk7 x2 i8
          obtain ⟨e29, e30, e31⟩ := i8
          try dsimp only at *
          refine Ae ?_
          refine Ad (AK .n (.t rfl) (.t rfl) rfl rfl <| Lex.nil) ?_
          refine Ae ?_
          refine As (.t rfl) rfl (fun h9 => ?_) (fun h9 => ?_)
          · try simp only [tst] at h9
            refine Aw ?_
            refine Ae ?_
            refine AC ?_
            refine Ae ?_
            refine Ad (Af .n (.t rfl) rfl <| Bc .n (.t rfl) (.t rfl) sl_24 (fun _ => by omega) rfl <| Dq .n (.t rfl) ag_112 rfl rfl rfl <| BG (l := 204) .n rfl zv_112 rfl rfl <| Ag .n (.t rfl) rfl <| AL [.str (at' e.mine.Airways x2.2.2).Id, .int .i64 (at' e.mine.Airways x2.2.2).From, .int .i64 (at' e.mine.Airways x2.2.2).To, .int .i64 (at' e.mine.Airways x2.2.2).Length, .int .i64 (at' e.mine.Airways x2.2.2).Section, .int .i64 (at' e.mine.Airways x2.2.2).Friction, .int .i64 (at' e.mine.Airways x2.2.2).Shock] .n rfl (.t rfl) (.t rfl) rfl ts_112 rfl rfl <| Lex.nil) ?_
            refine Ae ?_
            refine Ad (AE .n (.t rfl) fo_112_1 rfl <| AP .n (.t rfl) rfl (.inr rfl) (fun _ => rfl) rfl ic_2 rfl <| AE .n (.t rfl) fo_112_2 rfl <| AP .n (.t rfl) rfl (.inr rfl) (fun _ => rfl) rfl ic_2 rfl <| q_builda (us := [.int .i64 (at' e.mine.Airways x2.2.2).From, .int .i64 (at' e.mine.Airways x2.2.2).To]) .n (.cons (.t rfl) (.cons (.t rfl) .nil)) zv_113 ae_113 rfl rfl rfl <| AE .n (.t rfl) fo_112_2 rfl <| AP .n (.t rfl) rfl (.inr rfl) (fun _ => rfl) rfl ic_2 rfl <| AE .n (.t rfl) fo_112_1 rfl <| AP .n (.t rfl) rfl (.inr rfl) (fun _ => rfl) rfl ic_2 rfl <| q_builda (us := [.int .i64 (at' e.mine.Airways x2.2.2).To, .int .i64 (at' e.mine.Airways x2.2.2).From]) .n (.cons (.t rfl) (.cons (.t rfl) .nil)) zv_113 ae_113 rfl rfl rfl <| q_builda (us := [.int .i64 (at' e.mine.Airways x2.2.2).From, .int .i64 (at' e.mine.Airways x2.2.2).To, .int .i64 (at' e.mine.Airways x2.2.2).To, .int .i64 (at' e.mine.Airways x2.2.2).From]) .n (.cons (.t rfl) (.cons (.t rfl) .nil)) zv_114 ae_114 rfl rfl rfl <| Af .n (.c rfl) rfl <| Lex.nil) ?_
            refine AC ?_
            refine Bp (BL e c_ start rec1 k1 x1 rec2 k2 x2) _ _ _ rfl (fun (x3 : (List Int) × Bool × Int) => 0 ≤ x3.2.2 ∧ x3.2.2 ≤ 2 ∧ x3.1.length = x2.1.length ∧ SmI e.mine.Junctions x1.1 x3.1 x3.2.1) (fun x3 => 0 ≤ x3.2.2 ∧ x3.2.2 ≤ 2 ∧ x3.1.length = x2.1.length ∧ SmI e.mine.Junctions x1.1 x3.1 x3.2.1 ∧ 2 ≤ x3.2.2) (fun x3 => (2 - x3.2.2 : Int).toNat) (fun x3 => ⟨[(3, some (true, .op 200 0 0 0)), (4, some (true, .op 201 0 0 0)), (7, some (true, .os 203 x3.1.length)), (8, some (true, .bool x3.2.1)), (9, some (true, .int .i64 x2.2.2)), (10, some (true, .op 204 0 0 0)), (35, some (true, .sl 7 (e.mine.Airways.map Au.v))), (36, some (true, .int .i64 (e.mine.Airways.length : Int))), (37, some (true, .int .i64 x2.2.2)), (52, some (true, .st [.int .i64 (at' e.mine.Airways x2.2.2).From, .int .i64 (at' e.mine.Airways x2.2.2).To, .int .i64 (at' e.mine.Airways x2.2.2).To, .int .i64 (at' e.mine.Airways x2.2.2).From])), (53, some (true, .int .i64 x3.2.2))], [(200, some (.box 67 [.int .i64 e.mine.Junctions, .sl 7 (e.mine.Airways.map Au.v), .sl 1 (e.arrivals.map (V.int .i64)), .int .i64 e.blocked])), (201, some (.box 37 [.str c_.Id, .int .i64 c_.Junction, .int .i64 c_.Speed])), (203, some (.row 2 1 (x3.1.map (V.int .i64)))), (204, some (.box 112 [.str (at' e.mine.Airways x2.2.2).Id, .int .i64 (at' e.mine.Airways x2.2.2).From, .int .i64 (at' e.mine.Airways x2.2.2).To, .int .i64 (at' e.mine.Airways x2.2.2).Length, .int .i64 (at' e.mine.Airways x2.2.2).Section, .int .i64 (at' e.mine.Airways x2.2.2).Friction, .int .i64 (at' e.mine.Airways x2.2.2).Shock]))]⟩) (fun x3 => ⟨[(3, some (true, .op 200 0 0 0)), (4, some (true, .op 201 0 0 0)), (7, some (true, .os 203 x3.1.length)), (8, some (true, .bool x3.2.1)), (35, some (true, .sl 7 (e.mine.Airways.map Au.v))), (36, some (true, .int .i64 (e.mine.Airways.length : Int))), (37, some (true, .int .i64 x2.2.2))], [(200, some (.box 67 [.int .i64 e.mine.Junctions, .sl 7 (e.mine.Airways.map Au.v), .sl 1 (e.arrivals.map (V.int .i64)), .int .i64 e.blocked])), (201, some (.box 37 [.str c_.Id, .int .i64 c_.Junction, .int .i64 c_.Speed])), (203, some (.row 2 1 (x3.1.map (V.int .i64))))]⟩) ⟨by (simp only [lens] at * <;> omega), by (simp only [lens] at * <;> omega), by (simp only [lens] at * <;> omega), by omega⟩ (by (simp only [lens] at * <;> omega)) (sub_of [] ⟨rfl, rfl, rfl, rfl, rfl, rfl, rfl, rfl, rfl, rfl, rfl, trivial⟩ ⟨rfl, rfl, rfl, rfl, trivial⟩ rfl) ?_ ?_
            · intro x3 i14
              obtain ⟨e15, e16, e17, e18, e19⟩ := i14
              try dsimp only at *
              refine AS ?_
              refine Ad (BQ .n (.t rfl) (.c rfl) (fun _ => by omega) rfl <| Af .n (.t rfl) rfl <| Lex.nil) ?_
              exact A6 (x3.1, x3.2.1, x2.2.2 + 1) ⟨by (simp only [lens] at * <;> omega), by assumption, by omega⟩ (by (simp only [lens] at * <;> omega)) (sub_of [] ⟨rfl, rfl, rfl, rfl, rfl, rfl, rfl, trivial⟩ ⟨rfl, rfl, rfl, trivial⟩ rfl)
            · intro rec3 k3 hk10 x3 i11
              obtain ⟨e20, e21, e22, e23⟩ := i11
              try dsimp only at *
              refine Ae ?_
              refine Ad (AK .n (.t rfl) (.c rfl) rfl rfl <| Lex.nil) ?_
              refine Ae ?_
              refine As (.t rfl) rfl (fun h12 => ?_) (fun h12 => ?_)
              · try simp only [tst] at h12
                refine Aw ?_
                refine Ae ?_
                refine AC ?_
                refine Ae ?_
                refine Ad (q_indexa [.int .i64 (at' ([(at' e.mine.Airways x2.2.2).From, (at' e.mine.Airways x2.2.2).To] : List Int) x3.2.2), .int .i64 (at' ([(at' e.mine.Airways x2.2.2).To, (at' e.mine.Airways x2.2.2).From] : List Int) x3.2.2)] .n (.t rfl) (.t rfl) ae_114 ag_113 rfl (fun _ => by omega) (fun _ => by have h : x3.2.2 = 0 ∨ x3.2.2 = 1 := (by first | omega | (simp only [lens] at *; omega)); rcases h with h | h <;> (rw [h]; rfl)) rfl <| BG (l := 205) .n rfl zv_113 rfl rfl <| AL [.int .i64 (at' ([(at' e.mine.Airways x2.2.2).From, (at' e.mine.Airways x2.2.2).To] : List Int) x3.2.2), .int .i64 (at' ([(at' e.mine.Airways x2.2.2).To, (at' e.mine.Airways x2.2.2).From] : List Int) x3.2.2)] .n rfl (.t rfl) (.t rfl) rfl ts_113 rfl rfl <| Lex.nil) ?_
                refine Ae ?_
                refine Bl fmo (Af .n (.t rfl) rfl <| q_idxa_ow .n (.t rfl) (.c rfl) ae_113 (by decide) 0 rfl rfl <| AP .n (.t rfl) rfl (.inr rfl) (fun _ => rfl) rfl ic_2 rfl <| AX .n (.t rfl) (.t rfl) sl_27 (fun _ => by ((have hS : SmI e.mine.Junctions x1.1 x3.1 x3.2.1 := (by assumption); have hl := hS.1.1; have hw0 := hp1.at (i := x2.2.2) (by omega); unfold AirIn at hw0; have hw1 := at2 hw0 (q := x3.2.2) (by omega); omega))) rfl <| A3 .n (.t rfl) rfl (fun _ => by ((have hS : SmI e.mine.Junctions x1.1 x3.1 x3.2.1 := (by assumption); have hl := hS.1.1; have hw0 := hp1.at (i := x2.2.2) (by omega); unfold AirIn at hw0; have hw1 := at2 hw0 (q := x3.2.2) (by omega); omega))) rfl rfl rfl ic_2 rfl <| Bb .n (.t rfl) rfl (.inr rfl) ag_112 (fun _ => rfl) rfl rfl <| AE .n (.t rfl) fo_37_2 rfl <| AP .n (.t rfl) rfl (.inr rfl) (fun _ => rfl) rfl ic_2 rfl <| AR (full := false) .n .f en_67 (.cons (.t rfl) (.cons (.t rfl) .nil)) (.cons (.sts rfl) (.cons (.b (.a (.same rfl))) .nil)) (fun hg => c_impl_Airway_walkTime (at' e.mine.Airways x2.2.2) c_.Speed (by omega)) rfl (fun h => Bool.noConfusion h) rfl <| AK .n (.t rfl) (.t rfl) rfl rfl <| Ag .n (.t rfl) rfl <| Lex.nil) (by kernel_rfl) ?_
                refine Ae ?_
                refine Ad (Af .n (.t rfl) rfl <| q_idxa_ow .n (.t rfl) (.c rfl) ae_113 (by decide) 1 rfl rfl <| AP .n (.t rfl) rfl (.inr rfl) (fun _ => rfl) rfl ic_2 rfl <| AX .n (.t rfl) (.t rfl) sl_27 (fun _ => by ((have hS : SmI e.mine.Junctions x1.1 x3.1 x3.2.1 := (by assumption); have hl := hS.1.1; have hw0 := hp1.at (i := x2.2.2) (by omega); unfold AirIn at hw0; have hw1 := at2 hw0 (q := x3.2.2) (by omega); omega))) rfl <| A3 .n (.t rfl) rfl (fun _ => by ((have hS : SmI e.mine.Junctions x1.1 x3.1 x3.2.1 := (by assumption); have hl := hS.1.1; have hw0 := hp1.at (i := x2.2.2) (by omega); unfold AirIn at hw0; have hw1 := at2 hw0 (q := x3.2.2) (by omega); omega))) rfl rfl rfl ic_2 rfl <| AK .n (.t rfl) (.c rfl) rfl rfl <| Af .n (.t rfl) rfl <| Af (.f rfl rfl) (.t rfl) rfl <| Af (.f rfl rfl) (.t rfl) rfl <| q_idxa_ow (.f rfl rfl) (.t rfl) (.c rfl) ae_113 (by decide) 1 rfl rfl <| AP (.f rfl rfl) (.u rfl id) rfl (.inr rfl) (fun _ => rfl) rfl ic_2 rfl <| AX (.f rfl rfl) (.u rfl id) (.u rfl id) sl_27 (fun hg => by simp only [tst] at hg; ((have hS : SmI e.mine.Junctions x1.1 x3.1 x3.2.1 := (by assumption); have hl := hS.1.1; have hw0 := hp1.at (i := x2.2.2) (by omega); unfold AirIn at hw0; have hw1 := at2 hw0 (q := x3.2.2) (by omega); omega))) rfl <| A3 (.f rfl rfl) (.u rfl id) rfl (fun hg => by simp only [tst] at hg; ((have hS : SmI e.mine.Junctions x1.1 x3.1 x3.2.1 := (by assumption); have hl := hS.1.1; have hw0 := hp1.at (i := x2.2.2) (by omega); unfold AirIn at hw0; have hw1 := at2 hw0 (q := x3.2.2) (by omega); omega))) rfl rfl rfl ic_2 rfl <| AK (.f rfl rfl) (.u rfl id) (.u rfl id) rfl rfl <| q_or .n (.t rfl) (.u rfl id) rfl <| Ag .n (.t rfl) rfl <| Lex.nil) ?_
                refine Ae ?_
                refine Ad (Af .n (.t rfl) rfl <| AE .n (.t rfl) fo_67_2 rfl <| AP .n (.t rfl) rfl (.inr rfl) (fun _ => rfl) rfl ic_2 rfl <| AK .n (.t rfl) (.t rfl) rfl rfl <| Af .n (.t rfl) rfl <| Af (.t rfl rfl) (.t rfl) rfl <| q_idxa_ow (.t rfl rfl) (.t rfl) (.c rfl) ae_113 (by decide) 0 rfl rfl <| AP (.t rfl rfl) (.u rfl id) rfl (.inr rfl) (fun _ => rfl) rfl ic_2 rfl <| AX (.t rfl rfl) (.u rfl id) (.u rfl id) sl_27 (fun hg => by simp only [tst] at hg; ((have hS : SmI e.mine.Junctions x1.1 x3.1 x3.2.1 := (by assumption); have hl := hS.1.1; have hw0 := hp1.at (i := x2.2.2) (by omega); unfold AirIn at hw0; have hw1 := at2 hw0 (q := x3.2.2) (by omega); omega))) rfl <| A3 (.t rfl rfl) (.u rfl id) rfl (fun hg => by simp only [tst] at hg; ((have hS : SmI e.mine.Junctions x1.1 x3.1 x3.2.1 := (by assumption); have hl := hS.1.1; have hw0 := hp1.at (i := x2.2.2) (by omega); unfold AirIn at hw0; have hw1 := at2 hw0 (q := x3.2.2) (by omega); omega))) rfl rfl rfl ic_2 rfl <| AK (.t rfl rfl) (.u rfl id) (.c rfl) rfl rfl <| Cz .n (.t rfl) (.u rfl id) rfl <| Af .n (.t rfl) rfl <| Af (.t rfl rfl) (.t rfl) rfl <| Cz .n (.t rfl) (.u rfl id) rfl <| Af .n (.t rfl) rfl <| Bb (.t rfl rfl) (.t rfl) rfl (.inr rfl) ag_67 (fun _ => rfl) rfl rfl <| q_idxa_ow (.t rfl rfl) (.t rfl) (.c rfl) ae_113 (by decide) 1 rfl rfl <| AP (.t rfl rfl) (.u rfl id) rfl (.inr rfl) (fun _ => rfl) rfl ic_2 rfl <| Af (.t rfl rfl) (.t rfl) rfl <| AR (full := false) (.t rfl rfl) .f en_66 (.cons (.u rfl id) (.cons (.u rfl id) (.cons (.u rfl id) .nil))) (.cons (.sts rfl) (.cons (.b (.a (.same rfl))) (.cons (.b (.a (.same rfl))) .nil))) (fun hg => c_impl_escape_mayBe e (at' ([(at' e.mine.Airways x2.2.2).To, (at' e.mine.Airways x2.2.2).From] : List Int) x3.2.2) (IntKind.wrap .i64 ((at' x3.1 (at' ([(at' e.mine.Airways x2.2.2).From, (at' e.mine.Airways x2.2.2).To] : List Int) x3.2.2)) + (A7 (at' e.mine.Airways x2.2.2) c_.Speed))) (by simp only [tst] at hg; ((have hS : SmI e.mine.Junctions x1.1 x3.1 x3.2.1 := (by assumption); have hl := hS.1.1; have hw0 := hp1.at (i := x2.2.2) (by omega); unfold AirIn at hw0; have hw1 := at2 hw0 (q := x3.2.2) (by omega); omega)))) rfl (fun h => Bool.noConfusion h) rfl <| Cz .n (.t rfl) (.u rfl id) rfl <| Lex.nil) ?_
                refine As (.t rfl) rfl (fun h13 => ?_) (fun h13 => ?_)
                · try simp only [tst] at h13
                  refine Ad (Af .n (.t rfl) rfl <| q_idxa_ow .n (.t rfl) (.c rfl) ae_113 (by decide) 1 rfl rfl <| AP .n (.t rfl) rfl (.inr rfl) (fun _ => rfl) rfl ic_2 rfl <| Af .n (.t rfl) rfl <| AX .n (.t rfl) (.t rfl) sl_27 (fun _ => by ((have hS : SmI e.mine.Junctions x1.1 x3.1 x3.2.1 := (by assumption); have hl := hS.1.1; have hw0 := hp1.at (i := x2.2.2) (by omega); unfold AirIn at hw0; have hw1 := at2 hw0 (q := x3.2.2) (by omega); omega))) rfl <| B0 (IntKind.wrap .i64 ((at' x3.1 (at' ([(at' e.mine.Airways x2.2.2).From, (at' e.mine.Airways x2.2.2).To] : List Int) x3.2.2)) + (A7 (at' e.mine.Airways x2.2.2) c_.Speed))) .n rfl (.t rfl) (.t rfl) rfl ts_2 (by ((have hS : SmI e.mine.Junctions x1.1 x3.1 x3.2.1 := (by assumption); have hl := hS.1.1; have hw0 := hp1.at (i := x2.2.2) (by omega); unfold AirIn at hw0; have hw1 := at2 hw0 (q := x3.2.2) (by omega); omega))) rfl rfl <| Ag .n (.c rfl) rfl <| Lex.nil) ?_
                  refine AS ?_
                  refine Ad (BQ .n (.t rfl) (.c rfl) (fun _ => by omega) rfl <| Af .n (.t rfl) rfl <| Lex.nil) ?_
                  exact A6 (put' x3.1 (at' ([(at' e.mine.Airways x2.2.2).To, (at' e.mine.Airways x2.2.2).From] : List Int) x3.2.2) (IntKind.wrap .i64 ((at' x3.1 (at' ([(at' e.mine.Airways x2.2.2).From, (at' e.mine.Airways x2.2.2).To] : List Int) x3.2.2)) + (A7 (at' e.mine.Airways x2.2.2) c_.Speed))), true, x3.2.2 + 1) ⟨by (simp only [lens] at * <;> omega), by assumption, by (simp only [lens] at * <;> omega), by ((have hS : SmI e.mine.Junctions x1.1 x3.1 x3.2.1 := (by assumption); have hl := hS.1.1; exact times_put hp1 hp3.2 hS (by omega) (by omega) (by assumption)))⟩ (by (simp only [lens] at * <;> omega)) (sub_of [] ⟨rfl, rfl, os_len rfl (by first | (simp only [put_len]; done) | (first | omega | assumption | (simp only [lens] at * <;> omega) | ((exact cw_start hp1 hp3 hp4); done) | ((exact cw_pot hp1 hp3 hp4); done) | ((exact SmI.refl (by assumption)); done) | ((exact SmI.mu (by assumption) (by assumption)); done) | ((exact And.left (by assumption)); done) | (((have hS : SmI e.mine.Junctions x1.1 x3.1 x3.2.1 := (by assumption); have hl := hS.1.1; have hw0 := hp1.at (i := x2.2.2) (by omega); unfold AirIn at hw0; have hw1 := at2 hw0 (q := x3.2.2) (by omega); omega)); done) | (((have hS : SmI e.mine.Junctions x1.1 x3.1 x3.2.1 := (by assumption); have hl := hS.1.1; exact times_put hp1 hp3.2 hS (by omega) (by omega) (by assumption))); done))), rfl, rfl, rfl, rfl, rfl, rfl, rfl, rfl, trivial⟩ ⟨rfl, rfl, rfl, rfl, trivial⟩ rfl)
                · try simp only [tst] at h13
                  refine Aw ?_
                  refine AS ?_
                  refine Ad (BQ .n (.t rfl) (.c rfl) (fun _ => by omega) rfl <| Af .n (.t rfl) rfl <| Lex.nil) ?_
                  exact A6 (x3.1, x3.2.1, x3.2.2 + 1) ⟨by (simp only [lens] at * <;> omega), by assumption, by omega, by omega⟩ (by (simp only [lens] at * <;> omega)) (sub_of [] ⟨rfl, rfl, rfl, rfl, rfl, rfl, rfl, rfl, rfl, rfl, rfl, trivial⟩ ⟨rfl, rfl, rfl, rfl, trivial⟩ rfl)
              · try simp only [tst] at h12
                refine Ba rfl ?_
                exact AY hk10 (x3.1, x3.2.1, x3.2.2) ⟨by omega, by omega, by omega, by omega, by omega⟩ (sub_of [] ⟨rfl, rfl, rfl, rfl, rfl, rfl, rfl, trivial⟩ ⟨rfl, rfl, rfl, trivial⟩ rfl)
          · try simp only [tst] at h9
            refine Ba rfl ?_
            exact AY hk7 (x2.1, x2.2.1, x2.2.2) ⟨by omega, by omega, by omega, by omega⟩ (sub_of [] ⟨rfl, rfl, rfl, rfl, trivial⟩ ⟨rfl, rfl, rfl, trivial⟩ rfl)
      · try simp only [tst] at h6
        refine Ba rfl ?_
        exact AY hk4 (x1.1, x1.2) (by omega) (sub_of [] ⟨rfl, trivial⟩ ⟨rfl, trivial⟩ rfl)

/-! ### slices_Clone_int64 -/
theorem c_slices_Clone_int64 (s_ : List Int) (hp1 : s_.length ≤ 1048576) : Con Tryz.prog 68 [.sl 1 (s_.map (V.int .i64))] [] (.os 100 (BT s_).length) ([(100, some (.row 2 1 ((BT s_).map (V.int .i64))))]) := by
  refine con_intro (out := fun r : (List Int) => ((.os 100 r.length : V), ([(100, some (.row 2 1 (r.map (V.int .i64))))] : List (Nat × Option O)))) (r := (BT s_)) Tryz.func68 rfl Tryz.ntmps68 rfl ?_
  refine Bo (t := 0) rfl fun hl => ?_
  have l1 := hl; clear hl; simp only [List.length_map] at l1
  refine Ae ?_
  refine Ad (Ag .n (.c rfl) rfl <| Lex.nil) ?_
  refine Ae ?_
  refine Ae ?_
  refine Ad (Af .n (.t rfl) rfl <| q_eqnil .n (.t rfl) (.c rfl) us_27 rfl <| Lex.nil) ?_
  refine run_cond_ub (.t rfl) (fun h2 => ?_) ?_
  · have h2 := ub_nil h2
    refine run_r (r' := (K_6)) (by show (K_6 ++ s_) = (K_6); simp [h2]) ?_
    refine Ae ?_
    refine Ad (Ag .n (.c rfl) rfl <| Lex.nil) ?_
    refine CN (sub_adopt (t := 2) (l := 200) (el := 2) (sz := 1) rfl rfl) ?_
    exact Ay [(100, 200)] (.cons (.t rfl rfl) .nil) (by first | rfl | (simp only [put_len]; rfl)) ⟨rfl, trivial⟩ rfl
  · skip
    refine Aw ?_
    refine Ae ?_
    refine Ad (AW K_6 (f := V.int .i64) (l := 201) .n rfl rfl .nil rfl si_27 zv_2 rfl rfl rfl <| Af .n (.t rfl) rfl <| CD (xs := K_6) (ys := s_) (f := V.int .i64) (l := 202) .n rfl (.ow (.t rfl) rfl (take_all (by simp only [len_map, put_len] <;> rfl)) (by simp only [len_map, put_len] <;> rfl)) (.ro (.t rfl)) si_27 zv_2 rfl (by (simp only [lens] at * <;> omega)) rfl rfl <| Ag .n (.t rfl) rfl <| Lex.nil) ?_
    exact Ay [(100, 202)] (.cons (.t rfl rfl) .nil) (by first | rfl | (simp only [put_len]; rfl)) ⟨rfl, trivial⟩ rfl


end Go.Proofs.YtibbfdojcdkopaaGreat
