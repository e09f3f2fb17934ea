/-
  THE WALKS: each Go function computes its model. Conditions: as each theorem states them (hp1, hp2 ..).
-/
import Derived.Test.YtibbfdojcdkopaaGreatPlacesWalks3
set_option linter.unusedVariables false
set_option linter.unusedSimpArgs false
set_option linter.unusedSectionVars false
set_option linter.unnecessarySimpa false
namespace Go.Proofs.YtibbfdojcdkopaaGreat
open Go Go.RowKit Go.Proofs Go.Proofs.YtibbfdojcdkopaaGreat.E
/-! ### spec_l04Walk -/
set_option maxRecDepth 100000 in
set_option maxHeartbeats 4000000 in
theorem c_spec_l04Walk (m_ : AB) (list : List Int) (from_ : Int) (to : Int) (hp1 : MineIn m_) (hp2 : ListIn m_ list) (hp3 : 0 ≤ from_ ∧ from_ < m_.Junctions) (hp4 : 0 ≤ to ∧ to < m_.Junctions) : Con Tryz.prog 115 [.rp [.int .i64 m_.Junctions, .sl 7 (m_.Airways.map Ar.v)], .sl 1 (list.map (V.int .i64)), .int .i64 from_, .int .i64 to] [] (.tup [.os 100 (BT m_ list from_ to).1.length, .bool (BT m_ list from_ to).2]) ([(100, some (.row 2 1 ((BT m_ list from_ to).1.map (V.int .i64))))]) := by
  refine con_intro (out := fun r : (List Int) × Bool => ((.tup [.os 100 r.1.length, .bool r.2] : V), ([(100, some (.row 2 1 (r.1.map (V.int .i64))))] : List (Nat × Option O)))) (r := (BT m_ list from_ to)) Tryz.func115 rfl Tryz.ntmps115 rfl ?_
  have hJ := hp1.1
  have hJ1 := hp1.1
  have hA1 := hp1.2.1
  refine BH (t := 0) 1 rfl rfl fun hl => ?_
  have l1 := hl; clear hl; simp only [List.length_map] at l1
  refine Br (t := 1) rfl fun hl => ?_
  have l2 := hl; clear hl; simp only [List.length_map] at l2
  refine Af ?_
  refine Ad (Ah .n (.c rfl) rfl <| Ah .n (.c rfl) rfl <| Lex.nil) ?_
  refine Af ?_
  refine Ad (AV K_5 (f := V.int .i64) (l := 200) .n rfl rfl .nil rfl si_27 zv_2 rfl rfl rfl <| Ah .n (.t rfl) rfl <| Lex.nil) ?_
  refine Af ?_
  refine Af ?_
  refine Ad (Ah .n (.c rfl) rfl <| Lex.nil) ?_
  refine Aw ?_
  refine Bp (m_spec_l04Walk_b1 m_ list from_ to) _ _ _ rfl (fun (x1 : (List Int) × Int) => 0 ≤ x1.2 ∧ x1.2 ≤ m_.Junctions ∧ (x1.1.length : Int) + 0 ≤ x1.2 + (K_5.length : Int) ∧ (x1.1.length : Int) = x1.2 ∧ (∀ j, 0 ≤ j → j < x1.2 → at' x1.1 j = -1)) (fun x1 => 0 ≤ x1.2 ∧ x1.2 ≤ m_.Junctions ∧ (x1.1.length : Int) + 0 ≤ x1.2 + (K_5.length : Int) ∧ (x1.1.length : Int) = x1.2 ∧ (∀ j, 0 ≤ j → j < x1.2 → at' x1.1 j = -1) ∧ m_.Junctions ≤ x1.2) (fun x1 => (m_.Junctions - x1.2 : Int).toNat) (fun x1 => ⟨[(0, some (true, .rp [.int .i64 m_.Junctions, .sl 7 (m_.Airways.map Ar.v)])), (1, some (true, .sl 1 (list.map (V.int .i64)))), (2, some (true, .int .i64 from_)), (3, some (true, .int .i64 to)), (10, some (true, .os 200 x1.1.length)), (11, some (true, .int .i64 x1.2))], [(200, some (.row 2 1 (x1.1.map (V.int .i64))))]⟩) (fun x1 => ⟨[(0, some (true, .rp [.int .i64 m_.Junctions, .sl 7 (m_.Airways.map Ar.v)])), (1, some (true, .sl 1 (list.map (V.int .i64)))), (2, some (true, .int .i64 from_)), (3, some (true, .int .i64 to)), (10, some (true, .os 200 x1.1.length))], [(200, some (.row 2 1 (x1.1.map (V.int .i64))))]⟩) ⟨by omega, by omega, by (simp only [lens] at * <;> omega), by (simp only [lens] at * <;> omega), by omega⟩ (by omega) (sub_of [] ⟨rfl, rfl, rfl, rfl, rfl, rfl, trivial⟩ ⟨rfl, trivial⟩ rfl) ?_ ?_
  · intro x1 i6
    obtain ⟨e63, e64, e65, e66, e67, e68⟩ := i6
    try dsimp only at *
    refine Af ?_
    refine Ad (Ag .n (.t rfl) rfl <| Ag .n (.t rfl) rfl <| AZ .n (.t rfl) (.t rfl) sl_27 (fun _ => by omega) rfl <| B0 0 .n rfl (.t rfl) (.c rfl) rfl ts_2 (by omega) rfl rfl <| Lex.nil) ?_
    refine Af ?_
    refine Af ?_
    refine Ad (Ah .n (.c rfl) rfl <| Lex.nil) ?_
    refine Aw ?_
    refine Bp (m_spec_l04Walk_b2 m_ list from_ to x1) _ _ _ rfl (fun (x2 : (List Int) × Int) => 0 ≤ x2.2 ∧ x2.2 ≤ m_.Junctions ∧ Far m_ list to x2.2 x2.1) (fun x2 => 0 ≤ x2.2 ∧ x2.2 ≤ m_.Junctions ∧ Far m_ list to x2.2 x2.1 ∧ m_.Junctions ≤ x2.2) (fun x2 => (m_.Junctions - x2.2 : Int).toNat) (fun x2 => ⟨[(0, some (true, .rp [.int .i64 m_.Junctions, .sl 7 (m_.Airways.map Ar.v)])), (1, some (true, .sl 1 (list.map (V.int .i64)))), (2, some (true, .int .i64 from_)), (3, some (true, .int .i64 to)), (10, some (true, .os 200 x2.1.length)), (12, some (true, .int .i64 x2.2))], [(200, some (.row 2 1 (x2.1.map (V.int .i64))))]⟩) (fun x2 => ⟨[(0, some (true, .rp [.int .i64 m_.Junctions, .sl 7 (m_.Airways.map Ar.v)])), (1, some (true, .sl 1 (list.map (V.int .i64)))), (2, some (true, .int .i64 from_)), (3, some (true, .int .i64 to)), (10, some (true, .os 200 x2.1.length))], [(200, some (.row 2 1 (x2.1.map (V.int .i64))))]⟩) ⟨by omega, by omega, by ((refine Far.start (by omega) (fun j j0 j1 => ?_) (by omega); exact (by assumption : ∀ j, 0 ≤ j → j < x1.2 → at' x1.1 j = -1) j j0 (by omega)))⟩ (by omega) (sub_of [] ⟨rfl, rfl, rfl, rfl, os_len rfl (by first | (simp only [put_len]; done) | (first | omega | assumption | (simp only [lens] at * <;> omega) | (((refine Far.start (by omega) (fun j j0 j1 => ?_) (by omega); exact (by assumption : ∀ j, 0 ≤ j → j < x1.2 → at' x1.1 j = -1) j j0 (by omega))); done) | (((intro j j0 j1; (try dsimp only at *); omega)); done) | (((dsimp only; exact neg_app (by assumption) (by omega))); done) | ((exact Far.mono (by assumption) (by omega)); done) | (((have hF : Far m_ list to x2.2 x2.1 := (by assumption); have hl := hF.len; have hu := hF.low from_ hp3.1 hp3.2; first | omega | (simp only [List.length_nil]; omega))); done) | ((exact NoStep.nil); done))), rfl, trivial⟩ ⟨rfl, trivial⟩ rfl) ?_ ?_
    · intro x2 i28
      obtain ⟨e56, e57, e58, e59⟩ := i28
      try dsimp only at *
      refine Af ?_
      refine Af ?_
      refine Ad (Ag .n (.t rfl) rfl <| Ag .n (.t rfl) rfl <| AZ .n (.t rfl) (.t rfl) sl_27 (fun _ => by ((have hF : Far m_ list to x2.2 x2.1 := (by assumption); have hl := hF.len; have hu := hF.low from_ hp3.1 hp3.2; first | omega | (simp only [List.length_nil]; omega)))) rfl <| A2 .n (.t rfl) rfl (fun _ => by ((have hF : Far m_ list to x2.2 x2.1 := (by assumption); have hl := hF.len; have hu := hF.low from_ hp3.1 hp3.2; first | omega | (simp only [List.length_nil]; omega)))) rfl rfl rfl ic_2 rfl <| AF .n (.t rfl) (.c rfl) rfl rfl <| Lex.nil) ?_
      refine Aq (.t rfl) rfl (fun h29 => ?_) (fun h29 => ?_)
      · try simp only [tst] at h29
        refine Af ?_
        refine Ad (Ah .n (.c rfl) rfl <| Ah .n (.c rfl) rfl <| Lex.nil) ?_
        refine C1 (sub_adopt (t := 8) (l := 203) (el := 2) (sz := 1) rfl rfl) ?_
        exact Au [(100, 203)] (.cons (.t rfl rfl) (.cons (.t rfl rfl) .nil)) (by first | rfl | (simp only [put_len]; rfl)) ⟨rfl, trivial⟩ rfl
      · try simp only [tst] at h29
        refine As ?_
        refine Af ?_
        refine Ad (AV K_5 (f := V.int .i64) (l := 204) .n rfl rfl .nil rfl si_27 zv_2 rfl rfl rfl <| Ah .n (.t rfl) rfl <| Lex.nil) ?_
        refine Af ?_
        refine Ad (Ag .n (.t rfl) rfl <| Ah .n (.t rfl) rfl <| Lex.nil) ?_
        refine Af ?_
        refine Aw ?_
        refine Bp (m_spec_l04Walk_b4 m_ list from_ to x1 x2) _ _ _ rfl (fun (x4 : (List Int) × Int) => (0 ≤ x4.2 ∧ x4.2 < m_.Junctions) ∧ 0 ≤ at' x2.1 x4.2 ∧ (x4.1.length : Int) + at' x2.1 x4.2 ≤ 16) (fun x4 => (0 ≤ x4.2 ∧ x4.2 < m_.Junctions) ∧ 0 ≤ at' x2.1 x4.2 ∧ (x4.1.length : Int) + at' x2.1 x4.2 ≤ 16) (fun x4 => (at' x2.1 x4.2).toNat) (fun x4 => ⟨[(0, some (true, .rp [.int .i64 m_.Junctions, .sl 7 (m_.Airways.map Ar.v)])), (1, some (true, .sl 1 (list.map (V.int .i64)))), (3, some (true, .int .i64 to)), (10, some (true, .os 200 x2.1.length)), (15, some (true, .os 204 x4.1.length)), (16, some (true, .int .i64 x4.2))], [(200, some (.row 2 1 (x2.1.map (V.int .i64)))), (204, some (.row 2 1 (x4.1.map (V.int .i64))))]⟩) (fun x4 => ⟨[(15, some (true, .os 204 x4.1.length))], [(204, some (.row 2 1 (x4.1.map (V.int .i64))))]⟩) ⟨by omega, by omega, by ((have hF : Far m_ list to x2.2 x2.1 := (by assumption); have hl := hF.len; have hu := hF.low from_ hp3.1 hp3.2; first | omega | (simp only [List.length_nil]; omega)))⟩ (by (simp only [lens] at * <;> omega)) (sub_of [] ⟨rfl, rfl, rfl, rfl, rfl, rfl, trivial⟩ ⟨rfl, rfl, trivial⟩ rfl) ?_ ?_
        · intro x4 i49
          obtain ⟨e50, e51, e52⟩ := i49
          try dsimp only at *
          refine Af ?_
          refine Ad (Ag .n (.t rfl) rfl <| Ah .n (.t rfl) rfl <| Ah .n (.c rfl) rfl <| Lex.nil) ?_
          exact Au [(100, 204)] (.cons (.t rfl rfl) (.cons (.t rfl rfl) .nil)) (by first | rfl | (simp only [put_len]; rfl)) ⟨rfl, trivial⟩ rfl
        · intro rec4 k4 hk30 x4 i31
          obtain ⟨e53, e54, e55⟩ := i31
          try dsimp only at *
          refine Af ?_
          refine Af ?_
          refine Ad (Ag .n (.t rfl) rfl <| Ag .n (.t rfl) rfl <| AF .n (.t rfl) (.t rfl) rfl rfl <| Lex.nil) ?_
          refine Aq (.t rfl) rfl (fun h32 => ?_) (fun h32 => ?_)
          · try simp only [tst] at h32
            refine As ?_
            refine Aw ?_
            refine Af ?_
            refine Ad (Ah .n (.c rfl) rfl <| Lex.nil) ?_
            refine Aw ?_
            refine Bp (m_spec_l04Walk_b5 m_ list from_ to x1 x2 rec4 k4 x4) _ _ _ rfl (fun (x5 : Int × (List Int) × Int) => 0 ≤ x5.1 ∧ x5.1 ≤ (list.length : Int) ∧ x5.2.1.length = x4.1.length ∧ x5.2.2 = x4.2 ∧ (x5.2.1.length : Int) + at' x2.1 x4.2 ≤ 16 ∧ NoStep m_ list x2.1 x4.2 x5.1) (fun x5 => (0 ≤ x5.2.2 ∧ x5.2.2 < m_.Junctions) ∧ 0 ≤ at' x2.1 x5.2.2 ∧ at' x2.1 x5.2.2 < at' x2.1 x4.2 ∧ (x5.2.1.length : Int) + at' x2.1 x5.2.2 ≤ 16) (fun x5 => ((list.length : Int) - x5.1 : Int).toNat) (fun x5 => ⟨[(0, some (true, .rp [.int .i64 m_.Junctions, .sl 7 (m_.Airways.map Ar.v)])), (1, some (true, .sl 1 (list.map (V.int .i64)))), (3, some (true, .int .i64 to)), (10, some (true, .os 200 x2.1.length)), (15, some (true, .os 204 x5.2.1.length)), (16, some (true, .int .i64 x5.2.2)), (17, some (true, .int .i64 x5.1))], [(200, some (.row 2 1 (x2.1.map (V.int .i64)))), (204, some (.row 2 1 (x5.2.1.map (V.int .i64))))]⟩) (fun x5 => ⟨[(0, some (true, .rp [.int .i64 m_.Junctions, .sl 7 (m_.Airways.map Ar.v)])), (1, some (true, .sl 1 (list.map (V.int .i64)))), (3, some (true, .int .i64 to)), (10, some (true, .os 200 x2.1.length)), (15, some (true, .os 204 x5.2.1.length)), (16, some (true, .int .i64 x5.2.2))], [(200, some (.row 2 1 (x2.1.map (V.int .i64)))), (204, some (.row 2 1 (x5.2.1.map (V.int .i64))))]⟩) ⟨by omega, by omega, by (simp only [lens] at * <;> omega), by (simp only [lens] at * <;> omega), by omega, by ((intro j j0 j1; (try dsimp only at *); omega))⟩ (by omega) (sub_of [] ⟨rfl, rfl, rfl, rfl, rfl, rfl, rfl, trivial⟩ ⟨rfl, rfl, trivial⟩ rfl) ?_ ?_
            · intro x5 i38
              obtain ⟨e39, e40, e41, e42⟩ := i38
              try dsimp only at *
              refine AK ?_
              exact A5 (x5.2.1, x5.2.2) ⟨by omega, by omega, by omega⟩ (by (simp only [lens] at * <;> omega)) (sub_of [] ⟨rfl, rfl, rfl, rfl, rfl, rfl, trivial⟩ ⟨rfl, rfl, trivial⟩ rfl)
            · intro rec5 k5 hk33 x5 i34
              obtain ⟨e43, e44, e45, e46, e47, e48⟩ := i34
              try dsimp only at *
              refine Af ?_
              refine Af ?_
              refine Ad (Ag .n (.t rfl) rfl <| Ag .n (.t rfl) rfl <| BS .n (.t rfl) rfl len_map ss_27 rfl <| AF .n (.t rfl) (.t rfl) rfl rfl <| Lex.nil) ?_
              refine Aq (.t rfl) rfl (fun h35 => ?_) (fun h35 => ?_)
              · try simp only [tst] at h35
                refine As ?_
                refine Af ?_
                refine Aw ?_
                refine Af ?_
                refine Bk fmo (Ag .n (.t rfl) rfl <| Av .n (.t rfl) rfl <| Az .n (.t rfl) fo_26_1 rfl <| Ap .n (.t rfl) rfl ic_24 rfl <| Ag .n (.t rfl) rfl <| Ag .n (.t rfl) rfl <| A8 .n (.t rfl) (.t rfl) sl_27 (fun _ => by omega) rfl <| Ap .n (.t rfl) rfl ic_2 rfl <| A8 .n (.t rfl) (.t rfl) sl_24 (fun _ => by ((have hF : Far m_ list to x2.2 x2.1 := (by assumption); have hl := hF.len; have hu := hF.low x4.2 (by omega) (by omega); have h0 := hF.pos (j := x4.2) (by omega) (by omega) (by omega); have hq := ListIn.air hp1 hp2 (i := x5.1) (by omega); have hr := ListIn.at hp2 (i := x5.1) (by omega); have he : at' x2.1 x5.2.2 = at' x2.1 x4.2 := (by rw [show x5.2.2 = x4.2 by assumption]); have hw := wr64 (n := at' x2.1 x5.2.2 - 1) (by omega); first | omega | (dsimp only; omega) | (simp only [List.length_append, List.length_cons, List.length_nil]; omega)))) rfl <| Ah .n (.t rfl) rfl <| Lex.nil) (by kernel_rfl) ?_
                refine Af ?_
                refine Af ?_
                refine Bk fmo (Ag .n (.t rfl) rfl <| Av .n (.t rfl) rfl <| Az .n (.t rfl) fo_112_1 rfl <| Ap .n (.t rfl) rfl ic_2 rfl <| Ag .n (.t rfl) rfl <| AF .n (.t rfl) (.t rfl) rfl rfl <| Ag .n (.t rfl) rfl <| Ag (.t rfl rfl) (.t rfl) rfl <| Ag (.t rfl rfl) (.t rfl) rfl <| Av (.t rfl rfl) (.u rfl id) rfl <| Az (.t rfl rfl) (.u rfl id) fo_112_2 rfl <| Ap (.t rfl rfl) (.u rfl id) rfl ic_2 rfl <| AZ (.t rfl rfl) (.u rfl id) (.u rfl id) sl_27 (fun hg => by simp only [tst] at hg; ((have hF : Far m_ list to x2.2 x2.1 := (by assumption); have hl := hF.len; have hu := hF.low x4.2 (by omega) (by omega); have h0 := hF.pos (j := x4.2) (by omega) (by omega) (by omega); have hq := ListIn.air hp1 hp2 (i := x5.1) (by omega); have hr := ListIn.at hp2 (i := x5.1) (by omega); have he : at' x2.1 x5.2.2 = at' x2.1 x4.2 := (by rw [show x5.2.2 = x4.2 by assumption]); have hw := wr64 (n := at' x2.1 x5.2.2 - 1) (by omega); first | omega | (dsimp only; omega) | (simp only [List.length_append, List.length_cons, List.length_nil]; omega)))) rfl <| A2 (.t rfl rfl) (.u rfl id) rfl (fun hg => by simp only [tst] at hg; ((have hF : Far m_ list to x2.2 x2.1 := (by assumption); have hl := hF.len; have hu := hF.low x4.2 (by omega) (by omega); have h0 := hF.pos (j := x4.2) (by omega) (by omega) (by omega); have hq := ListIn.air hp1 hp2 (i := x5.1) (by omega); have hr := ListIn.at hp2 (i := x5.1) (by omega); have he : at' x2.1 x5.2.2 = at' x2.1 x4.2 := (by rw [show x5.2.2 = x4.2 by assumption]); have hw := wr64 (n := at' x2.1 x5.2.2 - 1) (by omega); first | omega | (dsimp only; omega) | (simp only [List.length_append, List.length_cons, List.length_nil]; omega)))) rfl rfl rfl ic_2 rfl <| Ag (.t rfl rfl) (.t rfl) rfl <| Ag (.t rfl rfl) (.t rfl) rfl <| AZ (.t rfl rfl) (.u rfl id) (.u rfl id) sl_27 (fun hg => by simp only [tst] at hg; ((have hF : Far m_ list to x2.2 x2.1 := (by assumption); have hl := hF.len; have hu := hF.low from_ hp3.1 hp3.2; first | omega | (simp only [List.length_nil]; omega)))) rfl <| A2 (.t rfl rfl) (.u rfl id) rfl (fun hg => by simp only [tst] at hg; ((have hF : Far m_ list to x2.2 x2.1 := (by assumption); have hl := hF.len; have hu := hF.low from_ hp3.1 hp3.2; first | omega | (simp only [List.length_nil]; omega)))) rfl rfl rfl ic_2 rfl <| AF (.t rfl rfl) (.u rfl id) (.c rfl) rfl rfl <| AF (.t rfl rfl) (.u rfl id) (.u rfl id) rfl rfl <| B4 .n (.t rfl) (.u rfl id) rfl <| Lex.nil) (by kernel_rfl) ?_
                refine Aq (.t rfl) rfl (fun h36 => ?_) (fun h36 => ?_)
                · try simp only [tst] at h36
                  refine Af ?_
                  refine Ad (Ag .n (.t rfl) rfl <| Ag .n (.t rfl) rfl <| Ag .n (.t rfl) rfl <| A8 .n (.t rfl) (.t rfl) sl_27 (fun _ => by omega) rfl <| Ap .n (.t rfl) rfl ic_2 rfl <| AF .n (.t rfl) (.c rfl) rfl rfl <| AV ([IntKind.wrap .i64 ((at' list x5.1) + 1)] : List Int) (f := V.int .i64) (l := 205) .n rfl rfl (.cons (.t rfl) .nil) rfl si_27 zv_2 rfl rfl rfl <| CX (xs := x5.2.1) (ys := ([IntKind.wrap .i64 ((at' list x5.1) + 1)] : List Int)) (f := V.int .i64) (l := 206) .n rfl (.ow (.t rfl) rfl (take_all (by simp only [len_map, put_len] <;> rfl)) (by simp only [len_map, put_len] <;> rfl)) (.ow (.t rfl) rfl (take_all (by simp only [len_map, put_len] <;> rfl)) (by simp only [len_map, put_len] <;> rfl)) si_27 zv_2 rfl (by (simp only [lens] at * <;> omega)) rfl rfl <| Ah .n (.t rfl) rfl <| Lex.nil) ?_
                  refine Af ?_
                  refine Ad (Ag .n (.t rfl) rfl <| Av .n (.t rfl) rfl <| Az .n (.t rfl) fo_112_2 rfl <| Ap .n (.t rfl) rfl ic_2 rfl <| Ah .n (.t rfl) rfl <| Lex.nil) ?_
                  refine Bb rfl ?_
                  exact AY hk33 (x5.1, x5.2.1 ++ ([IntKind.wrap .i64 ((at' list x5.1) + 1)] : List Int), (at' m_.Airways (at' list x5.1)).To) ⟨by ((have hF : Far m_ list to x2.2 x2.1 := (by assumption); have hl := hF.len; have hu := hF.low x4.2 (by omega) (by omega); have h0 := hF.pos (j := x4.2) (by omega) (by omega) (by omega); have hq := ListIn.air hp1 hp2 (i := x5.1) (by omega); have hr := ListIn.at hp2 (i := x5.1) (by omega); have he : at' x2.1 x5.2.2 = at' x2.1 x4.2 := (by rw [show x5.2.2 = x4.2 by assumption]); have hw := wr64 (n := at' x2.1 x5.2.2 - 1) (by omega); first | omega | (dsimp only; omega) | (simp only [List.length_append, List.length_cons, List.length_nil]; omega))), by ((have hF : Far m_ list to x2.2 x2.1 := (by assumption); have hl := hF.len; have hu := hF.low x4.2 (by omega) (by omega); have h0 := hF.pos (j := x4.2) (by omega) (by omega) (by omega); have hq := ListIn.air hp1 hp2 (i := x5.1) (by omega); have hr := ListIn.at hp2 (i := x5.1) (by omega); have he : at' x2.1 x5.2.2 = at' x2.1 x4.2 := (by rw [show x5.2.2 = x4.2 by assumption]); have hw := wr64 (n := at' x2.1 x5.2.2 - 1) (by omega); first | omega | (dsimp only; omega) | (simp only [List.length_append, List.length_cons, List.length_nil]; omega))), by ((have hF : Far m_ list to x2.2 x2.1 := (by assumption); have hl := hF.len; have hu := hF.low x4.2 (by omega) (by omega); have h0 := hF.pos (j := x4.2) (by omega) (by omega) (by omega); have hq := ListIn.air hp1 hp2 (i := x5.1) (by omega); have hr := ListIn.at hp2 (i := x5.1) (by omega); have he : at' x2.1 x5.2.2 = at' x2.1 x4.2 := (by rw [show x5.2.2 = x4.2 by assumption]); have hw := wr64 (n := at' x2.1 x5.2.2 - 1) (by omega); first | omega | (dsimp only; omega) | (simp only [List.length_append, List.length_cons, List.length_nil]; omega))), by ((have hF : Far m_ list to x2.2 x2.1 := (by assumption); have hl := hF.len; have hu := hF.low x4.2 (by omega) (by omega); have h0 := hF.pos (j := x4.2) (by omega) (by omega) (by omega); have hq := ListIn.air hp1 hp2 (i := x5.1) (by omega); have hr := ListIn.at hp2 (i := x5.1) (by omega); have he : at' x2.1 x5.2.2 = at' x2.1 x4.2 := (by rw [show x5.2.2 = x4.2 by assumption]); have hw := wr64 (n := at' x2.1 x5.2.2 - 1) (by omega); first | omega | (dsimp only; omega) | (simp only [List.length_append, List.length_cons, List.length_nil]; omega)))⟩ (sub_of [(204, 206)] ⟨rfl, rfl, rfl, rfl, rfl, rfl, trivial⟩ ⟨rfl, rfl, trivial⟩ rfl)
                · try simp only [tst] at h36
                  refine As ?_
                  refine Af ?_
                  refine Bk fmo (Ag .n (.t rfl) rfl <| Av .n (.t rfl) rfl <| Az .n (.t rfl) fo_112_2 rfl <| Ap .n (.t rfl) rfl ic_2 rfl <| Ag .n (.t rfl) rfl <| AF .n (.t rfl) (.t rfl) rfl rfl <| Ag .n (.t rfl) rfl <| Ag (.t rfl rfl) (.t rfl) rfl <| Ag (.t rfl rfl) (.t rfl) rfl <| Av (.t rfl rfl) (.u rfl id) rfl <| Az (.t rfl rfl) (.u rfl id) fo_112_1 rfl <| Ap (.t rfl rfl) (.u rfl id) rfl ic_2 rfl <| AZ (.t rfl rfl) (.u rfl id) (.u rfl id) sl_27 (fun hg => by simp only [tst] at hg; ((have hF : Far m_ list to x2.2 x2.1 := (by assumption); have hl := hF.len; have hu := hF.low x4.2 (by omega) (by omega); have h0 := hF.pos (j := x4.2) (by omega) (by omega) (by omega); have hq := ListIn.air hp1 hp2 (i := x5.1) (by omega); have hr := ListIn.at hp2 (i := x5.1) (by omega); have he : at' x2.1 x5.2.2 = at' x2.1 x4.2 := (by rw [show x5.2.2 = x4.2 by assumption]); have hw := wr64 (n := at' x2.1 x5.2.2 - 1) (by omega); first | omega | (dsimp only; omega) | (simp only [List.length_append, List.length_cons, List.length_nil]; omega)))) rfl <| A2 (.t rfl rfl) (.u rfl id) rfl (fun hg => by simp only [tst] at hg; ((have hF : Far m_ list to x2.2 x2.1 := (by assumption); have hl := hF.len; have hu := hF.low x4.2 (by omega) (by omega); have h0 := hF.pos (j := x4.2) (by omega) (by omega) (by omega); have hq := ListIn.air hp1 hp2 (i := x5.1) (by omega); have hr := ListIn.at hp2 (i := x5.1) (by omega); have he : at' x2.1 x5.2.2 = at' x2.1 x4.2 := (by rw [show x5.2.2 = x4.2 by assumption]); have hw := wr64 (n := at' x2.1 x5.2.2 - 1) (by omega); first | omega | (dsimp only; omega) | (simp only [List.length_append, List.length_cons, List.length_nil]; omega)))) rfl rfl rfl ic_2 rfl <| Ag (.t rfl rfl) (.t rfl) rfl <| Ag (.t rfl rfl) (.t rfl) rfl <| AZ (.t rfl rfl) (.u rfl id) (.u rfl id) sl_27 (fun hg => by simp only [tst] at hg; ((have hF : Far m_ list to x2.2 x2.1 := (by assumption); have hl := hF.len; have hu := hF.low from_ hp3.1 hp3.2; first | omega | (simp only [List.length_nil]; omega)))) rfl <| A2 (.t rfl rfl) (.u rfl id) rfl (fun hg => by simp only [tst] at hg; ((have hF : Far m_ list to x2.2 x2.1 := (by assumption); have hl := hF.len; have hu := hF.low from_ hp3.1 hp3.2; first | omega | (simp only [List.length_nil]; omega)))) rfl rfl rfl ic_2 rfl <| AF (.t rfl rfl) (.u rfl id) (.c rfl) rfl rfl <| AF (.t rfl rfl) (.u rfl id) (.u rfl id) rfl rfl <| B4 .n (.t rfl) (.u rfl id) rfl <| Lex.nil) (by kernel_rfl) ?_
                  refine Aq (.t rfl) rfl (fun h37 => ?_) (fun h37 => ?_)
                  · try simp only [tst] at h37
                    refine Af ?_
                    refine Ad (Ag .n (.t rfl) rfl <| Ag .n (.t rfl) rfl <| Ag .n (.t rfl) rfl <| A8 .n (.t rfl) (.t rfl) sl_27 (fun _ => by omega) rfl <| Ap .n (.t rfl) rfl ic_2 rfl <| q_neg .n (.t rfl) rfl <| AF .n (.t rfl) (.c rfl) rfl rfl <| AV ([IntKind.wrap .i64 ((IntKind.wrap .i64 (0 - (at' list x5.1))) - 1)] : List Int) (f := V.int .i64) (l := 207) .n rfl rfl (.cons (.t rfl) .nil) rfl si_27 zv_2 rfl rfl rfl <| CX (xs := x5.2.1) (ys := ([IntKind.wrap .i64 ((IntKind.wrap .i64 (0 - (at' list x5.1))) - 1)] : List Int)) (f := V.int .i64) (l := 208) .n rfl (.ow (.t rfl) rfl (take_all (by simp only [len_map, put_len] <;> rfl)) (by simp only [len_map, put_len] <;> rfl)) (.ow (.t rfl) rfl (take_all (by simp only [len_map, put_len] <;> rfl)) (by simp only [len_map, put_len] <;> rfl)) si_27 zv_2 rfl (by (simp only [lens] at * <;> omega)) rfl rfl <| Ah .n (.t rfl) rfl <| Lex.nil) ?_
                    refine Af ?_
                    refine Ad (Ag .n (.t rfl) rfl <| Av .n (.t rfl) rfl <| Az .n (.t rfl) fo_112_1 rfl <| Ap .n (.t rfl) rfl ic_2 rfl <| Ah .n (.t rfl) rfl <| Lex.nil) ?_
                    refine Bb rfl ?_
                    exact AY hk33 (x5.1, x5.2.1 ++ ([IntKind.wrap .i64 ((IntKind.wrap .i64 (0 - (at' list x5.1))) - 1)] : List Int), (at' m_.Airways (at' list x5.1)).From) ⟨by ((have hF : Far m_ list to x2.2 x2.1 := (by assumption); have hl := hF.len; have hu := hF.low x4.2 (by omega) (by omega); have h0 := hF.pos (j := x4.2) (by omega) (by omega) (by omega); have hq := ListIn.air hp1 hp2 (i := x5.1) (by omega); have hr := ListIn.at hp2 (i := x5.1) (by omega); have he : at' x2.1 x5.2.2 = at' x2.1 x4.2 := (by rw [show x5.2.2 = x4.2 by assumption]); have hw := wr64 (n := at' x2.1 x5.2.2 - 1) (by omega); first | omega | (dsimp only; omega) | (simp only [List.length_append, List.length_cons, List.length_nil]; omega))), by ((have hF : Far m_ list to x2.2 x2.1 := (by assumption); have hl := hF.len; have hu := hF.low x4.2 (by omega) (by omega); have h0 := hF.pos (j := x4.2) (by omega) (by omega) (by omega); have hq := ListIn.air hp1 hp2 (i := x5.1) (by omega); have hr := ListIn.at hp2 (i := x5.1) (by omega); have he : at' x2.1 x5.2.2 = at' x2.1 x4.2 := (by rw [show x5.2.2 = x4.2 by assumption]); have hw := wr64 (n := at' x2.1 x5.2.2 - 1) (by omega); first | omega | (dsimp only; omega) | (simp only [List.length_append, List.length_cons, List.length_nil]; omega))), by ((have hF : Far m_ list to x2.2 x2.1 := (by assumption); have hl := hF.len; have hu := hF.low x4.2 (by omega) (by omega); have h0 := hF.pos (j := x4.2) (by omega) (by omega) (by omega); have hq := ListIn.air hp1 hp2 (i := x5.1) (by omega); have hr := ListIn.at hp2 (i := x5.1) (by omega); have he : at' x2.1 x5.2.2 = at' x2.1 x4.2 := (by rw [show x5.2.2 = x4.2 by assumption]); have hw := wr64 (n := at' x2.1 x5.2.2 - 1) (by omega); first | omega | (dsimp only; omega) | (simp only [List.length_append, List.length_cons, List.length_nil]; omega))), by ((have hF : Far m_ list to x2.2 x2.1 := (by assumption); have hl := hF.len; have hu := hF.low x4.2 (by omega) (by omega); have h0 := hF.pos (j := x4.2) (by omega) (by omega) (by omega); have hq := ListIn.air hp1 hp2 (i := x5.1) (by omega); have hr := ListIn.at hp2 (i := x5.1) (by omega); have he : at' x2.1 x5.2.2 = at' x2.1 x4.2 := (by rw [show x5.2.2 = x4.2 by assumption]); have hw := wr64 (n := at' x2.1 x5.2.2 - 1) (by omega); first | omega | (dsimp only; omega) | (simp only [List.length_append, List.length_cons, List.length_nil]; omega)))⟩ (sub_of [(204, 208)] ⟨rfl, rfl, rfl, rfl, rfl, rfl, trivial⟩ ⟨rfl, rfl, trivial⟩ rfl)
                  · try simp only [tst] at h37
                    refine As ?_
                    refine AK ?_
                    refine Ad (Ag .n (.t rfl) rfl <| BM .n (.t rfl) (.c rfl) (fun _ => by omega) rfl <| Ah .n (.t rfl) rfl <| Lex.nil) ?_
                    exact A5 (x5.1 + 1, x5.2.1, x5.2.2) ⟨by omega, by omega, by omega, by omega, by omega, by ((have hF : Far m_ list to x2.2 x2.1 := (by assumption); have hl := hF.len; have hu := hF.low x4.2 (by omega) (by omega); have h0 := hF.pos (j := x4.2) (by omega) (by omega) (by omega); have hq := ListIn.air hp1 hp2 (i := x5.1) (by omega); have hr := ListIn.at hp2 (i := x5.1) (by omega); have he : at' x2.1 x5.2.2 = at' x2.1 x4.2 := (by rw [show x5.2.2 = x4.2 by assumption]); have hw := wr64 (n := at' x2.1 x5.2.2 - 1) (by omega); exact NoStep.skip (by assumption) (fun hS => by unfold StepTo at hS; omega)))⟩ (by omega) (sub_of [] ⟨rfl, rfl, rfl, rfl, rfl, rfl, rfl, trivial⟩ ⟨rfl, rfl, trivial⟩ rfl)
              · try simp only [tst] at h35
                refine Bb rfl ?_
                exact AY hk33 (x5.1, x5.2.1, x5.2.2) ⟨by (simp only [lens] at * <;> omega), by (exact (Far.stuck (n := x5.1) (j := x4.2) (by assumption) (by omega) (by omega) (by omega) (by omega) (by assumption)).elim), by (exact (Far.stuck (n := x5.1) (j := x4.2) (by assumption) (by omega) (by omega) (by omega) (by omega) (by assumption)).elim), by (exact (Far.stuck (n := x5.1) (j := x4.2) (by assumption) (by omega) (by omega) (by omega) (by omega) (by assumption)).elim)⟩ (sub_of [] ⟨rfl, rfl, rfl, rfl, rfl, rfl, trivial⟩ ⟨rfl, rfl, trivial⟩ rfl)
          · try simp only [tst] at h32
            refine Bb rfl ?_
            exact AY hk30 (x4.1, x4.2) ⟨by omega, by omega, by omega⟩ (sub_of [] ⟨rfl, trivial⟩ ⟨rfl, trivial⟩ rfl)
    · intro rec2 k2 hk7 x2 i8
      obtain ⟨e60, e61, e62⟩ := i8
      try dsimp only at *
      refine Af ?_
      refine Af ?_
      refine Ad (Ag .n (.t rfl) rfl <| Ag .n (.t rfl) rfl <| Av .n (.t rfl) rfl <| Az .n (.t rfl) fo_26_0 rfl <| Ap .n (.t rfl) rfl ic_2 rfl <| AF .n (.t rfl) (.t rfl) rfl rfl <| Lex.nil) ?_
      refine Aq (.t rfl) rfl (fun h9 => ?_) (fun h9 => ?_)
      · try simp only [tst] at h9
        refine As ?_
        refine Af ?_
        refine Aw ?_
        refine Af ?_
        refine Ad (Ah .n (.c rfl) rfl <| Lex.nil) ?_
        refine Aw ?_
        refine Bp (m_spec_l04Walk_b3 m_ list from_ to x1 rec2 k2 x2) _ _ _ rfl (fun (x3 : (List Int) × Int) => 0 ≤ x3.2 ∧ x3.2 ≤ (list.length : Int) ∧ Far m_ list to (x2.2 + 1) x3.1) (fun x3 => 0 ≤ x3.2 ∧ x3.2 ≤ (list.length : Int) ∧ Far m_ list to (x2.2 + 1) x3.1 ∧ (list.length : Int) ≤ x3.2) (fun x3 => ((list.length : Int) - x3.2 : Int).toNat) (fun x3 => ⟨[(0, some (true, .rp [.int .i64 m_.Junctions, .sl 7 (m_.Airways.map Ar.v)])), (1, some (true, .sl 1 (list.map (V.int .i64)))), (2, some (true, .int .i64 from_)), (3, some (true, .int .i64 to)), (10, some (true, .os 200 x3.1.length)), (12, some (true, .int .i64 x2.2)), (13, some (true, .int .i64 x3.2))], [(200, some (.row 2 1 (x3.1.map (V.int .i64))))]⟩) (fun x3 => ⟨[(0, some (true, .rp [.int .i64 m_.Junctions, .sl 7 (m_.Airways.map Ar.v)])), (1, some (true, .sl 1 (list.map (V.int .i64)))), (2, some (true, .int .i64 from_)), (3, some (true, .int .i64 to)), (10, some (true, .os 200 x3.1.length)), (12, some (true, .int .i64 x2.2))], [(200, some (.row 2 1 (x3.1.map (V.int .i64))))]⟩) ⟨by omega, by omega, by (exact Far.mono (by assumption) (by omega))⟩ (by omega) (sub_of [] ⟨rfl, rfl, rfl, rfl, rfl, rfl, rfl, trivial⟩ ⟨rfl, trivial⟩ rfl) ?_ ?_
        · intro x3 i20
          obtain ⟨e21, e22, e23, e24⟩ := i20
          try dsimp only at *
          refine AK ?_
          refine Ad (Ag .n (.t rfl) rfl <| BM .n (.t rfl) (.c rfl) (fun _ => by omega) rfl <| Ah .n (.t rfl) rfl <| Lex.nil) ?_
          exact A5 (x3.1, x2.2 + 1) ⟨by omega, by omega, by omega⟩ (by omega) (sub_of [] ⟨rfl, rfl, rfl, rfl, rfl, rfl, trivial⟩ ⟨rfl, trivial⟩ rfl)
        · intro rec3 k3 hk10 x3 i11
          obtain ⟨e25, e26, e27⟩ := i11
          try dsimp only at *
          refine Af ?_
          refine Af ?_
          refine Ad (Ag .n (.t rfl) rfl <| Ag .n (.t rfl) rfl <| BS .n (.t rfl) rfl len_map ss_27 rfl <| AF .n (.t rfl) (.t rfl) rfl rfl <| Lex.nil) ?_
          refine Aq (.t rfl) rfl (fun h12 => ?_) (fun h12 => ?_)
          · try simp only [tst] at h12
            refine As ?_
            refine Af ?_
            refine Aw ?_
            refine Af ?_
            refine Bk fmo (Ag .n (.t rfl) rfl <| Av .n (.t rfl) rfl <| Az .n (.t rfl) fo_26_1 rfl <| Ap .n (.t rfl) rfl ic_24 rfl <| Ag .n (.t rfl) rfl <| Ag .n (.t rfl) rfl <| A8 .n (.t rfl) (.t rfl) sl_27 (fun _ => by omega) rfl <| Ap .n (.t rfl) rfl ic_2 rfl <| A8 .n (.t rfl) (.t rfl) sl_24 (fun _ => by ((have hF : Far m_ list to (x2.2 + 1) x3.1 := (by assumption); have hl := hF.len; have hq := ListIn.air hp1 hp2 (i := x3.2) (by omega); have hr := ListIn.at hp2 (i := x3.2) (by omega); first | omega | (dsimp only; omega)))) rfl <| Ah .n (.t rfl) rfl <| Lex.nil) (by kernel_rfl) ?_
            refine Af ?_
            refine Af ?_
            refine Ad (Ag .n (.t rfl) rfl <| Ag .n (.t rfl) rfl <| Av .n (.t rfl) rfl <| Az .n (.t rfl) fo_112_1 rfl <| Ap .n (.t rfl) rfl ic_2 rfl <| AZ .n (.t rfl) (.t rfl) sl_27 (fun _ => by ((have hF : Far m_ list to (x2.2 + 1) x3.1 := (by assumption); have hl := hF.len; have hq := ListIn.air hp1 hp2 (i := x3.2) (by omega); have hr := ListIn.at hp2 (i := x3.2) (by omega); first | omega | (dsimp only; omega)))) rfl <| A2 .n (.t rfl) rfl (fun _ => by ((have hF : Far m_ list to (x2.2 + 1) x3.1 := (by assumption); have hl := hF.len; have hq := ListIn.air hp1 hp2 (i := x3.2) (by omega); have hr := ListIn.at hp2 (i := x3.2) (by omega); first | omega | (dsimp only; omega)))) rfl rfl rfl ic_2 rfl <| Ag .n (.t rfl) rfl <| AF .n (.t rfl) (.t rfl) rfl rfl <| Ag .n (.t rfl) rfl <| Ag (.t rfl rfl) (.t rfl) rfl <| Ag (.t rfl rfl) (.t rfl) rfl <| Av (.t rfl rfl) (.u rfl id) rfl <| Az (.t rfl rfl) (.u rfl id) fo_112_2 rfl <| Ap (.t rfl rfl) (.u rfl id) rfl ic_2 rfl <| AZ (.t rfl rfl) (.u rfl id) (.u rfl id) sl_27 (fun hg => by simp only [tst] at hg; ((have hF : Far m_ list to (x2.2 + 1) x3.1 := (by assumption); have hl := hF.len; have hq := ListIn.air hp1 hp2 (i := x3.2) (by omega); have hr := ListIn.at hp2 (i := x3.2) (by omega); first | omega | (dsimp only; omega)))) rfl <| A2 (.t rfl rfl) (.u rfl id) rfl (fun hg => by simp only [tst] at hg; ((have hF : Far m_ list to (x2.2 + 1) x3.1 := (by assumption); have hl := hF.len; have hq := ListIn.air hp1 hp2 (i := x3.2) (by omega); have hr := ListIn.at hp2 (i := x3.2) (by omega); first | omega | (dsimp only; omega)))) rfl rfl rfl ic_2 rfl <| AF (.t rfl rfl) (.u rfl id) (.c rfl) rfl rfl <| B4 .n (.t rfl) (.u rfl id) rfl <| Lex.nil) ?_
            refine Dn _ _ rfl (fun v13 : (List Int) => Far m_ list to (x2.2 + 1) v13) (fun v13 => ⟨[(0, some (true, .rp [.int .i64 m_.Junctions, .sl 7 (m_.Airways.map Ar.v)])), (1, some (true, .sl 1 (list.map (V.int .i64)))), (2, some (true, .int .i64 from_)), (3, some (true, .int .i64 to)), (10, some (true, .os 200 v13.length)), (12, some (true, .int .i64 x2.2)), (13, some (true, .int .i64 x3.2)), (14, some (true, .rp [.str (at' m_.Airways (at' list x3.2)).Id, .int .i64 (at' m_.Airways (at' list x3.2)).From, .int .i64 (at' m_.Airways (at' list x3.2)).To, .int .i64 (at' m_.Airways (at' list x3.2)).Length, .int .i64 (at' m_.Airways (at' list x3.2)).Section, .int .i64 (at' m_.Airways (at' list x3.2)).Friction, .int .i64 (at' m_.Airways (at' list x3.2)).Shock]))], [(200, some (.row 2 1 (v13.map (V.int .i64))))]⟩) (fun v13 hv18 => ?_) (fun j14 hj15 => ?_)
            · have e19 := hv18
              refine Af ?_
              refine Ad (Ag .n (.t rfl) rfl <| Ag .n (.t rfl) rfl <| Av .n (.t rfl) rfl <| Az .n (.t rfl) fo_112_2 rfl <| Ap .n (.t rfl) rfl ic_2 rfl <| AZ .n (.t rfl) (.t rfl) sl_27 (fun _ => by ((have hF : Far m_ list to (x2.2 + 1) v13 := (by assumption); have hl := hF.len; have hq := ListIn.air hp1 hp2 (i := x3.2) (by omega); have hr := ListIn.at hp2 (i := x3.2) (by omega); first | omega | (dsimp only; omega)))) rfl <| A2 .n (.t rfl) rfl (fun _ => by ((have hF : Far m_ list to (x2.2 + 1) v13 := (by assumption); have hl := hF.len; have hq := ListIn.air hp1 hp2 (i := x3.2) (by omega); have hr := ListIn.at hp2 (i := x3.2) (by omega); first | omega | (dsimp only; omega)))) rfl rfl rfl ic_2 rfl <| Ag .n (.t rfl) rfl <| AF .n (.t rfl) (.t rfl) rfl rfl <| Ag .n (.t rfl) rfl <| Ag (.t rfl rfl) (.t rfl) rfl <| Ag (.t rfl rfl) (.t rfl) rfl <| Av (.t rfl rfl) (.u rfl id) rfl <| Az (.t rfl rfl) (.u rfl id) fo_112_1 rfl <| Ap (.t rfl rfl) (.u rfl id) rfl ic_2 rfl <| AZ (.t rfl rfl) (.u rfl id) (.u rfl id) sl_27 (fun hg => by simp only [tst] at hg; ((have hF : Far m_ list to (x2.2 + 1) v13 := (by assumption); have hl := hF.len; have hq := ListIn.air hp1 hp2 (i := x3.2) (by omega); have hr := ListIn.at hp2 (i := x3.2) (by omega); first | omega | (dsimp only; omega)))) rfl <| A2 (.t rfl rfl) (.u rfl id) rfl (fun hg => by simp only [tst] at hg; ((have hF : Far m_ list to (x2.2 + 1) v13 := (by assumption); have hl := hF.len; have hq := ListIn.air hp1 hp2 (i := x3.2) (by omega); have hr := ListIn.at hp2 (i := x3.2) (by omega); first | omega | (dsimp only; omega)))) rfl rfl rfl ic_2 rfl <| AF (.t rfl rfl) (.u rfl id) (.c rfl) rfl rfl <| B4 .n (.t rfl) (.u rfl id) rfl <| Lex.nil) ?_
              refine Aq (.t rfl) rfl (fun h17 => ?_) (fun h17 => ?_)
              · try simp only [tst] at h17
                refine Ad (Ag .n (.t rfl) rfl <| Ag .n (.t rfl) rfl <| Av .n (.t rfl) rfl <| Az .n (.t rfl) fo_112_1 rfl <| Ap .n (.t rfl) rfl ic_2 rfl <| Ag .n (.t rfl) rfl <| BM .n (.t rfl) (.c rfl) (fun _ => by omega) rfl <| AZ .n (.t rfl) (.t rfl) sl_27 (fun _ => by ((have hF : Far m_ list to (x2.2 + 1) v13 := (by assumption); have hl := hF.len; have hq := ListIn.air hp1 hp2 (i := x3.2) (by omega); have hr := ListIn.at hp2 (i := x3.2) (by omega); first | omega | (dsimp only; omega)))) rfl <| B0 (x2.2 + 1) .n rfl (.t rfl) (.t rfl) rfl ts_2 (by ((have hF : Far m_ list to (x2.2 + 1) v13 := (by assumption); have hl := hF.len; have hq := ListIn.air hp1 hp2 (i := x3.2) (by omega); have hr := ListIn.at hp2 (i := x3.2) (by omega); first | omega | (dsimp only; omega)))) rfl rfl <| Lex.nil) ?_
                refine AK ?_
                refine Ad (Ag .n (.t rfl) rfl <| BM .n (.t rfl) (.c rfl) (fun _ => by omega) rfl <| Ah .n (.t rfl) rfl <| Lex.nil) ?_
                exact A5 (put' v13 (at' m_.Airways (at' list x3.2)).From (x2.2 + 1), x3.2 + 1) ⟨by omega, by omega, by ((have hF : Far m_ list to (x2.2 + 1) v13 := (by assumption); have hl := hF.len; have hq := ListIn.air hp1 hp2 (i := x3.2) (by omega); have hr := ListIn.at hp2 (i := x3.2) (by omega); (try dsimp only); exact hF.set hp1 hp2 (i := x3.2) ⟨by omega, by omega⟩ ⟨hq.2.2.1, hq.2.2.2⟩ ⟨hq.1, hq.2.1⟩ (by omega) (by omega) (by omega) (by omega) (.inr ⟨rfl, rfl⟩)))⟩ (by omega) (sub_of [] ⟨rfl, rfl, rfl, rfl, os_len rfl (by first | (simp only [put_len]; done) | (first | omega | assumption | (simp only [lens] at * <;> omega) | (((have hF : Far m_ list to (x2.2 + 1) x3.1 := (by assumption); have hl := hF.len; have hq := ListIn.air hp1 hp2 (i := x3.2) (by omega); have hr := ListIn.at hp2 (i := x3.2) (by omega); first | omega | (dsimp only; omega))); done) | (((have hF : Far m_ list to (x2.2 + 1) v13 := (by assumption); have hl := hF.len; have hq := ListIn.air hp1 hp2 (i := x3.2) (by omega); have hr := ListIn.at hp2 (i := x3.2) (by omega); first | omega | (dsimp only; omega))); done) | (((have hF : Far m_ list to (x2.2 + 1) x3.1 := (by assumption); have hl := hF.len; have hq := ListIn.air hp1 hp2 (i := x3.2) (by omega); have hr := ListIn.at hp2 (i := x3.2) (by omega); (try dsimp only); exact hF.set hp1 hp2 (i := x3.2) ⟨by omega, by omega⟩ ⟨hq.1, hq.2.1⟩ ⟨hq.2.2.1, hq.2.2.2⟩ (by omega) (by omega) (by omega) (by omega) (.inl ⟨rfl, rfl⟩))); done) | (((have hF : Far m_ list to (x2.2 + 1) v13 := (by assumption); have hl := hF.len; have hq := ListIn.air hp1 hp2 (i := x3.2) (by omega); have hr := ListIn.at hp2 (i := x3.2) (by omega); (try dsimp only); exact hF.set hp1 hp2 (i := x3.2) ⟨by omega, by omega⟩ ⟨hq.2.2.1, hq.2.2.2⟩ ⟨hq.1, hq.2.1⟩ (by omega) (by omega) (by omega) (by omega) (.inr ⟨rfl, rfl⟩))); done) | (((refine Far.start (by omega) (fun j j0 j1 => ?_) (by omega); exact (by assumption : ∀ j, 0 ≤ j → j < x1.2 → at' x1.1 j = -1) j j0 (by omega))); done) | (((intro j j0 j1; (try dsimp only at *); omega)); done) | (((dsimp only; exact neg_app (by assumption) (by omega))); done) | ((exact Far.mono (by assumption) (by omega)); done) | (((have hF : Far m_ list to x2.2 x2.1 := (by assumption); have hl := hF.len; have hu := hF.low from_ hp3.1 hp3.2; first | omega | (simp only [List.length_nil]; omega))); done) | ((exact NoStep.nil); done))), rfl, rfl, trivial⟩ ⟨rfl, trivial⟩ rfl)
              · try simp only [tst] at h17
                refine As ?_
                refine AK ?_
                refine Ad (Ag .n (.t rfl) rfl <| BM .n (.t rfl) (.c rfl) (fun _ => by omega) rfl <| Ah .n (.t rfl) rfl <| Lex.nil) ?_
                exact A5 (v13, x3.2 + 1) ⟨by omega, by omega, by omega⟩ (by omega) (sub_of [] ⟨rfl, rfl, rfl, rfl, rfl, rfl, rfl, trivial⟩ ⟨rfl, trivial⟩ rfl)
            · refine Aq (.t rfl) rfl (fun h16 => ?_) (fun h16 => ?_)
              · try simp only [tst] at h16
                refine Ad (Ag .n (.t rfl) rfl <| Ag .n (.t rfl) rfl <| Av .n (.t rfl) rfl <| Az .n (.t rfl) fo_112_2 rfl <| Ap .n (.t rfl) rfl ic_2 rfl <| Ag .n (.t rfl) rfl <| BM .n (.t rfl) (.c rfl) (fun _ => by omega) rfl <| AZ .n (.t rfl) (.t rfl) sl_27 (fun _ => by ((have hF : Far m_ list to (x2.2 + 1) x3.1 := (by assumption); have hl := hF.len; have hq := ListIn.air hp1 hp2 (i := x3.2) (by omega); have hr := ListIn.at hp2 (i := x3.2) (by omega); first | omega | (dsimp only; omega)))) rfl <| B0 (x2.2 + 1) .n rfl (.t rfl) (.t rfl) rfl ts_2 (by ((have hF : Far m_ list to (x2.2 + 1) x3.1 := (by assumption); have hl := hF.len; have hq := ListIn.air hp1 hp2 (i := x3.2) (by omega); have hr := ListIn.at hp2 (i := x3.2) (by omega); first | omega | (dsimp only; omega)))) rfl rfl <| Lex.nil) ?_
                exact AY hj15 (put' x3.1 (at' m_.Airways (at' list x3.2)).To (x2.2 + 1)) (by ((have hF : Far m_ list to (x2.2 + 1) x3.1 := (by assumption); have hl := hF.len; have hq := ListIn.air hp1 hp2 (i := x3.2) (by omega); have hr := ListIn.at hp2 (i := x3.2) (by omega); (try dsimp only); exact hF.set hp1 hp2 (i := x3.2) ⟨by omega, by omega⟩ ⟨hq.1, hq.2.1⟩ ⟨hq.2.2.1, hq.2.2.2⟩ (by omega) (by omega) (by omega) (by omega) (.inl ⟨rfl, rfl⟩)))) (sub_of [] ⟨rfl, rfl, rfl, rfl, os_len rfl (by first | (simp only [put_len]; done) | (first | omega | assumption | (simp only [lens] at * <;> omega) | (((have hF : Far m_ list to (x2.2 + 1) x3.1 := (by assumption); have hl := hF.len; have hq := ListIn.air hp1 hp2 (i := x3.2) (by omega); have hr := ListIn.at hp2 (i := x3.2) (by omega); first | omega | (dsimp only; omega))); done) | (((have hF : Far m_ list to (x2.2 + 1) v13 := (by assumption); have hl := hF.len; have hq := ListIn.air hp1 hp2 (i := x3.2) (by omega); have hr := ListIn.at hp2 (i := x3.2) (by omega); first | omega | (dsimp only; omega))); done) | (((have hF : Far m_ list to (x2.2 + 1) x3.1 := (by assumption); have hl := hF.len; have hq := ListIn.air hp1 hp2 (i := x3.2) (by omega); have hr := ListIn.at hp2 (i := x3.2) (by omega); (try dsimp only); exact hF.set hp1 hp2 (i := x3.2) ⟨by omega, by omega⟩ ⟨hq.1, hq.2.1⟩ ⟨hq.2.2.1, hq.2.2.2⟩ (by omega) (by omega) (by omega) (by omega) (.inl ⟨rfl, rfl⟩))); done) | (((have hF : Far m_ list to (x2.2 + 1) v13 := (by assumption); have hl := hF.len; have hq := ListIn.air hp1 hp2 (i := x3.2) (by omega); have hr := ListIn.at hp2 (i := x3.2) (by omega); (try dsimp only); exact hF.set hp1 hp2 (i := x3.2) ⟨by omega, by omega⟩ ⟨hq.2.2.1, hq.2.2.2⟩ ⟨hq.1, hq.2.1⟩ (by omega) (by omega) (by omega) (by omega) (.inr ⟨rfl, rfl⟩))); done) | (((refine Far.start (by omega) (fun j j0 j1 => ?_) (by omega); exact (by assumption : ∀ j, 0 ≤ j → j < x1.2 → at' x1.1 j = -1) j j0 (by omega))); done) | (((intro j j0 j1; (try dsimp only at *); omega)); done) | (((dsimp only; exact neg_app (by assumption) (by omega))); done) | ((exact Far.mono (by assumption) (by omega)); done) | (((have hF : Far m_ list to x2.2 x2.1 := (by assumption); have hl := hF.len; have hu := hF.low from_ hp3.1 hp3.2; first | omega | (simp only [List.length_nil]; omega))); done) | ((exact NoStep.nil); done))), rfl, rfl, rfl, trivial⟩ ⟨rfl, trivial⟩ rfl)
              · try simp only [tst] at h16
                refine As ?_
                exact AY hj15 x3.1 (by omega) (sub_of [] ⟨rfl, rfl, rfl, rfl, rfl, rfl, rfl, rfl, trivial⟩ ⟨rfl, trivial⟩ rfl)
          · try simp only [tst] at h12
            refine Bb rfl ?_
            exact AY hk10 (x3.1, x3.2) ⟨by omega, by omega, by omega, by omega⟩ (sub_of [] ⟨rfl, rfl, rfl, rfl, rfl, rfl, trivial⟩ ⟨rfl, trivial⟩ rfl)
      · try simp only [tst] at h9
        refine Bb rfl ?_
        exact AY hk7 (x2.1, x2.2) ⟨by omega, by omega, by omega, by omega⟩ (sub_of [] ⟨rfl, rfl, rfl, rfl, rfl, trivial⟩ ⟨rfl, trivial⟩ rfl)
  · intro rec1 k1 hk3 x1 i4
    obtain ⟨e69, e70, e71, e72, e73⟩ := i4
    try dsimp only at *
    refine Af ?_
    refine Af ?_
    refine Ad (Ag .n (.t rfl) rfl <| Ag .n (.t rfl) rfl <| Av .n (.t rfl) rfl <| Az .n (.t rfl) fo_26_0 rfl <| Ap .n (.t rfl) rfl ic_2 rfl <| AF .n (.t rfl) (.t rfl) rfl rfl <| Lex.nil) ?_
    refine Aq (.t rfl) rfl (fun h5 => ?_) (fun h5 => ?_)
    · try simp only [tst] at h5
      refine As ?_
      refine Af ?_
      refine Aw ?_
      refine Ad (Ag .n (.t rfl) rfl <| AV K_6 (f := V.int .i64) (l := 201) .n rfl rfl (.cons (.c rfl) .nil) rfl si_27 zv_2 rfl rfl rfl <| CX (xs := x1.1) (ys := K_6) (f := V.int .i64) (l := 202) .n rfl (.ow (.t rfl) rfl (take_all (by simp only [len_map, put_len] <;> rfl)) (by simp only [len_map, put_len] <;> rfl)) (.ow (.t rfl) rfl (take_all (by simp only [len_map, put_len] <;> rfl)) (by simp only [len_map, put_len] <;> rfl)) si_27 zv_2 rfl (by (simp only [lens] at * <;> omega)) rfl rfl <| Ah .n (.t rfl) rfl <| Lex.nil) ?_
      refine AK ?_
      refine Ad (Ag .n (.t rfl) rfl <| BM .n (.t rfl) (.c rfl) (fun _ => by omega) rfl <| Ah .n (.t rfl) rfl <| Lex.nil) ?_
      exact A5 (x1.1 ++ K_6, x1.2 + 1) ⟨by omega, by omega, by (simp only [lens] at * <;> omega), by (simp only [lens] at * <;> omega), by ((dsimp only; exact neg_app (by assumption) (by omega)))⟩ (by omega) (sub_of [(200, 202)] ⟨rfl, rfl, rfl, rfl, rfl, rfl, trivial⟩ ⟨rfl, trivial⟩ rfl)
    · try simp only [tst] at h5
      refine Bb rfl ?_
      exact AY hk3 (x1.1, x1.2) ⟨by omega, by omega, by omega, by omega, by omega, by omega⟩ (sub_of [] ⟨rfl, rfl, rfl, rfl, rfl, trivial⟩ ⟨rfl, trivial⟩ rfl)

/-! ### spec_l04Meshes -/
set_option maxRecDepth 100000 in
set_option maxHeartbeats 4000000 in
theorem c_spec_l04Meshes (m_ : AB) (hp1 : MineIn m_) : ConG Tryz.prog 102 [.rp [.int .i64 m_.Junctions, .sl 7 (m_.Airways.map Ar.v)]] [] (.os 100 (Be m_).length) ([(100, some (.row 27 1 ((Be m_).map (slv 1 (V.int .i64)))))]) := by
  refine con_introG (out := fun r : (List (List Int)) => ((.os 100 r.length : V), ([(100, some (.row 27 1 (r.map (slv 1 (V.int .i64)))))] : List (Nat × Option O)))) (r := (Be m_)) Tryz.func102 rfl Tryz.ntmps102 rfl ?_
  have hA := hp1.2.1
  have hT := (tree_in m_).1
  have hJ1 := hp1.1
  have hA1 := hp1.2.1
  refine BH (t := 0) 1 rfl rfl fun hl => ?_
  have l1 := hl; clear hl; simp only [List.length_map] at l1
  refine Af ?_
  refine Ad (Ah .n (.c rfl) rfl <| Lex.nil) ?_
  refine Af ?_
  refine Ad (Ag .n (.t rfl) rfl <| AW (full := false) [] [(100, 200)] .n rfl .f en_113 (.cons (.t rfl) .nil) (.cons (.b (.a (.same rfl))) .nil) (c_spec_l04Tree m_ (by omega)) trivial rfl rfl (fun h => Bool.noConfusion h) (fun h => Bool.noConfusion h) rfl <| Ah .n (.t rfl) rfl <| Lex.nil) ?_
  refine Af ?_
  refine Ad (AV ([] : List (List Int)) (f := slv 1 (V.int .i64)) (l := 201) .n rfl rfl .nil rfl si_71 zv_27 rfl rfl rfl <| Ah .n (.t rfl) rfl <| Lex.nil) ?_
  refine Af ?_
  refine Af ?_
  refine Ad (Ah .n (.c rfl) rfl <| Lex.nil) ?_
  refine Aw ?_
  refine Dw (Ds m_) _ _ _ rfl (fun (x1 : Int × (List (List Int))) => 0 ≤ x1.1 ∧ x1.1 ≤ (m_.Airways.length : Int) ∧ (x1.2.length : Int) + 0 ≤ x1.1 + (([] : List (List Int)).length : Int) ∧ (x1.2.length : Int) ≤ x1.1) (fun x1 => 0 ≤ x1.1 ∧ x1.1 ≤ (m_.Airways.length : Int) ∧ (x1.2.length : Int) + 0 ≤ x1.1 + (([] : List (List Int)).length : Int) ∧ (x1.2.length : Int) ≤ x1.1 ∧ (m_.Airways.length : Int) ≤ x1.1) (fun x1 => ((m_.Airways.length : Int) - x1.1 : Int).toNat) (fun x1 => ⟨[(0, some (true, .rp [.int .i64 m_.Junctions, .sl 7 (m_.Airways.map Ar.v)])), (3, some (true, .os 200 (Bs m_).length)), (4, some (true, .os 201 x1.2.length)), (5, some (true, .int .i64 x1.1))], [(200, some (.row 2 1 ((Bs m_).map (V.int .i64)))), (201, some (.row 27 1 (x1.2.map (slv 1 (V.int .i64)))))]⟩) (fun x1 => ⟨[(4, some (true, .os 201 x1.2.length))], [(201, some (.row 27 1 (x1.2.map (slv 1 (V.int .i64)))))]⟩) ⟨by omega, by omega, by (simp only [lens] at * <;> omega), by (simp only [lens] at * <;> omega)⟩ (by omega) (sub_of [] ⟨rfl, rfl, rfl, rfl, trivial⟩ ⟨rfl, rfl, trivial⟩ rfl) rfl ?_ ?_
  · intro x1 i6
    obtain ⟨e7, e8, e9, e10, e11⟩ := i6
    try dsimp only at *
    refine Af ?_
    refine Ad (Ag .n (.t rfl) rfl <| Ah .n (.t rfl) rfl <| Lex.nil) ?_
    exact Au [(100, 201)] (.cons (.t rfl rfl) .nil) (by first | rfl | (simp only [put_len]; rfl)) ⟨rfl, trivial⟩ rfl
  · intro rec1 k1 hk2 x1 i3
    obtain ⟨e12, e13, e14, e15⟩ := i3
    try dsimp only at *
    refine Af ?_
    refine Af ?_
    refine Ad (Ag .n (.t rfl) rfl <| Ag .n (.t rfl) rfl <| Av .n (.t rfl) rfl <| Az .n (.t rfl) fo_26_1 rfl <| Ap .n (.t rfl) rfl ic_24 rfl <| BS .n (.t rfl) rfl len_map ss_24 rfl <| AF .n (.t rfl) (.t rfl) rfl rfl <| Lex.nil) ?_
    refine Aq (.t rfl) rfl (fun h4 => ?_) (fun h4 => ?_)
    · try simp only [tst] at h4
      refine As ?_
      refine Af ?_
      refine Aw ?_
      refine Af ?_
      refine Af ?_
      refine Ad (Ag .n (.t rfl) rfl <| Ag .n (.t rfl) rfl <| AJ (full := true) .n .f en_114 (.cons (.t rfl) (.cons (.t rfl) .nil)) (.cons (.b (.a (.own rfl rfl rfl (take_all (by simp only [len_map, put_len] <;> rfl)) (by simp only [len_map, put_len] <;> rfl)))) (.cons (.b (.a (.same rfl))) .nil)) (fun hg => c_spec_l00Has (Bs m_) x1.1) rfl (fun _ => rfl) rfl <| Lex.nil) ?_
      refine Aq (.t rfl) rfl (fun h5 => ?_) (fun h5 => ?_)
      · try simp only [tst] at h5
        refine Bb rfl ?_
        refine Ad (Ag .n (.t rfl) rfl <| BM .n (.t rfl) (.c rfl) (fun _ => by omega) rfl <| Ah .n (.t rfl) rfl <| Lex.nil) ?_
        exact CC (x1.1 + 1, x1.2) ⟨by omega, by omega, by (simp only [lens] at * <;> omega), by (simp only [lens] at * <;> omega)⟩ (by omega) (sub_of [] ⟨rfl, rfl, rfl, rfl, trivial⟩ ⟨rfl, rfl, trivial⟩ rfl)
      · try simp only [tst] at h5
        refine As ?_
        refine Af ?_
        refine Bk fmo (Ag .n (.t rfl) rfl <| Ag .n (.t rfl) rfl <| Ag .n (.t rfl) rfl <| Av .n (.t rfl) rfl <| Az .n (.t rfl) fo_26_1 rfl <| Ap .n (.t rfl) rfl ic_24 rfl <| Ag .n (.t rfl) rfl <| A8 .n (.t rfl) (.t rfl) sl_24 (fun _ => by omega) rfl <| Az .n (.t rfl) fo_112_2 rfl <| Ap .n (.t rfl) rfl ic_2 rfl <| Ag .n (.t rfl) rfl <| Av .n (.t rfl) rfl <| Az .n (.t rfl) fo_26_1 rfl <| Ap .n (.t rfl) rfl ic_24 rfl <| Ag .n (.t rfl) rfl <| A8 .n (.t rfl) (.t rfl) sl_24 (fun _ => by omega) rfl <| Az .n (.t rfl) fo_112_1 rfl <| Ap .n (.t rfl) rfl ic_2 rfl <| AW (full := true) [] [(100, 202)] .n rfl .f en_115 (.cons (.t rfl) (.cons (.t rfl) (.cons (.t rfl) (.cons (.t rfl) .nil)))) (.cons (.b (.a (.same rfl))) (.cons (.b (.a (.own rfl rfl rfl (take_all (by simp only [len_map, put_len] <;> rfl)) (by simp only [len_map, put_len] <;> rfl)))) (.cons (.b (.a (.same rfl))) (.cons (.b (.a (.same rfl))) .nil)))) (c_spec_l04Walk m_ (Bs m_) (at' m_.Airways x1.1).To (at' m_.Airways x1.1).From (by omega) (by omega) (by ((have hq := hp1.at (i := x1.1) (by omega); unfold AirIn at hq; omega))) (by ((have hq := hp1.at (i := x1.1) (by omega); unfold AirIn at hq; omega)))) trivial rfl rfl (fun _ => rfl) (fun _ => (hr_row (fun _ => rfl) hr_nil)) rfl <| Ag .n (.t rfl) rfl <| C9 .n (.t rfl) rfl rfl rfl <| C9 .n (.t rfl) rfl rfl rfl <| Ah .n (.t rfl) rfl <| Ah .n (.t rfl) rfl <| Lex.nil) (by kernel_rfl) ?_
        refine run_ro <| ro_lex (l1 := [_, _, _, _, _, _]) (l2 := [_, _, _]) rfl (Ag .n (.t rfl) rfl <| Ag .n (.t rfl) rfl <| BM .n (.t rfl) (.c rfl) (fun _ => by omega) rfl <| AV ([x1.1 + 1] : List Int) (f := V.int .i64) (l := 203) .n rfl rfl (.cons (.t rfl) .nil) rfl si_27 zv_2 rfl rfl rfl <| Ag .n (.t rfl) rfl <| CX (xs := ([x1.1 + 1] : List Int)) (ys := (BT m_ (Bs m_) (at' m_.Airways x1.1).To (at' m_.Airways x1.1).From).1) (f := V.int .i64) (l := 204) .n rfl (.ow (.t rfl) rfl (take_all (by simp only [len_map, put_len] <;> rfl)) (by simp only [len_map, put_len] <;> rfl)) (.ow (.t rfl) rfl (take_all (by simp only [len_map, put_len] <;> rfl)) (by simp only [len_map, put_len] <;> rfl)) si_27 zv_2 rfl (by ((have hq := hp1.at (i := x1.1) (by omega); unfold AirIn at hq; have hW := (walk_is hp1 hT (from_ := (at' m_.Airways x1.1).To) (to := (at' m_.Airways x1.1).From) (by omega) (by omega)).len; simp only [List.length_append, List.length_cons, List.length_nil]; omega))) rfl rfl <| Lex.nil) <| ro_freezeL (l := 204) [50] ⟨rfl, trivial⟩ rfl (take_all (by simp only [len_map, put_len] <;> rfl)) (by simp only [len_map, put_len] <;> rfl) rfl <| ro_lex (l1 := [_, _, _]) (l2 := []) rfl (AV ([([x1.1 + 1] : List Int) ++ (BT m_ (Bs m_) (at' m_.Airways x1.1).To (at' m_.Airways x1.1).From).1] : List (List Int)) (f := slv 1 (V.int .i64)) (l := 205) .n rfl rfl (.cons (.t rfl) .nil) rfl si_71 zv_27 rfl rfl rfl <| CX (xs := x1.2) (ys := ([([x1.1 + 1] : List Int) ++ (BT m_ (Bs m_) (at' m_.Airways x1.1).To (at' m_.Airways x1.1).From).1] : List (List Int))) (f := slv 1 (V.int .i64)) (l := 206) .n rfl (.ow (.t rfl) rfl (take_all (by simp only [len_map, put_len] <;> rfl)) (by simp only [len_map, put_len] <;> rfl)) (.ow (.t rfl) rfl (take_all (by simp only [len_map, put_len] <;> rfl)) (by simp only [len_map, put_len] <;> rfl)) si_71 zv_27 rfl (by (simp only [lens] at * <;> omega)) rfl rfl <| Ah .n (.t rfl) rfl <| Lex.nil) <| ro_end ?_
        refine AK ?_
        refine Ad (Ag .n (.t rfl) rfl <| BM .n (.t rfl) (.c rfl) (fun _ => by omega) rfl <| Ah .n (.t rfl) rfl <| Lex.nil) ?_
        exact CC (x1.1 + 1, x1.2 ++ ([([x1.1 + 1] : List Int) ++ (BT m_ (Bs m_) (at' m_.Airways x1.1).To (at' m_.Airways x1.1).From).1] : List (List Int))) ⟨by omega, by omega, by (simp only [lens] at * <;> omega), by (simp only [lens] at * <;> omega)⟩ (by omega) (sub_of [(201, 206)] ⟨rfl, rfl, rfl, rfl, trivial⟩ ⟨rfl, rfl, trivial⟩ rfl)
    · try simp only [tst] at h4
      refine Bb rfl ?_
      exact AY hk2 (x1.1, x1.2) ⟨by omega, by omega, by omega, by omega, by omega⟩ (sub_of [] ⟨rfl, trivial⟩ ⟨rfl, trivial⟩ rfl)

/-! ### spec_l07Add -/
set_option maxRecDepth 100000 in
set_option maxHeartbeats 4000000 in
theorem c_spec_l07Add (flows : List Int) (walk : List Int) (amount : Int) (hp1 : MeshOk flows.length walk) (hp2 : flows.length ≤ 100000) : Con Tryz.prog 103 [.os 0 flows.length, .sl 1 (walk.map (V.int .i64)), .int .i64 amount] [(0, some (.row 2 1 (flows.map (V.int .i64))))] (.tup []) ([(0, some (.row 2 1 ((Dh flows walk amount).map (V.int .i64))))]) := by
  refine con_intro (out := fun r : (List Int) => ((.tup [] : V), ([(0, some (.row 2 1 (r.map (V.int .i64))))] : List (Nat × Option O)))) (r := (Dh flows walk amount)) Tryz.func103 rfl Tryz.ntmps103 rfl ?_
  refine run_factH (l := 0) rfl fun hl => ?_
  have l1 := hl; clear hl; simp only [List.length_map] at l1
  refine Br (t := 1) rfl fun hl => ?_
  have l2 := hl; clear hl; simp only [List.length_map] at l2
  refine Af ?_
  refine Ad (Ah .n (.c rfl) rfl <| Lex.nil) ?_
  refine Aw ?_
  refine Bp (m_spec_l07Add_b1 flows walk amount) _ _ _ rfl (fun (x1 : (List Int) × Int) => 0 ≤ x1.2 ∧ x1.2 ≤ (walk.length : Int) ∧ x1.1.length = flows.length) (fun x1 => 0 ≤ x1.2 ∧ x1.2 ≤ (walk.length : Int) ∧ x1.1.length = flows.length ∧ (walk.length : Int) ≤ x1.2) (fun x1 => ((walk.length : Int) - x1.2 : Int).toNat) (fun x1 => ⟨[(0, some (true, .os 0 x1.1.length)), (1, some (true, .sl 1 (walk.map (V.int .i64)))), (2, some (true, .int .i64 amount)), (6, some (true, .int .i64 x1.2))], [(0, some (.row 2 1 (x1.1.map (V.int .i64))))]⟩) (fun x1 => ⟨[], [(0, some (.row 2 1 (x1.1.map (V.int .i64))))]⟩) ⟨by omega, by omega, by (simp only [lens] at * <;> omega)⟩ (by omega) (sub_of [] ⟨rfl, rfl, rfl, rfl, trivial⟩ ⟨rfl, trivial⟩ rfl) ?_ ?_
  · intro x1 i7
    obtain ⟨e8, e9, e10, e11⟩ := i7
    try dsimp only at *
    exact run_end [] .nil rfl ⟨rfl, trivial⟩ rfl
  · intro rec1 k1 hk3 x1 i4
    obtain ⟨e12, e13, e14⟩ := i4
    try dsimp only at *
    refine Af ?_
    refine Af ?_
    refine Ad (Ag .n (.t rfl) rfl <| Ag .n (.t rfl) rfl <| BS .n (.t rfl) rfl len_map ss_27 rfl <| AF .n (.t rfl) (.t rfl) rfl rfl <| Lex.nil) ?_
    refine Aq (.t rfl) rfl (fun h5 => ?_) (fun h5 => ?_)
    · try simp only [tst] at h5
      refine As ?_
      refine Af ?_
      refine Aw ?_
      refine Af ?_
      refine Ad (Ag .n (.t rfl) rfl <| Ag .n (.t rfl) rfl <| A8 .n (.t rfl) (.t rfl) sl_27 (fun _ => by omega) rfl <| Ap .n (.t rfl) rfl ic_2 rfl <| AF .n (.t rfl) (.c rfl) rfl rfl <| Lex.nil) ?_
      refine Aq (.t rfl) rfl (fun h6 => ?_) (fun h6 => ?_)
      · try simp only [tst] at h6
        refine Ad (Ag .n (.t rfl) rfl <| Ag .n (.t rfl) rfl <| Ag .n (.t rfl) rfl <| A8 .n (.t rfl) (.t rfl) sl_27 (fun _ => by omega) rfl <| Ap .n (.t rfl) rfl ic_2 rfl <| AF .n (.t rfl) (.c rfl) rfl rfl <| AZ .n (.t rfl) (.t rfl) sl_27 (fun _ => by ((have hq := at_all hp1.ok (i := x1.2) (by omega); have he : edge (at' walk x1.2) = _ := rfl; simp only [edge] at hq; have hw1 := wr64 (n := at' walk x1.2 - 1) (by split at hq <;> omega); have hw2 := wr64 (n := 0 - at' walk x1.2) (by split at hq <;> omega); have hw3 := wr64 (n := (IntKind.wrap .i64 (0 - at' walk x1.2)) - 1) (by split at hq <;> omega); split at hq <;> first | omega | (simp only [put_len]; omega) | (rw [hw1]; omega) | (rw [hw3, hw2]; omega)))) rfl <| A2 .n (.t rfl) rfl (fun _ => by ((have hq := at_all hp1.ok (i := x1.2) (by omega); have he : edge (at' walk x1.2) = _ := rfl; simp only [edge] at hq; have hw1 := wr64 (n := at' walk x1.2 - 1) (by split at hq <;> omega); have hw2 := wr64 (n := 0 - at' walk x1.2) (by split at hq <;> omega); have hw3 := wr64 (n := (IntKind.wrap .i64 (0 - at' walk x1.2)) - 1) (by split at hq <;> omega); split at hq <;> first | omega | (simp only [put_len]; omega) | (rw [hw1]; omega) | (rw [hw3, hw2]; omega)))) rfl rfl rfl ic_2 rfl <| Ag .n (.t rfl) rfl <| AF .n (.t rfl) (.t rfl) rfl rfl <| AZ .n (.t rfl) (.t rfl) sl_27 (fun _ => by ((have hq := at_all hp1.ok (i := x1.2) (by omega); have he : edge (at' walk x1.2) = _ := rfl; simp only [edge] at hq; have hw1 := wr64 (n := at' walk x1.2 - 1) (by split at hq <;> omega); have hw2 := wr64 (n := 0 - at' walk x1.2) (by split at hq <;> omega); have hw3 := wr64 (n := (IntKind.wrap .i64 (0 - at' walk x1.2)) - 1) (by split at hq <;> omega); split at hq <;> first | omega | (simp only [put_len]; omega) | (rw [hw1]; omega) | (rw [hw3, hw2]; omega)))) rfl <| B0 (IntKind.wrap .i64 ((at' x1.1 (IntKind.wrap .i64 ((at' walk x1.2) - 1))) + amount)) .n rfl (.t rfl) (.t rfl) rfl ts_2 (by ((have hq := at_all hp1.ok (i := x1.2) (by omega); have he : edge (at' walk x1.2) = _ := rfl; simp only [edge] at hq; have hw1 := wr64 (n := at' walk x1.2 - 1) (by split at hq <;> omega); have hw2 := wr64 (n := 0 - at' walk x1.2) (by split at hq <;> omega); have hw3 := wr64 (n := (IntKind.wrap .i64 (0 - at' walk x1.2)) - 1) (by split at hq <;> omega); split at hq <;> first | omega | (simp only [put_len]; omega) | (rw [hw1]; omega) | (rw [hw3, hw2]; omega)))) rfl rfl <| Lex.nil) ?_
        refine AK ?_
        refine Ad (Ag .n (.t rfl) rfl <| BM .n (.t rfl) (.c rfl) (fun _ => by omega) rfl <| Ah .n (.t rfl) rfl <| Lex.nil) ?_
        exact A5 (put' x1.1 (IntKind.wrap .i64 ((at' walk x1.2) - 1)) (IntKind.wrap .i64 ((at' x1.1 (IntKind.wrap .i64 ((at' walk x1.2) - 1))) + amount)), x1.2 + 1) ⟨by omega, by omega, by (simp only [lens] at * <;> omega)⟩ (by omega) (sub_of [] ⟨os_len rfl (by first | (simp only [put_len]; done) | (first | omega | assumption | (simp only [lens] at * <;> omega) | (((have hq := at_all hp1.ok (i := x1.2) (by omega); have he : edge (at' walk x1.2) = _ := rfl; simp only [edge] at hq; have hw1 := wr64 (n := at' walk x1.2 - 1) (by split at hq <;> omega); have hw2 := wr64 (n := 0 - at' walk x1.2) (by split at hq <;> omega); have hw3 := wr64 (n := (IntKind.wrap .i64 (0 - at' walk x1.2)) - 1) (by split at hq <;> omega); split at hq <;> first | omega | (simp only [put_len]; omega) | (rw [hw1]; omega) | (rw [hw3, hw2]; omega))); done))), rfl, rfl, rfl, trivial⟩ ⟨rfl, trivial⟩ rfl)
      · try simp only [tst] at h6
        refine Ad (Ag .n (.t rfl) rfl <| Ag .n (.t rfl) rfl <| Ag .n (.t rfl) rfl <| A8 .n (.t rfl) (.t rfl) sl_27 (fun _ => by omega) rfl <| Ap .n (.t rfl) rfl ic_2 rfl <| q_neg .n (.t rfl) rfl <| AF .n (.t rfl) (.c rfl) rfl rfl <| AZ .n (.t rfl) (.t rfl) sl_27 (fun _ => by ((have hq := at_all hp1.ok (i := x1.2) (by omega); have he : edge (at' walk x1.2) = _ := rfl; simp only [edge] at hq; have hw1 := wr64 (n := at' walk x1.2 - 1) (by split at hq <;> omega); have hw2 := wr64 (n := 0 - at' walk x1.2) (by split at hq <;> omega); have hw3 := wr64 (n := (IntKind.wrap .i64 (0 - at' walk x1.2)) - 1) (by split at hq <;> omega); split at hq <;> first | omega | (simp only [put_len]; omega) | (rw [hw1]; omega) | (rw [hw3, hw2]; omega)))) rfl <| A2 .n (.t rfl) rfl (fun _ => by ((have hq := at_all hp1.ok (i := x1.2) (by omega); have he : edge (at' walk x1.2) = _ := rfl; simp only [edge] at hq; have hw1 := wr64 (n := at' walk x1.2 - 1) (by split at hq <;> omega); have hw2 := wr64 (n := 0 - at' walk x1.2) (by split at hq <;> omega); have hw3 := wr64 (n := (IntKind.wrap .i64 (0 - at' walk x1.2)) - 1) (by split at hq <;> omega); split at hq <;> first | omega | (simp only [put_len]; omega) | (rw [hw1]; omega) | (rw [hw3, hw2]; omega)))) rfl rfl rfl ic_2 rfl <| Ag .n (.t rfl) rfl <| AF .n (.t rfl) (.t rfl) rfl rfl <| AZ .n (.t rfl) (.t rfl) sl_27 (fun _ => by ((have hq := at_all hp1.ok (i := x1.2) (by omega); have he : edge (at' walk x1.2) = _ := rfl; simp only [edge] at hq; have hw1 := wr64 (n := at' walk x1.2 - 1) (by split at hq <;> omega); have hw2 := wr64 (n := 0 - at' walk x1.2) (by split at hq <;> omega); have hw3 := wr64 (n := (IntKind.wrap .i64 (0 - at' walk x1.2)) - 1) (by split at hq <;> omega); split at hq <;> first | omega | (simp only [put_len]; omega) | (rw [hw1]; omega) | (rw [hw3, hw2]; omega)))) rfl <| B0 (IntKind.wrap .i64 ((at' x1.1 (IntKind.wrap .i64 ((IntKind.wrap .i64 (0 - (at' walk x1.2))) - 1))) - amount)) .n rfl (.t rfl) (.t rfl) rfl ts_2 (by ((have hq := at_all hp1.ok (i := x1.2) (by omega); have he : edge (at' walk x1.2) = _ := rfl; simp only [edge] at hq; have hw1 := wr64 (n := at' walk x1.2 - 1) (by split at hq <;> omega); have hw2 := wr64 (n := 0 - at' walk x1.2) (by split at hq <;> omega); have hw3 := wr64 (n := (IntKind.wrap .i64 (0 - at' walk x1.2)) - 1) (by split at hq <;> omega); split at hq <;> first | omega | (simp only [put_len]; omega) | (rw [hw1]; omega) | (rw [hw3, hw2]; omega)))) rfl rfl <| Lex.nil) ?_
        refine AK ?_
        refine Ad (Ag .n (.t rfl) rfl <| BM .n (.t rfl) (.c rfl) (fun _ => by omega) rfl <| Ah .n (.t rfl) rfl <| Lex.nil) ?_
        exact A5 (put' x1.1 (IntKind.wrap .i64 ((IntKind.wrap .i64 (0 - (at' walk x1.2))) - 1)) (IntKind.wrap .i64 ((at' x1.1 (IntKind.wrap .i64 ((IntKind.wrap .i64 (0 - (at' walk x1.2))) - 1))) - amount)), x1.2 + 1) ⟨by omega, by omega, by (simp only [lens] at * <;> omega)⟩ (by omega) (sub_of [] ⟨os_len rfl (by first | (simp only [put_len]; done) | (first | omega | assumption | (simp only [lens] at * <;> omega) | (((have hq := at_all hp1.ok (i := x1.2) (by omega); have he : edge (at' walk x1.2) = _ := rfl; simp only [edge] at hq; have hw1 := wr64 (n := at' walk x1.2 - 1) (by split at hq <;> omega); have hw2 := wr64 (n := 0 - at' walk x1.2) (by split at hq <;> omega); have hw3 := wr64 (n := (IntKind.wrap .i64 (0 - at' walk x1.2)) - 1) (by split at hq <;> omega); split at hq <;> first | omega | (simp only [put_len]; omega) | (rw [hw1]; omega) | (rw [hw3, hw2]; omega))); done))), rfl, rfl, rfl, trivial⟩ ⟨rfl, trivial⟩ rfl)
    · try simp only [tst] at h5
      refine Bb rfl ?_
      exact AY hk3 (x1.1, x1.2) ⟨by omega, by omega, by omega, by omega⟩ (sub_of [] trivial ⟨rfl, trivial⟩ rfl)

/-! ### spec_l07DrawFlows -/
set_option maxRecDepth 100000 in
set_option maxHeartbeats 4000000 in
theorem c_spec_l07DrawFlows (s_ : Ak) (m_ : AB) (hp1 : Lim s_ 300000) (hp2 : m_.Airways.length ≤ 30) : ConG Tryz.prog 90 [.op 0 0 0 0, .rp [.int .i64 m_.Junctions, .sl 7 (m_.Airways.map Ar.v)]] [(0, some (.box 100 [.sl 1 (s_.code.map (V.int .u8)), .int .i64 s_.at_, .int .u64 s_.seed]))] (.os 100 (AM s_ m_).1.length) ([(100, some (.row 2 1 ((AM s_ m_).1.map (V.int .i64)))), (0, some (.box 100 [.sl 1 ((AM s_ m_).2.code.map (V.int .u8)), .int .i64 (AM s_ m_).2.at_, .int .u64 (AM s_ m_).2.seed]))]) := by
  refine con_introG (out := fun r : (List Int) × Ak => ((.os 100 r.1.length : V), ([(100, some (.row 2 1 (r.1.map (V.int .i64)))), (0, some (.box 100 [.sl 1 (r.2.code.map (V.int .u8)), .int .i64 r.2.at_, .int .u64 r.2.seed]))] : List (Nat × Option O)))) (r := (AM s_ m_)) Tryz.func90 rfl Tryz.ntmps90 rfl ?_
  refine BH (t := 1) 1 rfl rfl fun hl => ?_
  have l1 := hl; clear hl; simp only [List.length_map] at l1
  refine Af ?_
  refine Ad (Ah .n (.c rfl) rfl <| Lex.nil) ?_
  refine Af ?_
  refine Ad (Ag .n (.t rfl) rfl <| Av .n (.t rfl) rfl <| Az .n (.t rfl) fo_26_1 rfl <| Ap .n (.t rfl) rfl ic_24 rfl <| BS .n (.t rfl) rfl len_map ss_24 rfl <| q_makem (f := V.int .i64) (l := 200) (0 : Int) .n rfl (.t rfl) (.t rfl) si_27 zv_2 (by omega) rfl rfl rfl <| Ah .n (.t rfl) rfl <| Lex.nil) ?_
  refine Af ?_
  refine Af ?_
  refine Ad (Ag .n (.t rfl) rfl <| AJ (full := false) .n .f en_50 (.cons (.t rfl) .nil) (.cons (.b (.a (.same rfl))) .nil) (fun hg => Dt m_) rfl (fun h => Bool.noConfusion h) rfl <| Ag .n (.t rfl) rfl <| Ag (.t rfl rfl) (.t rfl) rfl <| q_callGM (full := false) (m0 := 0) (L := 0) (v := .int .i64 (Aa s_ 4).1) (o' := .box 100 [.sl 1 ((bif (AD m_) then (Aa s_ 4).2 else s_).code.map (V.int .u8)), .int .i64 (bif (AD m_) then (Aa s_ 4).2 else s_).at_, .int .u64 (bif (AD m_) then (Aa s_ 4).2 else s_).seed]) (.t rfl rfl) (fun hg => .f) en_22 (fun hg => (.cons (.u rfl (fun _ => id hg)) (.cons (.c rfl) .nil))) (.cons (.b (.mutp rfl)) (.cons (.b (.a (.same rfl))) .nil)) (fun hg => AI s_ 4 (by (try dsimp only); (with_reducible (first | apply Lim.mono | apply Lim.out | apply LimA.mono)); (repeat (with_reducible (first | assumption | apply Lim.bif1 | apply Lim.bifp | apply Lim.among | apply Lim.pick | apply Lim.flows7 | apply Lim.mk))); omega)) ⟨rfl, trivial⟩ rfl (fun h => Bool.noConfusion h) (fun h => Bool.noConfusion h) rfl (fun hg => by simp only [Bool.true_and] at hg; rw [hg]; exact ⟨rfl, rfl⟩) (fun hg => by simp only [Bool.true_and] at hg; rw [hg]; rfl) <| AF (.t rfl rfl) (.u rfl id) (.c rfl) rfl rfl <| B4 .n (.t rfl) (.u rfl id) rfl <| Lex.nil) ?_
  refine Dn _ _ rfl (fun v2 : (List Int) × Int × Int × (List Int) => LimA v2.1 v2.2.1 300070 ∧ v2.2.2.2.length ≤ 30) (fun v2 => ⟨[(0, some (true, .op 0 0 0 0)), (5, some (true, .os 200 v2.2.2.2.length))], [(0, some (.box 100 [.sl 1 (v2.1.map (V.int .u8)), .int .i64 v2.2.1, .int .u64 v2.2.2.1])), (200, some (.row 2 1 (v2.2.2.2.map (V.int .i64))))]⟩) (fun v2 hv39 => ?_) (fun j3 hj4 => ?_)
  · obtain ⟨e40, e41⟩ := hv39
    refine Af ?_
    refine Af ?_
    refine Ad (Ag .n (.t rfl) rfl <| AW (full := false) [(0, 0)] [] .n rfl .f en_22 (.cons (.t rfl) (.cons (.c rfl) .nil)) (.cons (.b (.mutp rfl)) (.cons (.b (.a (.same rfl))) .nil)) (AI (Ak.mk v2.1 v2.2.1 v2.2.2.1) 20 (by (try dsimp only); (with_reducible (first | apply Lim.mono | apply Lim.out | apply LimA.mono)); (repeat (with_reducible (first | assumption | apply Lim.bif1 | apply Lim.bifp | apply Lim.among | apply Lim.pick | apply Lim.flows7 | apply Lim.mk))); omega)) ⟨rfl, trivial⟩ rfl rfl (fun h => Bool.noConfusion h) (fun h => Bool.noConfusion h) rfl <| Lex.nil) ?_
    refine Aw ?_
    refine Af ?_
    refine Ad (AF .n (.t rfl) (.c rfl) rfl rfl <| Ah .n (.t rfl) rfl <| Lex.nil) ?_
    refine Aq (.t rfl) rfl (fun h36 => ?_) (fun h36 => ?_)
    · try simp only [tst] at h36
      refine Ad (Ag .n (.t rfl) rfl <| AV ([0] : List Int) (f := V.int .i64) (l := 202) .n rfl rfl (.cons (.c rfl) .nil) rfl si_27 zv_2 rfl rfl rfl <| CX (xs := v2.2.2.2) (ys := ([0] : List Int)) (f := V.int .i64) (l := 203) .n rfl (.ow (.t rfl) rfl (take_all (by simp only [len_map, put_len] <;> rfl)) (by simp only [len_map, put_len] <;> rfl)) (.ow (.t rfl) rfl (take_all (by simp only [len_map, put_len] <;> rfl)) (by simp only [len_map, put_len] <;> rfl)) si_27 zv_2 rfl (by (simp only [lens] at * <;> omega)) rfl rfl <| Ah .n (.t rfl) rfl <| Lex.nil) ?_
      refine AK ?_
      refine Af ?_
      refine Ad (Ag .n (.t rfl) rfl <| Ah .n (.t rfl) rfl <| Lex.nil) ?_
      exact Au [(100, 203)] (.cons (.t rfl rfl) .nil) (by first | rfl | (simp only [put_len]; rfl)) ⟨rfl, rfl, trivial⟩ rfl
    · try simp only [tst] at h36
      refine Af ?_
      refine Ad (AF .n (.t rfl) (.c rfl) rfl rfl <| Ah .n (.t rfl) rfl <| Lex.nil) ?_
      refine Aq (.t rfl) rfl (fun h37 => ?_) (fun h37 => ?_)
      · try simp only [tst] at h37
        refine Af ?_
        refine Ad (Ag .n (.t rfl) rfl <| BS .n (.t rfl) rfl rfl ss_27 rfl <| AF .n (.t rfl) (.c rfl) rfl rfl <| Lex.nil) ?_
        refine Aq (.t rfl) rfl (fun h38 => ?_) (fun h38 => ?_)
        · try simp only [tst] at h38
          refine Ad (Ag .n (.t rfl) rfl <| Ag .n (.t rfl) rfl <| AV ([100000, 100001, (-100001)] : List Int) (f := V.int .i64) (l := 204) .n rfl rfl (.cons (.c rfl) (.cons (.c rfl) (.cons (.c rfl) .nil))) rfl si_27 zv_2 rfl rfl rfl <| AW (full := false) [(0, 0), (1, 204)] [] .n rfl .f en_24 (.cons (.t rfl) (.cons (.t rfl) .nil)) (.cons (.b (.mutp rfl)) (.cons (.b (.muts rfl)) .nil)) (A0 (Aa (Ak.mk v2.1 v2.2.1 v2.2.2.1) 20).2 ([100000, 100001, (-100001)] : List Int) (by (try dsimp only); (with_reducible (first | apply Lim.mono | apply Lim.out | apply LimA.mono)); (repeat (with_reducible (first | assumption | apply Lim.bif1 | apply Lim.bifp | apply Lim.among | apply Lim.pick | apply Lim.flows7 | apply Lim.mk))); omega) (by (simp only [lens] at * <;> omega))) ⟨rfl, rfl, trivial⟩ rfl rfl (fun h => Bool.noConfusion h) (fun h => Bool.noConfusion h) rfl <| AZ .n (.t rfl) (.c rfl) sl_27 (fun _ => by omega) rfl <| B0 (Aj (Aa (Ak.mk v2.1 v2.2.1 v2.2.2.1) 20).2 ([100000, 100001, (-100001)] : List Int)).1 .n rfl (.t rfl) (.t rfl) rfl ts_2 (by omega) rfl rfl <| Lex.nil) ?_
          refine AK ?_
          refine Af ?_
          refine Ad (Ag .n (.t rfl) rfl <| Ah .n (.t rfl) rfl <| Lex.nil) ?_
          exact Au [(100, 200)] (.cons (.t rfl rfl) .nil) (by first | rfl | (simp only [put_len]; rfl)) ⟨rfl, rfl, trivial⟩ rfl
        · try simp only [tst] at h38
          refine As ?_
          refine AK ?_
          refine Af ?_
          refine Ad (Ag .n (.t rfl) rfl <| Ah .n (.t rfl) rfl <| Lex.nil) ?_
          exact Au [(100, 200)] (.cons (.t rfl rfl) .nil) (by first | rfl | (simp only [put_len]; rfl)) ⟨rfl, rfl, trivial⟩ rfl
      · try simp only [tst] at h37
        refine As ?_
        refine AK ?_
        refine Af ?_
        refine Ad (Ag .n (.t rfl) rfl <| Ah .n (.t rfl) rfl <| Lex.nil) ?_
        exact Au [(100, 200)] (.cons (.t rfl rfl) .nil) (by first | rfl | (simp only [put_len]; rfl)) ⟨rfl, rfl, trivial⟩ rfl
  · refine Aq (.t rfl) rfl (fun h5 => ?_) (fun h5 => ?_)
    · try simp only [tst] at h5
      try have hf0h5 := l04Ok_imp h5
      try have hf1h5 := l04Ok_imp h5.1
      try have hf2h5 := l04Ok_imp h5.2
      try have hf3h5 := l04Ok_imp h5.1.1
      try have hf4h5 := l04Ok_imp h5.1.2
      try have hf5h5 := l04Ok_imp h5.2.1
      try have hf6h5 := l04Ok_imp h5.2.2
      refine Af ?_
      refine run_ro <| ro_lex (l1 := [_]) (l2 := [_, _]) rfl (Ag .n (.t rfl) rfl <| Lex.nil) <| ro_callGM [] [(100, 201)] .f en_102 (.cons (.t rfl) .nil) (.cons (.b (.a (.same rfl))) .nil) (c_spec_l04Meshes m_ (by omega)) trivial rfl rfl rfl rfl rfl <| ro_lex (l1 := [_]) (l2 := []) rfl (Ah .n (.t rfl) rfl <| Lex.nil) <| ro_end ?_
      refine Af ?_
      refine Ad (Ah .n (.c rfl) rfl <| Lex.nil) ?_
      refine Aw ?_
      refine Dw (C2 s_ m_ j3) _ _ _ rfl (fun (x1 : (List Int) × Int × Int × (List Int) × Int) => 0 ≤ x1.2.2.2.2 ∧ x1.2.2.2.2 ≤ ((Be m_).length : Int) ∧ x1.2.2.2.1.length = m_.Airways.length ∧ x1.2.2.2.2 ≤ 30 ∧ LimA x1.1 x1.2.1 (300002 + 2 * x1.2.2.2.2)) (fun x1 => 0 ≤ x1.2.2.2.2 ∧ x1.2.2.2.2 ≤ ((Be m_).length : Int) ∧ x1.2.2.2.1.length = m_.Airways.length ∧ x1.2.2.2.2 ≤ 30 ∧ LimA x1.1 x1.2.1 (300002 + 2 * x1.2.2.2.2) ∧ ((Be m_).length : Int) ≤ x1.2.2.2.2) (fun x1 => (((Be m_).length : Int) - x1.2.2.2.2 : Int).toNat) (fun x1 => ⟨[(0, some (true, .op 0 0 0 0)), (5, some (true, .os 200 x1.2.2.2.1.length)), (6, some (true, .os 201 (Be m_).length)), (7, some (true, .int .i64 x1.2.2.2.2))], [(0, some (.box 100 [.sl 1 (x1.1.map (V.int .u8)), .int .i64 x1.2.1, .int .u64 x1.2.2.1])), (200, some (.row 2 1 (x1.2.2.2.1.map (V.int .i64)))), (201, some (.row 27 1 ((Be m_).map (slv 1 (V.int .i64)))))]⟩) (fun x1 => ⟨[(0, some (true, .op 0 0 0 0)), (5, some (true, .os 200 x1.2.2.2.1.length))], [(0, some (.box 100 [.sl 1 (x1.1.map (V.int .u8)), .int .i64 x1.2.1, .int .u64 x1.2.2.1])), (200, some (.row 2 1 (x1.2.2.2.1.map (V.int .i64))))]⟩) ⟨by (simp only [lens] at * <;> omega), by (simp only [lens] at * <;> omega), by (simp only [lens] at * <;> omega), by (simp only [lens] at * <;> omega), by (try dsimp only); (with_reducible (first | apply Lim.mono | apply Lim.out | apply LimA.mono)); (repeat (with_reducible (first | assumption | apply Lim.bif1 | apply Lim.bifp | apply Lim.among | apply Lim.pick | apply Lim.flows7 | apply Lim.mk))); omega⟩ (by (simp only [lens] at * <;> omega)) (sub_of [] ⟨rfl, rfl, rfl, rfl, trivial⟩ ⟨rfl, rfl, rfl, trivial⟩ rfl) rfl ?_ ?_
      · intro x1 i9
        obtain ⟨e10, e11, e12, e13, e14, e15⟩ := i9
        try dsimp only at *
        exact AY hj4 (x1.1, x1.2.1, x1.2.2.1, x1.2.2.2.1) ⟨by (try dsimp only); (with_reducible (first | apply Lim.mono | apply Lim.out | apply LimA.mono)); (repeat (with_reducible (first | assumption | apply Lim.bif1 | apply Lim.bifp | apply Lim.among | apply Lim.pick | apply Lim.flows7 | apply Lim.mk))); omega, by (simp only [lens] at * <;> omega)⟩ (sub_of [] ⟨rfl, rfl, trivial⟩ ⟨rfl, rfl, trivial⟩ rfl)
      · intro rec1 k1 hk6 x1 i7
        obtain ⟨e16, e17, e18, e19, e20⟩ := i7
        try dsimp only at *
        refine Af ?_
        refine Af ?_
        refine Ad (Ag .n (.t rfl) rfl <| Ag .n (.t rfl) rfl <| BS .n (.t rfl) rfl rfl ss_71 rfl <| AF .n (.t rfl) (.t rfl) rfl rfl <| Lex.nil) ?_
        refine Aq (.t rfl) rfl (fun h8 => ?_) (fun h8 => ?_)
        · try simp only [tst] at h8
          refine As ?_
          refine Af ?_
          refine Aw ?_
          refine Bk fmo (Ag .n (.t rfl) rfl <| Ag .n (.t rfl) rfl <| Ag .n (.t rfl) rfl <| AZ .n (.t rfl) (.t rfl) sl_71 (fun _ => by omega) rfl <| A2 .n (.t rfl) rfl (fun _ => by omega) rfl rfl rfl ic_27 rfl <| Ag .n (.t rfl) rfl <| AW (full := false) [(0, 0)] [] .n rfl .f en_22 (.cons (.t rfl) (.cons (.c rfl) .nil)) (.cons (.b (.mutp rfl)) (.cons (.b (.a (.same rfl))) .nil)) (AI (Ak.mk x1.1 x1.2.1 x1.2.2.1) 4000 (by (try dsimp only); (with_reducible (first | apply Lim.mono | apply Lim.out | apply LimA.mono)); (repeat (with_reducible (first | assumption | apply Lim.bif1 | apply Lim.bifp | apply Lim.among | apply Lim.pick | apply Lim.flows7 | apply Lim.mk))); omega)) ⟨rfl, trivial⟩ rfl rfl (fun h => Bool.noConfusion h) (fun h => Bool.noConfusion h) rfl <| AF .n (.t rfl) (.c rfl) rfl rfl <| AW (full := false) [(0, 200)] [] .n rfl .f en_103 (.cons (.t rfl) (.cons (.t rfl) (.cons (.t rfl) .nil))) (.cons (.b (.muts rfl)) (.cons (.b (.a (.same rfl))) (.cons (.b (.a (.same rfl))) .nil))) (c_spec_l07Add x1.2.2.2.1 (at' (Be m_) x1.2.2.2.2) (IntKind.wrap .i64 ((Aa (Ak.mk x1.1 x1.2.1 x1.2.2.1) 4000).1 - 1500)) (by ((have hq := mesh_at (by assumption : MineIn m_) (i := x1.2.2.2.2) (by omega); have he : x1.2.2.2.1.length = m_.Airways.length := (by assumption); rw [he]; exact hq))) (by omega)) ⟨rfl, trivial⟩ rfl rfl (fun h => Bool.noConfusion h) (fun h => Bool.noConfusion h) rfl <| Lex.nil) (by kernel_rfl) ?_
          refine AK ?_
          refine Ad (Ag .n (.t rfl) rfl <| BM .n (.t rfl) (.c rfl) (fun _ => by omega) rfl <| Ah .n (.t rfl) rfl <| Lex.nil) ?_
          exact CC ((Aa (Ak.mk x1.1 x1.2.1 x1.2.2.1) 4000).2.code, (Aa (Ak.mk x1.1 x1.2.1 x1.2.2.1) 4000).2.at_, (Aa (Ak.mk x1.1 x1.2.1 x1.2.2.1) 4000).2.seed, Dh x1.2.2.2.1 (at' (Be m_) x1.2.2.2.2) (IntKind.wrap .i64 ((Aa (Ak.mk x1.1 x1.2.1 x1.2.2.1) 4000).1 - 1500)), x1.2.2.2.2 + 1) ⟨by (simp only [lens] at * <;> omega), by assumption, by ((rw [add_len]; first | omega | assumption)), by ((have hq := (meshes_is (by assumption : MineIn m_)).1; (try dsimp only); omega)), by (try dsimp only); (with_reducible (first | apply Lim.mono | apply Lim.out | apply LimA.mono)); (repeat (with_reducible (first | assumption | apply Lim.bif1 | apply Lim.bifp | apply Lim.among | apply Lim.pick | apply Lim.flows7 | apply Lim.mk))); omega⟩ (by (simp only [lens] at * <;> omega)) (sub_of [] ⟨rfl, os_len rfl (by first | (simp only [put_len]; done) | (((rw [add_len]; done)))), rfl, rfl, trivial⟩ ⟨rfl, rfl, rfl, trivial⟩ rfl)
        · try simp only [tst] at h8
          refine Bb rfl ?_
          exact AY hk6 (x1.1, x1.2.1, x1.2.2.1, x1.2.2.2.1, x1.2.2.2.2) ⟨by omega, by omega, by omega, by omega, by (try dsimp only); (with_reducible (first | apply Lim.mono | apply Lim.out | apply LimA.mono)); (repeat (with_reducible (first | assumption | apply Lim.bif1 | apply Lim.bifp | apply Lim.among | apply Lim.pick | apply Lim.flows7 | apply Lim.mk))); omega, by omega⟩ (sub_of [] ⟨rfl, rfl, trivial⟩ ⟨rfl, rfl, trivial⟩ rfl)
    · try simp only [tst] at h5
      try have hf0h5 := l04Ok_imp h5
      try have hf1h5 := l04Ok_imp h5.1
      try have hf2h5 := l04Ok_imp h5.2
      try have hf3h5 := l04Ok_imp h5.1.1
      try have hf4h5 := l04Ok_imp h5.1.2
      try have hf5h5 := l04Ok_imp h5.2.1
      try have hf6h5 := l04Ok_imp h5.2.2
      refine Af ?_
      refine Ad (Ah .n (.c rfl) rfl <| Lex.nil) ?_
      refine Aw ?_
      refine Dw (C3 s_ m_ j3) _ _ _ rfl (fun (x2 : (List Int) × Int × Int × (List Int) × Int) => 0 ≤ x2.2.2.2.2 ∧ x2.2.2.2.1.length = (List.replicate ((m_.Airways.length : Int) : Int).toNat (0 : Int)).length ∧ x2.2.2.2.1.length = m_.Airways.length ∧ x2.2.2.2.2 ≤ 30 ∧ LimA x2.1 x2.2.1 (300002 + 2 * x2.2.2.2.2)) (fun x2 => 0 ≤ x2.2.2.2.2 ∧ x2.2.2.2.1.length = (List.replicate ((m_.Airways.length : Int) : Int).toNat (0 : Int)).length ∧ x2.2.2.2.1.length = m_.Airways.length ∧ x2.2.2.2.2 ≤ 30 ∧ LimA x2.1 x2.2.1 (300002 + 2 * x2.2.2.2.2) ∧ (x2.2.2.2.1.length : Int) ≤ x2.2.2.2.2) (fun x2 => ((x2.2.2.2.1.length : Int) - x2.2.2.2.2 : Int).toNat) (fun x2 => ⟨[(0, some (true, .op 0 0 0 0)), (5, some (true, .os 200 x2.2.2.2.1.length)), (8, some (true, .int .i64 x2.2.2.2.2))], [(0, some (.box 100 [.sl 1 (x2.1.map (V.int .u8)), .int .i64 x2.2.1, .int .u64 x2.2.2.1])), (200, some (.row 2 1 (x2.2.2.2.1.map (V.int .i64))))]⟩) (fun x2 => ⟨[(0, some (true, .op 0 0 0 0)), (5, some (true, .os 200 x2.2.2.2.1.length))], [(0, some (.box 100 [.sl 1 (x2.1.map (V.int .u8)), .int .i64 x2.2.1, .int .u64 x2.2.2.1])), (200, some (.row 2 1 (x2.2.2.2.1.map (V.int .i64))))]⟩) ⟨by (simp only [lens] at * <;> omega), by (simp only [lens] at * <;> omega), by (simp only [lens] at * <;> omega), by (simp only [lens] at * <;> omega), by (try dsimp only); (with_reducible (first | apply Lim.mono | apply Lim.out | apply LimA.mono)); (repeat (with_reducible (first | assumption | apply Lim.bif1 | apply Lim.bifp | apply Lim.among | apply Lim.pick | apply Lim.flows7 | apply Lim.mk))); omega⟩ (by (simp only [lens] at * <;> omega)) (sub_of [] ⟨rfl, rfl, rfl, trivial⟩ ⟨rfl, rfl, trivial⟩ rfl) rfl ?_ ?_
      · intro x2 i24
        obtain ⟨e25, e26, e27, e28, e29, e30⟩ := i24
        try dsimp only at *
        exact AY hj4 (x2.1, x2.2.1, x2.2.2.1, x2.2.2.2.1) ⟨by (try dsimp only); (with_reducible (first | apply Lim.mono | apply Lim.out | apply LimA.mono)); (repeat (with_reducible (first | assumption | apply Lim.bif1 | apply Lim.bifp | apply Lim.among | apply Lim.pick | apply Lim.flows7 | apply Lim.mk))); omega, by (simp only [lens] at * <;> omega)⟩ (sub_of [] ⟨rfl, rfl, trivial⟩ ⟨rfl, rfl, trivial⟩ rfl)
      · intro rec2 k2 hk21 x2 i22
        obtain ⟨e31, e32, e33, e34, e35⟩ := i22
        try dsimp only at *
        refine Af ?_
        refine Af ?_
        refine Ad (Ag .n (.t rfl) rfl <| Ag .n (.t rfl) rfl <| BS .n (.t rfl) rfl rfl ss_27 rfl <| AF .n (.t rfl) (.t rfl) rfl rfl <| Lex.nil) ?_
        refine Aq (.t rfl) rfl (fun h23 => ?_) (fun h23 => ?_)
        · try simp only [tst] at h23
          refine As ?_
          refine Af ?_
          refine Aw ?_
          refine Ad (Ag .n (.t rfl) rfl <| Ag .n (.t rfl) rfl <| Ag .n (.t rfl) rfl <| AW (full := false) [(0, 0)] [] .n rfl .f en_22 (.cons (.t rfl) (.cons (.c rfl) .nil)) (.cons (.b (.mutp rfl)) (.cons (.b (.a (.same rfl))) .nil)) (AI (Ak.mk x2.1 x2.2.1 x2.2.2.1) 4000 (by (try dsimp only); (with_reducible (first | apply Lim.mono | apply Lim.out | apply LimA.mono)); (repeat (with_reducible (first | assumption | apply Lim.bif1 | apply Lim.bifp | apply Lim.among | apply Lim.pick | apply Lim.flows7 | apply Lim.mk))); omega)) ⟨rfl, trivial⟩ rfl rfl (fun h => Bool.noConfusion h) (fun h => Bool.noConfusion h) rfl <| AF .n (.t rfl) (.c rfl) rfl rfl <| AZ .n (.t rfl) (.t rfl) sl_27 (fun _ => by omega) rfl <| B0 (IntKind.wrap .i64 ((Aa (Ak.mk x2.1 x2.2.1 x2.2.2.1) 4000).1 - 2000)) .n rfl (.t rfl) (.t rfl) rfl ts_2 (by omega) rfl rfl <| Lex.nil) ?_
          refine AK ?_
          refine Ad (Ag .n (.t rfl) rfl <| BM .n (.t rfl) (.c rfl) (fun _ => by omega) rfl <| Ah .n (.t rfl) rfl <| Lex.nil) ?_
          exact CC ((Aa (Ak.mk x2.1 x2.2.1 x2.2.2.1) 4000).2.code, (Aa (Ak.mk x2.1 x2.2.1 x2.2.2.1) 4000).2.at_, (Aa (Ak.mk x2.1 x2.2.1 x2.2.2.1) 4000).2.seed, put' x2.2.2.2.1 x2.2.2.2.2 (IntKind.wrap .i64 ((Aa (Ak.mk x2.1 x2.2.1 x2.2.2.1) 4000).1 - 2000)), x2.2.2.2.2 + 1) ⟨by (simp only [lens] at * <;> omega), by (simp only [lens] at * <;> omega), by (simp only [lens] at * <;> omega), by (simp only [lens] at * <;> omega), by (try dsimp only); (with_reducible (first | apply Lim.mono | apply Lim.out | apply LimA.mono)); (repeat (with_reducible (first | assumption | apply Lim.bif1 | apply Lim.bifp | apply Lim.among | apply Lim.pick | apply Lim.flows7 | apply Lim.mk))); omega⟩ (by (simp only [lens] at * <;> omega)) (sub_of [] ⟨rfl, os_len rfl (by first | (simp only [put_len]; done) | (first | omega | assumption | (simp only [lens] at * <;> omega) | (((have hq := mesh_at (by assumption : MineIn m_) (i := x1.2.2.2.2) (by omega); have he : x1.2.2.2.1.length = m_.Airways.length := (by assumption); rw [he]; exact hq)); done) | (((rw [add_len]; done)); done) | (((dsimp only; rw [add_len]; done)); done) | (((rw [add_len]; first | omega | assumption)); done) | (((dsimp only; rw [add_len]; assumption)); done) | (((have hq := (meshes_is (by assumption : MineIn m_)).1; (try dsimp only); omega)); done))), rfl, trivial⟩ ⟨rfl, rfl, trivial⟩ rfl)
        · try simp only [tst] at h23
          refine Bb rfl ?_
          exact AY hk21 (x2.1, x2.2.1, x2.2.2.1, x2.2.2.2.1, x2.2.2.2.2) ⟨by omega, by omega, by omega, by omega, by (try dsimp only); (with_reducible (first | apply Lim.mono | apply Lim.out | apply LimA.mono)); (repeat (with_reducible (first | assumption | apply Lim.bif1 | apply Lim.bifp | apply Lim.among | apply Lim.pick | apply Lim.flows7 | apply Lim.mk))); omega, by omega⟩ (sub_of [] ⟨rfl, rfl, trivial⟩ ⟨rfl, rfl, trivial⟩ rfl)

/-! ### spec_l17DrawFire -/
set_option maxRecDepth 100000 in
set_option maxHeartbeats 4000000 in
theorem c_spec_l17DrawFire (s_ : Ak) (m_ : AB) (hp1 : Lim s_ 300000) : Con Tryz.prog 91 [.op 0 0 0 0, .rp [.int .i64 m_.Junctions, .sl 7 (m_.Airways.map Ar.v)]] [(0, some (.box 100 [.sl 1 (s_.code.map (V.int .u8)), .int .i64 s_.at_, .int .u64 s_.seed]))] (.st [.int .i64 (A1 s_ m_).1.Airway, .int .i64 (A1 s_ m_).1.At, .int .i64 (A1 s_ m_).1.Start]) ([(0, some (.box 100 [.sl 1 ((A1 s_ m_).2.code.map (V.int .u8)), .int .i64 (A1 s_ m_).2.at_, .int .u64 (A1 s_ m_).2.seed]))]) := by
  refine con_intro (out := fun r : Da × Ak => ((.st [.int .i64 r.1.Airway, .int .i64 r.1.At, .int .i64 r.1.Start] : V), ([(0, some (.box 100 [.sl 1 (r.2.code.map (V.int .u8)), .int .i64 r.2.at_, .int .u64 r.2.seed]))] : List (Nat × Option O)))) (r := (A1 s_ m_)) Tryz.func91 rfl Tryz.ntmps91 rfl ?_
  have hN := (hp1.pick (k := 10)).num (k := (m_.Airways.length : Int))
  refine BH (t := 1) 1 rfl rfl fun hl => ?_
  have l1 := hl; clear hl; simp only [List.length_map] at l1
  refine Af ?_
  refine Ad (BE (l := 200) .n rfl zv_135 rfl rfl <| Lex.nil) ?_
  refine Af ?_
  refine Ad (Ag .n (.t rfl) rfl <| AW (full := false) [(0, 0)] [] .n rfl .f en_22 (.cons (.t rfl) (.cons (.c rfl) .nil)) (.cons (.b (.mutp rfl)) (.cons (.b (.a (.same rfl))) .nil)) (AI s_ 10 (by (try dsimp only); (with_reducible (first | apply Lim.mono | apply Lim.out | apply LimA.mono)); (repeat (with_reducible (first | assumption | apply Lim.among | apply Lim.pick | apply Lim.fire17 | apply Lim.mk))); omega)) ⟨rfl, trivial⟩ rfl rfl (fun h => Bool.noConfusion h) (fun h => Bool.noConfusion h) rfl <| AF .n (.c rfl) (.t rfl) rfl rfl <| Dv (us := [.int .i64 0, .int .i64 0, .int .i64 (IntKind.wrap .i64 (60 * (Aa s_ 10).1))]) .n (.cons (.t rfl) .nil) zv_135 pl_135 rfl rfl rfl <| BE (l := 201) .n rfl zv_135 rfl rfl <| AG [.int .i64 0, .int .i64 0, .int .i64 (IntKind.wrap .i64 (60 * (Aa s_ 10).1))] .n rfl (.t rfl) (.t rfl) rfl ts_135 rfl rfl <| Lex.nil) ?_
  refine Af ?_
  refine Ad (Ag .n (.t rfl) rfl <| Av .n (.t rfl) rfl <| Az .n (.t rfl) fo_26_1 rfl <| Ap .n (.t rfl) rfl ic_24 rfl <| BS .n (.t rfl) rfl len_map ss_24 rfl <| Ah .n (.t rfl) rfl <| Lex.nil) ?_
  refine Af ?_
  refine Af ?_
  refine Ad (Ag .n (.t rfl) rfl <| AF .n (.t rfl) (.c rfl) rfl rfl <| Lex.nil) ?_
  refine Dn _ _ rfl (fun v2 : (List Int) × Int × Int × Int × Int => LimA v2.1 v2.2.1 300006) (fun v2 => ⟨[(0, some (true, .op 0 0 0 0)), (4, some (true, .op 200 0 0 0)), (5, some (true, .op 201 0 0 0)), (6, some (true, .int .i64 (m_.Airways.length : Int)))], [(0, some (.box 100 [.sl 1 (v2.1.map (V.int .u8)), .int .i64 v2.2.1, .int .u64 v2.2.2.1])), (200, some (.box 135 [.int .i64 0, .int .i64 0, .int .i64 0])), (201, some (.box 135 [.int .i64 v2.2.2.2.1, .int .i64 v2.2.2.2.2, .int .i64 (IntKind.wrap .i64 (60 * (Aa s_ 10).1))]))]⟩) (fun v2 hv9 => ?_) (fun j3 hj4 => ?_)
  · have e10 := hv9
    refine Af ?_
    refine Af ?_
    refine Ad (Ag .n (.t rfl) rfl <| AW (full := false) [(0, 0)] [] .n rfl .f en_22 (.cons (.t rfl) (.cons (.c rfl) .nil)) (.cons (.b (.mutp rfl)) (.cons (.b (.a (.same rfl))) .nil)) (AI (Ak.mk v2.1 v2.2.1 v2.2.2.1) 20 (by (try dsimp only); (with_reducible (first | apply Lim.mono | apply Lim.out | apply LimA.mono)); (repeat (with_reducible (first | assumption | apply Lim.among | apply Lim.pick | apply Lim.fire17 | apply Lim.mk))); omega)) ⟨rfl, trivial⟩ rfl rfl (fun h => Bool.noConfusion h) (fun h => Bool.noConfusion h) rfl <| Lex.nil) ?_
    refine Aw ?_
    refine Af ?_
    refine Ad (AF .n (.t rfl) (.c rfl) rfl rfl <| Ah .n (.t rfl) rfl <| Lex.nil) ?_
    refine Aq (.t rfl) rfl (fun h6 => ?_) (fun h6 => ?_)
    · try simp only [tst] at h6
      refine Ad (Ag .n (.t rfl) rfl <| Ag .n (.t rfl) rfl <| AV ([(-1), (m_.Airways.length : Int), 24] : List Int) (f := V.int .i64) (l := 202) .n rfl rfl (.cons (.c rfl) (.cons (.t rfl) (.cons (.c rfl) .nil))) rfl si_27 zv_2 rfl rfl rfl <| AW (full := false) [(0, 0), (1, 202)] [] .n rfl .f en_24 (.cons (.t rfl) (.cons (.t rfl) .nil)) (.cons (.b (.mutp rfl)) (.cons (.b (.muts rfl)) .nil)) (A0 (Aa (Ak.mk v2.1 v2.2.1 v2.2.2.1) 20).2 ([(-1), (m_.Airways.length : Int), 24] : List Int) (by (try dsimp only); (with_reducible (first | apply Lim.mono | apply Lim.out | apply LimA.mono)); (repeat (with_reducible (first | assumption | apply Lim.among | apply Lim.pick | apply Lim.fire17 | apply Lim.mk))); omega) (by (simp only [lens] at * <;> omega))) ⟨rfl, rfl, trivial⟩ rfl rfl (fun h => Bool.noConfusion h) (fun h => Bool.noConfusion h) rfl <| AE .n (.t rfl) fo_135_0 rfl <| AG [.int .i64 (Aj (Aa (Ak.mk v2.1 v2.2.1 v2.2.2.1) 20).2 ([(-1), (m_.Airways.length : Int), 24] : List Int)).1, .int .i64 v2.2.2.2.2, .int .i64 (IntKind.wrap .i64 (60 * (Aa s_ 10).1))] .n rfl (.t rfl) (.t rfl) rfl ts_2 rfl rfl <| Lex.nil) ?_
      refine AK ?_
      refine Af ?_
      refine Ad (Ba .n (.t rfl) rfl (.inr rfl) ag_135 (fun _ => rfl) rfl rfl <| AG [.int .i64 (Aj (Aa (Ak.mk v2.1 v2.2.1 v2.2.2.1) 20).2 ([(-1), (m_.Airways.length : Int), 24] : List Int)).1, .int .i64 v2.2.2.2.2, .int .i64 (IntKind.wrap .i64 (60 * (Aa s_ 10).1))] .n rfl (.t rfl) (.t rfl) rfl ts_135 rfl rfl <| Lex.nil) ?_
      exact Au [] (.cons (.cN rfl rfl ag_135 rfl rfl) .nil) (by first | rfl | (simp only [put_len]; rfl)) ⟨rfl, trivial⟩ rfl
    · try simp only [tst] at h6
      refine Af ?_
      refine Ad (AF .n (.t rfl) (.c rfl) rfl rfl <| Ah .n (.t rfl) rfl <| Lex.nil) ?_
      refine Aq (.t rfl) rfl (fun h7 => ?_) (fun h7 => ?_)
      · try simp only [tst] at h7
        refine Ad (Ag .n (.t rfl) rfl <| AV ([(-1), 10000, 10001] : List Int) (f := V.int .i64) (l := 203) .n rfl rfl (.cons (.c rfl) (.cons (.c rfl) (.cons (.c rfl) .nil))) rfl si_27 zv_2 rfl rfl rfl <| AW (full := false) [(0, 0), (1, 203)] [] .n rfl .f en_24 (.cons (.t rfl) (.cons (.t rfl) .nil)) (.cons (.b (.mutp rfl)) (.cons (.b (.muts rfl)) .nil)) (A0 (Aa (Ak.mk v2.1 v2.2.1 v2.2.2.1) 20).2 ([(-1), 10000, 10001] : List Int) (by (try dsimp only); (with_reducible (first | apply Lim.mono | apply Lim.out | apply LimA.mono)); (repeat (with_reducible (first | assumption | apply Lim.among | apply Lim.pick | apply Lim.fire17 | apply Lim.mk))); omega) (by (simp only [lens] at * <;> omega))) ⟨rfl, rfl, trivial⟩ rfl rfl (fun h => Bool.noConfusion h) (fun h => Bool.noConfusion h) rfl <| AE .n (.t rfl) fo_135_1 rfl <| AG [.int .i64 v2.2.2.2.1, .int .i64 (Aj (Aa (Ak.mk v2.1 v2.2.1 v2.2.2.1) 20).2 ([(-1), 10000, 10001] : List Int)).1, .int .i64 (IntKind.wrap .i64 (60 * (Aa s_ 10).1))] .n rfl (.t rfl) (.t rfl) rfl ts_2 rfl rfl <| Lex.nil) ?_
        refine AK ?_
        refine Af ?_
        refine Ad (Ba .n (.t rfl) rfl (.inr rfl) ag_135 (fun _ => rfl) rfl rfl <| AG [.int .i64 v2.2.2.2.1, .int .i64 (Aj (Aa (Ak.mk v2.1 v2.2.1 v2.2.2.1) 20).2 ([(-1), 10000, 10001] : List Int)).1, .int .i64 (IntKind.wrap .i64 (60 * (Aa s_ 10).1))] .n rfl (.t rfl) (.t rfl) rfl ts_135 rfl rfl <| Lex.nil) ?_
        exact Au [] (.cons (.cN rfl rfl ag_135 rfl rfl) .nil) (by first | rfl | (simp only [put_len]; rfl)) ⟨rfl, trivial⟩ rfl
      · try simp only [tst] at h7
        refine Af ?_
        refine Ad (AF .n (.t rfl) (.c rfl) rfl rfl <| Ah .n (.t rfl) rfl <| Lex.nil) ?_
        refine Aq (.t rfl) rfl (fun h8 => ?_) (fun h8 => ?_)
        · try simp only [tst] at h8
          refine Ad (Ag .n (.t rfl) rfl <| AV ([(-1), 36000, 36001] : List Int) (f := V.int .i64) (l := 204) .n rfl rfl (.cons (.c rfl) (.cons (.c rfl) (.cons (.c rfl) .nil))) rfl si_27 zv_2 rfl rfl rfl <| AW (full := false) [(0, 0), (1, 204)] [] .n rfl .f en_24 (.cons (.t rfl) (.cons (.t rfl) .nil)) (.cons (.b (.mutp rfl)) (.cons (.b (.muts rfl)) .nil)) (A0 (Aa (Ak.mk v2.1 v2.2.1 v2.2.2.1) 20).2 ([(-1), 36000, 36001] : List Int) (by (try dsimp only); (with_reducible (first | apply Lim.mono | apply Lim.out | apply LimA.mono)); (repeat (with_reducible (first | assumption | apply Lim.among | apply Lim.pick | apply Lim.fire17 | apply Lim.mk))); omega) (by (simp only [lens] at * <;> omega))) ⟨rfl, rfl, trivial⟩ rfl rfl (fun h => Bool.noConfusion h) (fun h => Bool.noConfusion h) rfl <| AE .n (.t rfl) fo_135_2 rfl <| AG [.int .i64 v2.2.2.2.1, .int .i64 v2.2.2.2.2, .int .i64 (Aj (Aa (Ak.mk v2.1 v2.2.1 v2.2.2.1) 20).2 ([(-1), 36000, 36001] : List Int)).1] .n rfl (.t rfl) (.t rfl) rfl ts_2 rfl rfl <| Lex.nil) ?_
          refine AK ?_
          refine Af ?_
          refine Ad (Ba .n (.t rfl) rfl (.inr rfl) ag_135 (fun _ => rfl) rfl rfl <| AG [.int .i64 v2.2.2.2.1, .int .i64 v2.2.2.2.2, .int .i64 (Aj (Aa (Ak.mk v2.1 v2.2.1 v2.2.2.1) 20).2 ([(-1), 36000, 36001] : List Int)).1] .n rfl (.t rfl) (.t rfl) rfl ts_135 rfl rfl <| Lex.nil) ?_
          exact Au [] (.cons (.cN rfl rfl ag_135 rfl rfl) .nil) (by first | rfl | (simp only [put_len]; rfl)) ⟨rfl, trivial⟩ rfl
        · try simp only [tst] at h8
          refine As ?_
          refine AK ?_
          refine Af ?_
          refine Ad (Ba .n (.t rfl) rfl (.inr rfl) ag_135 (fun _ => rfl) rfl rfl <| AG [.int .i64 v2.2.2.2.1, .int .i64 v2.2.2.2.2, .int .i64 (IntKind.wrap .i64 (60 * (Aa s_ 10).1))] .n rfl (.t rfl) (.t rfl) rfl ts_135 rfl rfl <| Lex.nil) ?_
          exact Au [] (.cons (.cN rfl rfl ag_135 rfl rfl) .nil) (by first | rfl | (simp only [put_len]; rfl)) ⟨rfl, trivial⟩ rfl
  · refine Aq (.t rfl) rfl (fun h5 => ?_) (fun h5 => ?_)
    · try simp only [tst] at h5
      refine Af ?_
      refine Ad (Ag .n (.t rfl) rfl <| Ag .n (.t rfl) rfl <| AW (full := false) [(0, 0)] [] .n rfl .f en_22 (.cons (.t rfl) (.cons (.t rfl) .nil)) (.cons (.b (.mutp rfl)) (.cons (.b (.a (.same rfl))) .nil)) (AI (Aa s_ 10).2 (m_.Airways.length : Int) (by (try dsimp only); (with_reducible (first | apply Lim.mono | apply Lim.out | apply LimA.mono)); (repeat (with_reducible (first | assumption | apply Lim.among | apply Lim.pick | apply Lim.fire17 | apply Lim.mk))); omega)) ⟨rfl, trivial⟩ rfl rfl (fun h => Bool.noConfusion h) (fun h => Bool.noConfusion h) rfl <| AE .n (.t rfl) fo_135_0 rfl <| AG [.int .i64 (Aa (Aa s_ 10).2 (m_.Airways.length : Int)).1, .int .i64 0, .int .i64 (IntKind.wrap .i64 (60 * (Aa s_ 10).1))] .n rfl (.t rfl) (.t rfl) rfl ts_2 rfl rfl <| Lex.nil) ?_
      refine Bk fmo (Ag .n (.t rfl) rfl <| Ag .n (.t rfl) rfl <| Av .n (.t rfl) rfl <| Az .n (.t rfl) fo_26_1 rfl <| Ap .n (.t rfl) rfl ic_24 rfl <| AE .n (.t rfl) fo_135_0 rfl <| AP .n (.t rfl) rfl (.inr rfl) (fun _ => rfl) rfl ic_2 rfl <| A8 .n (.t rfl) (.t rfl) sl_24 (fun _ => by omega) rfl <| Az .n (.t rfl) fo_112_3 rfl <| Ap .n (.t rfl) rfl ic_2 rfl <| AJ (full := false) .n .f en_59 (.cons (.c rfl) (.cons (.t rfl) .nil)) (.cons (.b (.a (.same rfl))) (.cons (.b (.a (.same rfl))) .nil)) (fun hg => DH 1 (at' m_.Airways (Aa (Aa s_ 10).2 (m_.Airways.length : Int)).1).Length) rfl (fun h => Bool.noConfusion h) rfl <| AW (full := false) [(0, 0)] [] .n rfl .f en_22 (.cons (.t rfl) (.cons (.t rfl) .nil)) (.cons (.b (.mutp rfl)) (.cons (.b (.a (.same rfl))) .nil)) (AI (Aa (Aa s_ 10).2 (m_.Airways.length : Int)).2 (AC 1 (at' m_.Airways (Aa (Aa s_ 10).2 (m_.Airways.length : Int)).1).Length) (by (try dsimp only); (with_reducible (first | apply Lim.mono | apply Lim.out | apply LimA.mono)); (repeat (with_reducible (first | assumption | apply Lim.among | apply Lim.pick | apply Lim.fire17 | apply Lim.mk))); omega)) ⟨rfl, trivial⟩ rfl rfl (fun h => Bool.noConfusion h) (fun h => Bool.noConfusion h) rfl <| AE .n (.t rfl) fo_135_1 rfl <| AG [.int .i64 (Aa (Aa s_ 10).2 (m_.Airways.length : Int)).1, .int .i64 (Aa (Aa (Aa s_ 10).2 (m_.Airways.length : Int)).2 (AC 1 (at' m_.Airways (Aa (Aa s_ 10).2 (m_.Airways.length : Int)).1).Length)).1, .int .i64 (IntKind.wrap .i64 (60 * (Aa s_ 10).1))] .n rfl (.t rfl) (.t rfl) rfl ts_2 rfl rfl <| Lex.nil) (by kernel_rfl) ?_
      exact AY hj4 ((Aa (Aa (Aa s_ 10).2 (m_.Airways.length : Int)).2 (AC 1 (at' m_.Airways (Aa (Aa s_ 10).2 (m_.Airways.length : Int)).1).Length)).2.code, (Aa (Aa (Aa s_ 10).2 (m_.Airways.length : Int)).2 (AC 1 (at' m_.Airways (Aa (Aa s_ 10).2 (m_.Airways.length : Int)).1).Length)).2.at_, (Aa (Aa (Aa s_ 10).2 (m_.Airways.length : Int)).2 (AC 1 (at' m_.Airways (Aa (Aa s_ 10).2 (m_.Airways.length : Int)).1).Length)).2.seed, (Aa (Aa s_ 10).2 (m_.Airways.length : Int)).1, (Aa (Aa (Aa s_ 10).2 (m_.Airways.length : Int)).2 (AC 1 (at' m_.Airways (Aa (Aa s_ 10).2 (m_.Airways.length : Int)).1).Length)).1) (by (try dsimp only); (with_reducible (first | apply Lim.mono | apply Lim.out | apply LimA.mono)); (repeat (with_reducible (first | assumption | apply Lim.among | apply Lim.pick | apply Lim.fire17 | apply Lim.mk))); omega) (sub_of [] ⟨rfl, rfl, rfl, rfl, trivial⟩ ⟨rfl, rfl, rfl, trivial⟩ rfl)
    · try simp only [tst] at h5
      refine As ?_
      exact AY hj4 ((Aa s_ 10).2.code, (Aa s_ 10).2.at_, (Aa s_ 10).2.seed, 0, 0) (by (try dsimp only); (with_reducible (first | apply Lim.mono | apply Lim.out | apply LimA.mono)); (repeat (with_reducible (first | assumption | apply Lim.among | apply Lim.pick | apply Lim.fire17 | apply Lim.mk))); omega) (sub_of [] ⟨rfl, rfl, rfl, rfl, trivial⟩ ⟨rfl, rfl, rfl, trivial⟩ rfl)

/-! ### spec_l17One -/
theorem c_spec_l17One (f : Da) : Con Tryz.prog 116 [.rp [.int .i64 f.Airway, .int .i64 f.At, .int .i64 f.Start]] [] (.bool (DB f)) ([]) := by
  refine con_intro (out := fun r : Bool => ((.bool r : V), ([] : List (Nat × Option O)))) (r := (DB f)) Tryz.func116 rfl Tryz.ntmps116 rfl ?_
  refine Af ?_
  refine Ad (Ah .n (.c rfl) rfl <| Lex.nil) ?_
  refine Af ?_
  refine Ad (Ag .n (.t rfl) rfl <| Av .n (.t rfl) rfl <| Az .n (.t rfl) fo_135_0 rfl <| Ap .n (.t rfl) rfl ic_2 rfl <| AJ (full := false) .n .f en_72 (.cons (.t rfl) (.cons (.c rfl) (.cons (.c rfl) .nil))) (.cons (.b (.a (.same rfl))) (.cons (.b (.a (.same rfl))) (.cons (.b (.a (.same rfl))) .nil))) (fun hg => Bt f.Airway 0 23) rfl (fun h => Bool.noConfusion h) rfl <| Ag .n (.t rfl) rfl <| Ag (.t rfl rfl) (.t rfl) rfl <| Av (.t rfl rfl) (.u rfl id) rfl <| Az (.t rfl rfl) (.u rfl id) fo_135_1 rfl <| Ap (.t rfl rfl) (.u rfl id) rfl ic_2 rfl <| AJ (full := false) (.t rfl rfl) .f en_72 (.cons (.u rfl id) (.cons (.c rfl) (.cons (.c rfl) .nil))) (.cons (.b (.a (.same rfl))) (.cons (.b (.a (.same rfl))) (.cons (.b (.a (.same rfl))) .nil))) (fun hg => Bt f.At 0 10000) rfl (fun h => Bool.noConfusion h) rfl <| B4 .n (.t rfl) (.u rfl id) rfl <| Ag .n (.t rfl) rfl <| Ag (.t rfl rfl) (.t rfl) rfl <| Av (.t rfl rfl) (.u rfl id) rfl <| Az (.t rfl rfl) (.u rfl id) fo_135_2 rfl <| Ap (.t rfl rfl) (.u rfl id) rfl ic_2 rfl <| AJ (full := false) (.t rfl rfl) .f en_72 (.cons (.u rfl id) (.cons (.c rfl) (.cons (.c rfl) .nil))) (.cons (.b (.a (.same rfl))) (.cons (.b (.a (.same rfl))) (.cons (.b (.a (.same rfl))) .nil))) (fun hg => Bt f.Start 0 36000) rfl (fun h => Bool.noConfusion h) rfl <| B4 .n (.t rfl) (.u rfl id) rfl <| Ah .n (.t rfl) rfl <| Lex.nil) ?_
  exact Au [] (.cons (.t rfl rfl) .nil) rfl trivial rfl

/-! ### spec_l17Fire -/
theorem c_spec_l17Fire (m_ : AB) (f : Da) : Con Tryz.prog 104 [.rp [.int .i64 m_.Junctions, .sl 7 (m_.Airways.map Ar.v)], .rp [.int .i64 f.Airway, .int .i64 f.At, .int .i64 f.Start]] [] (.bool (CZ m_ f)) ([]) := by
  refine con_intro (out := fun r : Bool => ((.bool r : V), ([] : List (Nat × Option O)))) (r := (CZ m_ f)) Tryz.func104 rfl Tryz.ntmps104 rfl ?_
  refine BH (t := 0) 1 rfl rfl fun hl => ?_
  have l1 := hl; clear hl; simp only [List.length_map] at l1
  refine Af ?_
  refine Ad (Ah .n (.c rfl) rfl <| Lex.nil) ?_
  refine Af ?_
  refine Bk fmo (Ag .n (.t rfl) rfl <| AJ (full := false) .n .f en_116 (.cons (.t rfl) .nil) (.cons (.b (.a (.same rfl))) .nil) (fun hg => c_spec_l17One f) rfl (fun h => Bool.noConfusion h) rfl <| Ag .n (.t rfl) rfl <| Ag (.t rfl rfl) (.t rfl) rfl <| Av (.t rfl rfl) (.u rfl id) rfl <| Az (.t rfl rfl) (.u rfl id) fo_135_0 rfl <| Ap (.t rfl rfl) (.u rfl id) rfl ic_2 rfl <| Ag (.t rfl rfl) (.t rfl) rfl <| Av (.t rfl rfl) (.u rfl id) rfl <| Az (.t rfl rfl) (.u rfl id) fo_26_1 rfl <| Ap (.t rfl rfl) (.u rfl id) rfl ic_24 rfl <| BS (.t rfl rfl) (.u rfl id) rfl len_map ss_24 rfl <| AF (.t rfl rfl) (.u rfl id) (.u rfl id) rfl rfl <| B4 .n (.t rfl) (.u rfl id) rfl <| Ag .n (.t rfl) rfl <| Ag (.t rfl rfl) (.t rfl) rfl <| Av (.t rfl rfl) (.u rfl id) rfl <| Az (.t rfl rfl) (.u rfl id) fo_135_1 rfl <| Ap (.t rfl rfl) (.u rfl id) rfl ic_2 rfl <| Ag (.t rfl rfl) (.t rfl) rfl <| Av (.t rfl rfl) (.u rfl id) rfl <| Az (.t rfl rfl) (.u rfl id) fo_26_1 rfl <| Ap (.t rfl rfl) (.u rfl id) rfl ic_24 rfl <| Ag (.t rfl rfl) (.t rfl) rfl <| Av (.t rfl rfl) (.u rfl id) rfl <| Az (.t rfl rfl) (.u rfl id) fo_135_0 rfl <| Ap (.t rfl rfl) (.u rfl id) rfl ic_2 rfl <| A8 (.t rfl rfl) (.u rfl id) (.u rfl id) sl_24 (fun hg => by simp only [tst] at hg; ((simp only [DB, AR, Bool.and_eq_true, decide_eq_true_eq] at hg; omega))) rfl <| Az (.t rfl rfl) (.u rfl id) fo_112_3 rfl <| Ap (.t rfl rfl) (.u rfl id) rfl ic_2 rfl <| AF (.t rfl rfl) (.u rfl id) (.u rfl id) rfl rfl <| B4 .n (.t rfl) (.u rfl id) rfl <| Ah .n (.t rfl) rfl <| Lex.nil) (by kernel_rfl) ?_
  exact Au [] (.cons (.t rfl rfl) .nil) rfl trivial rfl

/-! ### spec_l03Flow -/
theorem c_spec_l03Flow (q : Int) : Con Tryz.prog 117 [.int .i64 q] [] (.bool (Dm q)) ([]) := by
  refine con_intro (out := fun r : Bool => ((.bool r : V), ([] : List (Nat × Option O)))) (r := (Dm q)) Tryz.func117 rfl Tryz.ntmps117 rfl ?_
  refine Af ?_
  refine Ad (Ah .n (.c rfl) rfl <| Lex.nil) ?_
  refine Af ?_
  refine Ad (Ag .n (.t rfl) rfl <| AJ (full := false) .n .f en_72 (.cons (.t rfl) (.cons (.c rfl) (.cons (.c rfl) .nil))) (.cons (.b (.a (.same rfl))) (.cons (.b (.a (.same rfl))) (.cons (.b (.a (.same rfl))) .nil))) (fun hg => Bt q (-100000) 100000) rfl (fun h => Bool.noConfusion h) rfl <| Ah .n (.t rfl) rfl <| Lex.nil) ?_
  exact Au [] (.cons (.t rfl rfl) .nil) rfl trivial rfl

/-! ### spec_l07Flows -/
theorem c_spec_l07Flows (m_ : AB) (flows : List Int) : Con Tryz.prog 105 [.rp [.int .i64 m_.Junctions, .sl 7 (m_.Airways.map Ar.v)], .sl 1 (flows.map (V.int .i64))] [] (.bool (De m_ flows)) ([]) := by
  refine con_intro (out := fun r : Bool => ((.bool r : V), ([] : List (Nat × Option O)))) (r := (De m_ flows)) Tryz.func105 rfl Tryz.ntmps105 rfl ?_
  refine BH (t := 0) 1 rfl rfl fun hl => ?_
  have l1 := hl; clear hl; simp only [List.length_map] at l1
  refine Br (t := 1) rfl fun hl => ?_
  have l2 := hl; clear hl; simp only [List.length_map] at l2
  refine Af ?_
  refine Ad (Ah .n (.c rfl) rfl <| Lex.nil) ?_
  refine Af ?_
  refine Af ?_
  refine Ad (Ah .n (.c rfl) rfl <| Lex.nil) ?_
  refine Aw ?_
  refine Bp (m_spec_l07Flows_b1 m_ flows) _ _ _ rfl (fun (x1 : Int) => 0 ≤ x1 ∧ x1 ≤ (flows.length : Int)) (fun x1 => 0 ≤ x1 ∧ x1 ≤ (flows.length : Int) ∧ (flows.length : Int) ≤ x1) (fun x1 => ((flows.length : Int) - x1 : Int).toNat) (fun x1 => ⟨[(0, some (true, .rp [.int .i64 m_.Junctions, .sl 7 (m_.Airways.map Ar.v)])), (1, some (true, .sl 1 (flows.map (V.int .i64)))), (5, some (true, .int .i64 x1))], []⟩) (fun x1 => ⟨[(0, some (true, .rp [.int .i64 m_.Junctions, .sl 7 (m_.Airways.map Ar.v)])), (1, some (true, .sl 1 (flows.map (V.int .i64))))], []⟩) ⟨by omega, by omega⟩ (by omega) (sub_of [] ⟨rfl, rfl, rfl, trivial⟩ trivial rfl) ?_ ?_
  · intro x1 i7
    obtain ⟨e8, e9, e10⟩ := i7
    try dsimp only at *
    refine Af ?_
    refine Ad (Ag .n (.t rfl) rfl <| BS .n (.t rfl) rfl len_map ss_27 rfl <| Ag .n (.t rfl) rfl <| Av .n (.t rfl) rfl <| Az .n (.t rfl) fo_26_1 rfl <| Ap .n (.t rfl) rfl ic_24 rfl <| BS .n (.t rfl) rfl len_map ss_24 rfl <| AF .n (.t rfl) (.t rfl) rfl rfl <| Ah .n (.t rfl) rfl <| Lex.nil) ?_
    exact Au [] (.cons (.t rfl rfl) .nil) rfl trivial rfl
  · intro rec1 k1 hk3 x1 i4
    obtain ⟨e11, e12⟩ := i4
    try dsimp only at *
    refine Af ?_
    refine Af ?_
    refine Ad (Ag .n (.t rfl) rfl <| Ag .n (.t rfl) rfl <| BS .n (.t rfl) rfl len_map ss_27 rfl <| AF .n (.t rfl) (.t rfl) rfl rfl <| Lex.nil) ?_
    refine Aq (.t rfl) rfl (fun h5 => ?_) (fun h5 => ?_)
    · try simp only [tst] at h5
      refine As ?_
      refine Af ?_
      refine Aw ?_
      refine Af ?_
      refine Ad (Ag .n (.t rfl) rfl <| Ag .n (.t rfl) rfl <| A8 .n (.t rfl) (.t rfl) sl_27 (fun _ => by omega) rfl <| Ap .n (.t rfl) rfl ic_2 rfl <| AJ (full := false) .n .f en_117 (.cons (.t rfl) .nil) (.cons (.b (.a (.same rfl))) .nil) (fun hg => c_spec_l03Flow (at' flows x1)) rfl (fun h => Bool.noConfusion h) rfl <| Cg .n (.t rfl) rfl <| Lex.nil) ?_
      refine Aq (.t rfl) rfl (fun h6 => ?_) (fun h6 => ?_)
      · try simp only [tst] at h6
        refine Af ?_
        refine Ad (Ah .n (.c rfl) rfl <| Lex.nil) ?_
        exact Au [] (.cons (.t rfl rfl) .nil) rfl trivial rfl
      · try simp only [tst] at h6
        refine As ?_
        refine AK ?_
        refine Ad (Ag .n (.t rfl) rfl <| BM .n (.t rfl) (.c rfl) (fun _ => by omega) rfl <| Ah .n (.t rfl) rfl <| Lex.nil) ?_
        exact A5 (x1 + 1) ⟨by omega, by omega⟩ (by omega) (sub_of [] ⟨rfl, rfl, rfl, trivial⟩ trivial rfl)
    · try simp only [tst] at h5
      refine Bb rfl ?_
      exact AY hk3 x1 ⟨by omega, by omega, by omega⟩ (sub_of [] ⟨rfl, rfl, trivial⟩ trivial rfl)

/-! ### spec_l17Ask -/
theorem c_spec_l17Ask (m_ : AB) (flows : List Int) (f : Da) : Con Tryz.prog 92 [.rp [.int .i64 m_.Junctions, .sl 7 (m_.Airways.map Ar.v)], .sl 1 (flows.map (V.int .i64)), .rp [.int .i64 f.Airway, .int .i64 f.At, .int .i64 f.Start]] [] (.int .i64 (Cd m_ flows f)) ([]) := by
  refine con_intro (out := fun r : Int => ((.int .i64 r : V), ([] : List (Nat × Option O)))) (r := (Cd m_ flows f)) Tryz.func92 rfl Tryz.ntmps92 rfl ?_
  refine BH (t := 0) 1 rfl rfl fun hl => ?_
  have l1 := hl; clear hl; simp only [List.length_map] at l1
  refine Br (t := 1) rfl fun hl => ?_
  have l2 := hl; clear hl; simp only [List.length_map] at l2
  refine Af ?_
  refine Ad (Ah .n (.c rfl) rfl <| Lex.nil) ?_
  refine Af ?_
  refine Af ?_
  refine Ad (Ag .n (.t rfl) rfl <| AJ (full := false) .n .f en_50 (.cons (.t rfl) .nil) (.cons (.b (.a (.same rfl))) .nil) (fun hg => Dt m_) rfl (fun h => Bool.noConfusion h) rfl <| Cg .n (.t rfl) rfl <| Ag .n (.t rfl) rfl <| Ag (.f rfl rfl) (.t rfl) rfl <| Ag (.f rfl rfl) (.t rfl) rfl <| AJ (full := false) (.f rfl rfl) .f en_104 (.cons (.u rfl id) (.cons (.u rfl id) .nil)) (.cons (.b (.a (.same rfl))) (.cons (.b (.a (.same rfl))) .nil)) (fun hg => c_spec_l17Fire m_ f) rfl (fun h => Bool.noConfusion h) rfl <| Cg (.f rfl rfl) (.u rfl id) rfl <| q_or .n (.t rfl) (.u rfl id) rfl <| Lex.nil) ?_
  refine Aq (.t rfl) rfl (fun h3 => ?_) (fun h3 => ?_)
  · try simp only [tst] at h3
    try have hf0h3 := l04Ok_imp h3
    try have hf1h3 := l04Ok_imp h3.1
    try have hf2h3 := l04Ok_imp h3.2
    try have hf3h3 := l04Ok_imp h3.1.1
    try have hf4h3 := l04Ok_imp h3.1.2
    try have hf5h3 := l04Ok_imp h3.2.1
    try have hf6h3 := l04Ok_imp h3.2.2
    refine Af ?_
    refine Ad (Ah .n (.c rfl) rfl <| Lex.nil) ?_
    exact Au [] (.cons (.t rfl rfl) .nil) rfl trivial rfl
  · try simp only [tst] at h3
    try have hf0h3 := l04Ok_imp h3
    try have hf1h3 := l04Ok_imp h3.1
    try have hf2h3 := l04Ok_imp h3.2
    try have hf3h3 := l04Ok_imp h3.1.1
    try have hf4h3 := l04Ok_imp h3.1.2
    try have hf5h3 := l04Ok_imp h3.2.1
    try have hf6h3 := l04Ok_imp h3.2.2
    refine As ?_
    refine Af ?_
    refine Af ?_
    refine Ad (Ag .n (.t rfl) rfl <| Ag .n (.t rfl) rfl <| AJ (full := false) .n .f en_105 (.cons (.t rfl) (.cons (.t rfl) .nil)) (.cons (.b (.a (.same rfl))) (.cons (.b (.a (.same rfl))) .nil)) (fun hg => c_spec_l07Flows m_ flows) rfl (fun h => Bool.noConfusion h) rfl <| Cg .n (.t rfl) rfl <| Lex.nil) ?_
    refine Aq (.t rfl) rfl (fun h4 => ?_) (fun h4 => ?_)
    · try simp only [tst] at h4
      refine Af ?_
      refine Ad (Ah .n (.c rfl) rfl <| Lex.nil) ?_
      exact Au [] (.cons (.t rfl rfl) .nil) rfl trivial rfl
    · try simp only [tst] at h4
      refine As ?_
      refine Af ?_
      refine Ad (Ah .n (.c rfl) rfl <| Lex.nil) ?_
      exact Au [] (.cons (.t rfl rfl) .nil) rfl trivial rfl

/-! ### spec_l03Abs -/
theorem c_spec_l03Abs (n_ : Int) : Con Tryz.prog 118 [.int .i64 n_] [] (.int .i64 (CJ n_)) ([]) := by
  refine con_intro (out := fun r : Int => ((.int .i64 r : V), ([] : List (Nat × Option O)))) (r := (CJ n_)) Tryz.func118 rfl Tryz.ntmps118 rfl ?_
  refine Af ?_
  refine Ad (Ah .n (.c rfl) rfl <| Lex.nil) ?_
  refine Af ?_
  refine Ad (Ag .n (.t rfl) rfl <| Ag .n (.t rfl) rfl <| q_neg .n (.t rfl) rfl <| AJ (full := false) .n .f en_59 (.cons (.t rfl) (.cons (.t rfl) .nil)) (.cons (.b (.a (.same rfl))) (.cons (.b (.a (.same rfl))) .nil)) (fun hg => DH n_ (IntKind.wrap .i64 (0 - n_))) rfl (fun h => Bool.noConfusion h) rfl <| Ah .n (.t rfl) rfl <| Lex.nil) ?_
  exact Au [] (.cons (.t rfl rfl) .nil) rfl trivial rfl

/-! ### spec_l17Leave -/
theorem c_spec_l17Leave (m_ : AB) (flows : List Int) (f : Da) (hp1 : MineIn m_) (hp2 : FlowsIn m_ flows) (hp3 : FireIn m_ f) (hp4 : ¬ at' flows f.Airway = 0) : Con Tryz.prog 106 [.rp [.int .i64 m_.Junctions, .sl 7 (m_.Airways.map Ar.v)], .sl 1 (flows.map (V.int .i64)), .rp [.int .i64 f.Airway, .int .i64 f.At, .int .i64 f.Start]] [] (.int .i64 (BU m_ flows f)) ([]) := by
  refine con_intro (out := fun r : Int => ((.int .i64 r : V), ([] : List (Nat × Option O)))) (r := (BU m_ flows f)) Tryz.func106 rfl Tryz.ntmps106 rfl ?_
  have hFi := hp3.1
  have hAb := abs_rng (hp2.at hp3.1) hp4
  have hJ1 := hp1.1
  have hA1 := hp1.2.1
  have hF2 := hp2.1
  refine BH (t := 0) 1 rfl rfl fun hl => ?_
  have l1 := hl; clear hl; simp only [List.length_map] at l1
  refine Br (t := 1) rfl fun hl => ?_
  have l2 := hl; clear hl; simp only [List.length_map] at l2
  refine Af ?_
  refine Ad (Ah .n (.c rfl) rfl <| Lex.nil) ?_
  refine Af ?_
  refine Bk fmo (Ag .n (.t rfl) rfl <| Av .n (.t rfl) rfl <| Az .n (.t rfl) fo_26_1 rfl <| Ap .n (.t rfl) rfl ic_24 rfl <| Ag .n (.t rfl) rfl <| Av .n (.t rfl) rfl <| Az .n (.t rfl) fo_135_0 rfl <| Ap .n (.t rfl) rfl ic_2 rfl <| A8 .n (.t rfl) (.t rfl) sl_24 (fun _ => by omega) rfl <| Ah .n (.t rfl) rfl <| Lex.nil) (by kernel_rfl) ?_
  refine Af ?_
  refine Ad (Ag .n (.t rfl) rfl <| Av .n (.t rfl) rfl <| Az .n (.t rfl) fo_135_1 rfl <| Ap .n (.t rfl) rfl ic_2 rfl <| Ah .n (.t rfl) rfl <| Lex.nil) ?_
  refine Af ?_
  refine Af ?_
  refine Ad (Ag .n (.t rfl) rfl <| Ag .n (.t rfl) rfl <| Av .n (.t rfl) rfl <| Az .n (.t rfl) fo_135_0 rfl <| Ap .n (.t rfl) rfl ic_2 rfl <| A8 .n (.t rfl) (.t rfl) sl_27 (fun _ => by omega) rfl <| Ap .n (.t rfl) rfl ic_2 rfl <| AF .n (.t rfl) (.c rfl) rfl rfl <| Lex.nil) ?_
  refine Dn _ _ rfl (fun v3 : Int => True) (fun v3 => ⟨[(1, some (true, .sl 1 (flows.map (V.int .i64)))), (2, some (true, .rp [.int .i64 f.Airway, .int .i64 f.At, .int .i64 f.Start])), (7, some (true, .rp [.str (at' m_.Airways f.Airway).Id, .int .i64 (at' m_.Airways f.Airway).From, .int .i64 (at' m_.Airways f.Airway).To, .int .i64 (at' m_.Airways f.Airway).Length, .int .i64 (at' m_.Airways f.Airway).Section, .int .i64 (at' m_.Airways f.Airway).Friction, .int .i64 (at' m_.Airways f.Airway).Shock])), (8, some (true, .int .i64 v3))], []⟩) (fun v3 _ => ?_) (fun j4 hj5 => ?_)
  · refine Af ?_
    refine Ad (Ag .n (.t rfl) rfl <| Ag .n (.t rfl) rfl <| Av .n (.t rfl) rfl <| Az .n (.t rfl) fo_135_0 rfl <| Ap .n (.t rfl) rfl ic_2 rfl <| A8 .n (.t rfl) (.t rfl) sl_27 (fun _ => by omega) rfl <| Ap .n (.t rfl) rfl ic_2 rfl <| AJ (full := false) .n .f en_118 (.cons (.t rfl) .nil) (.cons (.b (.a (.same rfl))) .nil) (fun hg => c_spec_l03Abs (at' flows f.Airway)) rfl (fun h => Bool.noConfusion h) rfl <| Ah .n (.t rfl) rfl <| Lex.nil) ?_
    refine Af ?_
    refine Bk fmo (Ag .n (.t rfl) rfl <| Av .n (.t rfl) rfl <| Az .n (.t rfl) fo_135_2 rfl <| Ap .n (.t rfl) rfl ic_2 rfl <| Ag .n (.t rfl) rfl <| Ag .n (.t rfl) rfl <| Av .n (.t rfl) rfl <| Az .n (.t rfl) fo_112_4 rfl <| Ap .n (.t rfl) rfl ic_2 rfl <| AF .n (.t rfl) (.t rfl) rfl rfl <| Ag .n (.t rfl) rfl <| AF .n (.t rfl) (.t rfl) rfl rfl <| AF .n (.t rfl) (.c rfl) rfl rfl <| Ag .n (.t rfl) rfl <| q_quo .n (.t rfl) (.t rfl) (fun hg => by ((rw [← abs_eq]; omega))) rfl <| AF .n (.t rfl) (.t rfl) rfl rfl <| Ah .n (.t rfl) rfl <| Lex.nil) (by kernel_rfl) ?_
    exact Au [] (.cons (.t rfl rfl) .nil) rfl trivial rfl
  · refine Aq (.t rfl) rfl (fun h6 => ?_) (fun h6 => ?_)
    · try simp only [tst] at h6
      refine Bk fmo (Ag .n (.t rfl) rfl <| Av .n (.t rfl) rfl <| Az .n (.t rfl) fo_112_3 rfl <| Ap .n (.t rfl) rfl ic_2 rfl <| Ag .n (.t rfl) rfl <| Av .n (.t rfl) rfl <| Az .n (.t rfl) fo_135_1 rfl <| Ap .n (.t rfl) rfl ic_2 rfl <| AF .n (.t rfl) (.t rfl) rfl rfl <| Ah .n (.t rfl) rfl <| Lex.nil) (by kernel_rfl) ?_
      exact AY hj5 (IntKind.wrap .i64 ((at' m_.Airways f.Airway).Length - f.At)) trivial (sub_of [] ⟨rfl, rfl, rfl, rfl, trivial⟩ trivial rfl)
    · try simp only [tst] at h6
      refine As ?_
      exact AY hj5 f.At trivial (sub_of [] ⟨rfl, rfl, rfl, rfl, trivial⟩ trivial rfl)

/-! ### spec_l13Start -/
theorem c_spec_l13Start (a : Ar) (flow : Int) : Con Tryz.prog 107 [.rp [.str a.Id, .int .i64 a.From, .int .i64 a.To, .int .i64 a.Length, .int .i64 a.Section, .int .i64 a.Friction, .int .i64 a.Shock], .int .i64 flow] [] (.int .i64 (Bi a flow)) ([]) := by
  refine con_intro (out := fun r : Int => ((.int .i64 r : V), ([] : List (Nat × Option O)))) (r := (Bi a flow)) Tryz.func107 rfl Tryz.ntmps107 rfl ?_
  refine Af ?_
  refine Ad (Ah .n (.c rfl) rfl <| Lex.nil) ?_
  refine Af ?_
  refine Af ?_
  refine Ad (Ag .n (.t rfl) rfl <| AF .n (.t rfl) (.c rfl) rfl rfl <| Lex.nil) ?_
  refine Aq (.t rfl) rfl (fun h1 => ?_) (fun h1 => ?_)
  · try simp only [tst] at h1
    refine Af ?_
    refine Ad (Ag .n (.t rfl) rfl <| Av .n (.t rfl) rfl <| Az .n (.t rfl) fo_112_1 rfl <| Ap .n (.t rfl) rfl ic_2 rfl <| Ah .n (.t rfl) rfl <| Lex.nil) ?_
    exact Au [] (.cons (.t rfl rfl) .nil) rfl trivial rfl
  · try simp only [tst] at h1
    refine As ?_
    refine Af ?_
    refine Ad (Ag .n (.t rfl) rfl <| Av .n (.t rfl) rfl <| Az .n (.t rfl) fo_112_2 rfl <| Ap .n (.t rfl) rfl ic_2 rfl <| Ah .n (.t rfl) rfl <| Lex.nil) ?_
    exact Au [] (.cons (.t rfl rfl) .nil) rfl trivial rfl

/-! ### spec_l03Time -/
theorem c_spec_l03Time (a : Ar) (flow : Int) (hp1 : -100000 ≤ flow ∧ flow ≤ 100000) (hp2 : ¬ flow = 0) : Con Tryz.prog 108 [.rp [.str a.Id, .int .i64 a.From, .int .i64 a.To, .int .i64 a.Length, .int .i64 a.Section, .int .i64 a.Friction, .int .i64 a.Shock], .int .i64 flow] [] (.int .i64 (Cv a flow)) ([]) := by
  refine con_intro (out := fun r : Int => ((.int .i64 r : V), ([] : List (Nat × Option O)))) (r := (Cv a flow)) Tryz.func108 rfl Tryz.ntmps108 rfl ?_
  have hAb := abs_rng hp1 hp2
  refine Af ?_
  refine Ad (Ah .n (.c rfl) rfl <| Lex.nil) ?_
  refine Af ?_
  refine Ad (Ag .n (.t rfl) rfl <| AJ (full := false) .n .f en_118 (.cons (.t rfl) .nil) (.cons (.b (.a (.same rfl))) .nil) (fun hg => c_spec_l03Abs flow) rfl (fun h => Bool.noConfusion h) rfl <| Ah .n (.t rfl) rfl <| Lex.nil) ?_
  refine Af ?_
  refine Bk fmo (Ag .n (.t rfl) rfl <| Av .n (.t rfl) rfl <| Az .n (.t rfl) fo_112_3 rfl <| Ap .n (.t rfl) rfl ic_2 rfl <| Ag .n (.t rfl) rfl <| Av .n (.t rfl) rfl <| Az .n (.t rfl) fo_112_4 rfl <| Ap .n (.t rfl) rfl ic_2 rfl <| AF .n (.t rfl) (.t rfl) rfl rfl <| Ag .n (.t rfl) rfl <| AF .n (.t rfl) (.t rfl) rfl rfl <| AF .n (.t rfl) (.c rfl) rfl rfl <| Ag .n (.t rfl) rfl <| q_quo .n (.t rfl) (.t rfl) (fun hg => by ((rw [← abs_eq]; omega))) rfl <| Ah .n (.t rfl) rfl <| Lex.nil) (by kernel_rfl) ?_
  exact Au [] (.cons (.t rfl rfl) .nil) rfl trivial rfl

/-! ### spec_l17Arrival -/
set_option maxHeartbeats 4000000 in
theorem c_spec_l17Arrival (m_ : AB) (flows : List Int) (f : Da) (hp1 : MineIn m_) (hp2 : FlowsIn m_ flows) (hp3 : FireIn m_ f) : Con Tryz.prog 93 [.rp [.int .i64 m_.Junctions, .sl 7 (m_.Airways.map Ar.v)], .sl 1 (flows.map (V.int .i64)), .rp [.int .i64 f.Airway, .int .i64 f.At, .int .i64 f.Start]] [] (.os 100 (BQ m_ flows f).length) ([(100, some (.row 2 1 ((BQ m_ flows f).map (V.int .i64))))]) := by
  refine con_intro (out := fun r : (List Int) => ((.os 100 r.length : V), ([(100, some (.row 2 1 (r.map (V.int .i64))))] : List (Nat × Option O)))) (r := (BQ m_ flows f)) Tryz.func93 rfl Tryz.ntmps93 rfl ?_
  have hFi := hp3.1
  have hJ1 := hp1.1
  have hA1 := hp1.2.1
  have hF2 := hp2.1
  refine BH (t := 0) 1 rfl rfl fun hl => ?_
  have l1 := hl; clear hl; simp only [List.length_map] at l1
  refine Br (t := 1) rfl fun hl => ?_
  have l2 := hl; clear hl; simp only [List.length_map] at l2
  refine Af ?_
  refine Ad (Ah .n (.c rfl) rfl <| Lex.nil) ?_
  refine Af ?_
  refine Ad (AV K_5 (f := V.int .i64) (l := 200) .n rfl rfl .nil rfl si_27 zv_2 rfl rfl rfl <| Ah .n (.t rfl) rfl <| Lex.nil) ?_
  refine Af ?_
  refine Af ?_
  refine Ad (Ah .n (.c rfl) rfl <| Lex.nil) ?_
  refine Aw ?_
  refine Bp (Cq m_ flows f) _ _ _ rfl (fun (x1 : (List Int) × Int) => 0 ≤ x1.2 ∧ x1.2 ≤ m_.Junctions ∧ (x1.1.length : Int) + 0 ≤ x1.2 + (K_5.length : Int) ∧ (x1.1.length : Int) = x1.2) (fun x1 => 0 ≤ x1.2 ∧ x1.2 ≤ m_.Junctions ∧ (x1.1.length : Int) + 0 ≤ x1.2 + (K_5.length : Int) ∧ (x1.1.length : Int) = x1.2 ∧ m_.Junctions ≤ x1.2) (fun x1 => (m_.Junctions - x1.2 : Int).toNat) (fun x1 => ⟨[(0, some (true, .rp [.int .i64 m_.Junctions, .sl 7 (m_.Airways.map Ar.v)])), (1, some (true, .sl 1 (flows.map (V.int .i64)))), (2, some (true, .rp [.int .i64 f.Airway, .int .i64 f.At, .int .i64 f.Start])), (7, some (true, .os 200 x1.1.length)), (8, some (true, .int .i64 x1.2))], [(200, some (.row 2 1 (x1.1.map (V.int .i64))))]⟩) (fun x1 => ⟨[(0, some (true, .rp [.int .i64 m_.Junctions, .sl 7 (m_.Airways.map Ar.v)])), (1, some (true, .sl 1 (flows.map (V.int .i64)))), (2, some (true, .rp [.int .i64 f.Airway, .int .i64 f.At, .int .i64 f.Start])), (7, some (true, .os 200 x1.1.length))], [(200, some (.row 2 1 (x1.1.map (V.int .i64))))]⟩) ⟨by omega, by omega, by (simp only [lens] at * <;> omega), by (simp only [lens] at * <;> omega)⟩ (by omega) (sub_of [] ⟨rfl, rfl, rfl, rfl, rfl, trivial⟩ ⟨rfl, trivial⟩ rfl) ?_ ?_
  · intro x1 i6
    obtain ⟨e33, e34, e35, e36, e37⟩ := i6
    try dsimp only at *
    refine Af ?_
    refine Af ?_
    refine Ad (Ag .n (.t rfl) rfl <| Ag .n (.t rfl) rfl <| Av .n (.t rfl) rfl <| Az .n (.t rfl) fo_135_0 rfl <| Ap .n (.t rfl) rfl ic_2 rfl <| A8 .n (.t rfl) (.t rfl) sl_27 (fun _ => by omega) rfl <| Ap .n (.t rfl) rfl ic_2 rfl <| AF .n (.t rfl) (.c rfl) rfl rfl <| Lex.nil) ?_
    refine Aq (.t rfl) rfl (fun h7 => ?_) (fun h7 => ?_)
    · try simp only [tst] at h7
      refine Af ?_
      refine Ad (Ag .n (.t rfl) rfl <| Ah .n (.t rfl) rfl <| Lex.nil) ?_
      exact Au [(100, 200)] (.cons (.t rfl rfl) .nil) (by first | rfl | (simp only [put_len]; rfl)) ⟨rfl, trivial⟩ rfl
    · try simp only [tst] at h7
      refine As ?_
      refine Af ?_
      refine Bk fmo (Ag .n (.t rfl) rfl <| Ag .n (.t rfl) rfl <| Av .n (.t rfl) rfl <| Az .n (.t rfl) fo_26_1 rfl <| Ap .n (.t rfl) rfl ic_24 rfl <| Ag .n (.t rfl) rfl <| Av .n (.t rfl) rfl <| Az .n (.t rfl) fo_135_0 rfl <| Ap .n (.t rfl) rfl ic_2 rfl <| A8 .n (.t rfl) (.t rfl) sl_24 (fun _ => by omega) rfl <| Ag .n (.t rfl) rfl <| Ag .n (.t rfl) rfl <| Av .n (.t rfl) rfl <| Az .n (.t rfl) fo_135_0 rfl <| Ap .n (.t rfl) rfl ic_2 rfl <| A8 .n (.t rfl) (.t rfl) sl_27 (fun _ => by omega) rfl <| Ap .n (.t rfl) rfl ic_2 rfl <| q_neg .n (.t rfl) rfl <| AJ (full := false) .n .f en_107 (.cons (.t rfl) (.cons (.t rfl) .nil)) (.cons (.b (.a (.same rfl))) (.cons (.b (.a (.same rfl))) .nil)) (fun hg => c_spec_l13Start (at' m_.Airways f.Airway) (IntKind.wrap .i64 (0 - (at' flows f.Airway)))) rfl (fun h => Bool.noConfusion h) rfl <| Ag .n (.t rfl) rfl <| Ag .n (.t rfl) rfl <| Ag .n (.t rfl) rfl <| AJ (full := false) .n .f en_106 (.cons (.t rfl) (.cons (.t rfl) (.cons (.t rfl) .nil))) (.cons (.b (.a (.same rfl))) (.cons (.b (.a (.same rfl))) (.cons (.b (.a (.same rfl))) .nil))) (fun hg => c_spec_l17Leave m_ flows f (by omega) (by omega) (by omega) (by omega)) rfl (fun h => Bool.noConfusion h) rfl <| AZ .n (.t rfl) (.t rfl) sl_27 (fun _ => by ((have hw0 := start_in (IntKind.wrap .i64 (0 - at' flows f.Airway)) (hp1.at (i := f.Airway) (by omega)); first | omega | (simp only [lens] at * <;> omega)))) rfl <| B0 (BU m_ flows f) .n rfl (.t rfl) (.t rfl) rfl ts_2 (by ((have hw0 := start_in (IntKind.wrap .i64 (0 - at' flows f.Airway)) (hp1.at (i := f.Airway) (by omega)); first | omega | (simp only [lens] at * <;> omega)))) rfl rfl <| Lex.nil) (by kernel_rfl) ?_
      refine Af ?_
      refine Af ?_
      refine Ad (Ah .n (.c rfl) rfl <| Lex.nil) ?_
      refine Aw ?_
      refine Bp (B3 m_ flows f x1) _ _ _ rfl (fun (x2 : (List Int) × Int) => 0 ≤ x2.2 ∧ x2.2 ≤ m_.Junctions ∧ (x2.1.length : Int) = m_.Junctions) (fun x2 => 0 ≤ x2.2 ∧ x2.2 ≤ m_.Junctions ∧ (x2.1.length : Int) = m_.Junctions ∧ m_.Junctions ≤ x2.2) (fun x2 => (m_.Junctions - x2.2 : Int).toNat) (fun x2 => ⟨[(0, some (true, .rp [.int .i64 m_.Junctions, .sl 7 (m_.Airways.map Ar.v)])), (1, some (true, .sl 1 (flows.map (V.int .i64)))), (7, some (true, .os 200 x2.1.length)), (9, some (true, .int .i64 x2.2))], [(200, some (.row 2 1 (x2.1.map (V.int .i64))))]⟩) (fun x2 => ⟨[(7, some (true, .os 200 x2.1.length))], [(200, some (.row 2 1 (x2.1.map (V.int .i64))))]⟩) ⟨by omega, by omega, by (simp only [lens] at * <;> omega)⟩ (by omega) (sub_of [] ⟨rfl, rfl, os_len rfl (by first | (simp only [put_len]; done) | (first | omega | assumption | (simp only [lens] at * <;> omega) | (((have hw0 := start_in (at' flows f.Airway) (hp1.at (i := f.Airway) (by omega)); first | omega | (simp only [lens] at * <;> omega))); done) | (((have hw0 := start_in (IntKind.wrap .i64 (0 - at' flows f.Airway)) (hp1.at (i := f.Airway) (by omega)); first | omega | (simp only [lens] at * <;> omega))); done) | (((have hw0 := start_in (at' flows x3.1) (hp1.at (i := x3.1) (by omega)); first | omega | (simp only [lens] at * <;> omega))); done) | (((have hw0 := start_in (IntKind.wrap .i64 (0 - at' flows x3.1)) (hp1.at (i := x3.1) (by omega)); first | omega | (simp only [lens] at * <;> omega))); done) | ((exact hp2.at (by omega)); done))), rfl, trivial⟩ ⟨rfl, trivial⟩ rfl) ?_ ?_
      · intro x2 i25
        obtain ⟨e26, e27, e28, e29⟩ := i25
        try dsimp only at *
        refine Af ?_
        refine Ad (Ag .n (.t rfl) rfl <| Ah .n (.t rfl) rfl <| Lex.nil) ?_
        exact Au [(100, 200)] (.cons (.t rfl rfl) .nil) (by first | rfl | (simp only [put_len]; rfl)) ⟨rfl, trivial⟩ rfl
      · intro rec2 k2 hk8 x2 i9
        obtain ⟨e30, e31, e32⟩ := i9
        try dsimp only at *
        refine Af ?_
        refine Af ?_
        refine Ad (Ag .n (.t rfl) rfl <| Ag .n (.t rfl) rfl <| Av .n (.t rfl) rfl <| Az .n (.t rfl) fo_26_0 rfl <| Ap .n (.t rfl) rfl ic_2 rfl <| AF .n (.t rfl) (.t rfl) rfl rfl <| Lex.nil) ?_
        refine Aq (.t rfl) rfl (fun h10 => ?_) (fun h10 => ?_)
        · try simp only [tst] at h10
          refine As ?_
          refine Af ?_
          refine Aw ?_
          refine Af ?_
          refine Ad (Ah .n (.c rfl) rfl <| Lex.nil) ?_
          refine Aw ?_
          refine Bp (Cp m_ flows f x1 rec2 k2 x2) _ _ _ rfl (fun (x3 : Int × (List Int)) => 0 ≤ x3.1 ∧ x3.1 ≤ (flows.length : Int) ∧ x3.2.length = x2.1.length) (fun x3 => 0 ≤ x3.1 ∧ x3.1 ≤ (flows.length : Int) ∧ x3.2.length = x2.1.length ∧ (flows.length : Int) ≤ x3.1) (fun x3 => ((flows.length : Int) - x3.1 : Int).toNat) (fun x3 => ⟨[(0, some (true, .rp [.int .i64 m_.Junctions, .sl 7 (m_.Airways.map Ar.v)])), (1, some (true, .sl 1 (flows.map (V.int .i64)))), (7, some (true, .os 200 x3.2.length)), (9, some (true, .int .i64 x2.2)), (10, some (true, .int .i64 x3.1))], [(200, some (.row 2 1 (x3.2.map (V.int .i64))))]⟩) (fun x3 => ⟨[(0, some (true, .rp [.int .i64 m_.Junctions, .sl 7 (m_.Airways.map Ar.v)])), (1, some (true, .sl 1 (flows.map (V.int .i64)))), (7, some (true, .os 200 x3.2.length)), (9, some (true, .int .i64 x2.2))], [(200, some (.row 2 1 (x3.2.map (V.int .i64))))]⟩) ⟨by omega, by omega, by (simp only [lens] at * <;> omega)⟩ (by omega) (sub_of [] ⟨rfl, rfl, rfl, rfl, rfl, trivial⟩ ⟨rfl, trivial⟩ rfl) ?_ ?_
          · intro x3 i17
            obtain ⟨e18, e19, e20, e21⟩ := i17
            try dsimp only at *
            refine AK ?_
            refine Ad (Ag .n (.t rfl) rfl <| BM .n (.t rfl) (.c rfl) (fun _ => by omega) rfl <| Ah .n (.t rfl) rfl <| Lex.nil) ?_
            exact A5 (x3.2, x2.2 + 1) ⟨by omega, by omega, by (simp only [lens] at * <;> omega)⟩ (by omega) (sub_of [] ⟨rfl, rfl, rfl, rfl, trivial⟩ ⟨rfl, trivial⟩ rfl)
          · intro rec3 k3 hk11 x3 i12
            obtain ⟨e22, e23, e24⟩ := i12
            try dsimp only at *
            refine Af ?_
            refine Af ?_
            refine Ad (Ag .n (.t rfl) rfl <| Ag .n (.t rfl) rfl <| BS .n (.t rfl) rfl len_map ss_27 rfl <| AF .n (.t rfl) (.t rfl) rfl rfl <| Lex.nil) ?_
            refine Aq (.t rfl) rfl (fun h13 => ?_) (fun h13 => ?_)
            · try simp only [tst] at h13
              refine As ?_
              refine Af ?_
              refine Aw ?_
              refine Af ?_
              refine Af ?_
              refine Ad (Ag .n (.t rfl) rfl <| Ag .n (.t rfl) rfl <| A8 .n (.t rfl) (.t rfl) sl_27 (fun _ => by omega) rfl <| Ap .n (.t rfl) rfl ic_2 rfl <| AF .n (.t rfl) (.c rfl) rfl rfl <| Lex.nil) ?_
              refine Aq (.t rfl) rfl (fun h14 => ?_) (fun h14 => ?_)
              · try simp only [tst] at h14
                refine Bb rfl ?_
                refine Ad (Ag .n (.t rfl) rfl <| BM .n (.t rfl) (.c rfl) (fun _ => by omega) rfl <| Ah .n (.t rfl) rfl <| Lex.nil) ?_
                exact A5 (x3.1 + 1, x3.2) ⟨by omega, by omega, by omega⟩ (by omega) (sub_of [] ⟨rfl, rfl, rfl, rfl, rfl, trivial⟩ ⟨rfl, trivial⟩ rfl)
              · try simp only [tst] at h14
                refine As ?_
                refine Af ?_
                refine Ad (Ag .n (.t rfl) rfl <| Av .n (.t rfl) rfl <| Az .n (.t rfl) fo_26_1 rfl <| Ap .n (.t rfl) rfl ic_24 rfl <| Ag .n (.t rfl) rfl <| A8 .n (.t rfl) (.t rfl) sl_24 (fun _ => by omega) rfl <| Ah .n (.t rfl) rfl <| Lex.nil) ?_
                refine Af ?_
                refine Ad (Ag .n (.t rfl) rfl <| Ag .n (.t rfl) rfl <| Ag .n (.t rfl) rfl <| A8 .n (.t rfl) (.t rfl) sl_27 (fun _ => by omega) rfl <| Ap .n (.t rfl) rfl ic_2 rfl <| AJ (full := false) .n .f en_107 (.cons (.t rfl) (.cons (.t rfl) .nil)) (.cons (.b (.a (.same rfl))) (.cons (.b (.a (.same rfl))) .nil)) (fun hg => c_spec_l13Start (at' m_.Airways x3.1) (at' flows x3.1)) rfl (fun h => Bool.noConfusion h) rfl <| Ah .n (.t rfl) rfl <| Lex.nil) ?_
                refine Af ?_
                refine Ad (Ag .n (.t rfl) rfl <| Ag .n (.t rfl) rfl <| Ag .n (.t rfl) rfl <| A8 .n (.t rfl) (.t rfl) sl_27 (fun _ => by omega) rfl <| Ap .n (.t rfl) rfl ic_2 rfl <| q_neg .n (.t rfl) rfl <| AJ (full := false) .n .f en_107 (.cons (.t rfl) (.cons (.t rfl) .nil)) (.cons (.b (.a (.same rfl))) (.cons (.b (.a (.same rfl))) .nil)) (fun hg => c_spec_l13Start (at' m_.Airways x3.1) (IntKind.wrap .i64 (0 - (at' flows x3.1)))) rfl (fun h => Bool.noConfusion h) rfl <| Ah .n (.t rfl) rfl <| Lex.nil) ?_
                refine Af ?_
                refine Af ?_
                refine Ad (Ag .n (.t rfl) rfl <| Ag .n (.t rfl) rfl <| AZ .n (.t rfl) (.t rfl) sl_27 (fun _ => by ((have hw0 := start_in (at' flows x3.1) (hp1.at (i := x3.1) (by omega)); first | omega | (simp only [lens] at * <;> omega)))) rfl <| A2 .n (.t rfl) rfl (fun _ => by ((have hw0 := start_in (at' flows x3.1) (hp1.at (i := x3.1) (by omega)); first | omega | (simp only [lens] at * <;> omega)))) rfl rfl rfl ic_2 rfl <| AF .n (.t rfl) (.c rfl) rfl rfl <| Lex.nil) ?_
                refine Aq (.t rfl) rfl (fun h15 => ?_) (fun h15 => ?_)
                · try simp only [tst] at h15
                  refine Bb rfl ?_
                  refine Ad (Ag .n (.t rfl) rfl <| BM .n (.t rfl) (.c rfl) (fun _ => by omega) rfl <| Ah .n (.t rfl) rfl <| Lex.nil) ?_
                  exact A5 (x3.1 + 1, x3.2) ⟨by omega, by omega, by omega⟩ (by omega) (sub_of [] ⟨rfl, rfl, rfl, rfl, rfl, trivial⟩ ⟨rfl, trivial⟩ rfl)
                · try simp only [tst] at h15
                  refine As ?_
                  refine Af ?_
                  refine Bk fmo (Ag .n (.t rfl) rfl <| Ag .n (.t rfl) rfl <| AZ .n (.t rfl) (.t rfl) sl_27 (fun _ => by ((have hw0 := start_in (at' flows x3.1) (hp1.at (i := x3.1) (by omega)); first | omega | (simp only [lens] at * <;> omega)))) rfl <| A2 .n (.t rfl) rfl (fun _ => by ((have hw0 := start_in (at' flows x3.1) (hp1.at (i := x3.1) (by omega)); first | omega | (simp only [lens] at * <;> omega)))) rfl rfl rfl ic_2 rfl <| Ag .n (.t rfl) rfl <| Ag .n (.t rfl) rfl <| Ag .n (.t rfl) rfl <| A8 .n (.t rfl) (.t rfl) sl_27 (fun _ => by omega) rfl <| Ap .n (.t rfl) rfl ic_2 rfl <| AJ (full := false) .n .f en_108 (.cons (.t rfl) (.cons (.t rfl) .nil)) (.cons (.b (.a (.same rfl))) (.cons (.b (.a (.same rfl))) .nil)) (fun hg => c_spec_l03Time (at' m_.Airways x3.1) (at' flows x3.1) (by (exact hp2.at (by omega))) (by omega)) rfl (fun h => Bool.noConfusion h) rfl <| AF .n (.t rfl) (.t rfl) rfl rfl <| Ah .n (.t rfl) rfl <| Lex.nil) (by kernel_rfl) ?_
                  refine Af ?_
                  refine Ad (Ag .n (.t rfl) rfl <| Ag .n (.t rfl) rfl <| AZ .n (.t rfl) (.t rfl) sl_27 (fun _ => by ((have hw0 := start_in (IntKind.wrap .i64 (0 - at' flows x3.1)) (hp1.at (i := x3.1) (by omega)); first | omega | (simp only [lens] at * <;> omega)))) rfl <| A2 .n (.t rfl) rfl (fun _ => by ((have hw0 := start_in (IntKind.wrap .i64 (0 - at' flows x3.1)) (hp1.at (i := x3.1) (by omega)); first | omega | (simp only [lens] at * <;> omega)))) rfl rfl rfl ic_2 rfl <| AF .n (.t rfl) (.c rfl) rfl rfl <| Ag .n (.t rfl) rfl <| Ag (.f rfl rfl) (.t rfl) rfl <| Ag (.f rfl rfl) (.t rfl) rfl <| Ag (.f rfl rfl) (.t rfl) rfl <| AZ (.f rfl rfl) (.u rfl id) (.u rfl id) sl_27 (fun hg => by simp only [tst] at hg; ((have hw0 := start_in (IntKind.wrap .i64 (0 - at' flows x3.1)) (hp1.at (i := x3.1) (by omega)); first | omega | (simp only [lens] at * <;> omega)))) rfl <| A2 (.f rfl rfl) (.u rfl id) rfl (fun hg => by simp only [tst] at hg; ((have hw0 := start_in (IntKind.wrap .i64 (0 - at' flows x3.1)) (hp1.at (i := x3.1) (by omega)); first | omega | (simp only [lens] at * <;> omega)))) rfl rfl rfl ic_2 rfl <| AF (.f rfl rfl) (.u rfl id) (.u rfl id) rfl rfl <| q_or .n (.t rfl) (.u rfl id) rfl <| Lex.nil) ?_
                  refine Aq (.t rfl) rfl (fun h16 => ?_) (fun h16 => ?_)
                  · try simp only [tst] at h16
                    refine Ad (Ag .n (.t rfl) rfl <| Ag .n (.t rfl) rfl <| Ag .n (.t rfl) rfl <| AZ .n (.t rfl) (.t rfl) sl_27 (fun _ => by ((have hw0 := start_in (IntKind.wrap .i64 (0 - at' flows x3.1)) (hp1.at (i := x3.1) (by omega)); first | omega | (simp only [lens] at * <;> omega)))) rfl <| B0 (IntKind.wrap .i64 ((at' x3.2 (Bi (at' m_.Airways x3.1) (at' flows x3.1))) + (Cv (at' m_.Airways x3.1) (at' flows x3.1)))) .n rfl (.t rfl) (.t rfl) rfl ts_2 (by ((have hw0 := start_in (IntKind.wrap .i64 (0 - at' flows x3.1)) (hp1.at (i := x3.1) (by omega)); first | omega | (simp only [lens] at * <;> omega)))) rfl rfl <| Lex.nil) ?_
                    refine AK ?_
                    refine Ad (Ag .n (.t rfl) rfl <| BM .n (.t rfl) (.c rfl) (fun _ => by omega) rfl <| Ah .n (.t rfl) rfl <| Lex.nil) ?_
                    exact A5 (x3.1 + 1, put' x3.2 (Bi (at' m_.Airways x3.1) (IntKind.wrap .i64 (0 - (at' flows x3.1)))) (IntKind.wrap .i64 ((at' x3.2 (Bi (at' m_.Airways x3.1) (at' flows x3.1))) + (Cv (at' m_.Airways x3.1) (at' flows x3.1))))) ⟨by omega, by omega, by (simp only [lens] at * <;> omega)⟩ (by omega) (sub_of [] ⟨rfl, rfl, os_len rfl (by first | (simp only [put_len]; done) | (first | omega | assumption | (simp only [lens] at * <;> omega) | (((have hw0 := start_in (at' flows f.Airway) (hp1.at (i := f.Airway) (by omega)); first | omega | (simp only [lens] at * <;> omega))); done) | (((have hw0 := start_in (IntKind.wrap .i64 (0 - at' flows f.Airway)) (hp1.at (i := f.Airway) (by omega)); first | omega | (simp only [lens] at * <;> omega))); done) | (((have hw0 := start_in (at' flows x3.1) (hp1.at (i := x3.1) (by omega)); first | omega | (simp only [lens] at * <;> omega))); done) | (((have hw0 := start_in (IntKind.wrap .i64 (0 - at' flows x3.1)) (hp1.at (i := x3.1) (by omega)); first | omega | (simp only [lens] at * <;> omega))); done) | ((exact hp2.at (by omega)); done))), rfl, rfl, trivial⟩ ⟨rfl, trivial⟩ rfl)
                  · try simp only [tst] at h16
                    refine As ?_
                    refine AK ?_
                    refine Ad (Ag .n (.t rfl) rfl <| BM .n (.t rfl) (.c rfl) (fun _ => by omega) rfl <| Ah .n (.t rfl) rfl <| Lex.nil) ?_
                    exact A5 (x3.1 + 1, x3.2) ⟨by omega, by omega, by omega⟩ (by omega) (sub_of [] ⟨rfl, rfl, rfl, rfl, rfl, trivial⟩ ⟨rfl, trivial⟩ rfl)
            · try simp only [tst] at h13
              refine Bb rfl ?_
              exact AY hk11 (x3.1, x3.2) ⟨by omega, by omega, by omega, by omega⟩ (sub_of [] ⟨rfl, rfl, rfl, rfl, trivial⟩ ⟨rfl, trivial⟩ rfl)
        · try simp only [tst] at h10
          refine Bb rfl ?_
          exact AY hk8 (x2.1, x2.2) ⟨by omega, by omega, by omega, by omega⟩ (sub_of [] ⟨rfl, trivial⟩ ⟨rfl, trivial⟩ rfl)
  · intro rec1 k1 hk3 x1 i4
    obtain ⟨e38, e39, e40, e41⟩ := i4
    try dsimp only at *
    refine Af ?_
    refine Af ?_
    refine Ad (Ag .n (.t rfl) rfl <| Ag .n (.t rfl) rfl <| Av .n (.t rfl) rfl <| Az .n (.t rfl) fo_26_0 rfl <| Ap .n (.t rfl) rfl ic_2 rfl <| AF .n (.t rfl) (.t rfl) rfl rfl <| Lex.nil) ?_
    refine Aq (.t rfl) rfl (fun h5 => ?_) (fun h5 => ?_)
    · try simp only [tst] at h5
      refine As ?_
      refine Af ?_
      refine Aw ?_
      refine Ad (Ag .n (.t rfl) rfl <| AV K_6 (f := V.int .i64) (l := 201) .n rfl rfl (.cons (.c rfl) .nil) rfl si_27 zv_2 rfl rfl rfl <| CX (xs := x1.1) (ys := K_6) (f := V.int .i64) (l := 202) .n rfl (.ow (.t rfl) rfl (take_all (by simp only [len_map, put_len] <;> rfl)) (by simp only [len_map, put_len] <;> rfl)) (.ow (.t rfl) rfl (take_all (by simp only [len_map, put_len] <;> rfl)) (by simp only [len_map, put_len] <;> rfl)) si_27 zv_2 rfl (by (simp only [lens] at * <;> omega)) rfl rfl <| Ah .n (.t rfl) rfl <| Lex.nil) ?_
      refine AK ?_
      refine Ad (Ag .n (.t rfl) rfl <| BM .n (.t rfl) (.c rfl) (fun _ => by omega) rfl <| Ah .n (.t rfl) rfl <| Lex.nil) ?_
      exact A5 (x1.1 ++ K_6, x1.2 + 1) ⟨by omega, by omega, by (simp only [lens] at * <;> omega), by (simp only [lens] at * <;> omega)⟩ (by omega) (sub_of [(200, 202)] ⟨rfl, rfl, rfl, rfl, rfl, trivial⟩ ⟨rfl, trivial⟩ rfl)
    · try simp only [tst] at h5
      refine Bb rfl ?_
      exact AY hk3 (x1.1, x1.2) ⟨by omega, by omega, by omega, by omega, by omega⟩ (sub_of [] ⟨rfl, rfl, rfl, rfl, trivial⟩ ⟨rfl, trivial⟩ rfl)


end Go.Proofs.YtibbfdojcdkopaaGreat
