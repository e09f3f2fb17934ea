/-
  THE WALKS: each Go function computes its model. Conditions: as each theorem states them (hp1, hp2 ..).
-/
import Derived.Test.YtibbfdojcdkopaaGreatRefugesWalks4
set_option linter.unusedVariables false
set_option linter.unusedSimpArgs false
set_option linter.unusedSectionVars false
set_option linter.unnecessarySimpa false
namespace Go.Proofs.YtibbfdojcdkopaaGreat
open Go Go.RowKit Go.Proofs Go.Proofs.YtibbfdojcdkopaaGreat.E
/-! ### impl_sumOf -/
theorem c_impl_sumOf (list : List Int) : Con Tryz.prog 69 [.sl 1 (list.map (V.int .i64))] [] (.int .i64 (Ck list)) ([]) := by
  refine con_intro (out := fun r : Int => ((.int .i64 r : V), ([] : List (Nat × Option O)))) (r := (Ck list)) Tryz.func69 rfl Tryz.ntmps69 rfl ?_
  refine Bo (t := 0) rfl fun hl => ?_
  have l1 := hl; clear hl; simp only [List.length_map] at l1
  refine Ae ?_
  refine Ad (Ag .n (.c rfl) rfl <| Lex.nil) ?_
  refine Ae ?_
  refine Ad (Ag .n (.c rfl) rfl <| Lex.nil) ?_
  refine Ae ?_
  refine Ae ?_
  refine Ad (Af .n (.t rfl) rfl <| BD .n (.t rfl) rfl len_map ss_27 rfl <| Af .n (.c rfl) rfl <| Lex.nil) ?_
  refine AC ?_
  refine Bp (DC list) _ _ _ rfl (fun (x1 : Int × Int) => 0 ≤ x1.2 ∧ x1.2 ≤ (list.length : Int)) (fun x1 => 0 ≤ x1.2 ∧ x1.2 ≤ (list.length : Int) ∧ (list.length : Int) ≤ x1.2) (fun x1 => ((list.length : Int) - x1.2 : Int).toNat) (fun x1 => ⟨[(3, some (true, .int .i64 x1.1)), (6, some (true, .sl 1 (list.map (V.int .i64)))), (7, some (true, .int .i64 (list.length : Int))), (8, some (true, .int .i64 x1.2))], []⟩) (fun x1 => ⟨[(3, some (true, .int .i64 x1.1))], []⟩) ⟨by omega, by omega⟩ (by omega) (sub_of [] ⟨rfl, rfl, rfl, rfl, trivial⟩ trivial rfl) ?_ ?_
  · intro x1 i5
    obtain ⟨e6, e7, e8⟩ := i5
    try dsimp only at *
    refine Ae ?_
    refine Ad (Af .n (.t rfl) rfl <| Ag .n (.t rfl) rfl <| Lex.nil) ?_
    exact Ay [] (.cons (.t rfl rfl) .nil) rfl trivial rfl
  · intro rec1 k1 hk2 x1 i3
    obtain ⟨e9, e10⟩ := i3
    try dsimp only at *
    refine Ae ?_
    refine Ad (AK .n (.t rfl) (.t rfl) rfl rfl <| Lex.nil) ?_
    refine Ae ?_
    refine As (.t rfl) rfl (fun h4 => ?_) (fun h4 => ?_)
    · try simp only [tst] at h4
      refine Aw ?_
      refine Ae ?_
      refine AC ?_
      refine Ae ?_
      refine Ad (Bc .n (.t rfl) (.t rfl) sl_27 (fun _ => by omega) rfl <| Az .n (.t rfl) rfl ic_2 rfl <| Ag .n (.t rfl) rfl <| Lex.nil) ?_
      refine Ad (Af .n (.t rfl) rfl <| Af .n (.t rfl) rfl <| AK .n (.t rfl) (.t rfl) rfl rfl <| Ag .n (.t rfl) rfl <| Lex.nil) ?_
      refine AS ?_
      refine Ad (BQ .n (.t rfl) (.c rfl) (fun _ => by omega) rfl <| Af .n (.t rfl) rfl <| Lex.nil) ?_
      exact A6 (IntKind.wrap .i64 (x1.1 + (at' list x1.2)), x1.2 + 1) ⟨by omega, by omega⟩ (by omega) (sub_of [] ⟨rfl, rfl, rfl, rfl, trivial⟩ trivial rfl)
    · try simp only [tst] at h4
      refine Ba rfl ?_
      exact AY hk2 (x1.1, x1.2) ⟨by omega, by omega, by omega⟩ (sub_of [] ⟨rfl, trivial⟩ trivial rfl)

/-! ### impl_placeSearch_node -/
set_option maxRecDepth 100000 in
set_option maxHeartbeats 4000000 in
theorem DG (fuel : Nat) (self_ : Ar → Int → Ar) (ih : ∀ (s_ : Ar) (persons : Int) (hp1 : PI s_.sizes s_.reached s_.free s_.places persons) (hp2 : -1 ≤ s_.budget ∧ s_.budget ≤ 20000) (hp3 : s_.most < persons + rstf s_.sizes s_.places.length) (hmu : ((s_.sizes.length : Int) - s_.places.length).toNat < fuel), Con Tryz.prog 31 [.op 0 0 0 0, .int .i64 persons] [(0, some (.box 73 [.sl 1 (s_.sizes.map (V.int .i64)), .os 11 s_.reached.length, .os 12 s_.free.length, .int .i64 s_.budget, .os 14 s_.places.length, .os 15 s_.best.length, .int .i64 s_.most])), (11, some (.row 27 1 (s_.reached.map (slv 1 (V.int .i64))))), (12, some (.row 2 1 (s_.free.map (V.int .i64)))), (14, some (.row 2 1 (s_.places.map (V.int .i64)))), (15, some (.row 2 1 (s_.best.map (V.int .i64))))] (.tup []) ([(100, some (.row 27 1 ((self_ s_ persons).reached.map (slv 1 (V.int .i64))))), (101, some (.row 2 1 ((self_ s_ persons).free.map (V.int .i64)))), (102, some (.row 2 1 ((self_ s_ persons).places.map (V.int .i64)))), (103, some (.row 2 1 ((self_ s_ persons).best.map (V.int .i64)))), (0, some (.box 73 [.sl 1 (s_.sizes.map (V.int .i64)), .os 100 (self_ s_ persons).reached.length, .os 101 (self_ s_ persons).free.length, .int .i64 (self_ s_ persons).budget, .os 102 (self_ s_ persons).places.length, .os 103 (self_ s_ persons).best.length, .int .i64 (self_ s_ persons).most]))])) (hself : HS self_ fuel) (s_ : Ar) (place : Int) (persons : Int) (hp1 : PI s_.sizes s_.reached s_.free (s_.places ++ ([place] : List Int)) persons) (hp2 : -1 ≤ s_.budget ∧ s_.budget ≤ 20000) (hp3 : s_.most < persons + rstf s_.sizes (s_.places.length + 1)) (hp4 : s_.sizes.length - (s_.places.length + 1) < fuel) : Con Tryz.prog 70 [.op 0 0 0 0, .int .i64 place, .int .i64 persons] [(0, some (.box 73 [.sl 1 (s_.sizes.map (V.int .i64)), .os 11 s_.reached.length, .os 12 s_.free.length, .int .i64 s_.budget, .os 14 s_.places.length, .os 15 s_.best.length, .int .i64 s_.most])), (11, some (.row 27 1 (s_.reached.map (slv 1 (V.int .i64))))), (12, some (.row 2 1 (s_.free.map (V.int .i64)))), (14, some (.row 2 1 (s_.places.map (V.int .i64)))), (15, some (.row 2 1 (s_.best.map (V.int .i64))))] (.tup []) ([(100, some (.row 27 1 ((Aq self_ s_ place persons).reached.map (slv 1 (V.int .i64))))), (101, some (.row 2 1 ((Aq self_ s_ place persons).free.map (V.int .i64)))), (102, some (.row 2 1 ((Aq self_ s_ place persons).places.map (V.int .i64)))), (103, some (.row 2 1 ((Aq self_ s_ place persons).best.map (V.int .i64)))), (0, some (.box 73 [.sl 1 (s_.sizes.map (V.int .i64)), .os 100 (Aq self_ s_ place persons).reached.length, .os 101 (Aq self_ s_ place persons).free.length, .int .i64 (Aq self_ s_ place persons).budget, .os 102 (Aq self_ s_ place persons).places.length, .os 103 (Aq self_ s_ place persons).best.length, .int .i64 (Aq self_ s_ place persons).most]))]) := by
  refine con_intro (out := fun r : Ar => ((.tup [] : V), ([(100, some (.row 27 1 (r.reached.map (slv 1 (V.int .i64))))), (101, some (.row 2 1 (r.free.map (V.int .i64)))), (102, some (.row 2 1 (r.places.map (V.int .i64)))), (103, some (.row 2 1 (r.best.map (V.int .i64)))), (0, some (.box 73 [.sl 1 (s_.sizes.map (V.int .i64)), .os 100 r.reached.length, .os 101 r.free.length, .int .i64 r.budget, .os 102 r.places.length, .os 103 r.best.length, .int .i64 r.most]))] : List (Nat × Option O)))) (r := (Aq self_ s_ place persons)) Tryz.func70 rfl Tryz.ntmps70 rfl ?_
  have hpl := hp1.pl
  have hsl := hp1.sl
  have hw : IntKind.wrap .i64 (s_.budget - 1) = s_.budget - 1 := wr64 (by omega)
  have hla : (s_.places ++ ([place] : List Int)).length = s_.places.length + 1 := by simp
  have hsf : 0 ≤ IntKind.wrap .i64 (s_.budget - 1) → (self_ (Ar.mk s_.sizes s_.reached s_.free (IntKind.wrap .i64 (s_.budget - 1)) (s_.places ++ ([place] : List Int)) s_.best s_.most) persons).places = s_.places ++ ([place] : List Int) := fun hb => (hself _ _ hp1 ⟨by dsimp only; omega, by dsimp only; omega⟩ (by dsimp only; rw [hla]; exact hp3) (by dsimp only; rw [hla]; exact hp4)).2.2.1
  refine CZ (l := 11) rfl fun hl => ?_
  have l1 := hl; clear hl; simp only [List.length_map] at l1
  refine CZ (l := 12) rfl fun hl => ?_
  have l2 := hl; clear hl; simp only [List.length_map] at l2
  refine CZ (l := 14) rfl fun hl => ?_
  have l3 := hl; clear hl; simp only [List.length_map] at l3
  refine CZ (l := 15) rfl fun hl => ?_
  have l4 := hl; clear hl; simp only [List.length_map] at l4
  refine Ae ?_
  refine Ae ?_
  refine Ad (Af .n (.t rfl) rfl <| Bt .n (.t rfl) rfl <| AE .n (.t rfl) fo_73_3 rfl <| AP .n (.t rfl) rfl (.inr rfl) (fun _ => rfl) rfl ic_2 rfl <| AK .n (.t rfl) (.c rfl) rfl rfl <| Lex.nil) ?_
  refine As (.t rfl) rfl (fun h5 => ?_) (fun h5 => ?_)
  · try simp only [tst] at h5
    exact Ay [(100, 11), (101, 12), (102, 14), (103, 15)] .nil rfl ⟨rfl, rfl, rfl, rfl, rfl, trivial⟩ rfl
  · try simp only [tst] at h5
    refine Aw ?_
    refine Ae ?_
    refine Ae ?_
    refine Ad (Af .n (.t rfl) rfl <| Bt .n (.t rfl) rfl <| AE .n (.t rfl) fo_73_3 rfl <| AP .n (.t rfl) rfl (.inr rfl) (fun _ => rfl) rfl ic_2 rfl <| AK .n (.t rfl) (.c rfl) rfl rfl <| Bt .n (.t rfl) rfl <| AE .n (.t rfl) fo_73_3 rfl <| AL [.sl 1 (s_.sizes.map (V.int .i64)), .os 11 s_.reached.length, .os 12 s_.free.length, .int .i64 (IntKind.wrap .i64 (s_.budget - 1)), .os 14 s_.places.length, .os 15 s_.best.length, .int .i64 s_.most] .n rfl (.t rfl) (.t rfl) rfl ts_2 rfl rfl <| Lex.nil) ?_
    refine Ae ?_
    refine Ad (Af .n (.t rfl) rfl <| Bt .n (.t rfl) rfl <| AE .n (.t rfl) fo_73_3 rfl <| AP .n (.t rfl) rfl (.inr rfl) (fun _ => rfl) rfl ic_2 rfl <| AK .n (.t rfl) (.c rfl) rfl rfl <| Lex.nil) ?_
    refine As (.t rfl) rfl (fun h6 => ?_) (fun h6 => ?_)
    · try simp only [tst] at h6
      exact Ay [(100, 11), (101, 12), (102, 14), (103, 15)] .nil rfl ⟨rfl, rfl, rfl, rfl, rfl, trivial⟩ rfl
    · try simp only [tst] at h6
      refine Aw ?_
      refine Ae ?_
      refine Ad (Af .n (.t rfl) rfl <| Af .n (.t rfl) rfl <| Bt .n (.t rfl) rfl <| AE .n (.t rfl) fo_73_4 rfl <| AP .n (.t rfl) rfl (.inr rfl) (fun _ => rfl) rfl ic_27 rfl <| Af .n (.t rfl) rfl <| AW ([place] : List Int) (f := V.int .i64) (l := 200) .n rfl rfl (.cons (.t rfl) .nil) rfl si_27 zv_2 rfl rfl rfl <| CD (xs := s_.places) (ys := ([place] : List Int)) (f := V.int .i64) (l := 201) .n rfl (.ow (.t rfl) rfl (take_all (by simp only [len_map, put_len] <;> rfl)) (by simp only [len_map, put_len] <;> rfl)) (.ow (.t rfl) rfl (take_all (by simp only [len_map, put_len] <;> rfl)) (by simp only [len_map, put_len] <;> rfl)) si_27 zv_2 rfl (by omega) rfl rfl <| Bt .n (.t rfl) rfl <| AE .n (.t rfl) fo_73_4 rfl <| AL [.sl 1 (s_.sizes.map (V.int .i64)), .os 11 s_.reached.length, .os 12 s_.free.length, .int .i64 (IntKind.wrap .i64 (s_.budget - 1)), .os 201 (s_.places ++ ([place] : List Int)).length, .os 15 s_.best.length, .int .i64 s_.most] .n rfl (.t rfl) (.t rfl) rfl ts_27 rfl rfl <| Lex.nil) ?_
      refine Ae ?_
      refine Ad (Af .n (.t rfl) rfl <| Af .n (.t rfl) rfl <| AV (full := false) [(0, 0), (11, 11), (12, 12), (14, 201), (15, 15)] [(100, 202), (101, 203), (102, 204), (103, 205)] .n rfl .f en_31 (.cons (.t rfl) (.cons (.t rfl) .nil)) (.cons (.b (.mutp rfl)) (.cons (.b (.a (.same rfl))) .nil)) (ih (Ar.mk s_.sizes s_.reached s_.free (IntKind.wrap .i64 (s_.budget - 1)) (s_.places ++ ([place] : List Int)) s_.best s_.most) persons (by omega) (by (simp only [lens] at * <;> omega)) (by (simp only [lens] at * <;> omega)) (by (simp only [lens] at * <;> omega))) ⟨rfl, rfl, rfl, rfl, rfl, trivial⟩ rfl rfl (fun h => Bool.noConfusion h) (fun h => Bool.noConfusion h) rfl <| Lex.nil) ?_
      refine Bl fmo (Af .n (.t rfl) rfl <| Af .n (.t rfl) rfl <| Bt .n (.t rfl) rfl <| AE .n (.t rfl) fo_73_4 rfl <| AP .n (.t rfl) rfl (.inr rfl) (fun _ => rfl) rfl ic_27 rfl <| Af .n (.t rfl) rfl <| Bt .n (.t rfl) rfl <| AE .n (.t rfl) fo_73_4 rfl <| AP .n (.t rfl) rfl (.inr rfl) (fun _ => rfl) rfl ic_27 rfl <| BD .n (.t rfl) rfl rfl ss_27 rfl <| AK .n (.t rfl) (.c rfl) rfl rfl <| q_cut_owm (xs := (self_ (Ar.mk s_.sizes s_.reached s_.free (IntKind.wrap .i64 (s_.budget - 1)) (s_.places ++ ([place] : List Int)) s_.best s_.most) persons).places) (b := (IntKind.wrap .i64 (((self_ (Ar.mk s_.sizes s_.reached s_.free (IntKind.wrap .i64 (s_.budget - 1)) (s_.places ++ ([place] : List Int)) s_.best s_.most) persons).places.length : Int) - 1))) .n (.t rfl) (.s (.t rfl)) sl_27 (fun _ => by ((have hq := hsf (by omega); rw [hq, hla, wr64 (by omega)]; omega))) rfl <| Bt .n (.t rfl) rfl <| AE .n (.t rfl) fo_73_4 rfl <| AL [.sl 1 (s_.sizes.map (V.int .i64)), .os 202 (self_ (Ar.mk s_.sizes s_.reached s_.free (IntKind.wrap .i64 (s_.budget - 1)) (s_.places ++ ([place] : List Int)) s_.best s_.most) persons).reached.length, .os 203 (self_ (Ar.mk s_.sizes s_.reached s_.free (IntKind.wrap .i64 (s_.budget - 1)) (s_.places ++ ([place] : List Int)) s_.best s_.most) persons).free.length, .int .i64 (self_ (Ar.mk s_.sizes s_.reached s_.free (IntKind.wrap .i64 (s_.budget - 1)) (s_.places ++ ([place] : List Int)) s_.best s_.most) persons).budget, .os 204 (pre' (self_ (Ar.mk s_.sizes s_.reached s_.free (IntKind.wrap .i64 (s_.budget - 1)) (s_.places ++ ([place] : List Int)) s_.best s_.most) persons).places (IntKind.wrap .i64 (((self_ (Ar.mk s_.sizes s_.reached s_.free (IntKind.wrap .i64 (s_.budget - 1)) (s_.places ++ ([place] : List Int)) s_.best s_.most) persons).places.length : Int) - 1))).length, .os 205 (self_ (Ar.mk s_.sizes s_.reached s_.free (IntKind.wrap .i64 (s_.budget - 1)) (s_.places ++ ([place] : List Int)) s_.best s_.most) persons).best.length, .int .i64 (self_ (Ar.mk s_.sizes s_.reached s_.free (IntKind.wrap .i64 (s_.budget - 1)) (s_.places ++ ([place] : List Int)) s_.best s_.most) persons).most] .n rfl (.t rfl) (.t rfl) rfl ts_27 rfl rfl <| Lex.nil) (by kernel_rfl) ?_
      refine run_shrink (f := V.int .i64) (xs := (self_ (Ar.mk s_.sizes s_.reached s_.free (IntKind.wrap .i64 (s_.budget - 1)) (s_.places ++ ([place] : List Int)) s_.best s_.most) persons).places) (l := 204) (IntKind.wrap .i64 (((self_ (Ar.mk s_.sizes s_.reached s_.free (IntKind.wrap .i64 (s_.budget - 1)) (s_.places ++ ([place] : List Int)) s_.best s_.most) persons).places.length : Int) - 1)) rfl ?_
      exact run_end [(100, 202), (101, 203), (102, 204), (103, 205)] .nil rfl ⟨rfl, rfl, rfl, rfl, rfl, trivial⟩ rfl

/-! ### impl_placeSearch_visit -/
set_option maxRecDepth 100000 in
set_option maxHeartbeats 4000000 in
theorem c_impl_placeSearch_visit_n : ∀ (fuel : Nat) (s_ : Ar) (persons : Int) (hp1 : PI s_.sizes s_.reached s_.free s_.places persons) (hp2 : -1 ≤ s_.budget ∧ s_.budget ≤ 20000) (hp3 : s_.most < persons + rstf s_.sizes s_.places.length) (hmu : ((s_.sizes.length : Int) - s_.places.length).toNat < fuel), Con Tryz.prog 31 [.op 0 0 0 0, .int .i64 persons] [(0, some (.box 73 [.sl 1 (s_.sizes.map (V.int .i64)), .os 11 s_.reached.length, .os 12 s_.free.length, .int .i64 s_.budget, .os 14 s_.places.length, .os 15 s_.best.length, .int .i64 s_.most])), (11, some (.row 27 1 (s_.reached.map (slv 1 (V.int .i64))))), (12, some (.row 2 1 (s_.free.map (V.int .i64)))), (14, some (.row 2 1 (s_.places.map (V.int .i64)))), (15, some (.row 2 1 (s_.best.map (V.int .i64))))] (.tup []) ([(100, some (.row 27 1 ((m_impl_placeSearch_visit_n fuel s_ persons).reached.map (slv 1 (V.int .i64))))), (101, some (.row 2 1 ((m_impl_placeSearch_visit_n fuel s_ persons).free.map (V.int .i64)))), (102, some (.row 2 1 ((m_impl_placeSearch_visit_n fuel s_ persons).places.map (V.int .i64)))), (103, some (.row 2 1 ((m_impl_placeSearch_visit_n fuel s_ persons).best.map (V.int .i64)))), (0, some (.box 73 [.sl 1 (s_.sizes.map (V.int .i64)), .os 100 (m_impl_placeSearch_visit_n fuel s_ persons).reached.length, .os 101 (m_impl_placeSearch_visit_n fuel s_ persons).free.length, .int .i64 (m_impl_placeSearch_visit_n fuel s_ persons).budget, .os 102 (m_impl_placeSearch_visit_n fuel s_ persons).places.length, .os 103 (m_impl_placeSearch_visit_n fuel s_ persons).best.length, .int .i64 (m_impl_placeSearch_visit_n fuel s_ persons).most]))]) := by
  intro fuel
  induction fuel with
  | zero => intro s_ persons hp1 hp2 hp3 hmu; exact absurd hmu (Nat.not_lt_zero _)
  | succ fuel ih =>
  intro s_ persons hp1 hp2 hp3 hmu
  simp only [m_impl_placeSearch_visit_n]
  have hself := post_impl_placeSearch_visit fuel
  generalize m_impl_placeSearch_visit_n fuel = self_ at ih hself ⊢
  refine con_intro (out := fun r : Ar => ((.tup [] : V), ([(100, some (.row 27 1 (r.reached.map (slv 1 (V.int .i64))))), (101, some (.row 2 1 (r.free.map (V.int .i64)))), (102, some (.row 2 1 (r.places.map (V.int .i64)))), (103, some (.row 2 1 (r.best.map (V.int .i64)))), (0, some (.box 73 [.sl 1 (s_.sizes.map (V.int .i64)), .os 100 r.reached.length, .os 101 r.free.length, .int .i64 r.budget, .os 102 r.places.length, .os 103 r.best.length, .int .i64 r.most]))] : List (Nat × Option O)))) (r := (m_impl_placeSearch_visit_body self_ s_ persons)) Tryz.func31 rfl Tryz.ntmps31 rfl ?_
  have hpl := hp1.pl
  have hsl := hp1.sl
  have hrl := hp1.rl
  have hsm := hp1.sm
  have hat : ∀ i : Int, 0 ≤ i → i < ((at' s_.reached (s_.places.length : Int)).length : Int) → s_.places.length < s_.sizes.length → (0 ≤ at' (at' s_.reached (s_.places.length : Int)) i ∧ at' (at' s_.reached (s_.places.length : Int)) i < s_.free.length) ∧ (1 ≤ at' s_.sizes (s_.places.length : Int) ∧ at' s_.sizes (s_.places.length : Int) ≤ 200) ∧ 0 ≤ at' s_.free (at' (at' s_.reached (s_.places.length : Int)) i) ∧ at' s_.free (at' (at' s_.reached (s_.places.length : Int)) i) ≤ 200 := fun i h1 h2 h3 => hp1.at_ h3 (at_mem ⟨h1, h2⟩)
  refine CN (s' := ⟨[(0, some (true, .op 0 0 0 0)), (1, some (true, .int .i64 persons))], [(0, some (.box 73 [.sl 1 (s_.sizes.map (V.int .i64)), .os 200 s_.reached.length, .os 201 s_.free.length, .int .i64 s_.budget, .os 202 s_.places.length, .os 203 s_.best.length, .int .i64 s_.most])), (200, some (.row 27 1 (s_.reached.map (slv 1 (V.int .i64))))), (201, some (.row 2 1 (s_.free.map (V.int .i64)))), (202, some (.row 2 1 (s_.places.map (V.int .i64)))), (203, some (.row 2 1 (s_.best.map (V.int .i64))))]⟩) (sub_of [(200, 11), (201, 12), (202, 14), (203, 15)] ⟨rfl, rfl, trivial⟩ ⟨rfl, rfl, rfl, rfl, rfl, trivial⟩ rfl) ?_
  refine CZ (l := 200) rfl fun hl => ?_
  have l1 := hl; clear hl; simp only [List.length_map] at l1
  refine CZ (l := 201) rfl fun hl => ?_
  have l2 := hl; clear hl; simp only [List.length_map] at l2
  refine CZ (l := 202) rfl fun hl => ?_
  have l3 := hl; clear hl; simp only [List.length_map] at l3
  refine CZ (l := 203) rfl fun hl => ?_
  have l4 := hl; clear hl; simp only [List.length_map] at l4
  refine Ae ?_
  refine Ad (Af .n (.t rfl) rfl <| Bt .n (.t rfl) rfl <| AE .n (.t rfl) fo_73_4 rfl <| AP .n (.t rfl) rfl (.inr rfl) (fun _ => rfl) rfl ic_27 rfl <| BD .n (.t rfl) rfl rfl ss_27 rfl <| Ag .n (.t rfl) rfl <| Lex.nil) ?_
  refine Ae ?_
  refine Ae ?_
  refine Ad (Af .n (.t rfl) rfl <| Af .n (.t rfl) rfl <| Bt .n (.t rfl) rfl <| AE .n (.t rfl) fo_73_0 rfl <| AP .n (.t rfl) rfl (.inr rfl) (fun _ => rfl) rfl ic_27 rfl <| BD .n (.t rfl) rfl len_map ss_27 rfl <| AK .n (.t rfl) (.t rfl) rfl rfl <| Lex.nil) ?_
  refine Bo (t := 18) rfl fun hl => ?_
  have l5 := hl; clear hl; simp only [List.length_map] at l5
  refine As (.t rfl) rfl (fun h6 => ?_) (fun h6 => ?_)
  · try simp only [tst] at h6
    refine Ae ?_
    refine Ad (Af .n (.t rfl) rfl <| Af .n (.t rfl) rfl <| Af .n (.t rfl) rfl <| Bt .n (.t rfl) rfl <| AE .n (.t rfl) fo_73_4 rfl <| AP .n (.t rfl) rfl (.inr rfl) (fun _ => rfl) rfl ic_27 rfl <| AV (full := true) [] [(100, 204)] .n rfl .f en_68 (.cons (.t rfl) .nil) (.cons (.b (.a (.own rfl rfl rfl (take_all (by simp only [len_map, put_len] <;> rfl)) (by simp only [len_map, put_len] <;> rfl)))) .nil) (c_slices_Clone_int64 s_.places (by omega)) trivial rfl rfl (fun _ => rfl) (fun _ => (hr_row (fun _ => rfl) hr_nil)) rfl <| Af .n (.t rfl) rfl <| Bt .n (.t rfl) rfl <| AE .n (.t rfl) fo_73_5 rfl <| AL [.sl 1 (s_.sizes.map (V.int .i64)), .os 200 s_.reached.length, .os 201 s_.free.length, .int .i64 s_.budget, .os 202 s_.places.length, .os 204 (BT s_.places).length, .int .i64 s_.most] .n rfl (.t rfl) (.t rfl) rfl ts_27 rfl rfl <| Bt .n (.t rfl) rfl <| AE .n (.t rfl) fo_73_6 rfl <| AL [.sl 1 (s_.sizes.map (V.int .i64)), .os 200 s_.reached.length, .os 201 s_.free.length, .int .i64 s_.budget, .os 202 s_.places.length, .os 204 (BT s_.places).length, .int .i64 persons] .n rfl (.t rfl) (.t rfl) rfl ts_2 rfl rfl <| Lex.nil) ?_
    exact Ay [(100, 200), (101, 201), (102, 202), (103, 204)] .nil rfl ⟨rfl, rfl, rfl, rfl, rfl, trivial⟩ rfl
  · try simp only [tst] at h6
    refine Aw ?_
    refine Ae ?_
    refine Bl fmo (Af .n (.t rfl) rfl <| Bt .n (.t rfl) rfl <| AE .n (.t rfl) fo_73_0 rfl <| AP .n (.t rfl) rfl (.inr rfl) (fun _ => rfl) rfl ic_27 rfl <| Af .n (.t rfl) rfl <| Bc .n (.t rfl) (.t rfl) sl_27 (fun _ => by omega) rfl <| Az .n (.t rfl) rfl ic_2 rfl <| Af .n (.t rfl) rfl <| Bt .n (.t rfl) rfl <| AE .n (.t rfl) fo_73_0 rfl <| AP .n (.t rfl) rfl (.inr rfl) (fun _ => rfl) rfl ic_27 rfl <| Af .n (.t rfl) rfl <| BQ .n (.t rfl) (.c rfl) (fun _ => by omega) rfl <| q_cut_rm ((s_.places.length : Int) + 1) (s_.sizes.length : Int) .n (.t rfl) (.s (.t rfl)) .n sl_27 rfl rfl (fun _ => by omega) rfl <| AR (full := false) .n .f en_69 (.cons (.t rfl) .nil) (.cons (.b (.a (.same rfl))) .nil) (fun hg => c_impl_sumOf (cut' s_.sizes ((s_.places.length : Int) + 1) (s_.sizes.length : Int))) rfl (fun h => Bool.noConfusion h) rfl <| Ag .n (.t rfl) rfl <| Ag .n (.t rfl) rfl <| Lex.nil) (by kernel_rfl) ?_
    refine Ae ?_
    refine Ae ?_
    refine Ad (Af .n (.t rfl) rfl <| Bt .n (.t rfl) rfl <| AE .n (.t rfl) fo_73_1 rfl <| AP .n (.t rfl) rfl (.inr rfl) (fun _ => rfl) rfl ic_71 rfl <| Af .n (.t rfl) rfl <| AX .n (.t rfl) (.t rfl) sl_71 (fun _ => by omega) rfl <| A3 .n (.t rfl) rfl (fun _ => by omega) rfl rfl rfl ic_27 rfl <| BD .n (.t rfl) rfl len_map ss_27 rfl <| Af .n (.c rfl) rfl <| Lex.nil) ?_
    refine Bo (t := 54) rfl fun hl => ?_
    have l7 := hl; clear hl; simp only [List.length_map] at l7
    refine AC ?_
    refine Bp (B6 self_ s_ persons) _ _ _ rfl (fun (x1 : (List (List Int)) × (List Int) × Int × (List Int) × (List Int) × Int × Int) => 0 ≤ x1.2.2.2.2.2.2 ∧ x1.2.2.2.2.2.2 ≤ ((at' s_.reached (s_.places.length : Int)).length : Int) ∧ x1.1 = s_.reached ∧ x1.2.1 = s_.free ∧ x1.2.2.2.1 = s_.places ∧ (-1 ≤ x1.2.2.1 ∧ x1.2.2.1 ≤ 20000)) (fun x1 => 0 ≤ x1.2.2.2.2.2.2 ∧ x1.2.2.2.2.2.2 ≤ ((at' s_.reached (s_.places.length : Int)).length : Int) ∧ x1.1 = s_.reached ∧ x1.2.1 = s_.free ∧ x1.2.2.2.1 = s_.places ∧ (-1 ≤ x1.2.2.1 ∧ x1.2.2.1 ≤ 20000) ∧ ((at' s_.reached (s_.places.length : Int)).length : Int) ≤ x1.2.2.2.2.2.2) (fun x1 => (((at' s_.reached (s_.places.length : Int)).length : Int) - x1.2.2.2.2.2.2 : Int).toNat) (fun x1 => ⟨[(0, some (true, .op 0 0 0 0)), (1, some (true, .int .i64 persons)), (5, some (true, .int .i64 (at' s_.sizes (s_.places.length : Int)))), (6, some (true, .int .i64 (Ck (cut' s_.sizes ((s_.places.length : Int) + 1) (s_.sizes.length : Int))))), (54, some (true, .sl 1 ((at' s_.reached (s_.places.length : Int)).map (V.int .i64)))), (55, some (true, .int .i64 ((at' s_.reached (s_.places.length : Int)).length : Int))), (56, some (true, .int .i64 x1.2.2.2.2.2.2))], [(0, some (.box 73 [.sl 1 (s_.sizes.map (V.int .i64)), .os 200 x1.1.length, .os 201 x1.2.1.length, .int .i64 x1.2.2.1, .os 202 x1.2.2.2.1.length, .os 203 x1.2.2.2.2.1.length, .int .i64 x1.2.2.2.2.2.1])), (200, some (.row 27 1 (x1.1.map (slv 1 (V.int .i64))))), (201, some (.row 2 1 (x1.2.1.map (V.int .i64)))), (202, some (.row 2 1 (x1.2.2.2.1.map (V.int .i64)))), (203, some (.row 2 1 (x1.2.2.2.2.1.map (V.int .i64))))]⟩) (fun x1 => ⟨[(0, some (true, .op 0 0 0 0)), (1, some (true, .int .i64 persons)), (6, some (true, .int .i64 (Ck (cut' s_.sizes ((s_.places.length : Int) + 1) (s_.sizes.length : Int)))))], [(0, some (.box 73 [.sl 1 (s_.sizes.map (V.int .i64)), .os 200 x1.1.length, .os 201 x1.2.1.length, .int .i64 x1.2.2.1, .os 202 x1.2.2.2.1.length, .os 203 x1.2.2.2.2.1.length, .int .i64 x1.2.2.2.2.2.1])), (200, some (.row 27 1 (x1.1.map (slv 1 (V.int .i64))))), (201, some (.row 2 1 (x1.2.1.map (V.int .i64)))), (202, some (.row 2 1 (x1.2.2.2.1.map (V.int .i64)))), (203, some (.row 2 1 (x1.2.2.2.2.1.map (V.int .i64))))]⟩) ⟨by (simp only [lens] at * <;> omega), by (simp only [lens] at * <;> omega), by (simp only [lens] at * <;> omega), by (simp only [lens] at * <;> omega), by (simp only [lens] at * <;> omega), by omega⟩ (by (simp only [lens] at * <;> omega)) (sub_of [] ⟨rfl, rfl, rfl, rfl, rfl, rfl, rfl, trivial⟩ ⟨rfl, rfl, rfl, rfl, rfl, trivial⟩ rfl) ?_ ?_
    · intro x1 i12
      obtain ⟨e14, e15, e16, e17, e18, e19, e20⟩ := i12
      try dsimp only at *
      refine Ae ?_
      refine Ad (Af .n (.t rfl) rfl <| Af .n (.t rfl) rfl <| AK .n (.t rfl) (.t rfl) rfl rfl <| Af .n (.t rfl) rfl <| Bt .n (.t rfl) rfl <| AE .n (.t rfl) fo_73_6 rfl <| AP .n (.t rfl) rfl (.inr rfl) (fun _ => rfl) rfl ic_2 rfl <| AK .n (.t rfl) (.t rfl) rfl rfl <| Lex.nil) ?_
      refine As (.t rfl) rfl (fun h13 => ?_) (fun h13 => ?_)
      · try simp only [tst] at h13
        refine Ad (Af .n (.t rfl) rfl <| Af .n (.t rfl) rfl <| AV (full := false) [(0, 0), (11, 200), (12, 201), (14, 202), (15, 203)] [(100, 209), (101, 210), (102, 211), (103, 212)] .n rfl .f en_70 (.cons (.t rfl) (.cons (.c rfl) (.cons (.t rfl) .nil))) (.cons (.b (.mutp rfl)) (.cons (.b (.a (.same rfl))) (.cons (.b (.a (.same rfl))) .nil))) (DG fuel self_ ih hself (Ar.mk s_.sizes x1.1 x1.2.1 x1.2.2.1 x1.2.2.2.1 x1.2.2.2.2.1 x1.2.2.2.2.2.1) (-1) persons (by (exact (visit_last (fuel := fuel) (re := x1.1) (fr := x1.2.1) (pl := x1.2.2.2.1) (mo := x1.2.2.2.2.2.1) hp1 (by omega) (by omega) (by assumption) (by assumption) (by assumption) (by first | assumption | omega)).1)) (by omega) (by (exact (visit_last (fuel := fuel) (re := x1.1) (fr := x1.2.1) (pl := x1.2.2.2.1) (mo := x1.2.2.2.2.2.1) hp1 (by omega) (by omega) (by assumption) (by assumption) (by assumption) (by first | assumption | omega)).2.1)) (by (exact (visit_last (fuel := fuel) (re := x1.1) (fr := x1.2.1) (pl := x1.2.2.2.1) (mo := x1.2.2.2.2.2.1) hp1 (by omega) (by omega) (by assumption) (by assumption) (by assumption) (by first | assumption | omega)).2.2))) ⟨rfl, rfl, rfl, rfl, rfl, trivial⟩ rfl rfl (fun h => Bool.noConfusion h) (fun h => Bool.noConfusion h) rfl <| Lex.nil) ?_
        exact run_end [(100, 209), (101, 210), (102, 211), (103, 212)] .nil rfl ⟨rfl, rfl, rfl, rfl, rfl, trivial⟩ rfl
      · try simp only [tst] at h13
        refine Aw ?_
        exact run_end [(100, 200), (101, 201), (102, 202), (103, 203)] .nil rfl ⟨rfl, rfl, rfl, rfl, rfl, trivial⟩ rfl
    · intro rec1 k1 hk8 x1 i9
      obtain ⟨e21, e22, e23, e24, e25, e26⟩ := i9
      try dsimp only at *
      refine Ae ?_
      refine Ad (AK .n (.t rfl) (.t rfl) rfl rfl <| Lex.nil) ?_
      refine Ae ?_
      refine As (.t rfl) rfl (fun h10 => ?_) (fun h10 => ?_)
      · try simp only [tst] at h10
        refine Aw ?_
        refine Ae ?_
        refine AC ?_
        refine Ae ?_
        refine Ad (Bc .n (.t rfl) (.t rfl) sl_27 (fun _ => by omega) rfl <| Az .n (.t rfl) rfl ic_2 rfl <| Ag .n (.t rfl) rfl <| Lex.nil) ?_
        refine Ae ?_
        refine Ad (Af .n (.t rfl) rfl <| Bt .n (.t rfl) rfl <| AE .n (.t rfl) fo_73_2 rfl <| AP .n (.t rfl) rfl (.inr rfl) (fun _ => rfl) rfl ic_27 rfl <| Af .n (.t rfl) rfl <| AX .n (.t rfl) (.t rfl) sl_27 (fun _ => by ((have hf : x1.2.1 = s_.free := (by assumption); have hq := hat x1.2.2.2.2.2.2 (by omega) (by omega) (by omega); (try dsimp only); (try simp only [hf, put_len]); omega))) rfl <| A3 .n (.t rfl) rfl (fun _ => by ((have hf : x1.2.1 = s_.free := (by assumption); have hq := hat x1.2.2.2.2.2.2 (by omega) (by omega) (by omega); (try dsimp only); (try simp only [hf, put_len]); omega))) rfl rfl rfl ic_2 rfl <| Af .n (.t rfl) rfl <| AK .n (.t rfl) (.t rfl) rfl rfl <| Af .n (.t rfl) rfl <| Af (.t rfl rfl) (.t rfl) rfl <| Af (.t rfl rfl) (.t rfl) rfl <| AK (.t rfl rfl) (.u rfl id) (.u rfl id) rfl rfl <| Af (.t rfl rfl) (.t rfl) rfl <| AK (.t rfl rfl) (.u rfl id) (.u rfl id) rfl rfl <| Af (.t rfl rfl) (.t rfl) rfl <| Bt (.t rfl rfl) (.u rfl id) rfl <| AE (.t rfl rfl) (.u rfl id) fo_73_6 rfl <| AP (.t rfl rfl) (.u rfl id) rfl (.inr rfl) (fun _ => rfl) rfl ic_2 rfl <| AK (.t rfl rfl) (.u rfl id) (.u rfl id) rfl rfl <| Cz .n (.t rfl) (.u rfl id) rfl <| Lex.nil) ?_
        refine As (.t rfl) rfl (fun h11 => ?_) (fun h11 => ?_)
        · try simp only [tst] at h11
          refine Ae ?_
          refine Ad (Af .n (.t rfl) rfl <| Bt .n (.t rfl) rfl <| AE .n (.t rfl) fo_73_2 rfl <| AP .n (.t rfl) rfl (.inr rfl) (fun _ => rfl) rfl ic_27 rfl <| Af .n (.t rfl) rfl <| AX .n (.t rfl) (.t rfl) sl_27 (fun _ => by ((have hf : x1.2.1 = s_.free := (by assumption); have hq := hat x1.2.2.2.2.2.2 (by omega) (by omega) (by omega); (try dsimp only); (try simp only [hf, put_len]); omega))) rfl <| A3 .n (.t rfl) rfl (fun _ => by ((have hf : x1.2.1 = s_.free := (by assumption); have hq := hat x1.2.2.2.2.2.2 (by omega) (by omega) (by omega); (try dsimp only); (try simp only [hf, put_len]); omega))) rfl rfl rfl ic_2 rfl <| Af .n (.t rfl) rfl <| AK .n (.t rfl) (.t rfl) rfl rfl <| AX .n (.t rfl) (.t rfl) sl_27 (fun _ => by ((have hf : x1.2.1 = s_.free := (by assumption); have hq := hat x1.2.2.2.2.2.2 (by omega) (by omega) (by omega); (try dsimp only); (try simp only [hf, put_len]); omega))) rfl <| B0 (IntKind.wrap .i64 ((at' x1.2.1 (at' (at' s_.reached (s_.places.length : Int)) x1.2.2.2.2.2.2)) - (at' s_.sizes (s_.places.length : Int)))) .n rfl (.t rfl) (.t rfl) rfl ts_2 (by ((have hf : x1.2.1 = s_.free := (by assumption); have hq := hat x1.2.2.2.2.2.2 (by omega) (by omega) (by omega); (try dsimp only); (try simp only [hf, put_len]); omega))) rfl rfl <| Lex.nil) ?_
          refine Ae ?_
          refine Ad (Af .n (.t rfl) rfl <| Af .n (.t rfl) rfl <| Af .n (.t rfl) rfl <| Af .n (.t rfl) rfl <| AK .n (.t rfl) (.t rfl) rfl rfl <| AV (full := false) [(0, 0), (11, 200), (12, 201), (14, 202), (15, 203)] [(100, 205), (101, 206), (102, 207), (103, 208)] .n rfl .f en_70 (.cons (.t rfl) (.cons (.t rfl) (.cons (.t rfl) .nil))) (.cons (.b (.mutp rfl)) (.cons (.b (.a (.same rfl))) (.cons (.b (.a (.same rfl))) .nil))) (DG fuel self_ ih hself (Ar.mk s_.sizes x1.1 (put' x1.2.1 (at' (at' s_.reached (s_.places.length : Int)) x1.2.2.2.2.2.2) (IntKind.wrap .i64 ((at' x1.2.1 (at' (at' s_.reached (s_.places.length : Int)) x1.2.2.2.2.2.2)) - (at' s_.sizes (s_.places.length : Int))))) x1.2.2.1 x1.2.2.2.1 x1.2.2.2.2.1 x1.2.2.2.2.2.1) (at' (at' s_.reached (s_.places.length : Int)) x1.2.2.2.2.2.2) (IntKind.wrap .i64 (persons + (at' s_.sizes (s_.places.length : Int)))) (by (exact (visit_step (fuel := fuel) (re := x1.1) (fr := x1.2.1) (bu := x1.2.2.1) (pl := x1.2.2.2.1) (be := x1.2.2.2.2.1) (mo := x1.2.2.2.2.2.1) (i := x1.2.2.2.2.2.2) hself hp1 (by omega) (by omega) (by assumption) (by assumption) (by assumption) (by omega) (by omega) (by first | assumption | omega) (by first | assumption | omega)).1)) (by omega) (by (exact (visit_step (fuel := fuel) (re := x1.1) (fr := x1.2.1) (bu := x1.2.2.1) (pl := x1.2.2.2.1) (be := x1.2.2.2.2.1) (mo := x1.2.2.2.2.2.1) (i := x1.2.2.2.2.2.2) hself hp1 (by omega) (by omega) (by assumption) (by assumption) (by assumption) (by omega) (by omega) (by first | assumption | omega) (by first | assumption | omega)).2.1)) (by (exact (visit_step (fuel := fuel) (re := x1.1) (fr := x1.2.1) (bu := x1.2.2.1) (pl := x1.2.2.2.1) (be := x1.2.2.2.2.1) (mo := x1.2.2.2.2.2.1) (i := x1.2.2.2.2.2.2) hself hp1 (by omega) (by omega) (by assumption) (by assumption) (by assumption) (by omega) (by omega) (by first | assumption | omega) (by first | assumption | omega)).2.2.1))) ⟨(Eq.trans (b := some (.box 73 [.sl 1 (s_.sizes.map (V.int .i64)), .os 200 x1.1.length, .os 201 x1.2.1.length, .int .i64 x1.2.2.1, .os 202 x1.2.2.2.1.length, .os 203 x1.2.2.2.2.1.length, .int .i64 x1.2.2.2.2.2.1] : O)) rfl (Eq.trans (b := some (.box 73 [.sl 1 (s_.sizes.map (V.int .i64)), .os 200 x1.1.length, .os 201 (put' x1.2.1 (at' (at' s_.reached (s_.places.length : Int)) x1.2.2.2.2.2.2) (IntKind.wrap .i64 ((at' x1.2.1 (at' (at' s_.reached (s_.places.length : Int)) x1.2.2.2.2.2.2)) - (at' s_.sizes (s_.places.length : Int))))).length, .int .i64 x1.2.2.1, .os 202 x1.2.2.2.1.length, .os 203 x1.2.2.2.2.1.length, .int .i64 x1.2.2.2.2.2.1] : O)) (by simp only [put_len]) rfl)), rfl, rfl, rfl, rfl, trivial⟩ rfl rfl (fun h => Bool.noConfusion h) (fun h => Bool.noConfusion h) rfl <| Lex.nil) ?_
          refine Ad (Af .n (.t rfl) rfl <| Bt .n (.t rfl) rfl <| AE .n (.t rfl) fo_73_2 rfl <| AP .n (.t rfl) rfl (.inr rfl) (fun _ => rfl) rfl ic_27 rfl <| Af .n (.t rfl) rfl <| AX .n (.t rfl) (.t rfl) sl_27 (fun _ => by (exact (visit_step (fuel := fuel) (re := x1.1) (fr := x1.2.1) (bu := x1.2.2.1) (pl := x1.2.2.2.1) (be := x1.2.2.2.2.1) (mo := x1.2.2.2.2.2.1) (i := x1.2.2.2.2.2.2) hself hp1 (by omega) (by omega) (by assumption) (by assumption) (by assumption) (by omega) (by omega) (by first | assumption | omega) (by first | assumption | omega)).2.2.2.2.2.2.1)) rfl <| A3 .n (.t rfl) rfl (fun _ => by (exact (visit_step (fuel := fuel) (re := x1.1) (fr := x1.2.1) (bu := x1.2.2.1) (pl := x1.2.2.2.1) (be := x1.2.2.2.2.1) (mo := x1.2.2.2.2.2.1) (i := x1.2.2.2.2.2.2) hself hp1 (by omega) (by omega) (by assumption) (by assumption) (by assumption) (by omega) (by omega) (by first | assumption | omega) (by first | assumption | omega)).2.2.2.2.2.2.1)) rfl rfl rfl ic_2 rfl <| Af .n (.t rfl) rfl <| AK .n (.t rfl) (.t rfl) rfl rfl <| AX .n (.t rfl) (.t rfl) sl_27 (fun _ => by (exact (visit_step (fuel := fuel) (re := x1.1) (fr := x1.2.1) (bu := x1.2.2.1) (pl := x1.2.2.2.1) (be := x1.2.2.2.2.1) (mo := x1.2.2.2.2.2.1) (i := x1.2.2.2.2.2.2) hself hp1 (by omega) (by omega) (by assumption) (by assumption) (by assumption) (by omega) (by omega) (by first | assumption | omega) (by first | assumption | omega)).2.2.2.2.2.2.1)) rfl <| B0 (IntKind.wrap .i64 ((at' (Aq self_ (Ar.mk s_.sizes x1.1 (put' x1.2.1 (at' (at' s_.reached (s_.places.length : Int)) x1.2.2.2.2.2.2) (IntKind.wrap .i64 ((at' x1.2.1 (at' (at' s_.reached (s_.places.length : Int)) x1.2.2.2.2.2.2)) - (at' s_.sizes (s_.places.length : Int))))) x1.2.2.1 x1.2.2.2.1 x1.2.2.2.2.1 x1.2.2.2.2.2.1) (at' (at' s_.reached (s_.places.length : Int)) x1.2.2.2.2.2.2) (IntKind.wrap .i64 (persons + (at' s_.sizes (s_.places.length : Int))))).free (at' (at' s_.reached (s_.places.length : Int)) x1.2.2.2.2.2.2)) + (at' s_.sizes (s_.places.length : Int)))) .n rfl (.t rfl) (.t rfl) rfl ts_2 (by (exact (visit_step (fuel := fuel) (re := x1.1) (fr := x1.2.1) (bu := x1.2.2.1) (pl := x1.2.2.2.1) (be := x1.2.2.2.2.1) (mo := x1.2.2.2.2.2.1) (i := x1.2.2.2.2.2.2) hself hp1 (by omega) (by omega) (by assumption) (by assumption) (by assumption) (by omega) (by omega) (by first | assumption | omega) (by first | assumption | omega)).2.2.2.2.2.2.1)) rfl rfl <| Lex.nil) ?_
          refine AS ?_
          refine Ad (BQ .n (.t rfl) (.c rfl) (fun _ => by omega) rfl <| Af .n (.t rfl) rfl <| Lex.nil) ?_
          exact A6 ((Aq self_ (Ar.mk s_.sizes x1.1 (put' x1.2.1 (at' (at' s_.reached (s_.places.length : Int)) x1.2.2.2.2.2.2) (IntKind.wrap .i64 ((at' x1.2.1 (at' (at' s_.reached (s_.places.length : Int)) x1.2.2.2.2.2.2)) - (at' s_.sizes (s_.places.length : Int))))) x1.2.2.1 x1.2.2.2.1 x1.2.2.2.2.1 x1.2.2.2.2.2.1) (at' (at' s_.reached (s_.places.length : Int)) x1.2.2.2.2.2.2) (IntKind.wrap .i64 (persons + (at' s_.sizes (s_.places.length : Int))))).reached, put' (Aq self_ (Ar.mk s_.sizes x1.1 (put' x1.2.1 (at' (at' s_.reached (s_.places.length : Int)) x1.2.2.2.2.2.2) (IntKind.wrap .i64 ((at' x1.2.1 (at' (at' s_.reached (s_.places.length : Int)) x1.2.2.2.2.2.2)) - (at' s_.sizes (s_.places.length : Int))))) x1.2.2.1 x1.2.2.2.1 x1.2.2.2.2.1 x1.2.2.2.2.2.1) (at' (at' s_.reached (s_.places.length : Int)) x1.2.2.2.2.2.2) (IntKind.wrap .i64 (persons + (at' s_.sizes (s_.places.length : Int))))).free (at' (at' s_.reached (s_.places.length : Int)) x1.2.2.2.2.2.2) (IntKind.wrap .i64 ((at' (Aq self_ (Ar.mk s_.sizes x1.1 (put' x1.2.1 (at' (at' s_.reached (s_.places.length : Int)) x1.2.2.2.2.2.2) (IntKind.wrap .i64 ((at' x1.2.1 (at' (at' s_.reached (s_.places.length : Int)) x1.2.2.2.2.2.2)) - (at' s_.sizes (s_.places.length : Int))))) x1.2.2.1 x1.2.2.2.1 x1.2.2.2.2.1 x1.2.2.2.2.2.1) (at' (at' s_.reached (s_.places.length : Int)) x1.2.2.2.2.2.2) (IntKind.wrap .i64 (persons + (at' s_.sizes (s_.places.length : Int))))).free (at' (at' s_.reached (s_.places.length : Int)) x1.2.2.2.2.2.2)) + (at' s_.sizes (s_.places.length : Int)))), (Aq self_ (Ar.mk s_.sizes x1.1 (put' x1.2.1 (at' (at' s_.reached (s_.places.length : Int)) x1.2.2.2.2.2.2) (IntKind.wrap .i64 ((at' x1.2.1 (at' (at' s_.reached (s_.places.length : Int)) x1.2.2.2.2.2.2)) - (at' s_.sizes (s_.places.length : Int))))) x1.2.2.1 x1.2.2.2.1 x1.2.2.2.2.1 x1.2.2.2.2.2.1) (at' (at' s_.reached (s_.places.length : Int)) x1.2.2.2.2.2.2) (IntKind.wrap .i64 (persons + (at' s_.sizes (s_.places.length : Int))))).budget, (Aq self_ (Ar.mk s_.sizes x1.1 (put' x1.2.1 (at' (at' s_.reached (s_.places.length : Int)) x1.2.2.2.2.2.2) (IntKind.wrap .i64 ((at' x1.2.1 (at' (at' s_.reached (s_.places.length : Int)) x1.2.2.2.2.2.2)) - (at' s_.sizes (s_.places.length : Int))))) x1.2.2.1 x1.2.2.2.1 x1.2.2.2.2.1 x1.2.2.2.2.2.1) (at' (at' s_.reached (s_.places.length : Int)) x1.2.2.2.2.2.2) (IntKind.wrap .i64 (persons + (at' s_.sizes (s_.places.length : Int))))).places, (Aq self_ (Ar.mk s_.sizes x1.1 (put' x1.2.1 (at' (at' s_.reached (s_.places.length : Int)) x1.2.2.2.2.2.2) (IntKind.wrap .i64 ((at' x1.2.1 (at' (at' s_.reached (s_.places.length : Int)) x1.2.2.2.2.2.2)) - (at' s_.sizes (s_.places.length : Int))))) x1.2.2.1 x1.2.2.2.1 x1.2.2.2.2.1 x1.2.2.2.2.2.1) (at' (at' s_.reached (s_.places.length : Int)) x1.2.2.2.2.2.2) (IntKind.wrap .i64 (persons + (at' s_.sizes (s_.places.length : Int))))).best, (Aq self_ (Ar.mk s_.sizes x1.1 (put' x1.2.1 (at' (at' s_.reached (s_.places.length : Int)) x1.2.2.2.2.2.2) (IntKind.wrap .i64 ((at' x1.2.1 (at' (at' s_.reached (s_.places.length : Int)) x1.2.2.2.2.2.2)) - (at' s_.sizes (s_.places.length : Int))))) x1.2.2.1 x1.2.2.2.1 x1.2.2.2.2.1 x1.2.2.2.2.2.1) (at' (at' s_.reached (s_.places.length : Int)) x1.2.2.2.2.2.2) (IntKind.wrap .i64 (persons + (at' s_.sizes (s_.places.length : Int))))).most, x1.2.2.2.2.2.2 + 1) ⟨by (simp only [lens] at * <;> omega), by assumption, by (exact (visit_step (fuel := fuel) (re := x1.1) (fr := x1.2.1) (bu := x1.2.2.1) (pl := x1.2.2.2.1) (be := x1.2.2.2.2.1) (mo := x1.2.2.2.2.2.1) (i := x1.2.2.2.2.2.2) hself hp1 (by omega) (by omega) (by assumption) (by assumption) (by assumption) (by omega) (by omega) (by first | assumption | omega) (by first | assumption | omega)).2.2.2.1), by (exact (visit_step (fuel := fuel) (re := x1.1) (fr := x1.2.1) (bu := x1.2.2.1) (pl := x1.2.2.2.1) (be := x1.2.2.2.2.1) (mo := x1.2.2.2.2.2.1) (i := x1.2.2.2.2.2.2) hself hp1 (by omega) (by omega) (by assumption) (by assumption) (by assumption) (by omega) (by omega) (by first | assumption | omega) (by first | assumption | omega)).2.2.2.2.2.2.2), by (exact (visit_step (fuel := fuel) (re := x1.1) (fr := x1.2.1) (bu := x1.2.2.1) (pl := x1.2.2.2.1) (be := x1.2.2.2.2.1) (mo := x1.2.2.2.2.2.1) (i := x1.2.2.2.2.2.2) hself hp1 (by omega) (by omega) (by assumption) (by assumption) (by assumption) (by omega) (by omega) (by first | assumption | omega) (by first | assumption | omega)).2.2.2.2.1), by (exact (visit_step (fuel := fuel) (re := x1.1) (fr := x1.2.1) (bu := x1.2.2.1) (pl := x1.2.2.2.1) (be := x1.2.2.2.2.1) (mo := x1.2.2.2.2.2.1) (i := x1.2.2.2.2.2.2) hself hp1 (by omega) (by omega) (by assumption) (by assumption) (by assumption) (by omega) (by omega) (by first | assumption | omega) (by first | assumption | omega)).2.2.2.2.2.1)⟩ (by (simp only [lens] at * <;> omega)) (sub_of [(200, 205), (201, 206), (202, 207), (203, 208)] ⟨rfl, rfl, rfl, rfl, rfl, rfl, rfl, trivial⟩ ⟨(Eq.trans (b := some (.box 73 [.sl 1 (s_.sizes.map (V.int .i64)), .os 205 (Aq self_ (Ar.mk s_.sizes x1.1 (put' x1.2.1 (at' (at' s_.reached (s_.places.length : Int)) x1.2.2.2.2.2.2) (IntKind.wrap .i64 ((at' x1.2.1 (at' (at' s_.reached (s_.places.length : Int)) x1.2.2.2.2.2.2)) - (at' s_.sizes (s_.places.length : Int))))) x1.2.2.1 x1.2.2.2.1 x1.2.2.2.2.1 x1.2.2.2.2.2.1) (at' (at' s_.reached (s_.places.length : Int)) x1.2.2.2.2.2.2) (IntKind.wrap .i64 (persons + (at' s_.sizes (s_.places.length : Int))))).reached.length, .os 206 (Aq self_ (Ar.mk s_.sizes x1.1 (put' x1.2.1 (at' (at' s_.reached (s_.places.length : Int)) x1.2.2.2.2.2.2) (IntKind.wrap .i64 ((at' x1.2.1 (at' (at' s_.reached (s_.places.length : Int)) x1.2.2.2.2.2.2)) - (at' s_.sizes (s_.places.length : Int))))) x1.2.2.1 x1.2.2.2.1 x1.2.2.2.2.1 x1.2.2.2.2.2.1) (at' (at' s_.reached (s_.places.length : Int)) x1.2.2.2.2.2.2) (IntKind.wrap .i64 (persons + (at' s_.sizes (s_.places.length : Int))))).free.length, .int .i64 (Aq self_ (Ar.mk s_.sizes x1.1 (put' x1.2.1 (at' (at' s_.reached (s_.places.length : Int)) x1.2.2.2.2.2.2) (IntKind.wrap .i64 ((at' x1.2.1 (at' (at' s_.reached (s_.places.length : Int)) x1.2.2.2.2.2.2)) - (at' s_.sizes (s_.places.length : Int))))) x1.2.2.1 x1.2.2.2.1 x1.2.2.2.2.1 x1.2.2.2.2.2.1) (at' (at' s_.reached (s_.places.length : Int)) x1.2.2.2.2.2.2) (IntKind.wrap .i64 (persons + (at' s_.sizes (s_.places.length : Int))))).budget, .os 207 (Aq self_ (Ar.mk s_.sizes x1.1 (put' x1.2.1 (at' (at' s_.reached (s_.places.length : Int)) x1.2.2.2.2.2.2) (IntKind.wrap .i64 ((at' x1.2.1 (at' (at' s_.reached (s_.places.length : Int)) x1.2.2.2.2.2.2)) - (at' s_.sizes (s_.places.length : Int))))) x1.2.2.1 x1.2.2.2.1 x1.2.2.2.2.1 x1.2.2.2.2.2.1) (at' (at' s_.reached (s_.places.length : Int)) x1.2.2.2.2.2.2) (IntKind.wrap .i64 (persons + (at' s_.sizes (s_.places.length : Int))))).places.length, .os 208 (Aq self_ (Ar.mk s_.sizes x1.1 (put' x1.2.1 (at' (at' s_.reached (s_.places.length : Int)) x1.2.2.2.2.2.2) (IntKind.wrap .i64 ((at' x1.2.1 (at' (at' s_.reached (s_.places.length : Int)) x1.2.2.2.2.2.2)) - (at' s_.sizes (s_.places.length : Int))))) x1.2.2.1 x1.2.2.2.1 x1.2.2.2.2.1 x1.2.2.2.2.2.1) (at' (at' s_.reached (s_.places.length : Int)) x1.2.2.2.2.2.2) (IntKind.wrap .i64 (persons + (at' s_.sizes (s_.places.length : Int))))).best.length, .int .i64 (Aq self_ (Ar.mk s_.sizes x1.1 (put' x1.2.1 (at' (at' s_.reached (s_.places.length : Int)) x1.2.2.2.2.2.2) (IntKind.wrap .i64 ((at' x1.2.1 (at' (at' s_.reached (s_.places.length : Int)) x1.2.2.2.2.2.2)) - (at' s_.sizes (s_.places.length : Int))))) x1.2.2.1 x1.2.2.2.1 x1.2.2.2.2.1 x1.2.2.2.2.2.1) (at' (at' s_.reached (s_.places.length : Int)) x1.2.2.2.2.2.2) (IntKind.wrap .i64 (persons + (at' s_.sizes (s_.places.length : Int))))).most] : O)) rfl (Eq.trans (b := some (.box 73 [.sl 1 (s_.sizes.map (V.int .i64)), .os 205 (Aq self_ (Ar.mk s_.sizes x1.1 (put' x1.2.1 (at' (at' s_.reached (s_.places.length : Int)) x1.2.2.2.2.2.2) (IntKind.wrap .i64 ((at' x1.2.1 (at' (at' s_.reached (s_.places.length : Int)) x1.2.2.2.2.2.2)) - (at' s_.sizes (s_.places.length : Int))))) x1.2.2.1 x1.2.2.2.1 x1.2.2.2.2.1 x1.2.2.2.2.2.1) (at' (at' s_.reached (s_.places.length : Int)) x1.2.2.2.2.2.2) (IntKind.wrap .i64 (persons + (at' s_.sizes (s_.places.length : Int))))).reached.length, .os 206 (put' (Aq self_ (Ar.mk s_.sizes x1.1 (put' x1.2.1 (at' (at' s_.reached (s_.places.length : Int)) x1.2.2.2.2.2.2) (IntKind.wrap .i64 ((at' x1.2.1 (at' (at' s_.reached (s_.places.length : Int)) x1.2.2.2.2.2.2)) - (at' s_.sizes (s_.places.length : Int))))) x1.2.2.1 x1.2.2.2.1 x1.2.2.2.2.1 x1.2.2.2.2.2.1) (at' (at' s_.reached (s_.places.length : Int)) x1.2.2.2.2.2.2) (IntKind.wrap .i64 (persons + (at' s_.sizes (s_.places.length : Int))))).free (at' (at' s_.reached (s_.places.length : Int)) x1.2.2.2.2.2.2) (IntKind.wrap .i64 ((at' (Aq self_ (Ar.mk s_.sizes x1.1 (put' x1.2.1 (at' (at' s_.reached (s_.places.length : Int)) x1.2.2.2.2.2.2) (IntKind.wrap .i64 ((at' x1.2.1 (at' (at' s_.reached (s_.places.length : Int)) x1.2.2.2.2.2.2)) - (at' s_.sizes (s_.places.length : Int))))) x1.2.2.1 x1.2.2.2.1 x1.2.2.2.2.1 x1.2.2.2.2.2.1) (at' (at' s_.reached (s_.places.length : Int)) x1.2.2.2.2.2.2) (IntKind.wrap .i64 (persons + (at' s_.sizes (s_.places.length : Int))))).free (at' (at' s_.reached (s_.places.length : Int)) x1.2.2.2.2.2.2)) + (at' s_.sizes (s_.places.length : Int))))).length, .int .i64 (Aq self_ (Ar.mk s_.sizes x1.1 (put' x1.2.1 (at' (at' s_.reached (s_.places.length : Int)) x1.2.2.2.2.2.2) (IntKind.wrap .i64 ((at' x1.2.1 (at' (at' s_.reached (s_.places.length : Int)) x1.2.2.2.2.2.2)) - (at' s_.sizes (s_.places.length : Int))))) x1.2.2.1 x1.2.2.2.1 x1.2.2.2.2.1 x1.2.2.2.2.2.1) (at' (at' s_.reached (s_.places.length : Int)) x1.2.2.2.2.2.2) (IntKind.wrap .i64 (persons + (at' s_.sizes (s_.places.length : Int))))).budget, .os 207 (Aq self_ (Ar.mk s_.sizes x1.1 (put' x1.2.1 (at' (at' s_.reached (s_.places.length : Int)) x1.2.2.2.2.2.2) (IntKind.wrap .i64 ((at' x1.2.1 (at' (at' s_.reached (s_.places.length : Int)) x1.2.2.2.2.2.2)) - (at' s_.sizes (s_.places.length : Int))))) x1.2.2.1 x1.2.2.2.1 x1.2.2.2.2.1 x1.2.2.2.2.2.1) (at' (at' s_.reached (s_.places.length : Int)) x1.2.2.2.2.2.2) (IntKind.wrap .i64 (persons + (at' s_.sizes (s_.places.length : Int))))).places.length, .os 208 (Aq self_ (Ar.mk s_.sizes x1.1 (put' x1.2.1 (at' (at' s_.reached (s_.places.length : Int)) x1.2.2.2.2.2.2) (IntKind.wrap .i64 ((at' x1.2.1 (at' (at' s_.reached (s_.places.length : Int)) x1.2.2.2.2.2.2)) - (at' s_.sizes (s_.places.length : Int))))) x1.2.2.1 x1.2.2.2.1 x1.2.2.2.2.1 x1.2.2.2.2.2.1) (at' (at' s_.reached (s_.places.length : Int)) x1.2.2.2.2.2.2) (IntKind.wrap .i64 (persons + (at' s_.sizes (s_.places.length : Int))))).best.length, .int .i64 (Aq self_ (Ar.mk s_.sizes x1.1 (put' x1.2.1 (at' (at' s_.reached (s_.places.length : Int)) x1.2.2.2.2.2.2) (IntKind.wrap .i64 ((at' x1.2.1 (at' (at' s_.reached (s_.places.length : Int)) x1.2.2.2.2.2.2)) - (at' s_.sizes (s_.places.length : Int))))) x1.2.2.1 x1.2.2.2.1 x1.2.2.2.2.1 x1.2.2.2.2.2.1) (at' (at' s_.reached (s_.places.length : Int)) x1.2.2.2.2.2.2) (IntKind.wrap .i64 (persons + (at' s_.sizes (s_.places.length : Int))))).most] : O)) (by simp only [put_len]) rfl)), rfl, rfl, rfl, rfl, trivial⟩ rfl)
        · try simp only [tst] at h11
          refine Aw ?_
          refine AS ?_
          refine Ad (BQ .n (.t rfl) (.c rfl) (fun _ => by omega) rfl <| Af .n (.t rfl) rfl <| Lex.nil) ?_
          exact A6 (x1.1, x1.2.1, x1.2.2.1, x1.2.2.2.1, x1.2.2.2.2.1, x1.2.2.2.2.2.1, x1.2.2.2.2.2.2 + 1) ⟨by (simp only [lens] at * <;> omega), by assumption, by omega, by omega, by omega, by omega⟩ (by (simp only [lens] at * <;> omega)) (sub_of [] ⟨rfl, rfl, rfl, rfl, rfl, rfl, rfl, trivial⟩ ⟨rfl, rfl, rfl, rfl, rfl, trivial⟩ rfl)
      · try simp only [tst] at h10
        refine Ba rfl ?_
        exact AY hk8 (x1.1, x1.2.1, x1.2.2.1, x1.2.2.2.1, x1.2.2.2.2.1, x1.2.2.2.2.2.1, x1.2.2.2.2.2.2) ⟨by omega, by omega, by omega, by omega, by omega, by omega, by omega⟩ (sub_of [] ⟨rfl, rfl, rfl, trivial⟩ ⟨rfl, rfl, rfl, rfl, rfl, trivial⟩ rfl)
theorem c_impl_placeSearch_visit (s_ : Ar) (persons : Int) (hp1 : PI s_.sizes s_.reached s_.free s_.places persons) (hp2 : -1 ≤ s_.budget ∧ s_.budget ≤ 20000) (hp3 : s_.most < persons + rstf s_.sizes s_.places.length) : Con Tryz.prog 31 [.op 0 0 0 0, .int .i64 persons] [(0, some (.box 73 [.sl 1 (s_.sizes.map (V.int .i64)), .os 11 s_.reached.length, .os 12 s_.free.length, .int .i64 s_.budget, .os 14 s_.places.length, .os 15 s_.best.length, .int .i64 s_.most])), (11, some (.row 27 1 (s_.reached.map (slv 1 (V.int .i64))))), (12, some (.row 2 1 (s_.free.map (V.int .i64)))), (14, some (.row 2 1 (s_.places.map (V.int .i64)))), (15, some (.row 2 1 (s_.best.map (V.int .i64))))] (.tup []) ([(100, some (.row 27 1 ((A9 s_ persons).reached.map (slv 1 (V.int .i64))))), (101, some (.row 2 1 ((A9 s_ persons).free.map (V.int .i64)))), (102, some (.row 2 1 ((A9 s_ persons).places.map (V.int .i64)))), (103, some (.row 2 1 ((A9 s_ persons).best.map (V.int .i64)))), (0, some (.box 73 [.sl 1 (s_.sizes.map (V.int .i64)), .os 100 (A9 s_ persons).reached.length, .os 101 (A9 s_ persons).free.length, .int .i64 (A9 s_ persons).budget, .os 102 (A9 s_ persons).places.length, .os 103 (A9 s_ persons).best.length, .int .i64 (A9 s_ persons).most]))]) := by
  exact c_impl_placeSearch_visit_n (((s_.sizes.length : Int) - s_.places.length).toNat + 1) s_ persons hp1 hp2 hp3 (by omega)


/-! ### impl_AssignCrews -/
set_option maxRecDepth 100000 in
set_option maxHeartbeats 4000000 in
theorem c_impl_AssignCrews (m_ : AH) (arrivals : List Int) (blocked : Int) (crews : List Bi) (sizes : List Int) (start : Int) (list : List AI) (budget : Int) : Con Tryz.prog 7 [.st [.int .i64 m_.Junctions, .sl 7 (m_.Airways.map Au.v)], .sl 1 (arrivals.map (V.int .i64)), .int .i64 blocked, .sl 3 (crews.map Bi.v), .sl 1 (sizes.map (V.int .i64)), .int .i64 start, .sl 4 (list.map AI.v), .int .i64 budget] [] (.tup [.os 100 (Ax m_ arrivals blocked crews sizes start list budget).1.length, .int .i64 (Ax m_ arrivals blocked crews sizes start list budget).2.1, .int .i64 (Ax m_ arrivals blocked crews sizes start list budget).2.2]) ([(100, some (.row 2 1 ((Ax m_ arrivals blocked crews sizes start list budget).1.map (V.int .i64))))]) := by
  refine ConG.con ?_ rfl (hr_row (fun _ => rfl) hr_nil)
  refine con_introG (out := fun r : (List Int) × Int × Int => ((.tup [.os 100 r.1.length, .int .i64 r.2.1, .int .i64 r.2.2] : V), ([(100, some (.row 2 1 (r.1.map (V.int .i64))))] : List (Nat × Option O)))) (r := (Ax m_ arrivals blocked crews sizes start list budget)) Tryz.func7 rfl Tryz.ntmps7 rfl ?_
  refine CA (t := 0) 1 rfl rfl fun hl => ?_
  have l1 := hl; clear hl; simp only [List.length_map] at l1
  refine Bo (t := 1) rfl fun hl => ?_
  have l2 := hl; clear hl; simp only [List.length_map] at l2
  refine Bo (t := 3) rfl fun hl => ?_
  have l3 := hl; clear hl; simp only [List.length_map] at l3
  refine Bo (t := 4) rfl fun hl => ?_
  have l4 := hl; clear hl; simp only [List.length_map] at l4
  refine Bo (t := 6) rfl fun hl => ?_
  have l5 := hl; clear hl; simp only [List.length_map] at l5
  refine Ae ?_
  refine Ad (q_box (l := 200) .n rfl (.t rfl) rfl rfl rfl rfl <| Ag .n (.c rfl) rfl <| Ag .n (.c rfl) rfl <| Ag .n (.c rfl) rfl <| Lex.nil) ?_
  refine Ae ?_
  refine Ad (Bb .n (.t rfl) rfl (.inr rfl) ag_26 (fun _ => rfl) rfl rfl <| Af .n (.t rfl) rfl <| Af .n (.t rfl) rfl <| Af .n (.t rfl) rfl <| Af .n (.t rfl) rfl <| AR (full := false) .n .f en_26 (.cons (.t rfl) (.cons (.t rfl) (.cons (.t rfl) (.cons (.t rfl) (.cons (.t rfl) (.cons (.c rfl) .nil)))))) (.cons (.sts rfl) (.cons (.b (.a (.same rfl))) (.cons (.b (.a (.same rfl))) (.cons (.b (.a (.same rfl))) (.cons (.b (.a (.same rfl))) (.cons (.b (.a .nls)) .nil)))))) (fun hg => c_impl_escapeOf m_ arrivals blocked crews start []) rfl (fun h => Bool.noConfusion h) rfl <| Af .n (.t rfl) rfl <| C3 .n (.t rfl) rfl rfl rfl <| C3 .n (.t rfl) rfl rfl rfl <| BG (l := 201) .n rfl zv_67 rfl rfl <| AL [.int .i64 (AA m_ arrivals blocked crews start []).1.mine.Junctions, .sl 7 ((AA m_ arrivals blocked crews start []).1.mine.Airways.map Au.v), .sl 1 ((AA m_ arrivals blocked crews start []).1.arrivals.map (V.int .i64)), .int .i64 (AA m_ arrivals blocked crews start []).1.blocked] .n rfl (.t rfl) (.t rfl) rfl ts_67 rfl rfl <| Ag .n (.t rfl) rfl <| Lex.nil) ?_
  refine Ae ?_
  refine AC ?_
  refine Ae ?_
  refine Ad (Af .n (.t rfl) rfl <| AK .n (.t rfl) (.c rfl) rfl rfl <| Af .n (.t rfl) rfl <| Bb (.f rfl rfl) (.t rfl) rfl (.inr rfl) ag_26 (fun _ => rfl) rfl rfl <| Af (.f rfl rfl) (.t rfl) rfl <| AR (full := false) (.f rfl rfl) .f en_27 (.cons (.u rfl id) (.cons (.u rfl id) .nil)) (.cons (.sts rfl) (.cons (.b (.a (.same rfl))) .nil)) (fun hg => c_impl_ValidRefuges m_ list) rfl (fun h => Bool.noConfusion h) rfl <| Cr (.f rfl rfl) (.u rfl id) rfl <| q_or .n (.t rfl) (.u rfl id) rfl <| Ag .n (.t rfl) rfl <| Lex.nil) ?_
  refine As (.t rfl) rfl (fun h6 => ?_) (fun h6 => ?_)
  · try simp only [tst] at h6
    try have hf0h6 := escT_S h6
    try have hf1h6 := escT_S h6.1
    try have hf2h6 := escT_S h6.2
    try have hf3h6 := escT_S h6.1.1
    try have hf4h6 := escT_S h6.1.2
    try have hf5h6 := escT_S h6.2.1
    try have hf6h6 := escT_S h6.2.2
    try have hf7h6 := escT_N h6
    try have hf8h6 := escT_N h6.1
    try have hf9h6 := escT_N h6.2
    try have hf10h6 := escT_N h6.1.1
    try have hf11h6 := escT_N h6.1.2
    try have hf12h6 := escT_N h6.2.1
    try have hf13h6 := escT_N h6.2.2
    try have hf14h6 := ValidRefuges_imp h6
    try have hf15h6 := ValidRefuges_imp h6.1
    try have hf16h6 := ValidRefuges_imp h6.2
    try have hf17h6 := ValidRefuges_imp h6.1.1
    try have hf18h6 := ValidRefuges_imp h6.1.2
    try have hf19h6 := ValidRefuges_imp h6.2.1
    try have hf20h6 := ValidRefuges_imp h6.2.2
    refine Ae ?_
    refine Ad (Ag .n (.c rfl) rfl <| Ag .n (.c rfl) rfl <| Ag .n (.c rfl) rfl <| Lex.nil) ?_
    refine CN (sub_adopt (t := 16) (l := 202) (el := 2) (sz := 1) rfl rfl) ?_
    exact Ay [(100, 202)] (.cons (.t rfl rfl) (.cons (.t rfl rfl) (.cons (.t rfl rfl) .nil))) (by first | rfl | (simp only [put_len]; rfl)) ⟨rfl, trivial⟩ rfl
  · try simp only [tst] at h6
    try have hf0h6 := escT_S h6
    try have hf1h6 := escT_S h6.1
    try have hf2h6 := escT_S h6.2
    try have hf3h6 := escT_S h6.1.1
    try have hf4h6 := escT_S h6.1.2
    try have hf5h6 := escT_S h6.2.1
    try have hf6h6 := escT_S h6.2.2
    try have hf7h6 := escT_N h6
    try have hf8h6 := escT_N h6.1
    try have hf9h6 := escT_N h6.2
    try have hf10h6 := escT_N h6.1.1
    try have hf11h6 := escT_N h6.1.2
    try have hf12h6 := escT_N h6.2.1
    try have hf13h6 := escT_N h6.2.2
    try have hf14h6 := ValidRefuges_imp h6
    try have hf15h6 := ValidRefuges_imp h6.1
    try have hf16h6 := ValidRefuges_imp h6.2
    try have hf17h6 := ValidRefuges_imp h6.1.1
    try have hf18h6 := ValidRefuges_imp h6.1.2
    try have hf19h6 := ValidRefuges_imp h6.2.1
    try have hf20h6 := ValidRefuges_imp h6.2.2
    refine Ae ?_
    refine Ad (Af .n (.t rfl) rfl <| AK .n (.t rfl) (.c rfl) rfl rfl <| Af .n (.t rfl) rfl <| Af (.f rfl rfl) (.t rfl) rfl <| AR (full := false) (.f rfl rfl) .f en_28 (.cons (.u rfl id) .nil) (.cons (.b (.a (.same rfl))) .nil) (fun hg => c_impl_budgetValid budget) rfl (fun h => Bool.noConfusion h) rfl <| Cr (.f rfl rfl) (.u rfl id) rfl <| q_or .n (.t rfl) (.u rfl id) rfl <| Ag .n (.t rfl) rfl <| Lex.nil) ?_
    refine As (.t rfl) rfl (fun h7 => ?_) (fun h7 => ?_)
    · try simp only [tst] at h7
      try have hf0h7 := escT_S h7
      try have hf1h7 := escT_S h7.1
      try have hf2h7 := escT_S h7.2
      try have hf3h7 := escT_S h7.1.1
      try have hf4h7 := escT_S h7.1.2
      try have hf5h7 := escT_S h7.2.1
      try have hf6h7 := escT_S h7.2.2
      try have hf7h7 := escT_N h7
      try have hf8h7 := escT_N h7.1
      try have hf9h7 := escT_N h7.2
      try have hf10h7 := escT_N h7.1.1
      try have hf11h7 := escT_N h7.1.2
      try have hf12h7 := escT_N h7.2.1
      try have hf13h7 := escT_N h7.2.2
      try have hf14h7 := budget_imp h7
      try have hf15h7 := budget_imp h7.1
      try have hf16h7 := budget_imp h7.2
      try have hf17h7 := budget_imp h7.1.1
      try have hf18h7 := budget_imp h7.1.2
      try have hf19h7 := budget_imp h7.2.1
      try have hf20h7 := budget_imp h7.2.2
      refine Ae ?_
      refine Ad (Ag .n (.c rfl) rfl <| Ag .n (.c rfl) rfl <| Ag .n (.c rfl) rfl <| Lex.nil) ?_
      refine CN (sub_adopt (t := 16) (l := 203) (el := 2) (sz := 1) rfl rfl) ?_
      exact Ay [(100, 203)] (.cons (.t rfl rfl) (.cons (.t rfl rfl) (.cons (.t rfl rfl) .nil))) (by first | rfl | (simp only [put_len]; rfl)) ⟨rfl, trivial⟩ rfl
    · try simp only [tst] at h7
      try have hf0h7 := escT_S h7
      try have hf1h7 := escT_S h7.1
      try have hf2h7 := escT_S h7.2
      try have hf3h7 := escT_S h7.1.1
      try have hf4h7 := escT_S h7.1.2
      try have hf5h7 := escT_S h7.2.1
      try have hf6h7 := escT_S h7.2.2
      try have hf7h7 := escT_N h7
      try have hf8h7 := escT_N h7.1
      try have hf9h7 := escT_N h7.2
      try have hf10h7 := escT_N h7.1.1
      try have hf11h7 := escT_N h7.1.2
      try have hf12h7 := escT_N h7.2.1
      try have hf13h7 := escT_N h7.2.2
      try have hf14h7 := budget_imp h7
      try have hf15h7 := budget_imp h7.1
      try have hf16h7 := budget_imp h7.2
      try have hf17h7 := budget_imp h7.1.1
      try have hf18h7 := budget_imp h7.1.2
      try have hf19h7 := budget_imp h7.2.1
      try have hf20h7 := budget_imp h7.2.2
      refine Ae ?_
      refine Ad (Af .n (.t rfl) rfl <| AK .n (.t rfl) (.c rfl) rfl rfl <| Af .n (.t rfl) rfl <| Af (.f rfl rfl) (.t rfl) rfl <| BD (.f rfl rfl) (.u rfl id) rfl len_map ss_27 rfl <| Af (.f rfl rfl) (.t rfl) rfl <| BD (.f rfl rfl) (.u rfl id) rfl len_map ss_28 rfl <| AK (.f rfl rfl) (.u rfl id) (.u rfl id) rfl rfl <| q_or .n (.t rfl) (.u rfl id) rfl <| Af .n (.t rfl) rfl <| Af (.f rfl rfl) (.t rfl) rfl <| AR (full := false) (.f rfl rfl) .f en_29 (.cons (.u rfl id) (.cons (.c rfl) (.cons (.c rfl) .nil))) (.cons (.b (.a (.same rfl))) (.cons (.b (.a (.same rfl))) (.cons (.b (.a (.same rfl))) .nil))) (fun hg => C0 sizes 1 200) rfl (fun h => Bool.noConfusion h) rfl <| Cr (.f rfl rfl) (.u rfl id) rfl <| q_or .n (.t rfl) (.u rfl id) rfl <| Ag .n (.t rfl) rfl <| Lex.nil) ?_
      refine As (.t rfl) rfl (fun h8 => ?_) (fun h8 => ?_)
      · try simp only [tst] at h8
        try have hf0h8 := escT_S h8
        try have hf1h8 := escT_S h8.1
        try have hf2h8 := escT_S h8.2
        try have hf3h8 := escT_S h8.1.1
        try have hf4h8 := escT_S h8.1.2
        try have hf5h8 := escT_S h8.2.1
        try have hf6h8 := escT_S h8.2.2
        try have hf7h8 := escT_N h8
        try have hf8h8 := escT_N h8.1
        try have hf9h8 := escT_N h8.2
        try have hf10h8 := escT_N h8.1.1
        try have hf11h8 := escT_N h8.1.2
        try have hf12h8 := escT_N h8.2.1
        try have hf13h8 := escT_N h8.2.2
        try have hf14h8 := aw_imp h8
        try have hf15h8 := aw_imp h8.1
        try have hf16h8 := aw_imp h8.2
        try have hf17h8 := aw_imp h8.1.1
        try have hf18h8 := aw_imp h8.1.2
        try have hf19h8 := aw_imp h8.2.1
        try have hf20h8 := aw_imp h8.2.2
        refine Ae ?_
        refine Ad (Ag .n (.c rfl) rfl <| Ag .n (.c rfl) rfl <| Ag .n (.c rfl) rfl <| Lex.nil) ?_
        refine CN (sub_adopt (t := 16) (l := 204) (el := 2) (sz := 1) rfl rfl) ?_
        exact Ay [(100, 204)] (.cons (.t rfl rfl) (.cons (.t rfl rfl) (.cons (.t rfl rfl) .nil))) (by first | rfl | (simp only [put_len]; rfl)) ⟨rfl, trivial⟩ rfl
      · try simp only [tst] at h8
        try have hf0h8 := escT_S h8
        try have hf1h8 := escT_S h8.1
        try have hf2h8 := escT_S h8.2
        try have hf3h8 := escT_S h8.1.1
        try have hf4h8 := escT_S h8.1.2
        try have hf5h8 := escT_S h8.2.1
        try have hf6h8 := escT_S h8.2.2
        try have hf7h8 := escT_N h8
        try have hf8h8 := escT_N h8.1
        try have hf9h8 := escT_N h8.2
        try have hf10h8 := escT_N h8.1.1
        try have hf11h8 := escT_N h8.1.2
        try have hf12h8 := escT_N h8.2.1
        try have hf13h8 := escT_N h8.2.2
        try have hf14h8 := aw_imp h8
        try have hf15h8 := aw_imp h8.1
        try have hf16h8 := aw_imp h8.2
        try have hf17h8 := aw_imp h8.1.1
        try have hf18h8 := aw_imp h8.1.2
        try have hf19h8 := aw_imp h8.2.1
        try have hf20h8 := aw_imp h8.2.2
        refine Aw ?_
        refine AS ?_
        refine Ae ?_
        refine Ad (Af .n (.t rfl) rfl <| Af .n (.t rfl) rfl <| Dw (us := [.sl 1 (sizes.map (V.int .i64)), .nls, .nls, .int .i64 budget, .nls, .nls, .int .i64 (-1)]) .n (.cons (.t rfl) (.cons (.t rfl) (.cons (.c rfl) .nil))) zv_73 pl_73 rfl rfl rfl <| BG (l := 205) .n rfl zv_73 rfl rfl <| AL [.sl 1 (sizes.map (V.int .i64)), .nls, .nls, .int .i64 budget, .nls, .nls, .int .i64 (-1)] .n rfl (.t rfl) (.t rfl) rfl ts_73 rfl rfl <| Lex.nil) ?_
        refine Ae ?_
        refine Ae ?_
        refine Ad (Af .n (.t rfl) rfl <| BD .n (.t rfl) rfl len_map ss_29 rfl <| Af .n (.c rfl) rfl <| Lex.nil) ?_
        refine AC ?_
        refine CN (sub_adoptb (b := 205) (l := 206) (el := 2) (sz := 1) 2 rfl rfl rfl rfl) ?_
        refine Dm (Dg m_ arrivals blocked crews sizes start list budget) _ _ _ rfl (fun (x1 : (List Int) × Int) => 0 ≤ x1.2 ∧ x1.2 ≤ (list.length : Int) ∧ (x1.1.length : Int) + 0 ≤ x1.2 + (K_6.length : Int) ∧ (x1.1.length : Int) = x1.2 ∧ (∀ y ∈ x1.1, 0 ≤ y ∧ y ≤ 200)) (fun x1 => 0 ≤ x1.2 ∧ x1.2 ≤ (list.length : Int) ∧ (x1.1.length : Int) + 0 ≤ x1.2 + (K_6.length : Int) ∧ (x1.1.length : Int) = x1.2 ∧ (∀ y ∈ x1.1, 0 ≤ y ∧ y ≤ 200) ∧ (list.length : Int) ≤ x1.2) (fun x1 => ((list.length : Int) - x1.2 : Int).toNat) (fun x1 => ⟨[(3, some (true, .sl 3 (crews.map Bi.v))), (5, some (true, .int .i64 start)), (6, some (true, .sl 4 (list.map AI.v))), (19, some (true, .op 201 0 0 0)), (21, some (true, .op 205 0 0 0)), (74, some (true, .sl 4 (list.map AI.v))), (75, some (true, .int .i64 (list.length : Int))), (76, some (true, .int .i64 x1.2))], [(201, some (.box 67 [.int .i64 (AA m_ arrivals blocked crews start []).1.mine.Junctions, .sl 7 ((AA m_ arrivals blocked crews start []).1.mine.Airways.map Au.v), .sl 1 ((AA m_ arrivals blocked crews start []).1.arrivals.map (V.int .i64)), .int .i64 (AA m_ arrivals blocked crews start []).1.blocked])), (205, some (.box 73 [.sl 1 (sizes.map (V.int .i64)), .nls, .os 206 x1.1.length, .int .i64 budget, .nls, .nls, .int .i64 (-1)])), (206, some (.row 2 1 (x1.1.map (V.int .i64))))]⟩) (fun x1 => ⟨[(3, some (true, .sl 3 (crews.map Bi.v))), (5, some (true, .int .i64 start)), (6, some (true, .sl 4 (list.map AI.v))), (19, some (true, .op 201 0 0 0)), (21, some (true, .op 205 0 0 0))], [(201, some (.box 67 [.int .i64 (AA m_ arrivals blocked crews start []).1.mine.Junctions, .sl 7 ((AA m_ arrivals blocked crews start []).1.mine.Airways.map Au.v), .sl 1 ((AA m_ arrivals blocked crews start []).1.arrivals.map (V.int .i64)), .int .i64 (AA m_ arrivals blocked crews start []).1.blocked])), (205, some (.box 73 [.sl 1 (sizes.map (V.int .i64)), .nls, .os 206 x1.1.length, .int .i64 budget, .nls, .nls, .int .i64 (-1)])), (206, some (.row 2 1 (x1.1.map (V.int .i64))))]⟩) ⟨by omega, by omega, by (simp only [lens] at * <;> omega), by (simp only [lens] at * <;> omega), by ((intro y hy; simp at hy))⟩ (by omega) (sub_of [] ⟨rfl, rfl, rfl, rfl, rfl, rfl, rfl, rfl, trivial⟩ ⟨rfl, rfl, rfl, trivial⟩ rfl) rfl ?_ ?_
        · intro x1 i12
          obtain ⟨e45, e46, e47, e48, e49, e50⟩ := i12
          try dsimp only at *
          refine Ae ?_
          refine Ae ?_
          refine Ad (Af .n (.t rfl) rfl <| BD .n (.t rfl) rfl len_map ss_28 rfl <| Af .n (.c rfl) rfl <| Lex.nil) ?_
          refine AC ?_
          refine CN (sub_adoptb (b := 205) (l := 210) (el := 27) (sz := 1) 1 rfl rfl rfl rfl) ?_
          refine Dm (Df m_ arrivals blocked crews sizes start list budget x1) _ _ _ rfl (fun (x2 : (List (List Int)) × Int) => 0 ≤ x2.2 ∧ x2.2 ≤ (crews.length : Int) ∧ (x2.1.length : Int) + 0 ≤ x2.2 + (([] : List (List Int)).length : Int) ∧ (x2.1.length : Int) = x2.2 ∧ (∀ l ∈ x2.1, ∀ r ∈ l, 0 ≤ r ∧ r < list.length)) (fun x2 => 0 ≤ x2.2 ∧ x2.2 ≤ (crews.length : Int) ∧ (x2.1.length : Int) + 0 ≤ x2.2 + (([] : List (List Int)).length : Int) ∧ (x2.1.length : Int) = x2.2 ∧ (∀ l ∈ x2.1, ∀ r ∈ l, 0 ≤ r ∧ r < list.length) ∧ (crews.length : Int) ≤ x2.2) (fun x2 => ((crews.length : Int) - x2.2 : Int).toNat) (fun x2 => ⟨[(5, some (true, .int .i64 start)), (6, some (true, .sl 4 (list.map AI.v))), (19, some (true, .op 201 0 0 0)), (21, some (true, .op 205 0 0 0)), (88, some (true, .sl 3 (crews.map Bi.v))), (89, some (true, .int .i64 (crews.length : Int))), (90, some (true, .int .i64 x2.2))], [(201, some (.box 67 [.int .i64 (AA m_ arrivals blocked crews start []).1.mine.Junctions, .sl 7 ((AA m_ arrivals blocked crews start []).1.mine.Airways.map Au.v), .sl 1 ((AA m_ arrivals blocked crews start []).1.arrivals.map (V.int .i64)), .int .i64 (AA m_ arrivals blocked crews start []).1.blocked])), (205, some (.box 73 [.sl 1 (sizes.map (V.int .i64)), .os 210 x2.1.length, .os 206 x1.1.length, .int .i64 budget, .nls, .nls, .int .i64 (-1)])), (206, some (.row 2 1 (x1.1.map (V.int .i64)))), (210, some (.row 27 1 (x2.1.map (slv 1 (V.int .i64)))))]⟩) (fun x2 => ⟨[(21, some (true, .op 205 0 0 0))], [(205, some (.box 73 [.sl 1 (sizes.map (V.int .i64)), .os 210 x2.1.length, .os 206 x1.1.length, .int .i64 budget, .nls, .nls, .int .i64 (-1)])), (206, some (.row 2 1 (x1.1.map (V.int .i64)))), (210, some (.row 27 1 (x2.1.map (slv 1 (V.int .i64)))))]⟩) ⟨by omega, by omega, by (simp only [lens] at * <;> omega), by (simp only [lens] at * <;> omega), by ((intro y hy; simp at hy))⟩ (by omega) (sub_of [] ⟨rfl, rfl, rfl, rfl, rfl, rfl, rfl, trivial⟩ ⟨rfl, rfl, rfl, rfl, trivial⟩ rfl) rfl ?_ ?_
          · intro x2 i32
            obtain ⟨e34, e35, e36, e37, e38, e39⟩ := i32
            try dsimp only at *
            refine Ae ?_
            refine CN (sub_adoptb (b := 205) (l := 220) (el := 2) (sz := 1) 4 rfl rfl rfl rfl) ?_
            refine CN (sub_adoptb (b := 205) (l := 221) (el := 2) (sz := 1) 5 rfl rfl rfl rfl) ?_
            refine Ad (AV (full := false) [(0, 205), (11, 210), (12, 206), (14, 220), (15, 221)] [(100, 222), (101, 223), (102, 224), (103, 225)] .n rfl .f en_31 (.cons (.t rfl) (.cons (.c rfl) .nil)) (.cons (.b (.mutp rfl)) (.cons (.b (.a (.same rfl))) .nil)) (c_impl_placeSearch_visit (Ar.mk sizes x2.1 x1.1 budget K_6 K_6 (-1)) 0 (by (exact PI.of (sizes := sizes) (rows := x2.1) (left := x1.1) (n := list.length) (allWithin_iff.1 (And.right (by assumption))) (by omega) (by omega) (by assumption) (by omega) (by assumption))) (by ((have hq := bud_in (And.right (by assumption)); (try dsimp only); omega))) (by (exact PI.pos (PI.of (sizes := sizes) (rows := x2.1) (left := x1.1) (n := list.length) (allWithin_iff.1 (And.right (by assumption))) (by omega) (by omega) (by assumption) (by omega) (by assumption))))) ⟨rfl, rfl, rfl, rfl, rfl, trivial⟩ rfl rfl (fun h => Bool.noConfusion h) (fun h => Bool.noConfusion h) rfl <| Lex.nil) ?_
            refine Ae ?_
            refine Ae ?_
            refine Ad (AE .n (.t rfl) fo_73_3 rfl <| AP .n (.t rfl) rfl (.inr rfl) (fun _ => rfl) rfl ic_2 rfl <| AK .n (.t rfl) (.c rfl) rfl rfl <| Lex.nil) ?_
            refine As (.t rfl) rfl (fun h33 => ?_) (fun h33 => ?_)
            · try simp only [tst] at h33
              refine Ae ?_
              refine Ad (Ag .n (.c rfl) rfl <| Ag .n (.c rfl) rfl <| Ag .n (.c rfl) rfl <| Lex.nil) ?_
              refine CN (sub_adopt (t := 16) (l := 226) (el := 2) (sz := 1) rfl rfl) ?_
              exact Ay [(100, 226)] (.cons (.t rfl rfl) (.cons (.t rfl rfl) (.cons (.t rfl rfl) .nil))) (by first | rfl | (simp only [put_len]; rfl)) ⟨rfl, trivial⟩ rfl
            · try simp only [tst] at h33
              refine Aw ?_
              refine Ae ?_
              refine Bl fmo (AE .n (.t rfl) fo_73_5 rfl <| AP .n (.t rfl) rfl (.inr rfl) (fun _ => rfl) rfl ic_27 rfl <| AE .n (.t rfl) fo_73_6 rfl <| AP .n (.t rfl) rfl (.inr rfl) (fun _ => rfl) rfl ic_2 rfl <| Ag .n (.t rfl) rfl <| Ag .n (.t rfl) rfl <| Ag .n (.c rfl) rfl <| Lex.nil) (by kernel_rfl) ?_
              exact Ay [(100, 225)] (.cons (.t rfl rfl) (.cons (.t rfl rfl) (.cons (.t rfl rfl) .nil))) (by first | rfl | (simp only [put_len]; rfl)) ⟨rfl, trivial⟩ rfl
          · intro rec2 k2 hk13 x2 i14
            obtain ⟨e40, e41, e42, e43, e44⟩ := i14
            try dsimp only at *
            refine Ae ?_
            refine Ad (AK .n (.t rfl) (.t rfl) rfl rfl <| Lex.nil) ?_
            refine Ae ?_
            refine As (.t rfl) rfl (fun h15 => ?_) (fun h15 => ?_)
            · try simp only [tst] at h15
              refine Aw ?_
              refine Ae ?_
              refine AC ?_
              refine Ae ?_
              refine Ad (Bc .n (.t rfl) (.t rfl) sl_28 (fun _ => by omega) rfl <| Dq .n (.t rfl) ag_37 rfl rfl rfl <| BG (l := 211) .n rfl zv_37 rfl rfl <| AL [.str (at' crews x2.2).Id, .int .i64 (at' crews x2.2).Junction, .int .i64 (at' crews x2.2).Speed] .n rfl (.t rfl) (.t rfl) rfl ts_37 rfl rfl <| Lex.nil) ?_
              refine Ae ?_
              refine Ad (Bb .n (.t rfl) rfl (.inr rfl) ag_67 (fun _ => rfl) rfl rfl <| Bb .n (.t rfl) rfl (.inr rfl) ag_37 (fun _ => rfl) rfl rfl <| Af .n (.t rfl) rfl <| AV (full := false) [] [(100, 212)] .n rfl .f en_30 (.cons (.t rfl) (.cons (.t rfl) (.cons (.t rfl) .nil))) (.cons (.sts rfl) (.cons (.sts rfl) (.cons (.b (.a (.same rfl))) .nil))) (c_impl_escape_times (AA m_ arrivals blocked crews start []).1 (at' crews x2.2) start (by (exact escT_M (And.left (And.left (by assumption))))) (by (exact escT_L (And.left (And.left (by assumption))))) (by (exact escT_C (And.left (And.left (by assumption))) (by omega))) (by omega)) trivial rfl rfl (fun h => Bool.noConfusion h) (fun h => Bool.noConfusion h) rfl <| Ag .n (.t rfl) rfl <| Lex.nil) ?_
              refine Ae ?_
              refine Ad (Ag .n (.c rfl) rfl <| Lex.nil) ?_
              refine Ae ?_
              refine Ae ?_
              refine Ad (Af .n (.t rfl) rfl <| BD .n (.t rfl) rfl len_map ss_29 rfl <| Af .n (.c rfl) rfl <| Lex.nil) ?_
              refine AC ?_
              refine CN (sub_adopt (t := 27) (l := 213) (el := 2) (sz := 1) rfl rfl) ?_
              refine Dm (De m_ arrivals blocked crews sizes start list budget x1 rec2 k2 x2) _ _ _ rfl (fun (x3 : (List Int) × Int) => 0 ≤ x3.2 ∧ x3.2 ≤ (list.length : Int) ∧ (x3.1.length : Int) + 0 ≤ x3.2 + (K_6.length : Int) ∧ (x3.1.length : Int) ≤ x3.2 ∧ (∀ r ∈ x3.1, 0 ≤ r ∧ r < list.length)) (fun x3 => 0 ≤ x3.2 ∧ x3.2 ≤ (list.length : Int) ∧ (x3.1.length : Int) + 0 ≤ x3.2 + (K_6.length : Int) ∧ (x3.1.length : Int) ≤ x3.2 ∧ (∀ r ∈ x3.1, 0 ≤ r ∧ r < list.length) ∧ (list.length : Int) ≤ x3.2) (fun x3 => ((list.length : Int) - x3.2 : Int).toNat) (fun x3 => ⟨[(5, some (true, .int .i64 start)), (6, some (true, .sl 4 (list.map AI.v))), (19, some (true, .op 201 0 0 0)), (21, some (true, .op 205 0 0 0)), (26, some (true, .os 212 (Bm (AA m_ arrivals blocked crews start []).1 (at' crews x2.2) start).length)), (27, some (true, .os 213 x3.1.length)), (88, some (true, .sl 3 (crews.map Bi.v))), (89, some (true, .int .i64 (crews.length : Int))), (90, some (true, .int .i64 x2.2)), (98, some (true, .sl 4 (list.map AI.v))), (99, some (true, .int .i64 (list.length : Int))), (100, some (true, .int .i64 x3.2))], [(201, some (.box 67 [.int .i64 (AA m_ arrivals blocked crews start []).1.mine.Junctions, .sl 7 ((AA m_ arrivals blocked crews start []).1.mine.Airways.map Au.v), .sl 1 ((AA m_ arrivals blocked crews start []).1.arrivals.map (V.int .i64)), .int .i64 (AA m_ arrivals blocked crews start []).1.blocked])), (205, some (.box 73 [.sl 1 (sizes.map (V.int .i64)), .os 210 x2.1.length, .os 206 x1.1.length, .int .i64 budget, .nls, .nls, .int .i64 (-1)])), (206, some (.row 2 1 (x1.1.map (V.int .i64)))), (210, some (.row 27 1 (x2.1.map (slv 1 (V.int .i64))))), (212, some (.row 2 1 ((Bm (AA m_ arrivals blocked crews start []).1 (at' crews x2.2) start).map (V.int .i64)))), (213, some (.row 2 1 (x3.1.map (V.int .i64))))]⟩) (fun x3 => ⟨[(5, some (true, .int .i64 start)), (6, some (true, .sl 4 (list.map AI.v))), (19, some (true, .op 201 0 0 0)), (21, some (true, .op 205 0 0 0)), (27, some (true, .os 213 x3.1.length)), (88, some (true, .sl 3 (crews.map Bi.v))), (89, some (true, .int .i64 (crews.length : Int))), (90, some (true, .int .i64 x2.2))], [(201, some (.box 67 [.int .i64 (AA m_ arrivals blocked crews start []).1.mine.Junctions, .sl 7 ((AA m_ arrivals blocked crews start []).1.mine.Airways.map Au.v), .sl 1 ((AA m_ arrivals blocked crews start []).1.arrivals.map (V.int .i64)), .int .i64 (AA m_ arrivals blocked crews start []).1.blocked])), (205, some (.box 73 [.sl 1 (sizes.map (V.int .i64)), .os 210 x2.1.length, .os 206 x1.1.length, .int .i64 budget, .nls, .nls, .int .i64 (-1)])), (206, some (.row 2 1 (x1.1.map (V.int .i64)))), (210, some (.row 27 1 (x2.1.map (slv 1 (V.int .i64))))), (213, some (.row 2 1 (x3.1.map (V.int .i64))))]⟩) ⟨by omega, by omega, by (simp only [lens] at * <;> omega), by (simp only [lens] at * <;> omega), by ((intro y hy; simp at hy))⟩ (by omega) (sub_of [] ⟨rfl, rfl, rfl, rfl, rfl, rfl, rfl, rfl, rfl, rfl, rfl, rfl, trivial⟩ ⟨rfl, rfl, rfl, rfl, rfl, rfl, trivial⟩ rfl) rfl ?_ ?_
              · intro x3 i20
                obtain ⟨e21, e22, e23, e24, e25, e26⟩ := i20
                try dsimp only at *
                refine run_ro <| ro_lex (l1 := [_, _, _]) (l2 := [_, _, _, _]) rfl (AE .n (.t rfl) fo_73_1 rfl <| AP .n (.t rfl) rfl (.inr rfl) (fun _ => rfl) rfl ic_71 rfl <| Af .n (.t rfl) rfl <| Lex.nil) <| ro_freezeL (l := 213) [27, 118] ⟨rfl, rfl, trivial⟩ rfl (take_all (by simp only [len_map, put_len] <;> rfl)) (by simp only [len_map, put_len] <;> rfl) rfl <| ro_lex (l1 := [_, _, _, _]) (l2 := []) rfl (AW ([x3.1] : List (List Int)) (f := slv 1 (V.int .i64)) (l := 218) .n rfl rfl (.cons (.t rfl) .nil) rfl si_71 zv_27 rfl rfl rfl <| CD (xs := x2.1) (ys := ([x3.1] : List (List Int))) (f := slv 1 (V.int .i64)) (l := 219) .n rfl (.ow (.t rfl) rfl (take_all (by simp only [len_map, put_len] <;> rfl)) (by simp only [len_map, put_len] <;> rfl)) (.ow (.t rfl) rfl (take_all (by simp only [len_map, put_len] <;> rfl)) (by simp only [len_map, put_len] <;> rfl)) si_71 zv_27 rfl (by (simp only [lens] at * <;> omega)) rfl rfl <| AE .n (.t rfl) fo_73_1 rfl <| AL [.sl 1 (sizes.map (V.int .i64)), .os 219 (x2.1 ++ ([x3.1] : List (List Int))).length, .os 206 x1.1.length, .int .i64 budget, .nls, .nls, .int .i64 (-1)] .n rfl (.t rfl) (.t rfl) rfl ts_71 rfl rfl <| Lex.nil) <| ro_end ?_
                refine AS ?_
                refine Ad (BQ .n (.t rfl) (.c rfl) (fun _ => by omega) rfl <| Af .n (.t rfl) rfl <| Lex.nil) ?_
                exact Cy (x2.1 ++ ([x3.1] : List (List Int)), x2.2 + 1) ⟨by omega, by omega, by (simp only [lens] at * <;> omega), by (simp only [lens] at * <;> omega), by (exact app_all (by assumption) (by first | omega | assumption))⟩ (by omega) (sub_of [(210, 219)] ⟨rfl, rfl, rfl, rfl, rfl, rfl, rfl, trivial⟩ ⟨rfl, rfl, rfl, rfl, trivial⟩ rfl)
              · intro rec3 k3 hk16 x3 i17
                obtain ⟨e27, e28, e29, e30, e31⟩ := i17
                try dsimp only at *
                refine Ae ?_
                refine Ad (AK .n (.t rfl) (.t rfl) rfl rfl <| Lex.nil) ?_
                refine Ae ?_
                refine As (.t rfl) rfl (fun h18 => ?_) (fun h18 => ?_)
                · try simp only [tst] at h18
                  refine Aw ?_
                  refine Ae ?_
                  refine AC ?_
                  refine Ae ?_
                  refine Ad (Af .n (.t rfl) rfl <| Bc .n (.t rfl) (.t rfl) sl_29 (fun _ => by omega) rfl <| Dq .n (.t rfl) ag_39 rfl rfl rfl <| BG (l := 215) .n rfl zv_39 rfl rfl <| Ag .n (.t rfl) rfl <| AL [.str (at' list x3.2).Id, .int .i64 (at' list x3.2).Junction, .int .i64 (at' list x3.2).Places, .int .i64 (at' list x3.2).Air] .n rfl (.t rfl) (.t rfl) rfl ts_39 rfl rfl <| Lex.nil) ?_
                  refine Ae ?_
                  refine Ad (Af .n (.t rfl) rfl <| AE .n (.t rfl) fo_39_1 rfl <| AP .n (.t rfl) rfl (.inr rfl) (fun _ => rfl) rfl ic_2 rfl <| AX .n (.t rfl) (.t rfl) sl_27 (fun _ => by ((have hq := asgI_idx (m := m_) (arr := arrivals) (blocked := blocked) (crews := crews) (start := start) (list := list) (i := x2.2) (j := x3.2) (And.left (And.left (by assumption))) (And.right (by assumption)) (by omega) (by omega); omega))) rfl <| A3 .n (.t rfl) rfl (fun _ => by ((have hq := asgI_idx (m := m_) (arr := arrivals) (blocked := blocked) (crews := crews) (start := start) (list := list) (i := x2.2) (j := x3.2) (And.left (And.left (by assumption))) (And.right (by assumption)) (by omega) (by omega); omega))) rfl rfl rfl ic_2 rfl <| AK .n (.t rfl) (.c rfl) rfl rfl <| Lex.nil) ?_
                  refine As (.t rfl) rfl (fun h19 => ?_) (fun h19 => ?_)
                  · try simp only [tst] at h19
                    refine Ad (Af .n (.t rfl) rfl <| Af .n (.t rfl) rfl <| AW ([x3.2] : List Int) (f := V.int .i64) (l := 216) .n rfl rfl (.cons (.t rfl) .nil) rfl si_27 zv_2 rfl rfl rfl <| CD (xs := x3.1) (ys := ([x3.2] : List Int)) (f := V.int .i64) (l := 217) .n rfl (.ow (.t rfl) rfl (take_all (by simp only [len_map, put_len] <;> rfl)) (by simp only [len_map, put_len] <;> rfl)) (.ow (.t rfl) rfl (take_all (by simp only [len_map, put_len] <;> rfl)) (by simp only [len_map, put_len] <;> rfl)) si_27 zv_2 rfl (by ((have hR : RefugeIn m_ list := (by assumption); have hR1 := hR.1; simp only [List.length_append, List.length_cons, List.length_nil]; omega))) rfl rfl <| Ag .n (.t rfl) rfl <| Lex.nil) ?_
                    refine AS ?_
                    refine Ad (BQ .n (.t rfl) (.c rfl) (fun _ => by omega) rfl <| Af .n (.t rfl) rfl <| Lex.nil) ?_
                    exact Cy (x3.1 ++ ([x3.2] : List Int), x3.2 + 1) ⟨by omega, by omega, by (simp only [lens] at * <;> omega), by (simp only [lens] at * <;> omega), by (exact app_all (by assumption) (by first | omega | assumption))⟩ (by omega) (sub_of [(213, 217)] ⟨rfl, rfl, rfl, rfl, rfl, rfl, rfl, rfl, rfl, rfl, rfl, rfl, trivial⟩ ⟨rfl, rfl, rfl, rfl, rfl, rfl, trivial⟩ rfl)
                  · try simp only [tst] at h19
                    refine Aw ?_
                    refine AS ?_
                    refine Ad (BQ .n (.t rfl) (.c rfl) (fun _ => by omega) rfl <| Af .n (.t rfl) rfl <| Lex.nil) ?_
                    exact Cy (x3.1, x3.2 + 1) ⟨by omega, by omega, by (simp only [lens] at * <;> omega), by (simp only [lens] at * <;> omega), by omega⟩ (by omega) (sub_of [] ⟨rfl, rfl, rfl, rfl, rfl, rfl, rfl, rfl, rfl, rfl, rfl, rfl, trivial⟩ ⟨rfl, rfl, rfl, rfl, rfl, rfl, trivial⟩ rfl)
                · try simp only [tst] at h18
                  refine Ba rfl ?_
                  exact AY hk16 (x3.1, x3.2) ⟨by omega, by omega, by omega, by omega, by omega, by omega⟩ (sub_of [] ⟨rfl, rfl, rfl, rfl, rfl, rfl, rfl, rfl, trivial⟩ ⟨rfl, rfl, rfl, rfl, rfl, trivial⟩ rfl)
            · try simp only [tst] at h15
              refine Ba rfl ?_
              exact AY hk13 (x2.1, x2.2) ⟨by omega, by omega, by omega, by omega, by omega, by omega⟩ (sub_of [] ⟨rfl, trivial⟩ ⟨rfl, rfl, rfl, trivial⟩ rfl)
        · intro rec1 k1 hk9 x1 i10
          obtain ⟨e51, e52, e53, e54, e55⟩ := i10
          try dsimp only at *
          refine Ae ?_
          refine Ad (AK .n (.t rfl) (.t rfl) rfl rfl <| Lex.nil) ?_
          refine Ae ?_
          refine As (.t rfl) rfl (fun h11 => ?_) (fun h11 => ?_)
          · try simp only [tst] at h11
            refine Aw ?_
            refine Ae ?_
            refine AC ?_
            refine Ae ?_
            refine Ad (Bc .n (.t rfl) (.t rfl) sl_29 (fun _ => by omega) rfl <| Dq .n (.t rfl) ag_39 rfl rfl rfl <| BG (l := 207) .n rfl zv_39 rfl rfl <| AL [.str (at' list x1.2).Id, .int .i64 (at' list x1.2).Junction, .int .i64 (at' list x1.2).Places, .int .i64 (at' list x1.2).Air] .n rfl (.t rfl) (.t rfl) rfl ts_39 rfl rfl <| Lex.nil) ?_
            refine Ad (AE .n (.t rfl) fo_73_2 rfl <| AP .n (.t rfl) rfl (.inr rfl) (fun _ => rfl) rfl ic_27 rfl <| AE .n (.t rfl) fo_39_2 rfl <| AP .n (.t rfl) rfl (.inr rfl) (fun _ => rfl) rfl ic_2 rfl <| AW ([(at' list x1.2).Places] : List Int) (f := V.int .i64) (l := 208) .n rfl rfl (.cons (.t rfl) .nil) rfl si_27 zv_2 rfl rfl rfl <| CD (xs := x1.1) (ys := ([(at' list x1.2).Places] : List Int)) (f := V.int .i64) (l := 209) .n rfl (.ow (.t rfl) rfl (take_all (by simp only [len_map, put_len] <;> rfl)) (by simp only [len_map, put_len] <;> rfl)) (.ow (.t rfl) rfl (take_all (by simp only [len_map, put_len] <;> rfl)) (by simp only [len_map, put_len] <;> rfl)) si_27 zv_2 rfl (by ((have hR : RefugeIn m_ list := (by assumption); have hR1 := hR.1; simp only [List.length_append, List.length_cons, List.length_nil]; omega))) rfl rfl <| AE .n (.t rfl) fo_73_2 rfl <| AL [.sl 1 (sizes.map (V.int .i64)), .nls, .os 209 (x1.1 ++ ([(at' list x1.2).Places] : List Int)).length, .int .i64 budget, .nls, .nls, .int .i64 (-1)] .n rfl (.t rfl) (.t rfl) rfl ts_27 rfl rfl <| Lex.nil) ?_
            refine AS ?_
            refine Ad (BQ .n (.t rfl) (.c rfl) (fun _ => by omega) rfl <| Af .n (.t rfl) rfl <| Lex.nil) ?_
            exact Cy (x1.1 ++ ([(at' list x1.2).Places] : List Int), x1.2 + 1) ⟨by omega, by omega, by (simp only [lens] at * <;> omega), by (simp only [lens] at * <;> omega), by (((try dsimp only); have hq := places_inI (i := x1.2) (And.right (by assumption) : Bk m_ list = true) (by omega); exact app_all (by assumption) hq))⟩ (by omega) (sub_of [(206, 209)] ⟨rfl, rfl, rfl, rfl, rfl, rfl, rfl, rfl, trivial⟩ ⟨rfl, rfl, rfl, trivial⟩ rfl)
          · try simp only [tst] at h11
            refine Ba rfl ?_
            exact AY hk9 (x1.1, x1.2) ⟨by omega, by omega, by omega, by omega, by omega, by omega⟩ (sub_of [] ⟨rfl, rfl, rfl, rfl, rfl, trivial⟩ ⟨rfl, rfl, rfl, trivial⟩ rfl)

/-! ### spec_l19One -/
theorem c_spec_l19One (c_ : Bi) : Con Tryz.prog 71 [.rp [.str c_.Id, .int .i64 c_.Junction, .int .i64 c_.Speed]] [] (.bool (B7 c_)) ([]) := by
  refine con_intro (out := fun r : Bool => ((.bool r : V), ([] : List (Nat × Option O)))) (r := (B7 c_)) Tryz.func71 rfl Tryz.ntmps71 rfl ?_
  refine Ae ?_
  refine Ad (Ag .n (.c rfl) rfl <| Lex.nil) ?_
  refine Ae ?_
  refine Ad (Af .n (.t rfl) rfl <| AG .n (.t rfl) rfl <| AM .n (.t rfl) fo_37_0 rfl <| Az .n (.t rfl) rfl ic_9 rfl <| AR (full := false) .n .f en_100 (.cons (.t rfl) .nil) (.cons (.b (.a (.same rfl))) .nil) (fun hg => c_spec_l01Name c_.Id) rfl (fun h => Bool.noConfusion h) rfl <| Af .n (.t rfl) rfl <| Af (.t rfl rfl) (.t rfl) rfl <| AG (.t rfl rfl) (.u rfl id) rfl <| AM (.t rfl rfl) (.u rfl id) fo_37_1 rfl <| Az (.t rfl rfl) (.u rfl id) rfl ic_2 rfl <| AR (full := false) (.t rfl rfl) .f en_72 (.cons (.u rfl id) (.cons (.c rfl) (.cons (.c rfl) .nil))) (.cons (.b (.a (.same rfl))) (.cons (.b (.a (.same rfl))) (.cons (.b (.a (.same rfl))) .nil))) (fun hg => BJ c_.Junction 0 15) rfl (fun h => Bool.noConfusion h) rfl <| Cz .n (.t rfl) (.u rfl id) rfl <| Af .n (.t rfl) rfl <| Af (.t rfl rfl) (.t rfl) rfl <| AG (.t rfl rfl) (.u rfl id) rfl <| AM (.t rfl rfl) (.u rfl id) fo_37_2 rfl <| Az (.t rfl rfl) (.u rfl id) rfl ic_2 rfl <| AR (full := false) (.t rfl rfl) .f en_72 (.cons (.u rfl id) (.cons (.c rfl) (.cons (.c rfl) .nil))) (.cons (.b (.a (.same rfl))) (.cons (.b (.a (.same rfl))) (.cons (.b (.a (.same rfl))) .nil))) (fun hg => BJ c_.Speed 10 300) rfl (fun h => Bool.noConfusion h) rfl <| Cz .n (.t rfl) (.u rfl id) rfl <| Ag .n (.t rfl) rfl <| Lex.nil) ?_
  exact Ay [] (.cons (.t rfl rfl) .nil) rfl trivial rfl

/-! ### spec_l17Time -/
theorem c_spec_l17Time (t : Int) : Con Tryz.prog 73 [.int .i64 t] [] (.bool (CK t)) ([]) := by
  refine con_intro (out := fun r : Bool => ((.bool r : V), ([] : List (Nat × Option O)))) (r := (CK t)) Tryz.func73 rfl Tryz.ntmps73 rfl ?_
  refine Ae ?_
  refine Ad (Ag .n (.c rfl) rfl <| Lex.nil) ?_
  refine Ae ?_
  refine Ad (Af .n (.t rfl) rfl <| AR (full := false) .n .f en_72 (.cons (.t rfl) (.cons (.c rfl) (.cons (.c rfl) .nil))) (.cons (.b (.a (.same rfl))) (.cons (.b (.a (.same rfl))) (.cons (.b (.a (.same rfl))) .nil))) (fun hg => BJ t 0 36000) rfl (fun h => Bool.noConfusion h) rfl <| Ag .n (.t rfl) rfl <| Lex.nil) ?_
  exact Ay [] (.cons (.t rfl rfl) .nil) rfl trivial rfl

/-! ### spec_l19Arrivals -/
theorem c_spec_l19Arrivals (m_ : AH) (arrivals : List Int) : Con Tryz.prog 74 [.rp [.int .i64 m_.Junctions, .sl 7 (m_.Airways.map Au.v)], .sl 1 (arrivals.map (V.int .i64))] [] (.bool (B8 m_ arrivals)) ([]) := by
  refine con_intro (out := fun r : Bool => ((.bool r : V), ([] : List (Nat × Option O)))) (r := (B8 m_ arrivals)) Tryz.func74 rfl Tryz.ntmps74 rfl ?_
  refine BV (t := 0) 1 rfl rfl fun hl => ?_
  have l1 := hl; clear hl; simp only [List.length_map] at l1
  refine Bo (t := 1) rfl fun hl => ?_
  have l2 := hl; clear hl; simp only [List.length_map] at l2
  refine Ae ?_
  refine Ad (Ag .n (.c rfl) rfl <| Lex.nil) ?_
  refine Ae ?_
  refine Ae ?_
  refine Ad (Ag .n (.c rfl) rfl <| Lex.nil) ?_
  refine AC ?_
  refine Bp (Dh m_ arrivals) _ _ _ rfl (fun (x1 : Int) => 0 ≤ x1 ∧ x1 ≤ (arrivals.length : Int)) (fun x1 => 0 ≤ x1 ∧ x1 ≤ (arrivals.length : Int) ∧ (arrivals.length : Int) ≤ x1) (fun x1 => ((arrivals.length : Int) - x1 : Int).toNat) (fun x1 => ⟨[(0, some (true, .rp [.int .i64 m_.Junctions, .sl 7 (m_.Airways.map Au.v)])), (1, some (true, .sl 1 (arrivals.map (V.int .i64)))), (5, some (true, .int .i64 x1))], []⟩) (fun x1 => ⟨[(0, some (true, .rp [.int .i64 m_.Junctions, .sl 7 (m_.Airways.map Au.v)])), (1, some (true, .sl 1 (arrivals.map (V.int .i64))))], []⟩) ⟨by omega, by omega⟩ (by omega) (sub_of [] ⟨rfl, rfl, rfl, trivial⟩ trivial rfl) ?_ ?_
  · intro x1 i7
    obtain ⟨e8, e9, e10⟩ := i7
    try dsimp only at *
    refine Ae ?_
    refine Ad (Af .n (.t rfl) rfl <| BD .n (.t rfl) rfl len_map ss_27 rfl <| Af .n (.t rfl) rfl <| AG .n (.t rfl) rfl <| AM .n (.t rfl) fo_26_0 rfl <| Az .n (.t rfl) rfl ic_2 rfl <| AK .n (.t rfl) (.t rfl) rfl rfl <| Ag .n (.t rfl) rfl <| Lex.nil) ?_
    exact Ay [] (.cons (.t rfl rfl) .nil) rfl trivial rfl
  · intro rec1 k1 hk3 x1 i4
    obtain ⟨e11, e12⟩ := i4
    try dsimp only at *
    refine Ae ?_
    refine Ae ?_
    refine Ad (Af .n (.t rfl) rfl <| Af .n (.t rfl) rfl <| BD .n (.t rfl) rfl len_map ss_27 rfl <| AK .n (.t rfl) (.t rfl) rfl rfl <| Lex.nil) ?_
    refine As (.t rfl) rfl (fun h5 => ?_) (fun h5 => ?_)
    · try simp only [tst] at h5
      refine Aw ?_
      refine Ae ?_
      refine AC ?_
      refine Ae ?_
      refine Ad (Af .n (.t rfl) rfl <| Af .n (.t rfl) rfl <| Bc .n (.t rfl) (.t rfl) sl_27 (fun _ => by omega) rfl <| Az .n (.t rfl) rfl ic_2 rfl <| AR (full := false) .n .f en_72 (.cons (.t rfl) (.cons (.c rfl) (.cons (.c rfl) .nil))) (.cons (.b (.a (.same rfl))) (.cons (.b (.a (.same rfl))) (.cons (.b (.a (.same rfl))) .nil))) (fun hg => BJ (at' arrivals x1) (-1) 1000000000000) rfl (fun h => Bool.noConfusion h) rfl <| Cr .n (.t rfl) rfl <| Lex.nil) ?_
      refine As (.t rfl) rfl (fun h6 => ?_) (fun h6 => ?_)
      · try simp only [tst] at h6
        try have hf0h6 := l00In_imp h6
        try have hf1h6 := l00In_imp h6.1
        try have hf2h6 := l00In_imp h6.2
        try have hf3h6 := l00In_imp h6.1.1
        try have hf4h6 := l00In_imp h6.1.2
        try have hf5h6 := l00In_imp h6.2.1
        try have hf6h6 := l00In_imp h6.2.2
        refine Ae ?_
        refine Ad (Ag .n (.c rfl) rfl <| Lex.nil) ?_
        exact Ay [] (.cons (.t rfl rfl) .nil) rfl trivial rfl
      · try simp only [tst] at h6
        try have hf0h6 := l00In_imp h6
        try have hf1h6 := l00In_imp h6.1
        try have hf2h6 := l00In_imp h6.2
        try have hf3h6 := l00In_imp h6.1.1
        try have hf4h6 := l00In_imp h6.1.2
        try have hf5h6 := l00In_imp h6.2.1
        try have hf6h6 := l00In_imp h6.2.2
        refine Aw ?_
        refine AS ?_
        refine Ad (Af .n (.t rfl) rfl <| BQ .n (.t rfl) (.c rfl) (fun _ => by omega) rfl <| Ag .n (.t rfl) rfl <| Lex.nil) ?_
        exact A6 (x1 + 1) ⟨by omega, by omega⟩ (by omega) (sub_of [] ⟨rfl, rfl, rfl, trivial⟩ trivial rfl)
    · try simp only [tst] at h5
      refine Ba rfl ?_
      exact AY hk3 x1 ⟨by omega, by omega, by omega⟩ (sub_of [] ⟨rfl, rfl, trivial⟩ trivial rfl)

/-! ### spec_l19Ask -/
theorem c_spec_l19Ask (m_ : AH) (arrivals : List Int) (blocked : Int) (c_ : Bi) (start : Int) : Con Tryz.prog 32 [.rp [.int .i64 m_.Junctions, .sl 7 (m_.Airways.map Au.v)], .sl 1 (arrivals.map (V.int .i64)), .int .i64 blocked, .rp [.str c_.Id, .int .i64 c_.Junction, .int .i64 c_.Speed], .int .i64 start] [] (.int .i64 (BZ m_ arrivals blocked c_ start)) ([]) := by
  refine con_intro (out := fun r : Int => ((.int .i64 r : V), ([] : List (Nat × Option O)))) (r := (BZ m_ arrivals blocked c_ start)) Tryz.func32 rfl Tryz.ntmps32 rfl ?_
  refine BV (t := 0) 1 rfl rfl fun hl => ?_
  have l1 := hl; clear hl; simp only [List.length_map] at l1
  refine Bo (t := 1) rfl fun hl => ?_
  have l2 := hl; clear hl; simp only [List.length_map] at l2
  refine Ae ?_
  refine Ad (Ag .n (.c rfl) rfl <| Lex.nil) ?_
  refine Ae ?_
  refine Ae ?_
  refine Bl fmo (Af .n (.t rfl) rfl <| AR (full := false) .n .f en_50 (.cons (.t rfl) .nil) (.cons (.b (.a (.same rfl))) .nil) (fun hg => c_spec_l04Ok m_) rfl (fun h => Bool.noConfusion h) rfl <| Cr .n (.t rfl) rfl <| Af .n (.t rfl) rfl <| Af (.f rfl rfl) (.t rfl) rfl <| AR (full := false) (.f rfl rfl) .f en_71 (.cons (.u rfl id) .nil) (.cons (.b (.a (.same rfl))) .nil) (fun hg => c_spec_l19One c_) rfl (fun h => Bool.noConfusion h) rfl <| Cr (.f rfl rfl) (.u rfl id) rfl <| q_or .n (.t rfl) (.u rfl id) rfl <| Af .n (.t rfl) rfl <| Af (.f rfl rfl) (.t rfl) rfl <| AG (.f rfl rfl) (.u rfl id) rfl <| AM (.f rfl rfl) (.u rfl id) fo_37_1 rfl <| Az (.f rfl rfl) (.u rfl id) rfl ic_2 rfl <| Af (.f rfl rfl) (.t rfl) rfl <| AG (.f rfl rfl) (.u rfl id) rfl <| AM (.f rfl rfl) (.u rfl id) fo_26_0 rfl <| Az (.f rfl rfl) (.u rfl id) rfl ic_2 rfl <| AK (.f rfl rfl) (.u rfl id) (.u rfl id) rfl rfl <| q_or .n (.t rfl) (.u rfl id) rfl <| Lex.nil) (by kernel_rfl) ?_
  refine As (.t rfl) rfl (fun h3 => ?_) (fun h3 => ?_)
  · try simp only [tst] at h3
    try have hf0h3 := l04Ok_imp h3
    try have hf1h3 := l04Ok_imp h3.1
    try have hf2h3 := l04Ok_imp h3.2
    try have hf3h3 := l04Ok_imp h3.1.1
    try have hf4h3 := l04Ok_imp h3.1.2
    try have hf5h3 := l04Ok_imp h3.2.1
    try have hf6h3 := l04Ok_imp h3.2.2
    refine Ae ?_
    refine Ad (Ag .n (.c rfl) rfl <| Lex.nil) ?_
    exact Ay [] (.cons (.t rfl rfl) .nil) rfl trivial rfl
  · try simp only [tst] at h3
    try have hf0h3 := l04Ok_imp h3
    try have hf1h3 := l04Ok_imp h3.1
    try have hf2h3 := l04Ok_imp h3.2
    try have hf3h3 := l04Ok_imp h3.1.1
    try have hf4h3 := l04Ok_imp h3.1.2
    try have hf5h3 := l04Ok_imp h3.2.1
    try have hf6h3 := l04Ok_imp h3.2.2
    refine Aw ?_
    refine Ae ?_
    refine Ae ?_
    refine Ad (Af .n (.t rfl) rfl <| Af .n (.t rfl) rfl <| AG .n (.t rfl) rfl <| AM .n (.t rfl) fo_26_1 rfl <| Az .n (.t rfl) rfl ic_24 rfl <| BD .n (.t rfl) rfl len_map ss_24 rfl <| q_sub .n (.t rfl) (.c rfl) (fun _ => by omega) rfl <| AR (full := false) .n .f en_72 (.cons (.t rfl) (.cons (.c rfl) (.cons (.t rfl) .nil))) (.cons (.b (.a (.same rfl))) (.cons (.b (.a (.same rfl))) (.cons (.b (.a (.same rfl))) .nil))) (fun hg => BJ blocked (-1) ((m_.Airways.length : Int) - 1)) rfl (fun h => Bool.noConfusion h) rfl <| Cr .n (.t rfl) rfl <| Af .n (.t rfl) rfl <| Af (.f rfl rfl) (.t rfl) rfl <| AR (full := false) (.f rfl rfl) .f en_73 (.cons (.u rfl id) .nil) (.cons (.b (.a (.same rfl))) .nil) (fun hg => c_spec_l17Time start) rfl (fun h => Bool.noConfusion h) rfl <| Cr (.f rfl rfl) (.u rfl id) rfl <| q_or .n (.t rfl) (.u rfl id) rfl <| Lex.nil) ?_
    refine As (.t rfl) rfl (fun h4 => ?_) (fun h4 => ?_)
    · try simp only [tst] at h4
      try have hf0h4 := l00In_imp h4
      try have hf1h4 := l00In_imp h4.1
      try have hf2h4 := l00In_imp h4.2
      try have hf3h4 := l00In_imp h4.1.1
      try have hf4h4 := l00In_imp h4.1.2
      try have hf5h4 := l00In_imp h4.2.1
      try have hf6h4 := l00In_imp h4.2.2
      try have hf7h4 := l17Time_imp h4
      try have hf8h4 := l17Time_imp h4.1
      try have hf9h4 := l17Time_imp h4.2
      try have hf10h4 := l17Time_imp h4.1.1
      try have hf11h4 := l17Time_imp h4.1.2
      try have hf12h4 := l17Time_imp h4.2.1
      try have hf13h4 := l17Time_imp h4.2.2
      refine Ae ?_
      refine Ad (Ag .n (.c rfl) rfl <| Lex.nil) ?_
      exact Ay [] (.cons (.t rfl rfl) .nil) rfl trivial rfl
    · try simp only [tst] at h4
      try have hf0h4 := l00In_imp h4
      try have hf1h4 := l00In_imp h4.1
      try have hf2h4 := l00In_imp h4.2
      try have hf3h4 := l00In_imp h4.1.1
      try have hf4h4 := l00In_imp h4.1.2
      try have hf5h4 := l00In_imp h4.2.1
      try have hf6h4 := l00In_imp h4.2.2
      try have hf7h4 := l17Time_imp h4
      try have hf8h4 := l17Time_imp h4.1
      try have hf9h4 := l17Time_imp h4.2
      try have hf10h4 := l17Time_imp h4.1.1
      try have hf11h4 := l17Time_imp h4.1.2
      try have hf12h4 := l17Time_imp h4.2.1
      try have hf13h4 := l17Time_imp h4.2.2
      refine Aw ?_
      refine Ae ?_
      refine Ae ?_
      refine Ad (Af .n (.t rfl) rfl <| Af .n (.t rfl) rfl <| AR (full := false) .n .f en_74 (.cons (.t rfl) (.cons (.t rfl) .nil)) (.cons (.b (.a (.same rfl))) (.cons (.b (.a (.same rfl))) .nil)) (fun hg => c_spec_l19Arrivals m_ arrivals) rfl (fun h => Bool.noConfusion h) rfl <| Cr .n (.t rfl) rfl <| Lex.nil) ?_
      refine As (.t rfl) rfl (fun h5 => ?_) (fun h5 => ?_)
      · try simp only [tst] at h5
        try have hf0h5 := l19Arr_imp h5
        try have hf1h5 := l19Arr_imp h5.1
        try have hf2h5 := l19Arr_imp h5.2
        try have hf3h5 := l19Arr_imp h5.1.1
        try have hf4h5 := l19Arr_imp h5.1.2
        try have hf5h5 := l19Arr_imp h5.2.1
        try have hf6h5 := l19Arr_imp h5.2.2
        refine Ae ?_
        refine Ad (Ag .n (.c rfl) rfl <| Lex.nil) ?_
        exact Ay [] (.cons (.t rfl rfl) .nil) rfl trivial rfl
      · try simp only [tst] at h5
        try have hf0h5 := l19Arr_imp h5
        try have hf1h5 := l19Arr_imp h5.1
        try have hf2h5 := l19Arr_imp h5.2
        try have hf3h5 := l19Arr_imp h5.1.1
        try have hf4h5 := l19Arr_imp h5.1.2
        try have hf5h5 := l19Arr_imp h5.2.1
        try have hf6h5 := l19Arr_imp h5.2.2
        refine Aw ?_
        refine Ae ?_
        refine Ad (Ag .n (.c rfl) rfl <| Lex.nil) ?_
        exact Ay [] (.cons (.t rfl rfl) .nil) rfl trivial rfl

/-! ### spec_l19Safe -/
theorem c_spec_l19Safe (arrivals : List Int) (j : Int) (time : Int) (hp1 : 0 ≤ j ∧ j < arrivals.length) : Con Tryz.prog 75 [.sl 1 (arrivals.map (V.int .i64)), .int .i64 j, .int .i64 time] [] (.bool (Cw arrivals j time)) ([]) := by
  refine con_intro (out := fun r : Bool => ((.bool r : V), ([] : List (Nat × Option O)))) (r := (Cw arrivals j time)) Tryz.func75 rfl Tryz.ntmps75 rfl ?_
  refine Bo (t := 0) rfl fun hl => ?_
  have l1 := hl; clear hl; simp only [List.length_map] at l1
  refine Ae ?_
  refine Ad (Ag .n (.c rfl) rfl <| Lex.nil) ?_
  refine Ae ?_
  refine Ad (Af .n (.t rfl) rfl <| Af .n (.t rfl) rfl <| Bc .n (.t rfl) (.t rfl) sl_27 (fun _ => by omega) rfl <| Az .n (.t rfl) rfl ic_2 rfl <| AK .n (.t rfl) (.c rfl) rfl rfl <| Af .n (.t rfl) rfl <| Af (.f rfl rfl) (.t rfl) rfl <| Af (.f rfl rfl) (.t rfl) rfl <| Af (.f rfl rfl) (.t rfl) rfl <| Bc (.f rfl rfl) (.u rfl id) (.u rfl id) sl_27 (fun hg => by simp only [tst] at hg; omega) rfl <| Az (.f rfl rfl) (.u rfl id) rfl ic_2 rfl <| AK (.f rfl rfl) (.u rfl id) (.u rfl id) rfl rfl <| q_or .n (.t rfl) (.u rfl id) rfl <| Ag .n (.t rfl) rfl <| Lex.nil) ?_
  exact Ay [] (.cons (.t rfl rfl) .nil) rfl trivial rfl

/-! ### spec_l19Walk -/
theorem c_spec_l19Walk (a : Au) (speed : Int) (hp1 : 10 ≤ speed ∧ speed ≤ 300) : Con Tryz.prog 76 [.rp [.str a.Id, .int .i64 a.From, .int .i64 a.To, .int .i64 a.Length, .int .i64 a.Section, .int .i64 a.Friction, .int .i64 a.Shock], .int .i64 speed] [] (.int .i64 (B3 a speed)) ([]) := by
  refine con_intro (out := fun r : Int => ((.int .i64 r : V), ([] : List (Nat × Option O)))) (r := (B3 a speed)) Tryz.func76 rfl Tryz.ntmps76 rfl ?_
  refine Ae ?_
  refine Ad (Ag .n (.c rfl) rfl <| Lex.nil) ?_
  refine Ae ?_
  refine Ad (Af .n (.t rfl) rfl <| AG .n (.t rfl) rfl <| AM .n (.t rfl) fo_112_3 rfl <| Az .n (.t rfl) rfl ic_2 rfl <| AK .n (.c rfl) (.t rfl) rfl rfl <| Af .n (.t rfl) rfl <| AK .n (.t rfl) (.t rfl) rfl rfl <| AK .n (.t rfl) (.c rfl) rfl rfl <| Af .n (.t rfl) rfl <| q_quo .n (.t rfl) (.t rfl) (fun hg => by omega) rfl <| Ag .n (.t rfl) rfl <| Lex.nil) ?_
  exact Ay [] (.cons (.t rfl rfl) .nil) rfl trivial rfl

/-! ### spec_l19Go -/
theorem c_spec_l19Go (arrivals : List Int) (times : List Int) (from_ : Int) (to : Int) (n_ : Int) (hp1 : 0 ≤ from_ ∧ from_ < times.length) (hp2 : 0 ≤ to ∧ to < times.length) (hp3 : times.length = arrivals.length) : Con Tryz.prog 77 [.sl 1 (arrivals.map (V.int .i64)), .os 1 times.length, .int .i64 from_, .int .i64 to, .int .i64 n_] [(1, some (.row 2 1 (times.map (V.int .i64))))] (.tup []) ([(1, some (.row 2 1 ((Cl arrivals times from_ to n_).map (V.int .i64))))]) := by
  refine con_intro (out := fun r : (List Int) => ((.tup [] : V), ([(1, some (.row 2 1 (r.map (V.int .i64))))] : List (Nat × Option O)))) (r := (Cl arrivals times from_ to n_)) Tryz.func77 rfl Tryz.ntmps77 rfl ?_
  refine Bo (t := 0) rfl fun hl => ?_
  have l1 := hl; clear hl; simp only [List.length_map] at l1
  refine CZ (l := 1) rfl fun hl => ?_
  have l2 := hl; clear hl; simp only [List.length_map] at l2
  refine Ae ?_
  refine Ae ?_
  refine Ad (Af .n (.t rfl) rfl <| Af .n (.t rfl) rfl <| AX .n (.t rfl) (.t rfl) sl_27 (fun _ => by omega) rfl <| A3 .n (.t rfl) rfl (fun _ => by omega) rfl rfl rfl ic_2 rfl <| AK .n (.t rfl) (.c rfl) rfl rfl <| Lex.nil) ?_
  refine As (.t rfl) rfl (fun h3 => ?_) (fun h3 => ?_)
  · try simp only [tst] at h3
    exact Ay [] .nil rfl ⟨rfl, trivial⟩ rfl
  · try simp only [tst] at h3
    refine Aw ?_
    refine Ae ?_
    refine Ad (Af .n (.t rfl) rfl <| Af .n (.t rfl) rfl <| AX .n (.t rfl) (.t rfl) sl_27 (fun _ => by omega) rfl <| A3 .n (.t rfl) rfl (fun _ => by omega) rfl rfl rfl ic_2 rfl <| Af .n (.t rfl) rfl <| AK .n (.t rfl) (.t rfl) rfl rfl <| Ag .n (.t rfl) rfl <| Lex.nil) ?_
    refine Ae ?_
    refine Ad (Af .n (.t rfl) rfl <| Af .n (.t rfl) rfl <| Af .n (.t rfl) rfl <| AR (full := false) .n .f en_75 (.cons (.t rfl) (.cons (.t rfl) (.cons (.t rfl) .nil))) (.cons (.b (.a (.same rfl))) (.cons (.b (.a (.same rfl))) (.cons (.b (.a (.same rfl))) .nil))) (fun hg => c_spec_l19Safe arrivals to (IntKind.wrap .i64 ((at' times from_) + n_)) (by omega)) rfl (fun h => Bool.noConfusion h) rfl <| Af .n (.t rfl) rfl <| Af (.t rfl rfl) (.t rfl) rfl <| Af (.t rfl rfl) (.t rfl) rfl <| AX (.t rfl rfl) (.u rfl id) (.u rfl id) sl_27 (fun hg => by simp only [tst] at hg; omega) rfl <| A3 (.t rfl rfl) (.u rfl id) rfl (fun hg => by simp only [tst] at hg; omega) rfl rfl rfl ic_2 rfl <| AK (.t rfl rfl) (.u rfl id) (.c rfl) rfl rfl <| Af (.t rfl rfl) (.u rfl id) rfl <| Af (.f rfl rfl) (.t rfl) rfl <| Af (.f rfl rfl) (.t rfl) rfl <| Af (.f rfl rfl) (.t rfl) rfl <| AX (.f rfl rfl) (.u rfl id) (.u rfl id) sl_27 (fun hg => by simp only [tst] at hg; omega) rfl <| A3 (.f rfl rfl) (.u rfl id) rfl (fun hg => by simp only [tst] at hg; omega) rfl rfl rfl ic_2 rfl <| AK (.f rfl rfl) (.u rfl id) (.u rfl id) rfl rfl <| q_or (.t rfl rfl) (.u rfl id) (.u rfl id) rfl <| Cz .n (.t rfl) (.u rfl id) rfl <| Lex.nil) ?_
    refine As (.t rfl) rfl (fun h4 => ?_) (fun h4 => ?_)
    · try simp only [tst] at h4
      refine Ad (Af .n (.t rfl) rfl <| Af .n (.t rfl) rfl <| Af .n (.t rfl) rfl <| AX .n (.t rfl) (.t rfl) sl_27 (fun _ => by omega) rfl <| B0 (IntKind.wrap .i64 ((at' times from_) + n_)) .n rfl (.t rfl) (.t rfl) rfl ts_2 (by omega) rfl rfl <| Lex.nil) ?_
      exact run_end [] .nil rfl ⟨rfl, trivial⟩ rfl
    · try simp only [tst] at h4
      refine Aw ?_
      exact run_end [] .nil rfl ⟨rfl, trivial⟩ rfl

/-! ### spec_l19Times -/
theorem c_spec_l19Times (m_ : AH) (arrivals : List Int) (blocked : Int) (c_ : Bi) (start : Int) (hp1 : MineIn m_) (hp2 : (arrivals.length : Int) = m_.Junctions) (hp3 : CrewIn m_ c_) (hp4 : 0 ≤ start ∧ start ≤ 36000) : Con Tryz.prog 33 [.rp [.int .i64 m_.Junctions, .sl 7 (m_.Airways.map Au.v)], .sl 1 (arrivals.map (V.int .i64)), .int .i64 blocked, .rp [.str c_.Id, .int .i64 c_.Junction, .int .i64 c_.Speed], .int .i64 start] [] (.os 100 (Bw m_ arrivals blocked c_ start).length) ([(100, some (.row 2 1 ((Bw m_ arrivals blocked c_ start).map (V.int .i64))))]) := by
  refine con_intro (out := fun r : (List Int) => ((.os 100 r.length : V), ([(100, some (.row 2 1 (r.map (V.int .i64))))] : List (Nat × Option O)))) (r := (Bw m_ arrivals blocked c_ start)) Tryz.func33 rfl Tryz.ntmps33 rfl ?_
  have hC1 := hp3.1
  have hC2 := hp3.2
  have hJ1 := hp1.1
  have hA1 := hp1.2.1
  refine BV (t := 0) 1 rfl rfl fun hl => ?_
  have l1 := hl; clear hl; simp only [List.length_map] at l1
  refine Bo (t := 1) rfl fun hl => ?_
  have l2 := hl; clear hl; simp only [List.length_map] at l2
  refine Ae ?_
  refine Ad (Ag .n (.c rfl) rfl <| Lex.nil) ?_
  refine Ae ?_
  refine Ad (AW K_6 (f := V.int .i64) (l := 200) .n rfl rfl .nil rfl si_27 zv_2 rfl rfl rfl <| Ag .n (.t rfl) rfl <| Lex.nil) ?_
  refine Ae ?_
  refine Ae ?_
  refine Ad (Ag .n (.c rfl) rfl <| Lex.nil) ?_
  refine AC ?_
  refine Bp (CJ m_ arrivals blocked c_ start) _ _ _ rfl (fun (x1 : (List Int) × Int) => 0 ≤ x1.2 ∧ x1.2 ≤ m_.Junctions ∧ (x1.1.length : Int) + 0 ≤ x1.2 + (K_6.length : Int) ∧ (x1.1.length : Int) = x1.2) (fun x1 => 0 ≤ x1.2 ∧ x1.2 ≤ m_.Junctions ∧ (x1.1.length : Int) + 0 ≤ x1.2 + (K_6.length : Int) ∧ (x1.1.length : Int) = x1.2 ∧ m_.Junctions ≤ x1.2) (fun x1 => (m_.Junctions - x1.2 : Int).toNat) (fun x1 => ⟨[(0, some (true, .rp [.int .i64 m_.Junctions, .sl 7 (m_.Airways.map Au.v)])), (1, some (true, .sl 1 (arrivals.map (V.int .i64)))), (2, some (true, .int .i64 blocked)), (3, some (true, .rp [.str c_.Id, .int .i64 c_.Junction, .int .i64 c_.Speed])), (4, some (true, .int .i64 start)), (11, some (true, .os 200 x1.1.length)), (12, some (true, .int .i64 x1.2))], [(200, some (.row 2 1 (x1.1.map (V.int .i64))))]⟩) (fun x1 => ⟨[(0, some (true, .rp [.int .i64 m_.Junctions, .sl 7 (m_.Airways.map Au.v)])), (1, some (true, .sl 1 (arrivals.map (V.int .i64)))), (2, some (true, .int .i64 blocked)), (3, some (true, .rp [.str c_.Id, .int .i64 c_.Junction, .int .i64 c_.Speed])), (4, some (true, .int .i64 start)), (11, some (true, .os 200 x1.1.length))], [(200, some (.row 2 1 (x1.1.map (V.int .i64))))]⟩) ⟨by omega, by omega, by (simp only [lens] at * <;> omega), by (simp only [lens] at * <;> omega)⟩ (by omega) (sub_of [] ⟨rfl, rfl, rfl, rfl, rfl, rfl, rfl, trivial⟩ ⟨rfl, trivial⟩ rfl) ?_ ?_
  · intro x1 i6
    obtain ⟨e31, e32, e33, e34, e35⟩ := i6
    try dsimp only at *
    refine Ae ?_
    refine Ae ?_
    refine Ad (Af .n (.t rfl) rfl <| Af .n (.t rfl) rfl <| AG .n (.t rfl) rfl <| AM .n (.t rfl) fo_37_1 rfl <| Az .n (.t rfl) rfl ic_2 rfl <| Af .n (.t rfl) rfl <| AR (full := false) .n .f en_75 (.cons (.t rfl) (.cons (.t rfl) (.cons (.t rfl) .nil))) (.cons (.b (.a (.same rfl))) (.cons (.b (.a (.same rfl))) (.cons (.b (.a (.same rfl))) .nil))) (fun hg => c_spec_l19Safe arrivals c_.Junction start (by omega)) rfl (fun h => Bool.noConfusion h) rfl <| Cr .n (.t rfl) rfl <| Lex.nil) ?_
    refine As (.t rfl) rfl (fun h7 => ?_) (fun h7 => ?_)
    · try simp only [tst] at h7
      refine Ae ?_
      refine Ad (Af .n (.t rfl) rfl <| Ag .n (.t rfl) rfl <| Lex.nil) ?_
      exact Ay [(100, 200)] (.cons (.t rfl rfl) .nil) (by first | rfl | (simp only [put_len]; rfl)) ⟨rfl, trivial⟩ rfl
    · try simp only [tst] at h7
      refine Aw ?_
      refine Ae ?_
      refine Ad (Af .n (.t rfl) rfl <| Af .n (.t rfl) rfl <| AG .n (.t rfl) rfl <| AM .n (.t rfl) fo_37_1 rfl <| Az .n (.t rfl) rfl ic_2 rfl <| Af .n (.t rfl) rfl <| AX .n (.t rfl) (.t rfl) sl_27 (fun _ => by omega) rfl <| B0 start .n rfl (.t rfl) (.t rfl) rfl ts_2 (by omega) rfl rfl <| Lex.nil) ?_
      refine Ae ?_
      refine Ae ?_
      refine Ad (Ag .n (.c rfl) rfl <| Lex.nil) ?_
      refine AC ?_
      refine Bp (Cq m_ arrivals blocked c_ start x1) _ _ _ rfl (fun (x2 : (List Int) × Int) => 0 ≤ x2.2 ∧ x2.2 ≤ m_.Junctions ∧ (x2.1.length : Int) = m_.Junctions) (fun x2 => 0 ≤ x2.2 ∧ x2.2 ≤ m_.Junctions ∧ (x2.1.length : Int) = m_.Junctions ∧ m_.Junctions ≤ x2.2) (fun x2 => (m_.Junctions - x2.2 : Int).toNat) (fun x2 => ⟨[(0, some (true, .rp [.int .i64 m_.Junctions, .sl 7 (m_.Airways.map Au.v)])), (1, some (true, .sl 1 (arrivals.map (V.int .i64)))), (2, some (true, .int .i64 blocked)), (3, some (true, .rp [.str c_.Id, .int .i64 c_.Junction, .int .i64 c_.Speed])), (11, some (true, .os 200 x2.1.length)), (13, some (true, .int .i64 x2.2))], [(200, some (.row 2 1 (x2.1.map (V.int .i64))))]⟩) (fun x2 => ⟨[(11, some (true, .os 200 x2.1.length))], [(200, some (.row 2 1 (x2.1.map (V.int .i64))))]⟩) ⟨by omega, by omega, by (simp only [lens] at * <;> omega)⟩ (by omega) (sub_of [] ⟨rfl, rfl, rfl, rfl, os_len rfl (by first | (simp only [put_len]; done) | (first | omega | assumption | (simp only [lens] at * <;> omega) | (((simp only [go_len, put_len] at * <;> omega)); done) | (((have hw0 := hp1.at (i := x3.1) (by omega); unfold AirIn at hw0; (try simp only [go_len] at *); omega)); done))), rfl, trivial⟩ ⟨rfl, trivial⟩ rfl) ?_ ?_
      · intro x2 i23
        obtain ⟨e24, e25, e26, e27⟩ := i23
        try dsimp only at *
        refine Ae ?_
        refine Ad (Af .n (.t rfl) rfl <| Ag .n (.t rfl) rfl <| Lex.nil) ?_
        exact Ay [(100, 200)] (.cons (.t rfl rfl) .nil) (by first | rfl | (simp only [put_len]; rfl)) ⟨rfl, trivial⟩ rfl
      · intro rec2 k2 hk8 x2 i9
        obtain ⟨e28, e29, e30⟩ := i9
        try dsimp only at *
        refine Ae ?_
        refine Ae ?_
        refine Ad (Af .n (.t rfl) rfl <| Af .n (.t rfl) rfl <| AG .n (.t rfl) rfl <| AM .n (.t rfl) fo_26_0 rfl <| Az .n (.t rfl) rfl ic_2 rfl <| AK .n (.t rfl) (.t rfl) rfl rfl <| Lex.nil) ?_
        refine As (.t rfl) rfl (fun h10 => ?_) (fun h10 => ?_)
        · try simp only [tst] at h10
          refine Aw ?_
          refine Ae ?_
          refine AC ?_
          refine Ae ?_
          refine Ad (Ag .n (.c rfl) rfl <| Lex.nil) ?_
          refine AC ?_
          refine Bp (CI m_ arrivals blocked c_ start x1 rec2 k2 x2) _ _ _ rfl (fun (x3 : Int × (List Int)) => 0 ≤ x3.1 ∧ x3.1 ≤ (m_.Airways.length : Int) ∧ (x3.2.length : Int) = m_.Junctions) (fun x3 => 0 ≤ x3.1 ∧ x3.1 ≤ (m_.Airways.length : Int) ∧ (x3.2.length : Int) = m_.Junctions ∧ (m_.Airways.length : Int) ≤ x3.1) (fun x3 => ((m_.Airways.length : Int) - x3.1 : Int).toNat) (fun x3 => ⟨[(0, some (true, .rp [.int .i64 m_.Junctions, .sl 7 (m_.Airways.map Au.v)])), (1, some (true, .sl 1 (arrivals.map (V.int .i64)))), (2, some (true, .int .i64 blocked)), (3, some (true, .rp [.str c_.Id, .int .i64 c_.Junction, .int .i64 c_.Speed])), (11, some (true, .os 200 x3.2.length)), (13, some (true, .int .i64 x2.2)), (14, some (true, .int .i64 x3.1))], [(200, some (.row 2 1 (x3.2.map (V.int .i64))))]⟩) (fun x3 => ⟨[(0, some (true, .rp [.int .i64 m_.Junctions, .sl 7 (m_.Airways.map Au.v)])), (1, some (true, .sl 1 (arrivals.map (V.int .i64)))), (2, some (true, .int .i64 blocked)), (3, some (true, .rp [.str c_.Id, .int .i64 c_.Junction, .int .i64 c_.Speed])), (11, some (true, .os 200 x3.2.length)), (13, some (true, .int .i64 x2.2))], [(200, some (.row 2 1 (x3.2.map (V.int .i64))))]⟩) ⟨by omega, by omega, by omega⟩ (by omega) (sub_of [] ⟨rfl, rfl, rfl, rfl, rfl, rfl, rfl, trivial⟩ ⟨rfl, trivial⟩ rfl) ?_ ?_
          · intro x3 i15
            obtain ⟨e16, e17, e18, e19⟩ := i15
            try dsimp only at *
            refine AS ?_
            refine Ad (Af .n (.t rfl) rfl <| BQ .n (.t rfl) (.c rfl) (fun _ => by omega) rfl <| Ag .n (.t rfl) rfl <| Lex.nil) ?_
            exact A6 (x3.2, x2.2 + 1) ⟨by omega, by omega, by omega⟩ (by omega) (sub_of [] ⟨rfl, rfl, rfl, rfl, rfl, rfl, trivial⟩ ⟨rfl, trivial⟩ rfl)
          · intro rec3 k3 hk11 x3 i12
            obtain ⟨e20, e21, e22⟩ := i12
            try dsimp only at *
            refine Ae ?_
            refine Ae ?_
            refine Ad (Af .n (.t rfl) rfl <| Af .n (.t rfl) rfl <| AG .n (.t rfl) rfl <| AM .n (.t rfl) fo_26_1 rfl <| Az .n (.t rfl) rfl ic_24 rfl <| BD .n (.t rfl) rfl len_map ss_24 rfl <| AK .n (.t rfl) (.t rfl) rfl rfl <| Lex.nil) ?_
            refine As (.t rfl) rfl (fun h13 => ?_) (fun h13 => ?_)
            · try simp only [tst] at h13
              refine Aw ?_
              refine Ae ?_
              refine AC ?_
              refine Ae ?_
              refine Ae ?_
              refine Ad (Af .n (.t rfl) rfl <| Af .n (.t rfl) rfl <| AK .n (.t rfl) (.t rfl) rfl rfl <| Lex.nil) ?_
              refine As (.t rfl) rfl (fun h14 => ?_) (fun h14 => ?_)
              · try simp only [tst] at h14
                refine Ba rfl ?_
                refine Ad (Af .n (.t rfl) rfl <| BQ .n (.t rfl) (.c rfl) (fun _ => by omega) rfl <| Ag .n (.t rfl) rfl <| Lex.nil) ?_
                exact A6 (x3.1 + 1, x3.2) ⟨by omega, by omega, by omega⟩ (by omega) (sub_of [] ⟨rfl, rfl, rfl, rfl, rfl, rfl, rfl, trivial⟩ ⟨rfl, trivial⟩ rfl)
              · try simp only [tst] at h14
                refine Aw ?_
                refine Ae ?_
                refine Ad (Af .n (.t rfl) rfl <| AG .n (.t rfl) rfl <| AM .n (.t rfl) fo_26_1 rfl <| Az .n (.t rfl) rfl ic_24 rfl <| Af .n (.t rfl) rfl <| Bc .n (.t rfl) (.t rfl) sl_24 (fun _ => by omega) rfl <| Ag .n (.t rfl) rfl <| Lex.nil) ?_
                refine Ae ?_
                refine Ad (Af .n (.t rfl) rfl <| Af .n (.t rfl) rfl <| AG .n (.t rfl) rfl <| AM .n (.t rfl) fo_37_2 rfl <| Az .n (.t rfl) rfl ic_2 rfl <| AR (full := false) .n .f en_76 (.cons (.t rfl) (.cons (.t rfl) .nil)) (.cons (.b (.a (.same rfl))) (.cons (.b (.a (.same rfl))) .nil)) (fun hg => c_spec_l19Walk (at' m_.Airways x3.1) c_.Speed (by omega)) rfl (fun h => Bool.noConfusion h) rfl <| Ag .n (.t rfl) rfl <| Lex.nil) ?_
                refine Ae ?_
                refine Bl fmo (Af .n (.t rfl) rfl <| Af .n (.t rfl) rfl <| Af .n (.t rfl) rfl <| AG .n (.t rfl) rfl <| AM .n (.t rfl) fo_112_1 rfl <| Az .n (.t rfl) rfl ic_2 rfl <| Af .n (.t rfl) rfl <| AG .n (.t rfl) rfl <| AM .n (.t rfl) fo_112_2 rfl <| Az .n (.t rfl) rfl ic_2 rfl <| Af .n (.t rfl) rfl <| AV (full := false) [(1, 200)] [] .n rfl .f en_77 (.cons (.t rfl) (.cons (.t rfl) (.cons (.t rfl) (.cons (.t rfl) (.cons (.t rfl) .nil))))) (.cons (.b (.a (.same rfl))) (.cons (.b (muts_len rfl (by first | rfl | exact go_len _ _ _ _ _))) (.cons (.b (.a (.same rfl))) (.cons (.b (.a (.same rfl))) (.cons (.b (.a (.same rfl))) .nil))))) (c_spec_l19Go arrivals x3.2 (at' m_.Airways x3.1).From (at' m_.Airways x3.1).To (B3 (at' m_.Airways x3.1) c_.Speed) (by ((have hw0 := hp1.at (i := x3.1) (by omega); unfold AirIn at hw0; (try simp only [go_len] at *); omega))) (by ((have hw0 := hp1.at (i := x3.1) (by omega); unfold AirIn at hw0; (try simp only [go_len] at *); omega))) (by omega)) ⟨rfl, trivial⟩ rfl rfl (fun h => Bool.noConfusion h) (fun h => Bool.noConfusion h) rfl <| Lex.nil) (by kernel_rfl) ?_
                refine Bl fmo (Af .n (.t rfl) rfl <| Af .n (.t rfl) rfl <| Af .n (.t rfl) rfl <| AG .n (.t rfl) rfl <| AM .n (.t rfl) fo_112_2 rfl <| Az .n (.t rfl) rfl ic_2 rfl <| Af .n (.t rfl) rfl <| AG .n (.t rfl) rfl <| AM .n (.t rfl) fo_112_1 rfl <| Az .n (.t rfl) rfl ic_2 rfl <| Af .n (.t rfl) rfl <| AV (full := false) [(1, 200)] [] .n rfl .f en_77 (.cons (.t rfl) (.cons (.t rfl) (.cons (.t rfl) (.cons (.t rfl) (.cons (.t rfl) .nil))))) (.cons (.b (.a (.same rfl))) (.cons (.b (muts_len rfl (by first | rfl | exact go_len _ _ _ _ _))) (.cons (.b (.a (.same rfl))) (.cons (.b (.a (.same rfl))) (.cons (.b (.a (.same rfl))) .nil))))) (c_spec_l19Go arrivals (Cl arrivals x3.2 (at' m_.Airways x3.1).From (at' m_.Airways x3.1).To (B3 (at' m_.Airways x3.1) c_.Speed)) (at' m_.Airways x3.1).To (at' m_.Airways x3.1).From (B3 (at' m_.Airways x3.1) c_.Speed) (by ((have hw0 := hp1.at (i := x3.1) (by omega); unfold AirIn at hw0; (try simp only [go_len] at *); omega))) (by ((have hw0 := hp1.at (i := x3.1) (by omega); unfold AirIn at hw0; (try simp only [go_len] at *); omega))) (by ((simp only [go_len, put_len] at * <;> omega)))) ⟨rfl, trivial⟩ rfl rfl (fun h => Bool.noConfusion h) (fun h => Bool.noConfusion h) rfl <| Lex.nil) (by kernel_rfl) ?_
                refine AS ?_
                refine Ad (Af .n (.t rfl) rfl <| BQ .n (.t rfl) (.c rfl) (fun _ => by omega) rfl <| Ag .n (.t rfl) rfl <| Lex.nil) ?_
                exact A6 (x3.1 + 1, Cl arrivals (Cl arrivals x3.2 (at' m_.Airways x3.1).From (at' m_.Airways x3.1).To (B3 (at' m_.Airways x3.1) c_.Speed)) (at' m_.Airways x3.1).To (at' m_.Airways x3.1).From (B3 (at' m_.Airways x3.1) c_.Speed)) ⟨by omega, by omega, by ((simp only [go_len, put_len] at * <;> omega))⟩ (by omega) (sub_of [] ⟨rfl, rfl, rfl, rfl, os_len rfl (by first | (simp only [put_len]; done) | (((simp only [go_len, put_len] at * <;> omega)))), rfl, rfl, trivial⟩ ⟨rfl, trivial⟩ rfl)
            · try simp only [tst] at h13
              refine Ba rfl ?_
              exact AY hk11 (x3.1, x3.2) ⟨by omega, by omega, by omega, by omega⟩ (sub_of [] ⟨rfl, rfl, rfl, rfl, rfl, rfl, trivial⟩ ⟨rfl, trivial⟩ rfl)
        · try simp only [tst] at h10
          refine Ba rfl ?_
          exact AY hk8 (x2.1, x2.2) ⟨by omega, by omega, by omega, by omega⟩ (sub_of [] ⟨rfl, trivial⟩ ⟨rfl, trivial⟩ rfl)
  · intro rec1 k1 hk3 x1 i4
    obtain ⟨e36, e37, e38, e39⟩ := i4
    try dsimp only at *
    refine Ae ?_
    refine Ae ?_
    refine Ad (Af .n (.t rfl) rfl <| Af .n (.t rfl) rfl <| AG .n (.t rfl) rfl <| AM .n (.t rfl) fo_26_0 rfl <| Az .n (.t rfl) rfl ic_2 rfl <| AK .n (.t rfl) (.t rfl) rfl rfl <| Lex.nil) ?_
    refine As (.t rfl) rfl (fun h5 => ?_) (fun h5 => ?_)
    · try simp only [tst] at h5
      refine Aw ?_
      refine Ae ?_
      refine AC ?_
      refine Ad (Af .n (.t rfl) rfl <| AW K_7 (f := V.int .i64) (l := 201) .n rfl rfl (.cons (.c rfl) .nil) rfl si_27 zv_2 rfl rfl rfl <| CD (xs := x1.1) (ys := K_7) (f := V.int .i64) (l := 202) .n rfl (.ow (.t rfl) rfl (take_all (by simp only [len_map, put_len] <;> rfl)) (by simp only [len_map, put_len] <;> rfl)) (.ow (.t rfl) rfl (take_all (by simp only [len_map, put_len] <;> rfl)) (by simp only [len_map, put_len] <;> rfl)) si_27 zv_2 rfl (by (simp only [lens] at * <;> omega)) rfl rfl <| Ag .n (.t rfl) rfl <| Lex.nil) ?_
      refine AS ?_
      refine Ad (Af .n (.t rfl) rfl <| BQ .n (.t rfl) (.c rfl) (fun _ => by omega) rfl <| Ag .n (.t rfl) rfl <| Lex.nil) ?_
      exact A6 (x1.1 ++ K_7, x1.2 + 1) ⟨by omega, by omega, by (simp only [lens] at * <;> omega), by (simp only [lens] at * <;> omega)⟩ (by omega) (sub_of [(200, 202)] ⟨rfl, rfl, rfl, rfl, rfl, rfl, rfl, trivial⟩ ⟨rfl, trivial⟩ rfl)
    · try simp only [tst] at h5
      refine Ba rfl ?_
      exact AY hk3 (x1.1, x1.2) ⟨by omega, by omega, by omega, by omega, by omega⟩ (sub_of [] ⟨rfl, rfl, rfl, rfl, rfl, rfl, trivial⟩ ⟨rfl, trivial⟩ rfl)

/-! ### spec_EscapeTimes -/
theorem c_spec_EscapeTimes (m_ : AH) (arrivals : List Int) (blocked : Int) (c_ : Bi) (start : Int) : Con Tryz.prog 8 [.st [.int .i64 m_.Junctions, .sl 7 (m_.Airways.map Au.v)], .sl 1 (arrivals.map (V.int .i64)), .int .i64 blocked, .st [.str c_.Id, .int .i64 c_.Junction, .int .i64 c_.Speed], .int .i64 start] [] (.tup [.os 100 (BM m_ arrivals blocked c_ start).1.length, .int .i64 (BM m_ arrivals blocked c_ start).2]) ([(100, some (.row 2 1 ((BM m_ arrivals blocked c_ start).1.map (V.int .i64))))]) := by
  refine con_intro (out := fun r : (List Int) × Int => ((.tup [.os 100 r.1.length, .int .i64 r.2] : V), ([(100, some (.row 2 1 (r.1.map (V.int .i64))))] : List (Nat × Option O)))) (r := (BM m_ arrivals blocked c_ start)) Tryz.func8 rfl Tryz.ntmps8 rfl ?_
  refine CA (t := 0) 1 rfl rfl fun hl => ?_
  have l1 := hl; clear hl; simp only [List.length_map] at l1
  refine Bo (t := 1) rfl fun hl => ?_
  have l2 := hl; clear hl; simp only [List.length_map] at l2
  refine Ae ?_
  refine Ad (q_box (l := 200) .n rfl (.t rfl) rfl rfl rfl rfl <| q_box (l := 201) .n rfl (.t rfl) rfl rfl rfl rfl <| Ag .n (.c rfl) rfl <| Ag .n (.c rfl) rfl <| Lex.nil) ?_
  refine Ae ?_
  refine Ad (Af .n (.t rfl) rfl <| Af .n (.t rfl) rfl <| Af .n (.t rfl) rfl <| AR (full := true) .n .f en_32 (.cons (.t rfl) (.cons (.t rfl) (.cons (.t rfl) (.cons (.t rfl) (.cons (.t rfl) .nil))))) (.cons (.b (.ptr rfl rfl (.inr rfl) rfl rfl (.cons (.same rfl) (.cons (.same rfl) .nil)))) (.cons (.b (.a (.same rfl))) (.cons (.b (.a (.same rfl))) (.cons (.b (.ptr rfl rfl (.inr rfl) rfl rfl (.cons (.same rfl) (.cons (.same rfl) (.cons (.same rfl) .nil))))) (.cons (.b (.a (.same rfl))) .nil))))) (fun hg => c_spec_l19Ask m_ arrivals blocked c_ start) rfl (fun _ => rfl) rfl <| Ag .n (.t rfl) rfl <| Lex.nil) ?_
  refine Ae ?_
  refine Ae ?_
  refine Ad (Af .n (.t rfl) rfl <| AK .n (.t rfl) (.c rfl) rfl rfl <| Lex.nil) ?_
  refine As (.t rfl) rfl (fun h3 => ?_) (fun h3 => ?_)
  · try simp only [tst] at h3
    try have hf0h3 := l19Ask_impM h3
    try have hf1h3 := l19Ask_impM h3.1
    try have hf2h3 := l19Ask_impM h3.2
    try have hf3h3 := l19Ask_impM h3.1.1
    try have hf4h3 := l19Ask_impM h3.1.2
    try have hf5h3 := l19Ask_impM h3.2.1
    try have hf6h3 := l19Ask_impM h3.2.2
    try have hf7h3 := l19Ask_impC h3
    try have hf8h3 := l19Ask_impC h3.1
    try have hf9h3 := l19Ask_impC h3.2
    try have hf10h3 := l19Ask_impC h3.1.1
    try have hf11h3 := l19Ask_impC h3.1.2
    try have hf12h3 := l19Ask_impC h3.2.1
    try have hf13h3 := l19Ask_impC h3.2.2
    try have hf14h3 := l19Ask_impS h3
    try have hf15h3 := l19Ask_impS h3.1
    try have hf16h3 := l19Ask_impS h3.2
    try have hf17h3 := l19Ask_impS h3.1.1
    try have hf18h3 := l19Ask_impS h3.1.2
    try have hf19h3 := l19Ask_impS h3.2.1
    try have hf20h3 := l19Ask_impS h3.2.2
    try have hf21h3 := l19Ask_impL h3
    try have hf22h3 := l19Ask_impL h3.1
    try have hf23h3 := l19Ask_impL h3.2
    try have hf24h3 := l19Ask_impL h3.1.1
    try have hf25h3 := l19Ask_impL h3.1.2
    try have hf26h3 := l19Ask_impL h3.2.1
    try have hf27h3 := l19Ask_impL h3.2.2
    refine Ae ?_
    refine Ad (Af .n (.t rfl) rfl <| Ag .n (.c rfl) rfl <| Ag .n (.t rfl) rfl <| Lex.nil) ?_
    refine CN (sub_adopt (t := 10) (l := 202) (el := 2) (sz := 1) rfl rfl) ?_
    exact Ay [(100, 202)] (.cons (.t rfl rfl) (.cons (.t rfl rfl) .nil)) (by first | rfl | (simp only [put_len]; rfl)) ⟨rfl, trivial⟩ rfl
  · try simp only [tst] at h3
    try have hf0h3 := l19Ask_impM h3
    try have hf1h3 := l19Ask_impM h3.1
    try have hf2h3 := l19Ask_impM h3.2
    try have hf3h3 := l19Ask_impM h3.1.1
    try have hf4h3 := l19Ask_impM h3.1.2
    try have hf5h3 := l19Ask_impM h3.2.1
    try have hf6h3 := l19Ask_impM h3.2.2
    try have hf7h3 := l19Ask_impC h3
    try have hf8h3 := l19Ask_impC h3.1
    try have hf9h3 := l19Ask_impC h3.2
    try have hf10h3 := l19Ask_impC h3.1.1
    try have hf11h3 := l19Ask_impC h3.1.2
    try have hf12h3 := l19Ask_impC h3.2.1
    try have hf13h3 := l19Ask_impC h3.2.2
    try have hf14h3 := l19Ask_impS h3
    try have hf15h3 := l19Ask_impS h3.1
    try have hf16h3 := l19Ask_impS h3.2
    try have hf17h3 := l19Ask_impS h3.1.1
    try have hf18h3 := l19Ask_impS h3.1.2
    try have hf19h3 := l19Ask_impS h3.2.1
    try have hf20h3 := l19Ask_impS h3.2.2
    try have hf21h3 := l19Ask_impL h3
    try have hf22h3 := l19Ask_impL h3.1
    try have hf23h3 := l19Ask_impL h3.2
    try have hf24h3 := l19Ask_impL h3.1.1
    try have hf25h3 := l19Ask_impL h3.1.2
    try have hf26h3 := l19Ask_impL h3.2.1
    try have hf27h3 := l19Ask_impL h3.2.2
    refine Aw ?_
    refine Ae ?_
    refine Ad (Af .n (.t rfl) rfl <| Af .n (.t rfl) rfl <| Af .n (.t rfl) rfl <| AV (full := true) [] [(100, 203)] .n rfl .f en_33 (.cons (.t rfl) (.cons (.t rfl) (.cons (.t rfl) (.cons (.t rfl) (.cons (.t rfl) .nil))))) (.cons (.b (.ptr rfl rfl (.inr rfl) rfl rfl (.cons (.same rfl) (.cons (.same rfl) .nil)))) (.cons (.b (.a (.same rfl))) (.cons (.b (.a (.same rfl))) (.cons (.b (.ptr rfl rfl (.inr rfl) rfl rfl (.cons (.same rfl) (.cons (.same rfl) (.cons (.same rfl) .nil))))) (.cons (.b (.a (.same rfl))) .nil))))) (c_spec_l19Times m_ arrivals blocked c_ start (by omega) (by omega) (by omega) (by omega)) trivial rfl rfl (fun _ => rfl) (fun _ => (hr_row (fun _ => rfl) hr_nil)) rfl <| Ag .n (.t rfl) rfl <| Ag .n (.c rfl) rfl <| Lex.nil) ?_
    exact Ay [(100, 203)] (.cons (.t rfl rfl) (.cons (.t rfl rfl) .nil)) (by first | rfl | (simp only [put_len]; rfl)) ⟨rfl, trivial⟩ rfl

/-! ### slices_IndexFunc_impl_Refuge -/
theorem c_slices_IndexFunc_impl_Refuge (s_ : List AI) (f : AI → Bool) (F_f : FuncId) (C_f : List V) (he_f : entB Tryz.prog F_f = true) (hr_f : C_f.all V.ro = true) (hc_f : ∀ (a0 : AI), Con Tryz.prog F_f ([.st [.str a0.Id, .int .i64 a0.Junction, .int .i64 a0.Places, .int .i64 a0.Air]] ++ C_f) [] (.bool (f a0)) []) : Con Tryz.prog 78 [.sl 4 (s_.map AI.v), .clo F_f C_f] [] (.int .i64 (BU s_ f)) ([]) := by
  refine con_intro (out := fun r : Int => ((.int .i64 r : V), ([] : List (Nat × Option O)))) (r := (BU s_ f)) Tryz.func78 rfl Tryz.ntmps78 rfl ?_
  refine Bo (t := 0) rfl fun hl => ?_
  have l1 := hl; clear hl; simp only [List.length_map] at l1
  refine Ae ?_
  refine Ad (Ag .n (.c rfl) rfl <| Lex.nil) ?_
  refine Ae ?_
  refine Ae ?_
  refine Ad (Af .n (.t rfl) rfl <| BD .n (.t rfl) rfl len_map ss_29 rfl <| Af .n (.c rfl) rfl <| Lex.nil) ?_
  refine AC ?_
  refine Bp (BN s_ f) _ _ _ rfl (fun (x1 : Int) => 0 ≤ x1 ∧ x1 ≤ (s_.length : Int)) (fun x1 => 0 ≤ x1 ∧ x1 ≤ (s_.length : Int) ∧ (s_.length : Int) ≤ x1) (fun x1 => ((s_.length : Int) - x1 : Int).toNat) (fun x1 => ⟨[(0, some (true, .sl 4 (s_.map AI.v))), (1, some (true, .clo F_f C_f)), (7, some (true, .int .i64 (s_.length : Int))), (8, some (true, .int .i64 x1))], []⟩) (fun x1 => ⟨[], []⟩) ⟨by omega, by omega⟩ (by omega) (sub_of [] ⟨rfl, clo_ren hr_f rfl, rfl, rfl, trivial⟩ trivial rfl) ?_ ?_
  · intro x1 i6
    obtain ⟨e7, e8, e9⟩ := i6
    try dsimp only at *
    refine Ae ?_
    refine Ad (Ag .n (.c rfl) rfl <| Lex.nil) ?_
    exact Ay [] (.cons (.t rfl rfl) .nil) rfl trivial rfl
  · intro rec1 k1 hk2 x1 i3
    obtain ⟨e10, e11⟩ := i3
    try dsimp only at *
    refine Ae ?_
    refine Ad (AK .n (.t rfl) (.t rfl) rfl rfl <| Lex.nil) ?_
    refine Ae ?_
    refine As (.t rfl) rfl (fun h4 => ?_) (fun h4 => ?_)
    · try simp only [tst] at h4
      refine Aw ?_
      refine Ae ?_
      refine AC ?_
      refine Ae ?_
      refine Ad (Af .n (.t rfl) rfl <| Ag .n (.t rfl) rfl <| Lex.nil) ?_
      refine Ae ?_
      refine Ad (Af .n (.t rfl) rfl <| Af .n (.t rfl) rfl <| Af .n (.t rfl) rfl <| Bc .n (.t rfl) (.t rfl) sl_29 (fun _ => by omega) rfl <| Dq .n (.t rfl) ag_39 rfl rfl rfl <| AR (full := false) .n (.c (.t rfl)) he_f (.cons (.t rfl) .nil) (passes_app hr_f (.cons (.sts rfl) .nil)) (fun hg => hc_f (at' s_ x1)) rfl (fun h => Bool.noConfusion h) rfl <| Lex.nil) ?_
      refine As (.t rfl) rfl (fun h5 => ?_) (fun h5 => ?_)
      · try simp only [tst] at h5
        refine Ae ?_
        refine Ad (Af .n (.t rfl) rfl <| Ag .n (.t rfl) rfl <| Lex.nil) ?_
        exact Ay [] (.cons (.t rfl rfl) .nil) rfl trivial rfl
      · try simp only [tst] at h5
        refine Aw ?_
        refine AS ?_
        refine Ad (BQ .n (.t rfl) (.c rfl) (fun _ => by omega) rfl <| Af .n (.t rfl) rfl <| Lex.nil) ?_
        exact A6 (x1 + 1) ⟨by omega, by omega⟩ (by omega) (sub_of [] ⟨rfl, clo_ren hr_f rfl, rfl, rfl, trivial⟩ trivial rfl)
    · try simp only [tst] at h4
      refine Ba rfl ?_
      exact AY hk2 x1 ⟨by omega, by omega, by omega⟩ (sub_of [] trivial trivial rfl)

/-! ### slices_ContainsFunc_impl_Refuge -/
theorem DH (s_ : List AI) (f : AI → Bool) (F_f : FuncId) (C_f : List V) (he_f : entB Tryz.prog F_f = true) (hr_f : C_f.all V.ro = true) (hc_f : ∀ (a0 : AI), Con Tryz.prog F_f ([.st [.str a0.Id, .int .i64 a0.Junction, .int .i64 a0.Places, .int .i64 a0.Air]] ++ C_f) [] (.bool (f a0)) []) : Con Tryz.prog 34 [.sl 4 (s_.map AI.v), .clo F_f C_f] [] (.bool (BA s_ f)) ([]) := by
  refine con_intro (out := fun r : Bool => ((.bool r : V), ([] : List (Nat × Option O)))) (r := (BA s_ f)) Tryz.func34 rfl Tryz.ntmps34 rfl ?_
  refine Bo (t := 0) rfl fun hl => ?_
  have l1 := hl; clear hl; simp only [List.length_map] at l1
  refine Ae ?_
  refine Ad (Ag .n (.c rfl) rfl <| Lex.nil) ?_
  refine Ae ?_
  refine Ad (Af .n (.t rfl) rfl <| Af .n (.t rfl) rfl <| AR (full := false) .n .f en_78 (.cons (.t rfl) (.cons (.t rfl) .nil)) (.cons (.b (.a (.same rfl))) (.cons (.clo (passBs_ro hr_f)) .nil)) (fun hg => c_slices_IndexFunc_impl_Refuge s_ f F_f C_f he_f hr_f hc_f) rfl (fun h => Bool.noConfusion h) rfl <| AK .n (.t rfl) (.c rfl) rfl rfl <| Ag .n (.t rfl) rfl <| Lex.nil) ?_
  exact Ay [] (.cons (.t rfl rfl) .nil) rfl trivial rfl

/-! ### impl_ShortestHours_1 -/
theorem c_impl_ShortestHours_1 (x_ : AI) : Con Tryz.prog 35 [.st [.str x_.Id, .int .i64 x_.Junction, .int .i64 x_.Places, .int .i64 x_.Air]] [] (.bool (BC x_)) ([]) := by
  refine con_intro (out := fun r : Bool => ((.bool r : V), ([] : List (Nat × Option O)))) (r := (BC x_)) Tryz.func35 rfl Tryz.ntmps35 rfl ?_
  refine Ae ?_
  refine Ad (q_box (l := 200) .n rfl (.t rfl) rfl rfl rfl rfl <| Ag .n (.c rfl) rfl <| Lex.nil) ?_
  refine Ae ?_
  refine Ad (Bb .n (.t rfl) rfl (.inr rfl) ag_39 (fun _ => rfl) rfl rfl <| AR (full := false) .n .f en_36 (.cons (.t rfl) .nil) (.cons (.sts rfl) .nil) (fun hg => c_impl_Refuge_valid x_) rfl (fun h => Bool.noConfusion h) rfl <| Cr .n (.t rfl) rfl <| Ag .n (.t rfl) rfl <| Lex.nil) ?_
  exact Ay [] (.cons (.t rfl rfl) .nil) rfl trivial rfl

/-! ### impl_Refuge_hours -/
theorem c_impl_Refuge_hours (x_ : AI) (persons : Int) (use : Int) (hp1 : 0 ≤ persons ∧ persons ≤ 1600) (hp2 : 1 ≤ use ∧ use ≤ 10000) : Con Tryz.prog 38 [.st [.str x_.Id, .int .i64 x_.Junction, .int .i64 x_.Places, .int .i64 x_.Air], .int .i64 persons, .int .i64 use] [] (.int .i64 (BK x_ persons use)) ([]) := by
  refine con_intro (out := fun r : Int => ((.int .i64 r : V), ([] : List (Nat × Option O)))) (r := (BK x_ persons use)) Tryz.func38 rfl Tryz.ntmps38 rfl ?_
  refine Ae ?_
  refine Ad (q_box (l := 200) .n rfl (.t rfl) rfl rfl rfl rfl <| Ag .n (.c rfl) rfl <| Lex.nil) ?_
  refine Ae ?_
  refine Ae ?_
  refine Ad (Af .n (.t rfl) rfl <| AK .n (.t rfl) (.c rfl) rfl rfl <| Lex.nil) ?_
  refine As (.t rfl) rfl (fun h1 => ?_) (fun h1 => ?_)
  · try simp only [tst] at h1
    refine Ae ?_
    refine Ad (Ag .n (.c rfl) rfl <| Lex.nil) ?_
    exact Ay [] (.cons (.t rfl rfl) .nil) rfl trivial rfl
  · try simp only [tst] at h1
    refine Aw ?_
    refine Ae ?_
    refine Ad (AE .n (.t rfl) fo_39_3 rfl <| AP .n (.t rfl) rfl (.inr rfl) (fun _ => rfl) rfl ic_2 rfl <| Af .n (.t rfl) rfl <| Af .n (.t rfl) rfl <| AK .n (.t rfl) (.t rfl) rfl rfl <| q_quo .n (.t rfl) (.t rfl) (fun hg => by ((have hq := hrs_ne hp1 hp2 (by assumption); first | exact hq | omega))) rfl <| q_min .n (.t rfl) (.c rfl) rfl <| Ag .n (.t rfl) rfl <| Lex.nil) ?_
    exact Ay [] (.cons (.t rfl rfl) .nil) rfl trivial rfl

/-! ### impl_ShortestHours -/
set_option maxRecDepth 100000 in
set_option maxHeartbeats 4000000 in
theorem c_impl_ShortestHours (list : List AI) (sizes : List Int) (places : List Int) (use : Int) : Con Tryz.prog 9 [.sl 4 (list.map AI.v), .sl 1 (sizes.map (V.int .i64)), .sl 1 (places.map (V.int .i64)), .int .i64 use] [] (.tup [.int .i64 (Bx list sizes places use).1, .int .i64 (Bx list sizes places use).2]) ([]) := by
  refine con_intro (out := fun r : Int × Int => ((.tup [.int .i64 r.1, .int .i64 r.2] : V), ([] : List (Nat × Option O)))) (r := (Bx list sizes places use)) Tryz.func9 rfl Tryz.ntmps9 rfl ?_
  refine Bo (t := 0) rfl fun hl => ?_
  have l1 := hl; clear hl; simp only [List.length_map] at l1
  refine Bo (t := 1) rfl fun hl => ?_
  have l2 := hl; clear hl; simp only [List.length_map] at l2
  refine Bo (t := 2) rfl fun hl => ?_
  have l3 := hl; clear hl; simp only [List.length_map] at l3
  refine Ae ?_
  refine Ad (Ag .n (.c rfl) rfl <| Ag .n (.c rfl) rfl <| Lex.nil) ?_
  refine Ae ?_
  refine Ae ?_
  refine Ad (Af .n (.t rfl) rfl <| BD .n (.t rfl) rfl len_map ss_29 rfl <| AK .n (.t rfl) (.c rfl) rfl rfl <| Af .n (.t rfl) rfl <| Af (.f rfl rfl) (.t rfl) rfl <| AR (full := false) (.f rfl rfl) .f en_34 (.cons (.u rfl id) (.cons .f .nil)) (.cons (.b (.a (.same rfl))) (.cons (.clo .nil) .nil)) (fun hg => DH list (fun (a0 : AI) => BC a0) 35 [] en_35 rfl (fun a0 => c_impl_ShortestHours_1 a0)) rfl (fun h => Bool.noConfusion h) rfl <| q_or .n (.t rfl) (.u rfl id) rfl <| Lex.nil) ?_
  refine As (.t rfl) rfl (fun h4 => ?_) (fun h4 => ?_)
  · try simp only [tst] at h4
    refine Ae ?_
    refine Ad (Ag .n (.c rfl) rfl <| Ag .n (.c rfl) rfl <| Lex.nil) ?_
    exact Ay [] (.cons (.t rfl rfl) (.cons (.t rfl rfl) .nil)) rfl trivial rfl
  · try simp only [tst] at h4
    refine Aw ?_
    refine Ae ?_
    refine Ae ?_
    refine Ad (Af .n (.t rfl) rfl <| BD .n (.t rfl) rfl len_map ss_27 rfl <| Af .n (.t rfl) rfl <| BD .n (.t rfl) rfl len_map ss_27 rfl <| AK .n (.t rfl) (.t rfl) rfl rfl <| Af .n (.t rfl) rfl <| Af (.f rfl rfl) (.t rfl) rfl <| BD (.f rfl rfl) (.u rfl id) rfl len_map ss_27 rfl <| AK (.f rfl rfl) (.u rfl id) (.c rfl) rfl rfl <| q_or .n (.t rfl) (.u rfl id) rfl <| Af .n (.t rfl) rfl <| Af (.f rfl rfl) (.t rfl) rfl <| AR (full := false) (.f rfl rfl) .f en_29 (.cons (.u rfl id) (.cons (.c rfl) (.cons (.c rfl) .nil))) (.cons (.b (.a (.same rfl))) (.cons (.b (.a (.same rfl))) (.cons (.b (.a (.same rfl))) .nil))) (fun hg => C0 sizes 1 200) rfl (fun h => Bool.noConfusion h) rfl <| Cr (.f rfl rfl) (.u rfl id) rfl <| q_or .n (.t rfl) (.u rfl id) rfl <| Af .n (.t rfl) rfl <| Af (.f rfl rfl) (.t rfl) rfl <| Af (.f rfl rfl) (.t rfl) rfl <| BD (.f rfl rfl) (.u rfl id) rfl len_map ss_29 rfl <| q_sub (.f rfl rfl) (.u rfl id) (.c rfl) (fun hg => by simp only [tst] at hg; omega) rfl <| AR (full := false) (.f rfl rfl) .f en_29 (.cons (.u rfl id) (.cons (.c rfl) (.cons (.u rfl id) .nil))) (.cons (.b (.a (.same rfl))) (.cons (.b (.a (.same rfl))) (.cons (.b (.a (.same rfl))) .nil))) (fun hg => C0 places (-1) ((list.length : Int) - 1)) rfl (fun h => Bool.noConfusion h) rfl <| Cr (.f rfl rfl) (.u rfl id) rfl <| q_or .n (.t rfl) (.u rfl id) rfl <| Af .n (.t rfl) rfl <| Af (.f rfl rfl) (.t rfl) rfl <| AR (full := false) (.f rfl rfl) .f en_37 (.cons (.u rfl id) (.cons (.c rfl) (.cons (.c rfl) .nil))) (.cons (.b (.a (.same rfl))) (.cons (.b (.a (.same rfl))) (.cons (.b (.a (.same rfl))) .nil))) (fun hg => BF use 1 10000) rfl (fun h => Bool.noConfusion h) rfl <| Cr (.f rfl rfl) (.u rfl id) rfl <| q_or .n (.t rfl) (.u rfl id) rfl <| Lex.nil) ?_
    refine As (.t rfl) rfl (fun h5 => ?_) (fun h5 => ?_)
    · try simp only [tst] at h5
      try have hf0h5 := within_imp h5
      try have hf1h5 := within_imp h5.1
      try have hf2h5 := within_imp h5.2
      try have hf3h5 := within_imp h5.1.1
      try have hf4h5 := within_imp h5.1.2
      try have hf5h5 := within_imp h5.2.1
      try have hf6h5 := within_imp h5.2.2
      try have hf7h5 := within_imp h5.1.1.1
      try have hf8h5 := within_imp h5.1.1.2
      try have hf9h5 := aw_imp h5
      try have hf10h5 := aw_imp h5.1
      try have hf11h5 := aw_imp h5.2
      try have hf12h5 := aw_imp h5.1.1
      try have hf13h5 := aw_imp h5.1.2
      try have hf14h5 := aw_imp h5.2.1
      try have hf15h5 := aw_imp h5.2.2
      try have hf16h5 := aw_imp h5.1.1.1
      try have hf17h5 := aw_imp h5.1.1.2
      refine Ae ?_
      refine Ad (Ag .n (.c rfl) rfl <| Ag .n (.c rfl) rfl <| Lex.nil) ?_
      exact Ay [] (.cons (.t rfl rfl) (.cons (.t rfl rfl) .nil)) rfl trivial rfl
    · try simp only [tst] at h5
      try have hf0h5 := within_imp h5
      try have hf1h5 := within_imp h5.1
      try have hf2h5 := within_imp h5.2
      try have hf3h5 := within_imp h5.1.1
      try have hf4h5 := within_imp h5.1.2
      try have hf5h5 := within_imp h5.2.1
      try have hf6h5 := within_imp h5.2.2
      try have hf7h5 := within_imp h5.1.1.1
      try have hf8h5 := within_imp h5.1.1.2
      try have hf9h5 := aw_imp h5
      try have hf10h5 := aw_imp h5.1
      try have hf11h5 := aw_imp h5.2
      try have hf12h5 := aw_imp h5.1.1
      try have hf13h5 := aw_imp h5.1.2
      try have hf14h5 := aw_imp h5.2.1
      try have hf15h5 := aw_imp h5.2.2
      try have hf16h5 := aw_imp h5.1.1.1
      try have hf17h5 := aw_imp h5.1.1.2
      refine Aw ?_
      refine Ae ?_
      refine Ad (Af .n (.t rfl) rfl <| BD .n (.t rfl) rfl len_map ss_29 rfl <| q_makem (f := V.int .i64) (l := 200) (0 : Int) .n rfl (.t rfl) (.t rfl) si_27 zv_2 (by omega) rfl rfl rfl <| Ag .n (.t rfl) rfl <| Lex.nil) ?_
      refine Ae ?_
      refine Ae ?_
      refine Ad (Af .n (.t rfl) rfl <| BD .n (.t rfl) rfl len_map ss_27 rfl <| Af .n (.c rfl) rfl <| Lex.nil) ?_
      refine AC ?_
      refine Bp (CX list sizes places use) _ _ _ rfl (fun (x1 : (List Int) × Int) => 0 ≤ x1.2 ∧ x1.2 ≤ (places.length : Int) ∧ x1.1.length = (List.replicate ((list.length : Int) : Int).toNat (0 : Int)).length ∧ x1.1.length = list.length ∧ (∀ y ∈ x1.1, 0 ≤ y ∧ y ≤ 200 * x1.2)) (fun x1 => 0 ≤ x1.2 ∧ x1.2 ≤ (places.length : Int) ∧ x1.1.length = (List.replicate ((list.length : Int) : Int).toNat (0 : Int)).length ∧ x1.1.length = list.length ∧ (∀ y ∈ x1.1, 0 ≤ y ∧ y ≤ 200 * x1.2) ∧ (places.length : Int) ≤ x1.2) (fun x1 => ((places.length : Int) - x1.2 : Int).toNat) (fun x1 => ⟨[(0, some (true, .sl 4 (list.map AI.v))), (1, some (true, .sl 1 (sizes.map (V.int .i64)))), (3, some (true, .int .i64 use)), (10, some (true, .os 200 x1.1.length)), (54, some (true, .sl 1 (places.map (V.int .i64)))), (55, some (true, .int .i64 (places.length : Int))), (56, some (true, .int .i64 x1.2))], [(200, some (.row 2 1 (x1.1.map (V.int .i64))))]⟩) (fun x1 => ⟨[(0, some (true, .sl 4 (list.map AI.v))), (3, some (true, .int .i64 use)), (10, some (true, .os 200 x1.1.length))], [(200, some (.row 2 1 (x1.1.map (V.int .i64))))]⟩) ⟨by omega, by omega, by (simp only [lens] at * <;> omega), by (simp only [lens] at * <;> omega), by (exact hrs_nil)⟩ (by omega) (sub_of [] ⟨rfl, rfl, rfl, rfl, rfl, rfl, rfl, trivial⟩ ⟨rfl, trivial⟩ rfl) ?_ ?_
      · intro x1 i10
        obtain ⟨e21, e22, e23, e24, e25, e26⟩ := i10
        try dsimp only at *
        refine Ae ?_
        refine Ad (Ag .n (.c rfl) rfl <| Lex.nil) ?_
        refine Ae ?_
        refine Ae ?_
        refine Ad (Af .n (.t rfl) rfl <| BD .n (.t rfl) rfl len_map ss_29 rfl <| Af .n (.c rfl) rfl <| Lex.nil) ?_
        refine AC ?_
        refine Bp (CW list sizes places use x1) _ _ _ rfl (fun (x2 : Int × Int) => 0 ≤ x2.2 ∧ x2.2 ≤ (list.length : Int)) (fun x2 => 0 ≤ x2.2 ∧ x2.2 ≤ (list.length : Int) ∧ (list.length : Int) ≤ x2.2) (fun x2 => ((list.length : Int) - x2.2 : Int).toNat) (fun x2 => ⟨[(3, some (true, .int .i64 use)), (10, some (true, .os 200 x1.1.length)), (13, some (true, .int .i64 x2.1)), (74, some (true, .sl 4 (list.map AI.v))), (75, some (true, .int .i64 (list.length : Int))), (76, some (true, .int .i64 x2.2))], [(200, some (.row 2 1 (x1.1.map (V.int .i64))))]⟩) (fun x2 => ⟨[(13, some (true, .int .i64 x2.1))], []⟩) ⟨by omega, by omega⟩ (by omega) (sub_of [] ⟨rfl, rfl, rfl, rfl, rfl, rfl, trivial⟩ ⟨rfl, trivial⟩ rfl) ?_ ?_
        · intro x2 i15
          obtain ⟨e16, e17, e18⟩ := i15
          try dsimp only at *
          refine Ae ?_
          refine Ad (Af .n (.t rfl) rfl <| Ag .n (.t rfl) rfl <| Ag .n (.c rfl) rfl <| Lex.nil) ?_
          exact Ay [] (.cons (.t rfl rfl) (.cons (.t rfl rfl) .nil)) rfl trivial rfl
        · intro rec2 k2 hk11 x2 i12
          obtain ⟨e19, e20⟩ := i12
          try dsimp only at *
          refine Ae ?_
          refine Ad (AK .n (.t rfl) (.t rfl) rfl rfl <| Lex.nil) ?_
          refine Ae ?_
          refine As (.t rfl) rfl (fun h13 => ?_) (fun h13 => ?_)
          · try simp only [tst] at h13
            refine Aw ?_
            refine Ae ?_
            refine AC ?_
            refine Ae ?_
            refine Ad (Af .n (.t rfl) rfl <| Bc .n (.t rfl) (.t rfl) sl_29 (fun _ => by omega) rfl <| Dq .n (.t rfl) ag_39 rfl rfl rfl <| BG (l := 201) .n rfl zv_39 rfl rfl <| Ag .n (.t rfl) rfl <| AL [.str (at' list x2.2).Id, .int .i64 (at' list x2.2).Junction, .int .i64 (at' list x2.2).Places, .int .i64 (at' list x2.2).Air] .n rfl (.t rfl) (.t rfl) rfl ts_39 rfl rfl <| Lex.nil) ?_
            refine Ae ?_
            refine Ae ?_
            refine Bl fmo (Af .n (.t rfl) rfl <| Af .n (.t rfl) rfl <| AX .n (.t rfl) (.t rfl) sl_27 (fun _ => by omega) rfl <| A3 .n (.t rfl) rfl (fun _ => by omega) rfl rfl rfl ic_2 rfl <| AE .n (.t rfl) fo_39_2 rfl <| AP .n (.t rfl) rfl (.inr rfl) (fun _ => rfl) rfl ic_2 rfl <| AK .n (.t rfl) (.t rfl) rfl rfl <| Lex.nil) (by kernel_rfl) ?_
            refine As (.t rfl) rfl (fun h14 => ?_) (fun h14 => ?_)
            · try simp only [tst] at h14
              refine Ae ?_
              refine Ad (Ag .n (.c rfl) rfl <| Ag .n (.c rfl) rfl <| Lex.nil) ?_
              exact Ay [] (.cons (.t rfl rfl) (.cons (.t rfl rfl) .nil)) rfl trivial rfl
            · try simp only [tst] at h14
              refine Aw ?_
              refine Bl fmo (Af .n (.t rfl) rfl <| Bb .n (.t rfl) rfl (.inr rfl) ag_39 (fun _ => rfl) rfl rfl <| Af .n (.t rfl) rfl <| Af .n (.t rfl) rfl <| AX .n (.t rfl) (.t rfl) sl_27 (fun _ => by omega) rfl <| A3 .n (.t rfl) rfl (fun _ => by omega) rfl rfl rfl ic_2 rfl <| Af .n (.t rfl) rfl <| AR (full := false) .n .f en_38 (.cons (.t rfl) (.cons (.t rfl) (.cons (.t rfl) .nil))) (.cons (.sts rfl) (.cons (.b (.a (.same rfl))) (.cons (.b (.a (.same rfl))) .nil))) (fun hg => c_impl_Refuge_hours (at' list x2.2) (at' x1.1 x2.2) use (by (exact hrs_at (by assumption) (by omega) (by omega))) (by omega)) rfl (fun h => Bool.noConfusion h) rfl <| q_min .n (.t rfl) (.t rfl) rfl <| Ag .n (.t rfl) rfl <| Lex.nil) (by kernel_rfl) ?_
              refine AS ?_
              refine Ad (BQ .n (.t rfl) (.c rfl) (fun _ => by omega) rfl <| Af .n (.t rfl) rfl <| Lex.nil) ?_
              exact A6 (if (BK (at' list x2.2) (at' x1.1 x2.2) use) < x2.1 then (BK (at' list x2.2) (at' x1.1 x2.2) use) else x2.1, x2.2 + 1) ⟨by omega, by omega⟩ (by omega) (sub_of [] ⟨rfl, rfl, rfl, rfl, rfl, rfl, trivial⟩ ⟨rfl, trivial⟩ rfl)
          · try simp only [tst] at h13
            refine Ba rfl ?_
            exact AY hk11 (x2.1, x2.2) ⟨by omega, by omega, by omega⟩ (sub_of [] ⟨rfl, trivial⟩ trivial rfl)
      · intro rec1 k1 hk6 x1 i7
        obtain ⟨e27, e28, e29, e30, e31⟩ := i7
        try dsimp only at *
        refine Ae ?_
        refine Ad (AK .n (.t rfl) (.t rfl) rfl rfl <| Lex.nil) ?_
        refine Ae ?_
        refine As (.t rfl) rfl (fun h8 => ?_) (fun h8 => ?_)
        · try simp only [tst] at h8
          refine Aw ?_
          refine Ae ?_
          refine AC ?_
          refine Ae ?_
          refine Ad (Af .n (.t rfl) rfl <| Bc .n (.t rfl) (.t rfl) sl_27 (fun _ => by omega) rfl <| Az .n (.t rfl) rfl ic_2 rfl <| Ag .n (.t rfl) rfl <| Ag .n (.t rfl) rfl <| Lex.nil) ?_
          refine Ae ?_
          refine Ad (Af .n (.t rfl) rfl <| AK .n (.t rfl) (.c rfl) rfl rfl <| Lex.nil) ?_
          refine As (.t rfl) rfl (fun h9 => ?_) (fun h9 => ?_)
          · try simp only [tst] at h9
            refine Bl fmo (Af .n (.t rfl) rfl <| Af .n (.t rfl) rfl <| AX .n (.t rfl) (.t rfl) sl_27 (fun _ => by ((have hq := hrs_place (list := list) (places := places) (i := x1.2) (by assumption) (by omega); omega))) rfl <| A3 .n (.t rfl) rfl (fun _ => by ((have hq := hrs_place (list := list) (places := places) (i := x1.2) (by assumption) (by omega); omega))) rfl rfl rfl ic_2 rfl <| Af .n (.t rfl) rfl <| Af .n (.t rfl) rfl <| Bc .n (.t rfl) (.t rfl) sl_27 (fun _ => by omega) rfl <| Az .n (.t rfl) rfl ic_2 rfl <| AK .n (.t rfl) (.t rfl) rfl rfl <| AX .n (.t rfl) (.t rfl) sl_27 (fun _ => by ((have hq := hrs_place (list := list) (places := places) (i := x1.2) (by assumption) (by omega); omega))) rfl <| B0 (IntKind.wrap .i64 ((at' x1.1 (at' places x1.2)) + (at' sizes x1.2))) .n rfl (.t rfl) (.t rfl) rfl ts_2 (by ((have hq := hrs_place (list := list) (places := places) (i := x1.2) (by assumption) (by omega); omega))) rfl rfl <| Lex.nil) (by kernel_rfl) ?_
            refine AS ?_
            refine Ad (BQ .n (.t rfl) (.c rfl) (fun _ => by omega) rfl <| Af .n (.t rfl) rfl <| Lex.nil) ?_
            exact A6 (put' x1.1 (at' places x1.2) (IntKind.wrap .i64 ((at' x1.1 (at' places x1.2)) + (at' sizes x1.2))), x1.2 + 1) ⟨by omega, by omega, by (simp only [lens] at * <;> omega), by (simp only [lens] at * <;> omega), by ((have hq := hrs_place (list := list) (places := places) (i := x1.2) (by assumption) (by omega); exact hrs_step (by assumption) (by assumption) (by omega) (by omega)))⟩ (by omega) (sub_of [] ⟨rfl, rfl, rfl, os_len rfl (by first | (simp only [put_len]; done) | (first | omega | assumption | (simp only [lens] at * <;> omega) | (((have hq := hrs_place (list := list) (places := places) (i := x1.2) (by assumption) (by omega); omega)); done) | (((have hq := hrs_place (list := list) (places := places) (i := x1.2) (by assumption) (by omega); rw [put_len]; omega)); done) | (((have hq := hrs_place (list := list) (places := places) (i := x1.2) (by assumption) (by omega); exact hrs_step (by assumption) (by assumption) (by omega) (by omega))); done) | ((exact hrs_at (by assumption) (by omega) (by omega)); done) | ((exact hrs_keep (by assumption)); done) | ((exact hrs_nil); done))), rfl, rfl, rfl, trivial⟩ ⟨rfl, trivial⟩ rfl)
          · try simp only [tst] at h9
            refine Aw ?_
            refine AS ?_
            refine Ad (BQ .n (.t rfl) (.c rfl) (fun _ => by omega) rfl <| Af .n (.t rfl) rfl <| Lex.nil) ?_
            exact A6 (x1.1, x1.2 + 1) ⟨by omega, by omega, by omega, by omega, by (exact hrs_keep (by assumption))⟩ (by omega) (sub_of [] ⟨rfl, rfl, rfl, rfl, rfl, rfl, rfl, trivial⟩ ⟨rfl, trivial⟩ rfl)
        · try simp only [tst] at h8
          refine Ba rfl ?_
          exact AY hk6 (x1.1, x1.2) ⟨by omega, by omega, by omega, by omega, by omega, by omega⟩ (sub_of [] ⟨rfl, rfl, rfl, trivial⟩ ⟨rfl, trivial⟩ rfl)

/-! ### spec_l04DrawJunction -/
set_option maxRecDepth 100000 in
set_option maxHeartbeats 4000000 in
theorem c_spec_l04DrawJunction (s_ : Aj) (m_ : AH) (hp1 : Lim s_ 600000) : Con Tryz.prog 40 [.op 0 0 0 0, .rp [.int .i64 m_.Junctions, .sl 7 (m_.Airways.map Au.v)]] [(0, some (.box 100 [.sl 1 (s_.code.map (V.int .u8)), .int .i64 s_.at_, .int .u64 s_.seed]))] (.int .i64 (Bs s_ m_).1) ([(0, some (.box 100 [.sl 1 ((Bs s_ m_).2.code.map (V.int .u8)), .int .i64 (Bs s_ m_).2.at_, .int .u64 (Bs s_ m_).2.seed]))]) := by
  refine con_intro (out := fun r : Int × Aj => ((.int .i64 r.1 : V), ([(0, some (.box 100 [.sl 1 (r.2.code.map (V.int .u8)), .int .i64 r.2.at_, .int .u64 r.2.seed]))] : List (Nat × Option O)))) (r := (Bs s_ m_)) Tryz.func40 rfl Tryz.ntmps40 rfl ?_
  refine BV (t := 1) 1 rfl rfl fun hl => ?_
  have l1 := hl; clear hl; simp only [List.length_map] at l1
  refine Ae ?_
  refine Ad (Ag .n (.c rfl) rfl <| Lex.nil) ?_
  refine Ae ?_
  refine Ae ?_
  refine Ad (Af .n (.t rfl) rfl <| AV (full := false) [(0, 0)] [] .n rfl .f en_23 (.cons (.t rfl) (.cons (.c rfl) .nil)) (.cons (.b (.mutp rfl)) (.cons (.b (.a (.same rfl))) .nil)) (BS s_ 10 (by (try dsimp only); (with_reducible (first | apply Lim.mono | apply Lim.out | apply LimA.mono)); (repeat (with_reducible (first | assumption | apply Lim.one | apply Lim.junc4 | apply Lim.mk))); omega)) ⟨rfl, trivial⟩ rfl rfl (fun h => Bool.noConfusion h) (fun h => Bool.noConfusion h) rfl <| Lex.nil) ?_
  refine As (.t rfl) rfl (fun h2 => ?_) (fun h2 => ?_)
  · try simp only [tst] at h2
    refine Ae ?_
    refine Ad (Af .n (.t rfl) rfl <| Af .n (.t rfl) rfl <| AG .n (.t rfl) rfl <| AM .n (.t rfl) fo_26_0 rfl <| Az .n (.t rfl) rfl ic_2 rfl <| AW ([(-1), m_.Junctions] : List Int) (f := V.int .i64) (l := 200) .n rfl rfl (.cons (.c rfl) (.cons (.t rfl) .nil)) rfl si_27 zv_2 rfl rfl rfl <| AV (full := false) [(0, 0), (1, 200)] [] .n rfl .f en_24 (.cons (.t rfl) (.cons (.t rfl) .nil)) (.cons (.b (.mutp rfl)) (.cons (.b (.muts rfl)) .nil)) (A1 (Ai s_ 10).2 ([(-1), m_.Junctions] : List Int) (by (try dsimp only); (with_reducible (first | apply Lim.mono | apply Lim.out | apply LimA.mono)); (repeat (with_reducible (first | assumption | apply Lim.one | apply Lim.junc4 | apply Lim.mk))); omega) (by (simp only [lens] at * <;> omega))) ⟨rfl, rfl, trivial⟩ rfl rfl (fun h => Bool.noConfusion h) (fun h => Bool.noConfusion h) rfl <| Ag .n (.t rfl) rfl <| Lex.nil) ?_
    exact Ay [] (.cons (.t rfl rfl) .nil) rfl ⟨rfl, trivial⟩ rfl
  · try simp only [tst] at h2
    refine Aw ?_
    refine Ae ?_
    refine Ad (Af .n (.t rfl) rfl <| Af .n (.t rfl) rfl <| AG .n (.t rfl) rfl <| AM .n (.t rfl) fo_26_0 rfl <| Az .n (.t rfl) rfl ic_2 rfl <| AR (full := false) .n .f en_59 (.cons (.c rfl) (.cons (.t rfl) .nil)) (.cons (.b (.a (.same rfl))) (.cons (.b (.a (.same rfl))) .nil)) (fun hg => Dj 1 m_.Junctions) rfl (fun h => Bool.noConfusion h) rfl <| AV (full := false) [(0, 0)] [] .n rfl .f en_22 (.cons (.t rfl) (.cons (.t rfl) .nil)) (.cons (.b (.mutp rfl)) (.cons (.b (.a (.same rfl))) .nil)) (AJ (Ai s_ 10).2 (AF 1 m_.Junctions) (by (try dsimp only); (with_reducible (first | apply Lim.mono | apply Lim.out | apply LimA.mono)); (repeat (with_reducible (first | assumption | apply Lim.one | apply Lim.junc4 | apply Lim.mk))); omega)) ⟨rfl, trivial⟩ rfl rfl (fun h => Bool.noConfusion h) (fun h => Bool.noConfusion h) rfl <| Ag .n (.t rfl) rfl <| Lex.nil) ?_
    exact Ay [] (.cons (.t rfl rfl) .nil) rfl ⟨rfl, trivial⟩ rfl

/-! ### spec_l20DrawSpeed -/
theorem c_spec_l20DrawSpeed (s_ : Aj) (hp1 : Lim s_ 700000) : Con Tryz.prog 41 [.op 0 0 0 0] [(0, some (.box 100 [.sl 1 (s_.code.map (V.int .u8)), .int .i64 s_.at_, .int .u64 s_.seed]))] (.int .i64 (Cg s_).1) ([(0, some (.box 100 [.sl 1 ((Cg s_).2.code.map (V.int .u8)), .int .i64 (Cg s_).2.at_, .int .u64 (Cg s_).2.seed]))]) := by
  refine con_intro (out := fun r : Int × Aj => ((.int .i64 r.1 : V), ([(0, some (.box 100 [.sl 1 (r.2.code.map (V.int .u8)), .int .i64 r.2.at_, .int .u64 r.2.seed]))] : List (Nat × Option O)))) (r := (Cg s_)) Tryz.func41 rfl Tryz.ntmps41 rfl ?_
  refine Ae ?_
  refine Ad (Ag .n (.c rfl) rfl <| Lex.nil) ?_
  refine Ae ?_
  refine Ad (Af .n (.t rfl) rfl <| AW ([10, 60, 80, 100, 300, 9, 301, 70] : List Int) (f := V.int .i64) (l := 200) .n rfl rfl (.cons (.c rfl) (.cons (.c rfl) (.cons (.c rfl) (.cons (.c rfl) (.cons (.c rfl) (.cons (.c rfl) (.cons (.c rfl) (.cons (.c rfl) .nil)))))))) rfl si_27 zv_2 rfl rfl rfl <| AV (full := false) [(0, 0), (1, 200)] [] .n rfl .f en_24 (.cons (.t rfl) (.cons (.t rfl) .nil)) (.cons (.b (.mutp rfl)) (.cons (.b (.muts rfl)) .nil)) (A1 s_ ([10, 60, 80, 100, 300, 9, 301, 70] : List Int) (by (try dsimp only); (with_reducible (first | apply Lim.mono | apply Lim.out | apply LimA.mono)); (repeat (with_reducible (first | assumption | apply Lim.mk))); omega) (by (simp only [lens] at * <;> omega))) ⟨rfl, rfl, trivial⟩ rfl rfl (fun h => Bool.noConfusion h) (fun h => Bool.noConfusion h) rfl <| Ag .n (.t rfl) rfl <| Lex.nil) ?_
  exact Ay [] (.cons (.t rfl rfl) .nil) rfl ⟨rfl, trivial⟩ rfl

/-! ### spec_DrawWalkTimes -/
set_option maxRecDepth 100000 in
set_option maxHeartbeats 4000000 in
theorem c_spec_DrawWalkTimes (code : List Int) (hp1 : ∀ y ∈ code, 0 ≤ y ∧ y ≤ 255) : ConG Tryz.prog 10 [.sl 1 (code.map (V.int .u8))] [] (.tup [.st [.int .i64 (Am code).1.Junctions, .sl 7 ((Am code).1.Airways.map Au.v)], .int .i64 (Am code).2.1, .int .i64 (Am code).2.2]) ([]) := by
  refine con_introG (out := fun r : AH × Int × Int => ((.tup [.st [.int .i64 r.1.Junctions, .sl 7 (r.1.Airways.map Au.v)], .int .i64 r.2.1, .int .i64 r.2.2] : V), ([] : List (Nat × Option O)))) (r := (Am code)) Tryz.func10 rfl Tryz.ntmps10 rfl ?_
  have hF := Lim.from hp1
  have hD := (Lim.draw4 hF).len
  refine Bo (t := 0) rfl fun hl => ?_
  have l1 := hl; clear hl; simp only [List.length_map] at l1
  refine Ae ?_
  refine Ad (BG (l := 200) .n rfl zv_26 rfl rfl <| Ag .n (.c rfl) rfl <| Ag .n (.c rfl) rfl <| Lex.nil) ?_
  refine Ae ?_
  refine Ad (Af .n (.t rfl) rfl <| AV (full := false) [] [(100, 201)] .n rfl .f en_19 (.cons (.t rfl) .nil) (.cons (.b (.a (.same rfl))) .nil) (c_spec_l00From code) trivial rfl rfl (fun h => Bool.noConfusion h) (fun h => Bool.noConfusion h) rfl <| Ag .n (.t rfl) rfl <| Lex.nil) ?_
  refine Ae ?_
  refine Ad (Af .n (.t rfl) rfl <| AV (full := false) [(0, 201)] [(100, 202)] .n rfl .f en_39 (.cons (.t rfl) .nil) (.cons (.b (.mutp rfl)) .nil) (c_spec_l04Draw (Ap code) (by (try dsimp only); (with_reducible (first | apply Lim.mono | apply Lim.out | apply LimA.mono)); (repeat (with_reducible (first | assumption | apply Lim.dmk | apply Lim.junc4 | apply Lim.from | apply Lim.mk))); omega)) ⟨rfl, trivial⟩ rfl rfl (fun h => Bool.noConfusion h) (fun h => Bool.noConfusion h) rfl <| BG (l := 203) .n rfl zv_26 rfl rfl <| AL [.int .i64 (Al (Ap code)).1.Junctions, .os 202 (Al (Ap code)).1.Airways.length] .n rfl (.t rfl) (.t rfl) rfl ts_26 rfl rfl <| Lex.nil) ?_
  refine Ae ?_
  refine run_freezeC (l := 203) (lb := 202) 1 rfl rfl rfl rfl (take_all (by simp only [len_map, put_len] <;> rfl)) (by simp only [len_map, put_len] <;> rfl) rfl ?_
  refine run_freezeB (t := 6) rfl rfl rfl rfl ?_
  refine Ad (Af .n (.t rfl) rfl <| AV (full := false) [(0, 201)] [] .n rfl .f en_40 (.cons (.t rfl) (.cons (.t rfl) .nil)) (.cons (.b (.mutp rfl)) (.cons (.b (.a (.same rfl))) .nil)) (c_spec_l04DrawJunction (Al (Ap code)).2 (AH.mk (Al (Ap code)).1.Junctions (Al (Ap code)).1.Airways) (by (try dsimp only); (with_reducible (first | apply Lim.mono | apply Lim.out | apply LimA.mono)); (repeat (with_reducible (first | assumption | apply Lim.dmk | apply Lim.junc4 | apply Lim.from | apply Lim.mk))); omega)) ⟨rfl, trivial⟩ rfl rfl (fun h => Bool.noConfusion h) (fun h => Bool.noConfusion h) rfl <| Ag .n (.t rfl) rfl <| Lex.nil) ?_
  refine Ae ?_
  refine Bl fmo (Dq .n (.t rfl) ag_26 rfl rfl rfl <| Af .n (.t rfl) rfl <| Af .n (.t rfl) rfl <| AV (full := false) [(0, 201)] [] .n rfl .f en_41 (.cons (.t rfl) .nil) (.cons (.b (.mutp rfl)) .nil) (c_spec_l20DrawSpeed (Bs (Al (Ap code)).2 (AH.mk (Al (Ap code)).1.Junctions (Al (Ap code)).1.Airways)).2 (by (try dsimp only); (with_reducible (first | apply Lim.mono | apply Lim.out | apply LimA.mono)); (repeat (with_reducible (first | assumption | apply Lim.dmk | apply Lim.junc4 | apply Lim.from | apply Lim.mk))); omega)) ⟨rfl, trivial⟩ rfl rfl (fun h => Bool.noConfusion h) (fun h => Bool.noConfusion h) rfl <| AL [.int .i64 (Al (Ap code)).1.Junctions, .sl 7 ((Al (Ap code)).1.Airways.map Au.v)] .n rfl (.t rfl) (.t rfl) rfl ts_26 rfl rfl <| Ag .n (.t rfl) rfl <| Ag .n (.t rfl) rfl <| Lex.nil) (by kernel_rfl) ?_
  exact Ay [] (.cons (.cN rfl rfl ag_26 rfl rfl) (.cons (.t rfl rfl) (.cons (.t rfl rfl) .nil))) (by first | rfl | (simp only [put_len]; rfl)) trivial rfl


end Go.Proofs.YtibbfdojcdkopaaGreat
