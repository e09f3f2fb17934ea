/-
  THE WALKS: each Go function computes its model. Conditions: as each theorem states them (hp1, hp2 ..).
-/
import Derived.Test.YtibbfdojcdkopaaGreatRefugesWalks5
set_option linter.unusedVariables false
set_option linter.unusedSimpArgs false
set_option linter.unusedSectionVars false
set_option linter.unnecessarySimpa false
namespace Go.Proofs.YtibbfdojcdkopaaGreat
open Go Go.RowKit Go.Proofs Go.Proofs.YtibbfdojcdkopaaGreat.E
/-! ### impl_Mine_walkTimes -/
theorem c_impl_Mine_walkTimes (m_ : AH) (junction : Int) (speed : Int) (hp1 : MineIn m_) (hp2 : 0 ≤ junction ∧ junction < m_.Junctions) (hp3 : 10 ≤ speed ∧ speed ≤ 300) : Con Tryz.prog 44 [.st [.int .i64 m_.Junctions, .sl 7 (m_.Airways.map Au.v)], .int .i64 junction, .int .i64 speed] [] (.os 100 (Br m_ junction speed).length) ([(100, some (.row 2 1 ((Br m_ junction speed).map (V.int .i64))))]) := by
  refine con_intro (out := fun r : (List Int) => ((.os 100 r.length : V), ([(100, some (.row 2 1 (r.map (V.int .i64))))] : List (Nat × Option O)))) (r := (Br m_ junction speed)) Tryz.func44 rfl Tryz.ntmps44 rfl ?_
  have hJ := hp1.1
  have hR := rep_len (c := m_.Junctions) hp1.1
  have hJ1 := hp1.1
  have hA1 := hp1.2.1
  refine CA (t := 0) 1 rfl rfl fun hl => ?_
  have l1 := hl; clear hl; simp only [List.length_map] at l1
  refine Ae ?_
  refine Ad (q_box (l := 200) .n rfl (.t rfl) rfl rfl rfl rfl <| Ag .n (.c rfl) rfl <| Lex.nil) ?_
  refine Ae ?_
  refine Bl fmo (Bb .n (.t rfl) rfl (.inr rfl) ag_26 (fun _ => rfl) rfl rfl <| AW K_7 (f := V.int .i64) (l := 201) .n rfl rfl (.cons (.c rfl) .nil) rfl si_27 zv_2 rfl rfl rfl <| AE .n (.t rfl) fo_26_0 rfl <| AP .n (.t rfl) rfl (.inr rfl) (fun _ => rfl) rfl ic_2 rfl <| AV (full := true) [] [(100, 202)] .n rfl .f en_65 (.cons (.t rfl) (.cons (.t rfl) .nil)) (.cons (.b (.a (.own rfl rfl rfl (take_all (by simp only [len_map, put_len] <;> rfl)) (by simp only [len_map, put_len] <;> rfl)))) (.cons (.b (.a (.same rfl))) .nil)) (c_slices_Repeat_int64 K_7 m_.Junctions (by (simp only [lens] at * <;> omega)) (by omega)) trivial rfl rfl (fun _ => rfl) (fun _ => (hr_row (fun _ => rfl) hr_nil)) rfl <| Dw (us := [.int .i64 m_.Junctions, .sl 7 (m_.Airways.map Au.v), .os 202 (Bh K_7 m_.Junctions).length, .int .i64 (-1)]) .n (.cons (.t rfl) (.cons (.t rfl) (.cons (.c rfl) .nil))) zv_67 pl_67 rfl rfl rfl <| BG (l := 203) .n rfl zv_67 rfl rfl <| AL [.int .i64 m_.Junctions, .sl 7 (m_.Airways.map Au.v), .os 202 (Bh K_7 m_.Junctions).length, .int .i64 (-1)] .n rfl (.t rfl) (.t rfl) rfl ts_67 rfl rfl <| Lex.nil) (by kernel_rfl) ?_
  refine Ae ?_
  refine Ad (Bb .n (.t rfl) rfl (.inr rfl) ag_67 (fun _ => rfl) rfl rfl <| Af .n (.t rfl) rfl <| Af .n (.t rfl) rfl <| Dw (us := [.str ([] : List UInt8), .int .i64 junction, .int .i64 speed]) .n (.cons (.t rfl) (.cons (.t rfl) .nil)) zv_37 pl_37 rfl rfl rfl <| AV (full := true) [] [(100, 204)] .n rfl .f en_30 (.cons (.t rfl) (.cons (.t rfl) (.cons (.c rfl) .nil))) (.cons (.st (.cons (.a (.same rfl)) (.cons (.a (.same rfl)) (.cons (.a (.own rfl rfl rfl (take_all (by simp only [len_map, put_len] <;> rfl)) (by simp only [len_map, put_len] <;> rfl))) (.cons (.a (.same rfl)) .nil))))) (.cons (.sts rfl) (.cons (.b (.a (.same rfl))) .nil))) (c_impl_escape_times (Cb.mk m_ (Bh K_7 m_.Junctions) (-1)) (Bi.mk ([] : List UInt8) junction speed) 0 (by omega) (by omega) (by (exact ⟨hp2, hp3⟩)) (by omega)) trivial rfl rfl (fun _ => rfl) (fun _ => (hr_row (fun _ => rfl) hr_nil)) rfl <| Ag .n (.t rfl) rfl <| Lex.nil) ?_
  exact Ay [(100, 204)] (.cons (.t rfl rfl) .nil) (by first | rfl | (simp only [put_len]; rfl)) ⟨rfl, trivial⟩ rfl

/-! ### impl_WalkTimes -/
set_option maxRecDepth 100000 in
set_option maxHeartbeats 4000000 in
theorem c_impl_WalkTimes (m_ : AH) (junction : Int) (speed : Int) : Con Tryz.prog 11 [.st [.int .i64 m_.Junctions, .sl 7 (m_.Airways.map Au.v)], .int .i64 junction, .int .i64 speed] [] (.tup [.os 100 (AQ m_ junction speed).1.length, .int .i64 (AQ m_ junction speed).2]) ([(100, some (.row 2 1 ((AQ m_ junction speed).1.map (V.int .i64))))]) := by
  refine con_intro (out := fun r : (List Int) × Int => ((.tup [.os 100 r.1.length, .int .i64 r.2] : V), ([(100, some (.row 2 1 (r.1.map (V.int .i64))))] : List (Nat × Option O)))) (r := (AQ m_ junction speed)) Tryz.func11 rfl Tryz.ntmps11 rfl ?_
  refine CA (t := 0) 1 rfl rfl fun hl => ?_
  have l1 := hl; clear hl; simp only [List.length_map] at l1
  refine Ae ?_
  refine Ad (q_box (l := 200) .n rfl (.t rfl) rfl rfl rfl rfl <| Ag .n (.c rfl) rfl <| Ag .n (.c rfl) rfl <| Lex.nil) ?_
  refine Ae ?_
  refine AC ?_
  refine Ae ?_
  refine Ad (Bb .n (.t rfl) rfl (.inr rfl) ag_26 (fun _ => rfl) rfl rfl <| AR (full := false) .n .f en_42 (.cons (.t rfl) .nil) (.cons (.sts rfl) .nil) (fun hg => c_impl_ValidMine m_) rfl (fun h => Bool.noConfusion h) rfl <| Cr .n (.t rfl) rfl <| Ag .n (.t rfl) rfl <| Lex.nil) ?_
  refine As (.t rfl) rfl (fun h2 => ?_) (fun h2 => ?_)
  · try simp only [tst] at h2
    try have hf0h2 := ValidMine_imp h2
    try have hf1h2 := ValidMine_imp h2.1
    try have hf2h2 := ValidMine_imp h2.2
    try have hf3h2 := ValidMine_imp h2.1.1
    try have hf4h2 := ValidMine_imp h2.1.2
    try have hf5h2 := ValidMine_imp h2.2.1
    try have hf6h2 := ValidMine_imp h2.2.2
    refine Ae ?_
    refine Ad (Ag .n (.c rfl) rfl <| Ag .n (.c rfl) rfl <| Lex.nil) ?_
    refine CN (sub_adopt (t := 6) (l := 201) (el := 2) (sz := 1) rfl rfl) ?_
    exact Ay [(100, 201)] (.cons (.t rfl rfl) (.cons (.t rfl rfl) .nil)) (by first | rfl | (simp only [put_len]; rfl)) ⟨rfl, trivial⟩ rfl
  · try simp only [tst] at h2
    try have hf0h2 := ValidMine_imp h2
    try have hf1h2 := ValidMine_imp h2.1
    try have hf2h2 := ValidMine_imp h2.2
    try have hf3h2 := ValidMine_imp h2.1.1
    try have hf4h2 := ValidMine_imp h2.1.2
    try have hf5h2 := ValidMine_imp h2.2.1
    try have hf6h2 := ValidMine_imp h2.2.2
    refine Ae ?_
    refine Ad (Bb .n (.t rfl) rfl (.inr rfl) ag_26 (fun _ => rfl) rfl rfl <| Af .n (.t rfl) rfl <| AR (full := false) .n .f en_43 (.cons (.t rfl) (.cons (.t rfl) .nil)) (.cons (.sts rfl) (.cons (.b (.a (.same rfl))) .nil)) (fun hg => B9 m_ junction) rfl (fun h => Bool.noConfusion h) rfl <| Cr .n (.t rfl) rfl <| Af .n (.t rfl) rfl <| Af (.f rfl rfl) (.t rfl) rfl <| AR (full := false) (.f rfl rfl) .f en_37 (.cons (.u rfl id) (.cons (.c rfl) (.cons (.c rfl) .nil))) (.cons (.b (.a (.same rfl))) (.cons (.b (.a (.same rfl))) (.cons (.b (.a (.same rfl))) .nil))) (fun hg => BF speed 10 300) rfl (fun h => Bool.noConfusion h) rfl <| Cr (.f rfl rfl) (.u rfl id) rfl <| q_or .n (.t rfl) (.u rfl id) rfl <| Ag .n (.t rfl) rfl <| Lex.nil) ?_
    refine As (.t rfl) rfl (fun h3 => ?_) (fun h3 => ?_)
    · try simp only [tst] at h3
      try have hf0h3 := within_imp h3
      try have hf1h3 := within_imp h3.1
      try have hf2h3 := within_imp h3.2
      try have hf3h3 := within_imp h3.1.1
      try have hf4h3 := within_imp h3.1.2
      try have hf5h3 := within_imp h3.2.1
      try have hf6h3 := within_imp h3.2.2
      refine Ae ?_
      refine Ad (Ag .n (.c rfl) rfl <| Ag .n (.c rfl) rfl <| Lex.nil) ?_
      refine CN (sub_adopt (t := 6) (l := 202) (el := 2) (sz := 1) rfl rfl) ?_
      exact Ay [(100, 202)] (.cons (.t rfl rfl) (.cons (.t rfl rfl) .nil)) (by first | rfl | (simp only [put_len]; rfl)) ⟨rfl, trivial⟩ rfl
    · try simp only [tst] at h3
      try have hf0h3 := within_imp h3
      try have hf1h3 := within_imp h3.1
      try have hf2h3 := within_imp h3.2
      try have hf3h3 := within_imp h3.1.1
      try have hf4h3 := within_imp h3.1.2
      try have hf5h3 := within_imp h3.2.1
      try have hf6h3 := within_imp h3.2.2
      refine Aw ?_
      refine AS ?_
      refine Ae ?_
      refine Ad (Bb .n (.t rfl) rfl (.inr rfl) ag_26 (fun _ => rfl) rfl rfl <| Af .n (.t rfl) rfl <| Af .n (.t rfl) rfl <| AV (full := false) [] [(100, 203)] .n rfl .f en_44 (.cons (.t rfl) (.cons (.t rfl) (.cons (.t rfl) .nil))) (.cons (.sts rfl) (.cons (.b (.a (.same rfl))) (.cons (.b (.a (.same rfl))) .nil))) (c_impl_Mine_walkTimes m_ junction speed (by omega) (by (exact junc_in (by assumption) (And.left (by assumption)))) (by omega)) trivial rfl rfl (fun h => Bool.noConfusion h) (fun h => Bool.noConfusion h) rfl <| Ag .n (.t rfl) rfl <| Ag .n (.c rfl) rfl <| Lex.nil) ?_
      exact Ay [(100, 203)] (.cons (.t rfl rfl) (.cons (.t rfl rfl) .nil)) (by first | rfl | (simp only [put_len]; rfl)) ⟨rfl, trivial⟩ rfl

/-! ### laws_FnRefuges -/
set_option maxRecDepth 100000 in
set_option maxHeartbeats 4000000 in
theorem c_laws_FnRefuges (code : List Int) (more : List Int) (hp1 : code.length ≤ 9223372036854775807 ∧ ∀ y ∈ code, 0 ≤ y ∧ y ≤ 255) (hp2 : more.length ≤ 9223372036854775807 ∧ ∀ y ∈ more, 0 ≤ y ∧ y ≤ 255) : Con Tryz.prog 3 [.sl 1 (code.map (V.int .u8)), .sl 1 (more.map (V.int .u8))] [] (.bool (Ds code more)) ([]) := by
  refine ConG.con ?_ rfl hr_nil
  refine con_introG (out := fun r : Bool => ((.bool r : V), ([] : List (Nat × Option O)))) (r := (Ds code more)) Tryz.func3 rfl Tryz.ntmps3 rfl ?_
  refine Bo (t := 0) rfl fun hl => ?_
  have l1 := hl; clear hl; simp only [List.length_map] at l1
  refine Bo (t := 1) rfl fun hl => ?_
  have l2 := hl; clear hl; simp only [List.length_map] at l2
  refine Ae ?_
  refine Ad (Ag .n (.c rfl) rfl <| Lex.nil) ?_
  refine Ae ?_
  refine Ae ?_
  refine Ad (Af .n (.t rfl) rfl <| AR (full := false) .n .f en_5 (.cons (.t rfl) .nil) (.cons (.b (.a (.same rfl))) .nil) (fun hg => c_laws_b10Long code) rfl (fun h => Bool.noConfusion h) rfl <| Af .n (.t rfl) rfl <| Af (.f rfl rfl) (.t rfl) rfl <| AR (full := false) (.f rfl rfl) .f en_5 (.cons (.u rfl id) .nil) (.cons (.b (.a (.same rfl))) .nil) (fun hg => c_laws_b10Long more) rfl (fun h => Bool.noConfusion h) rfl <| q_or .n (.t rfl) (.u rfl id) rfl <| Lex.nil) ?_
  refine As (.t rfl) rfl (fun h3 => ?_) (fun h3 => ?_)
  · try simp only [tst] at h3
    refine Ae ?_
    refine Ad (Ag .n (.c rfl) rfl <| Lex.nil) ?_
    exact Ay [] (.cons (.t rfl rfl) .nil) rfl trivial rfl
  · try simp only [tst] at h3
    refine Aw ?_
    refine Ae ?_
    refine run_ro <| ro_lex (l1 := [_]) (l2 := [_, _, _, _, _, _, _, _, _, _, _, _, _, _, _, _, _, _, _]) rfl (Af .n (.t rfl) rfl <| Lex.nil) <| ro_callGM [] [(100, 200), (101, 201), (102, 202), (103, 203)] .f en_6 (.cons (.t rfl) .nil) (.cons (.b (.a (.same rfl))) .nil) (c_spec_DrawAssignCrews code (by (exact hp1.2))) trivial rfl rfl rfl rfl rfl <| ro_lex (l1 := [_, _, _, _, _, _, _, _, _, _, _, _, _, _, _, _, _, _]) (l2 := []) rfl (Af .n (.t rfl) rfl <| C3 .n (.t rfl) rfl rfl rfl <| C3 .n (.t rfl) rfl rfl rfl <| C3 .n (.t rfl) rfl rfl rfl <| C3 .n (.t rfl) rfl rfl rfl <| C3 .n (.t rfl) rfl rfl rfl <| C3 .n (.t rfl) rfl rfl rfl <| C3 .n (.t rfl) rfl rfl rfl <| C3 .n (.t rfl) rfl rfl rfl <| BG (l := 204) .n rfl zv_26 rfl rfl <| AL [.int .i64 (Ac code).1.Junctions, .sl 7 ((Ac code).1.Airways.map Au.v)] .n rfl (.t rfl) (.t rfl) rfl ts_26 rfl rfl <| Ag .n (.t rfl) rfl <| Ag .n (.t rfl) rfl <| Ag .n (.t rfl) rfl <| Ag .n (.t rfl) rfl <| Ag .n (.t rfl) rfl <| Ag .n (.t rfl) rfl <| Ag .n (.t rfl) rfl <| Lex.nil) <| ro_end ?_
    refine Ae ?_
    refine Ad (Bb .n (.t rfl) rfl (.inr rfl) ag_26 (fun _ => rfl) rfl rfl <| Af .n (.t rfl) rfl <| Af .n (.t rfl) rfl <| Af .n (.t rfl) rfl <| Af .n (.t rfl) rfl <| Af .n (.t rfl) rfl <| Af .n (.t rfl) rfl <| Af .n (.t rfl) rfl <| AV (full := true) [] [(100, 205)] .n rfl .f en_7 (.cons (.t rfl) (.cons (.t rfl) (.cons (.t rfl) (.cons (.t rfl) (.cons (.t rfl) (.cons (.t rfl) (.cons (.t rfl) (.cons (.t rfl) .nil)))))))) (.cons (.sts rfl) (.cons (.b (.a (.own rfl rfl rfl (take_all (by simp only [len_map, put_len] <;> rfl)) (by simp only [len_map, put_len] <;> rfl)))) (.cons (.b (.a (.same rfl))) (.cons (.b (.a (.own rfl rfl rfl (take_all (by simp only [len_map, put_len] <;> rfl)) (by simp only [len_map, put_len] <;> rfl)))) (.cons (.b (.a (.own rfl rfl rfl (take_all (by simp only [len_map, put_len] <;> rfl)) (by simp only [len_map, put_len] <;> rfl)))) (.cons (.b (.a (.same rfl))) (.cons (.b (.a (.own rfl rfl rfl (take_all (by simp only [len_map, put_len] <;> rfl)) (by simp only [len_map, put_len] <;> rfl)))) (.cons (.b (.a (.same rfl))) .nil)))))))) (c_impl_AssignCrews (Ac code).1 (Ac code).2.1 (Ac code).2.2.1 (Ac code).2.2.2.1 (Ac code).2.2.2.2.1 (Ac code).2.2.2.2.2.1 (Ac code).2.2.2.2.2.2.1 (Ac code).2.2.2.2.2.2.2) trivial rfl rfl (fun _ => rfl) (fun _ => (hr_row (fun _ => rfl) hr_nil)) rfl <| Af .n (.t rfl) rfl <| C3 .n (.t rfl) rfl rfl rfl <| C3 .n (.t rfl) rfl rfl rfl <| C3 .n (.t rfl) rfl rfl rfl <| Ag .n (.t rfl) rfl <| Ag .n (.t rfl) rfl <| Ag .n (.t rfl) rfl <| Lex.nil) ?_
    refine Ae ?_
    refine Ae ?_
    refine Ad (Af .n (.t rfl) rfl <| AK .n (.t rfl) (.c rfl) rfl rfl <| Lex.nil) ?_
    refine C7 _ _ rfl (fun v4 : Unit => True) (fun v4 => ⟨[(1, some (true, .sl 1 (more.map (V.int .u8))))], []⟩) (fun v4 _ => ?_) (fun j5 hj6 => ?_)
    · refine Ae ?_
      refine run_ro <| ro_lex (l1 := [_]) (l2 := [_, _, _, _, _, _, _, _, _]) rfl (Af .n (.t rfl) rfl <| Lex.nil) <| ro_callGM [] [] .f en_10 (.cons (.t rfl) .nil) (.cons (.b (.a (.same rfl))) .nil) (c_spec_DrawWalkTimes more (by (exact hp2.2))) trivial rfl rfl rfl rfl rfl <| ro_lex (l1 := [_, _, _, _, _, _, _, _]) (l2 := []) rfl (Af .n (.t rfl) rfl <| C3 .n (.t rfl) rfl rfl rfl <| C3 .n (.t rfl) rfl rfl rfl <| C3 .n (.t rfl) rfl rfl rfl <| BG (l := 208) .n rfl zv_26 rfl rfl <| AL [.int .i64 (Am more).1.Junctions, .sl 7 ((Am more).1.Airways.map Au.v)] .n rfl (.t rfl) (.t rfl) rfl ts_26 rfl rfl <| Ag .n (.t rfl) rfl <| Ag .n (.t rfl) rfl <| Lex.nil) <| ro_end ?_
      refine Ae ?_
      refine Ad (Bb .n (.t rfl) rfl (.inr rfl) ag_26 (fun _ => rfl) rfl rfl <| Af .n (.t rfl) rfl <| Af .n (.t rfl) rfl <| AV (full := false) [] [(100, 209)] .n rfl .f en_11 (.cons (.t rfl) (.cons (.t rfl) (.cons (.t rfl) .nil))) (.cons (.sts rfl) (.cons (.b (.a (.same rfl))) (.cons (.b (.a (.same rfl))) .nil))) (c_impl_WalkTimes (Am more).1 (Am more).2.1 (Am more).2.2) trivial rfl rfl (fun h => Bool.noConfusion h) (fun h => Bool.noConfusion h) rfl <| Af .n (.t rfl) rfl <| C3 .n (.t rfl) rfl rfl rfl <| C3 .n (.t rfl) rfl rfl rfl <| Ag .n (.t rfl) rfl <| Ag .n (.t rfl) rfl <| Lex.nil) ?_
      refine Ae ?_
      refine Ae ?_
      refine Ad (Af .n (.t rfl) rfl <| AK .n (.t rfl) (.c rfl) rfl rfl <| Lex.nil) ?_
      refine As (.t rfl) rfl (fun h26 => ?_) (fun h26 => ?_)
      · try simp only [tst] at h26
        try have hf0h26 := walk_J h26
        try have hf1h26 := walk_J h26.1
        try have hf2h26 := walk_J h26.2
        try have hf3h26 := walk_J h26.1.1
        try have hf4h26 := walk_J h26.1.2
        try have hf5h26 := walk_J h26.2.1
        try have hf6h26 := walk_J h26.2.2
        refine Ae ?_
        refine Ad (Af .n (.t rfl) rfl <| BD .n (.t rfl) rfl rfl ss_27 rfl <| AK .n (.t rfl) (.c rfl) rfl rfl <| Ag .n (.t rfl) rfl <| Lex.nil) ?_
        exact Ay [] (.cons (.t rfl rfl) .nil) rfl trivial rfl
      · try simp only [tst] at h26
        try have hf0h26 := walk_J h26
        try have hf1h26 := walk_J h26.1
        try have hf2h26 := walk_J h26.2
        try have hf3h26 := walk_J h26.1.1
        try have hf4h26 := walk_J h26.1.2
        try have hf5h26 := walk_J h26.2.1
        try have hf6h26 := walk_J h26.2.2
        refine Aw ?_
        refine Ae ?_
        refine Ae ?_
        refine Ad (Af .n (.t rfl) rfl <| BD .n (.t rfl) rfl rfl ss_27 rfl <| AE .n (.t rfl) fo_26_0 rfl <| AP .n (.t rfl) rfl (.inr rfl) (fun _ => rfl) rfl ic_2 rfl <| AK .n (.t rfl) (.t rfl) rfl rfl <| Af .n (.t rfl) rfl <| Af (.f rfl rfl) (.t rfl) rfl <| AK (.f rfl rfl) (.u rfl id) (.c rfl) rfl rfl <| q_or .n (.t rfl) (.u rfl id) rfl <| Af .n (.t rfl) rfl <| Af (.f rfl rfl) (.t rfl) rfl <| AE (.f rfl rfl) (.t rfl) fo_26_0 rfl <| AP (.f rfl rfl) (.u rfl id) rfl (.inr rfl) (fun _ => rfl) rfl ic_2 rfl <| AK (.f rfl rfl) (.u rfl id) (.u rfl id) rfl rfl <| q_or .n (.t rfl) (.u rfl id) rfl <| Lex.nil) ?_
        refine As (.t rfl) rfl (fun h27 => ?_) (fun h27 => ?_)
        · try simp only [tst] at h27
          try have hf0h27 := walk_J h27
          try have hf1h27 := walk_J h27.1
          try have hf2h27 := walk_J h27.2
          try have hf3h27 := walk_J h27.1.1
          try have hf4h27 := walk_J h27.1.2
          try have hf5h27 := walk_J h27.2.1
          try have hf6h27 := walk_J h27.2.2
          refine Ae ?_
          refine Ad (Ag .n (.c rfl) rfl <| Lex.nil) ?_
          exact Ay [] (.cons (.t rfl rfl) .nil) rfl trivial rfl
        · try simp only [tst] at h27
          try have hf0h27 := walk_J h27
          try have hf1h27 := walk_J h27.1
          try have hf2h27 := walk_J h27.2
          try have hf3h27 := walk_J h27.1.1
          try have hf4h27 := walk_J h27.1.2
          try have hf5h27 := walk_J h27.2.1
          try have hf6h27 := walk_J h27.2.2
          refine Aw ?_
          refine Ae ?_
          refine Ae ?_
          refine Ad (Ag .n (.c rfl) rfl <| Lex.nil) ?_
          refine AC ?_
          refine Dm (Ch code more v4) _ _ _ rfl (fun (x2 : Int) => 0 ≤ x2 ∧ x2 ≤ (Am more).1.Junctions) (fun x2 => 0 ≤ x2 ∧ x2 ≤ (Am more).1.Junctions ∧ (Am more).1.Junctions ≤ x2) (fun x2 => ((Am more).1.Junctions - x2 : Int).toNat) (fun x2 => ⟨[(24, some (true, .op 208 0 0 0)), (25, some (true, .int .i64 (Am more).2.1)), (26, some (true, .int .i64 (Am more).2.2)), (27, some (true, .os 209 (AQ (Am more).1 (Am more).2.1 (Am more).2.2).1.length)), (29, some (true, .int .i64 x2))], [(208, some (.box 26 [.int .i64 (Am more).1.Junctions, .sl 7 ((Am more).1.Airways.map Au.v)])), (209, some (.row 2 1 ((AQ (Am more).1 (Am more).2.1 (Am more).2.2).1.map (V.int .i64))))]⟩) (fun x2 => ⟨[], []⟩) ⟨by omega, by omega⟩ (by omega) (sub_of [] ⟨rfl, rfl, rfl, rfl, rfl, trivial⟩ ⟨rfl, rfl, trivial⟩ rfl) rfl ?_ ?_
          · intro x2 i32
            obtain ⟨e33, e34, e35⟩ := i32
            try dsimp only at *
            refine Ae ?_
            refine Ad (Ag .n (.c rfl) rfl <| Lex.nil) ?_
            exact Ay [] (.cons (.t rfl rfl) .nil) rfl trivial rfl
          · intro rec2 k2 hk28 x2 i29
            obtain ⟨e36, e37⟩ := i29
            try dsimp only at *
            refine Ae ?_
            refine Ae ?_
            refine Ad (Af .n (.t rfl) rfl <| AE .n (.t rfl) fo_26_0 rfl <| AP .n (.t rfl) rfl (.inr rfl) (fun _ => rfl) rfl ic_2 rfl <| AK .n (.t rfl) (.t rfl) rfl rfl <| Lex.nil) ?_
            refine As (.t rfl) rfl (fun h30 => ?_) (fun h30 => ?_)
            · try simp only [tst] at h30
              refine Aw ?_
              refine Ae ?_
              refine AC ?_
              refine Ae ?_
              refine Ad (Bb .n (.t rfl) rfl (.inr rfl) ag_26 (fun _ => rfl) rfl rfl <| Af .n (.t rfl) rfl <| Af .n (.t rfl) rfl <| AV (full := false) [] [(100, 210)] .n rfl .f en_11 (.cons (.t rfl) (.cons (.t rfl) (.cons (.t rfl) .nil))) (.cons (.sts rfl) (.cons (.b (.a (.same rfl))) (.cons (.b (.a (.same rfl))) .nil))) (c_impl_WalkTimes (Am more).1 x2 (Am more).2.2) trivial rfl rfl (fun h => Bool.noConfusion h) (fun h => Bool.noConfusion h) rfl <| Af .n (.t rfl) rfl <| C3 .n (.t rfl) rfl rfl rfl <| C3 .n (.t rfl) rfl rfl rfl <| Ag .n (.t rfl) rfl <| Ag .n (.t rfl) rfl <| Lex.nil) ?_
              refine Ae ?_
              refine Bl fmo (Af .n (.t rfl) rfl <| AK .n (.t rfl) (.c rfl) rfl rfl <| Af .n (.t rfl) rfl <| Af (.f rfl rfl) (.t rfl) rfl <| BD (.f rfl rfl) (.u rfl id) rfl rfl ss_27 rfl <| AE (.f rfl rfl) (.t rfl) fo_26_0 rfl <| AP (.f rfl rfl) (.u rfl id) rfl (.inr rfl) (fun _ => rfl) rfl ic_2 rfl <| AK (.f rfl rfl) (.u rfl id) (.u rfl id) rfl rfl <| q_or .n (.t rfl) (.u rfl id) rfl <| Af .n (.t rfl) rfl <| Af (.f rfl rfl) (.t rfl) rfl <| Af (.f rfl rfl) (.t rfl) rfl <| AX (.f rfl rfl) (.u rfl id) (.u rfl id) sl_27 (fun hg => by simp only [tst] at hg; omega) rfl <| A3 (.f rfl rfl) (.u rfl id) rfl (fun hg => by simp only [tst] at hg; omega) rfl rfl rfl ic_2 rfl <| Af (.f rfl rfl) (.t rfl) rfl <| Af (.f rfl rfl) (.t rfl) rfl <| AX (.f rfl rfl) (.u rfl id) (.u rfl id) sl_27 (fun hg => by simp only [tst] at hg; omega) rfl <| A3 (.f rfl rfl) (.u rfl id) rfl (fun hg => by simp only [tst] at hg; omega) rfl rfl rfl ic_2 rfl <| AK (.f rfl rfl) (.u rfl id) (.u rfl id) rfl rfl <| q_or .n (.t rfl) (.u rfl id) rfl <| Af .n (.t rfl) rfl <| Af (.f rfl rfl) (.t rfl) rfl <| Af (.f rfl rfl) (.t rfl) rfl <| AX (.f rfl rfl) (.u rfl id) (.u rfl id) sl_27 (fun hg => by simp only [tst] at hg; omega) rfl <| A3 (.f rfl rfl) (.u rfl id) rfl (fun hg => by simp only [tst] at hg; omega) rfl rfl rfl ic_2 rfl <| AK (.f rfl rfl) (.u rfl id) (.c rfl) rfl rfl <| q_or .n (.t rfl) (.u rfl id) rfl <| Lex.nil) (by kernel_rfl) ?_
              refine As (.t rfl) rfl (fun h31 => ?_) (fun h31 => ?_)
              · try simp only [tst] at h31
                try have hf0h31 := walk_J h31
                try have hf1h31 := walk_J h31.1
                try have hf2h31 := walk_J h31.2
                try have hf3h31 := walk_J h31.1.1
                try have hf4h31 := walk_J h31.1.2
                try have hf5h31 := walk_J h31.2.1
                try have hf6h31 := walk_J h31.2.2
                try have hf7h31 := walk_J h31.1.1.1
                try have hf8h31 := walk_J h31.1.1.2
                refine Ae ?_
                refine Ad (Ag .n (.c rfl) rfl <| Lex.nil) ?_
                exact Ay [] (.cons (.t rfl rfl) .nil) rfl trivial rfl
              · try simp only [tst] at h31
                try have hf0h31 := walk_J h31
                try have hf1h31 := walk_J h31.1
                try have hf2h31 := walk_J h31.2
                try have hf3h31 := walk_J h31.1.1
                try have hf4h31 := walk_J h31.1.2
                try have hf5h31 := walk_J h31.2.1
                try have hf6h31 := walk_J h31.2.2
                try have hf7h31 := walk_J h31.1.1.1
                try have hf8h31 := walk_J h31.1.1.2
                refine Aw ?_
                refine AS ?_
                refine Ad (Af .n (.t rfl) rfl <| BQ .n (.t rfl) (.c rfl) (fun _ => by omega) rfl <| Ag .n (.t rfl) rfl <| Lex.nil) ?_
                exact Cy (x2 + 1) ⟨by omega, by omega⟩ (by omega) (sub_of [] ⟨rfl, rfl, rfl, rfl, rfl, trivial⟩ ⟨rfl, rfl, trivial⟩ rfl)
            · try simp only [tst] at h30
              refine Ba rfl ?_
              exact AY hk28 x2 ⟨by omega, by omega, by omega⟩ (sub_of [] trivial trivial rfl)
    · refine As (.t rfl) rfl (fun h7 => ?_) (fun h7 => ?_)
      · try simp only [tst] at h7
        try have hf0h7 := asg_list h7
        try have hf1h7 := asg_list h7.1
        try have hf2h7 := asg_list h7.2
        try have hf3h7 := asg_list h7.1.1
        try have hf4h7 := asg_list h7.1.2
        try have hf5h7 := asg_list h7.2.1
        try have hf6h7 := asg_list h7.2.2
        try have hf7h7 := asg_len h7
        try have hf8h7 := asg_len h7.1
        try have hf9h7 := asg_len h7.2
        try have hf10h7 := asg_len h7.1.1
        try have hf11h7 := asg_len h7.1.2
        try have hf12h7 := asg_len h7.2.1
        try have hf13h7 := asg_len h7.2.2
        refine Ae ?_
        refine Ae ?_
        refine Ad (Af .n (.t rfl) rfl <| BD .n (.t rfl) rfl rfl ss_27 rfl <| Af .n (.t rfl) rfl <| BD .n (.t rfl) rfl rfl ss_28 rfl <| AK .n (.t rfl) (.t rfl) rfl rfl <| Af .n (.t rfl) rfl <| Af (.f rfl rfl) (.t rfl) rfl <| BD (.f rfl rfl) (.u rfl id) rfl rfl ss_27 rfl <| Af (.f rfl rfl) (.t rfl) rfl <| BD (.f rfl rfl) (.u rfl id) rfl rfl ss_28 rfl <| AK (.f rfl rfl) (.u rfl id) (.u rfl id) rfl rfl <| q_or .n (.t rfl) (.u rfl id) rfl <| Lex.nil) ?_
        refine As (.t rfl) rfl (fun h8 => ?_) (fun h8 => ?_)
        · try simp only [tst] at h8
          try have hf0h8 := asg_list h8
          try have hf1h8 := asg_list h8.1
          try have hf2h8 := asg_list h8.2
          try have hf3h8 := asg_list h8.1.1
          try have hf4h8 := asg_list h8.1.2
          try have hf5h8 := asg_list h8.2.1
          try have hf6h8 := asg_list h8.2.2
          try have hf7h8 := asg_len h8
          try have hf8h8 := asg_len h8.1
          try have hf9h8 := asg_len h8.2
          try have hf10h8 := asg_len h8.1.1
          try have hf11h8 := asg_len h8.1.2
          try have hf12h8 := asg_len h8.2.1
          try have hf13h8 := asg_len h8.2.2
          refine Ae ?_
          refine Ad (Ag .n (.c rfl) rfl <| Lex.nil) ?_
          exact Ay [] (.cons (.t rfl rfl) .nil) rfl trivial rfl
        · try simp only [tst] at h8
          try have hf0h8 := asg_list h8
          try have hf1h8 := asg_list h8.1
          try have hf2h8 := asg_list h8.2
          try have hf3h8 := asg_list h8.1.1
          try have hf4h8 := asg_list h8.1.2
          try have hf5h8 := asg_list h8.2.1
          try have hf6h8 := asg_list h8.2.2
          try have hf7h8 := asg_len h8
          try have hf8h8 := asg_len h8.1
          try have hf9h8 := asg_len h8.2
          try have hf10h8 := asg_len h8.1.1
          try have hf11h8 := asg_len h8.1.2
          try have hf12h8 := asg_len h8.2.1
          try have hf13h8 := asg_len h8.2.2
          refine Aw ?_
          refine Ae ?_
          refine Ad (Ag .n (.c rfl) rfl <| Lex.nil) ?_
          refine Ae ?_
          refine Ad (Af .n (.t rfl) rfl <| BD .n (.t rfl) rfl rfl ss_29 rfl <| q_makem (f := V.int .i64) (l := 206) (0 : Int) .n rfl (.t rfl) (.t rfl) si_27 zv_2 (by omega) rfl rfl rfl <| Ag .n (.t rfl) rfl <| Lex.nil) ?_
          refine Ae ?_
          refine Ae ?_
          refine Ad (Ag .n (.c rfl) rfl <| Lex.nil) ?_
          refine AC ?_
          refine Dm (CY code more j5) _ _ _ rfl (fun (x1 : Int × Int × (List Int)) => 0 ≤ x1.1 ∧ x1.1 ≤ ((Ax (Ac code).1 (Ac code).2.1 (Ac code).2.2.1 (Ac code).2.2.2.1 (Ac code).2.2.2.2.1 (Ac code).2.2.2.2.2.1 (Ac code).2.2.2.2.2.2.1 (Ac code).2.2.2.2.2.2.2).1.length : Int) ∧ x1.2.2.length = (List.replicate (((Ac code).2.2.2.2.2.2.1.length : Int) : Int).toNat (0 : Int)).length) (fun x1 => 0 ≤ x1.1 ∧ x1.1 ≤ ((Ax (Ac code).1 (Ac code).2.1 (Ac code).2.2.1 (Ac code).2.2.2.1 (Ac code).2.2.2.2.1 (Ac code).2.2.2.2.2.1 (Ac code).2.2.2.2.2.2.1 (Ac code).2.2.2.2.2.2.2).1.length : Int) ∧ x1.2.2.length = (List.replicate (((Ac code).2.2.2.2.2.2.1.length : Int) : Int).toNat (0 : Int)).length ∧ ((Ax (Ac code).1 (Ac code).2.1 (Ac code).2.2.1 (Ac code).2.2.2.1 (Ac code).2.2.2.2.1 (Ac code).2.2.2.2.2.1 (Ac code).2.2.2.2.2.2.1 (Ac code).2.2.2.2.2.2.2).1.length : Int) ≤ x1.1) (fun x1 => (((Ax (Ac code).1 (Ac code).2.1 (Ac code).2.2.1 (Ac code).2.2.2.1 (Ac code).2.2.2.2.1 (Ac code).2.2.2.2.2.1 (Ac code).2.2.2.2.2.2.1 (Ac code).2.2.2.2.2.2.2).1.length : Int) - x1.1 : Int).toNat) (fun x1 => ⟨[(1, some (true, .sl 1 (more.map (V.int .u8)))), (5, some (true, .op 204 0 0 0)), (6, some (true, .os 200 (Ac code).2.1.length)), (7, some (true, .int .i64 (Ac code).2.2.1)), (8, some (true, .os 201 (Ac code).2.2.2.1.length)), (9, some (true, .os 202 (Ac code).2.2.2.2.1.length)), (10, some (true, .int .i64 (Ac code).2.2.2.2.2.1)), (11, some (true, .os 203 (Ac code).2.2.2.2.2.2.1.length)), (13, some (true, .os 205 (Ax (Ac code).1 (Ac code).2.1 (Ac code).2.2.1 (Ac code).2.2.2.1 (Ac code).2.2.2.2.1 (Ac code).2.2.2.2.2.1 (Ac code).2.2.2.2.2.2.1 (Ac code).2.2.2.2.2.2.2).1.length)), (14, some (true, .int .i64 (Ax (Ac code).1 (Ac code).2.1 (Ac code).2.2.1 (Ac code).2.2.2.1 (Ac code).2.2.2.2.1 (Ac code).2.2.2.2.2.1 (Ac code).2.2.2.2.2.2.1 (Ac code).2.2.2.2.2.2.2).2.1)), (16, some (true, .int .i64 x1.2.1)), (17, some (true, .os 206 x1.2.2.length)), (18, some (true, .int .i64 x1.1))], [(200, some (.row 2 1 ((Ac code).2.1.map (V.int .i64)))), (201, some (.row 37 3 ((Ac code).2.2.2.1.map Bi.v))), (202, some (.row 2 1 ((Ac code).2.2.2.2.1.map (V.int .i64)))), (203, some (.row 39 4 ((Ac code).2.2.2.2.2.2.1.map AI.v))), (204, some (.box 26 [.int .i64 (Ac code).1.Junctions, .sl 7 ((Ac code).1.Airways.map Au.v)])), (205, some (.row 2 1 ((Ax (Ac code).1 (Ac code).2.1 (Ac code).2.2.1 (Ac code).2.2.2.1 (Ac code).2.2.2.2.1 (Ac code).2.2.2.2.2.1 (Ac code).2.2.2.2.2.2.1 (Ac code).2.2.2.2.2.2.2).1.map (V.int .i64)))), (206, some (.row 2 1 (x1.2.2.map (V.int .i64))))]⟩) (fun x1 => ⟨[(1, some (true, .sl 1 (more.map (V.int .u8)))), (9, some (true, .os 202 (Ac code).2.2.2.2.1.length)), (11, some (true, .os 203 (Ac code).2.2.2.2.2.2.1.length)), (13, some (true, .os 205 (Ax (Ac code).1 (Ac code).2.1 (Ac code).2.2.1 (Ac code).2.2.2.1 (Ac code).2.2.2.2.1 (Ac code).2.2.2.2.2.1 (Ac code).2.2.2.2.2.2.1 (Ac code).2.2.2.2.2.2.2).1.length)), (14, some (true, .int .i64 (Ax (Ac code).1 (Ac code).2.1 (Ac code).2.2.1 (Ac code).2.2.2.1 (Ac code).2.2.2.2.1 (Ac code).2.2.2.2.2.1 (Ac code).2.2.2.2.2.2.1 (Ac code).2.2.2.2.2.2.2).2.1)), (16, some (true, .int .i64 x1.2.1))], [(202, some (.row 2 1 ((Ac code).2.2.2.2.1.map (V.int .i64)))), (203, some (.row 39 4 ((Ac code).2.2.2.2.2.2.1.map AI.v))), (205, some (.row 2 1 ((Ax (Ac code).1 (Ac code).2.1 (Ac code).2.2.1 (Ac code).2.2.2.1 (Ac code).2.2.2.2.1 (Ac code).2.2.2.2.2.1 (Ac code).2.2.2.2.2.2.1 (Ac code).2.2.2.2.2.2.2).1.map (V.int .i64))))]⟩) ⟨by omega, by omega, by (simp only [lens] at * <;> omega)⟩ (by omega) (sub_of [] ⟨rfl, rfl, rfl, rfl, rfl, rfl, rfl, rfl, rfl, rfl, rfl, rfl, rfl, trivial⟩ ⟨rfl, rfl, rfl, rfl, rfl, rfl, rfl, trivial⟩ rfl) rfl ?_ ?_
          · intro x1 i17
            obtain ⟨e19, e20, e21, e22⟩ := i17
            try dsimp only at *
            refine Ae ?_
            refine Ad (Af .n (.t rfl) rfl <| Af .n (.t rfl) rfl <| Af .n (.t rfl) rfl <| AR (full := true) .n .f en_9 (.cons (.t rfl) (.cons (.t rfl) (.cons (.t rfl) (.cons (.c rfl) .nil)))) (.cons (.b (.a (.own rfl rfl rfl (take_all (by simp only [len_map, put_len] <;> rfl)) (by simp only [len_map, put_len] <;> rfl)))) (.cons (.b (.a (.own rfl rfl rfl (take_all (by simp only [len_map, put_len] <;> rfl)) (by simp only [len_map, put_len] <;> rfl)))) (.cons (.b (.a (.own rfl rfl rfl (take_all (by simp only [len_map, put_len] <;> rfl)) (by simp only [len_map, put_len] <;> rfl)))) (.cons (.b (.a (.same rfl))) .nil)))) (fun hg => c_impl_ShortestHours (Ac code).2.2.2.2.2.2.1 (Ac code).2.2.2.2.1 (Ax (Ac code).1 (Ac code).2.1 (Ac code).2.2.1 (Ac code).2.2.2.1 (Ac code).2.2.2.2.1 (Ac code).2.2.2.2.2.1 (Ac code).2.2.2.2.2.2.1 (Ac code).2.2.2.2.2.2.2).1 30) rfl (fun _ => rfl) rfl <| Af .n (.t rfl) rfl <| C3 .n (.t rfl) rfl rfl rfl <| C3 .n (.t rfl) rfl rfl rfl <| Ag .n (.t rfl) rfl <| Ag .n (.t rfl) rfl <| Lex.nil) ?_
            refine Ae ?_
            refine Ad (Af .n (.t rfl) rfl <| Af .n (.t rfl) rfl <| AK .n (.t rfl) (.t rfl) rfl rfl <| Af .n (.t rfl) rfl <| Af (.f rfl rfl) (.t rfl) rfl <| AK (.f rfl rfl) (.u rfl id) (.c rfl) rfl rfl <| q_or .n (.t rfl) (.u rfl id) rfl <| Af .n (.t rfl) rfl <| Af (.f rfl rfl) (.t rfl) rfl <| AK (.f rfl rfl) (.u rfl id) (.c rfl) rfl rfl <| q_or .n (.t rfl) (.u rfl id) rfl <| Af .n (.t rfl) rfl <| Af (.f rfl rfl) (.t rfl) rfl <| AK (.f rfl rfl) (.u rfl id) (.c rfl) rfl rfl <| q_or .n (.t rfl) (.u rfl id) rfl <| Lex.nil) ?_
            refine As (.t rfl) rfl (fun h18 => ?_) (fun h18 => ?_)
            · try simp only [tst] at h18
              refine Ae ?_
              refine Ad (Ag .n (.c rfl) rfl <| Lex.nil) ?_
              exact Ay [] (.cons (.t rfl rfl) .nil) rfl trivial rfl
            · try simp only [tst] at h18
              refine Aw ?_
              exact AY hj6 () trivial (sub_of [] ⟨rfl, trivial⟩ trivial rfl)
          · intro rec1 k1 hk9 x1 i10
            obtain ⟨e23, e24, e25⟩ := i10
            try dsimp only at *
            refine Ae ?_
            refine Ae ?_
            refine Ad (Af .n (.t rfl) rfl <| Af .n (.t rfl) rfl <| BD .n (.t rfl) rfl rfl ss_27 rfl <| AK .n (.t rfl) (.t rfl) rfl rfl <| Lex.nil) ?_
            refine As (.t rfl) rfl (fun h11 => ?_) (fun h11 => ?_)
            · try simp only [tst] at h11
              refine Aw ?_
              refine Ae ?_
              refine AC ?_
              refine Ae ?_
              refine Ae ?_
              refine Ad (Af .n (.t rfl) rfl <| Af .n (.t rfl) rfl <| AX .n (.t rfl) (.t rfl) sl_27 (fun _ => by omega) rfl <| A3 .n (.t rfl) rfl (fun _ => by omega) rfl rfl rfl ic_2 rfl <| AK .n (.t rfl) (.c rfl) rfl rfl <| Af .n (.t rfl) rfl <| Af (.f rfl rfl) (.t rfl) rfl <| Af (.f rfl rfl) (.t rfl) rfl <| AX (.f rfl rfl) (.u rfl id) (.u rfl id) sl_27 (fun hg => by simp only [tst] at hg; omega) rfl <| A3 (.f rfl rfl) (.u rfl id) rfl (fun hg => by simp only [tst] at hg; omega) rfl rfl rfl ic_2 rfl <| Af (.f rfl rfl) (.t rfl) rfl <| BD (.f rfl rfl) (.u rfl id) rfl rfl ss_29 rfl <| AK (.f rfl rfl) (.u rfl id) (.u rfl id) rfl rfl <| q_or .n (.t rfl) (.u rfl id) rfl <| Lex.nil) ?_
              refine As (.t rfl) rfl (fun h12 => ?_) (fun h12 => ?_)
              · try simp only [tst] at h12
                refine Ae ?_
                refine Ad (Ag .n (.c rfl) rfl <| Lex.nil) ?_
                exact Ay [] (.cons (.t rfl rfl) .nil) rfl trivial rfl
              · try simp only [tst] at h12
                refine Aw ?_
                refine Ae ?_
                refine Bl fmo (Bb .n (.t rfl) rfl (.inr rfl) ag_26 (fun _ => rfl) rfl rfl <| Af .n (.t rfl) rfl <| Af .n (.t rfl) rfl <| Af .n (.t rfl) rfl <| Af .n (.t rfl) rfl <| AX .n (.t rfl) (.t rfl) sl_28 (fun _ => by omega) rfl <| q_ldN_row .n (.t rfl) rfl (fun _ => by omega) rfl ag_37 rfl rfl rfl <| Af .n (.t rfl) rfl <| AV (full := true) [] [(100, 207)] .n rfl .f en_8 (.cons (.t rfl) (.cons (.t rfl) (.cons (.t rfl) (.cons (.t rfl) (.cons (.t rfl) .nil))))) (.cons (.sts rfl) (.cons (.b (.a (.own rfl rfl rfl (take_all (by simp only [len_map, put_len] <;> rfl)) (by simp only [len_map, put_len] <;> rfl)))) (.cons (.b (.a (.same rfl))) (.cons (.sts rfl) (.cons (.b (.a (.same rfl))) .nil))))) (c_spec_EscapeTimes (Ac code).1 (Ac code).2.1 (Ac code).2.2.1 (at' (Ac code).2.2.2.1 x1.1) (Ac code).2.2.2.2.2.1) trivial rfl rfl (fun _ => rfl) (fun _ => (hr_row (fun _ => rfl) hr_nil)) rfl <| Af .n (.t rfl) rfl <| C3 .n (.t rfl) rfl rfl rfl <| C3 .n (.t rfl) rfl rfl rfl <| Ag .n (.t rfl) rfl <| Ag .n (.t rfl) rfl <| Lex.nil) (by kernel_rfl) ?_
                refine Ae ?_
                refine Ae ?_
                refine Ad (Af .n (.t rfl) rfl <| AK .n (.t rfl) (.c rfl) rfl rfl <| Lex.nil) ?_
                refine As (.t rfl) rfl (fun h13 => ?_) (fun h13 => ?_)
                · try simp only [tst] at h13
                  refine Ae ?_
                  refine Ad (Ag .n (.c rfl) rfl <| Lex.nil) ?_
                  exact Ay [] (.cons (.t rfl rfl) .nil) rfl trivial rfl
                · try simp only [tst] at h13
                  refine Aw ?_
                  refine Ae ?_
                  refine Ae ?_
                  refine Ad (Af .n (.t rfl) rfl <| Af .n (.t rfl) rfl <| AX .n (.t rfl) (.t rfl) sl_27 (fun _ => by omega) rfl <| A3 .n (.t rfl) rfl (fun _ => by omega) rfl rfl rfl ic_2 rfl <| AK .n (.t rfl) (.c rfl) rfl rfl <| Lex.nil) ?_
                  refine As (.t rfl) rfl (fun h14 => ?_) (fun h14 => ?_)
                  · try simp only [tst] at h14
                    refine Ba rfl ?_
                    refine Ad (Af .n (.t rfl) rfl <| BQ .n (.t rfl) (.c rfl) (fun _ => by omega) rfl <| Ag .n (.t rfl) rfl <| Lex.nil) ?_
                    exact Cy (x1.1 + 1, x1.2.1, x1.2.2) ⟨by omega, by omega, by omega⟩ (by omega) (sub_of [] ⟨rfl, rfl, rfl, rfl, rfl, rfl, rfl, rfl, rfl, rfl, rfl, rfl, rfl, trivial⟩ ⟨rfl, rfl, rfl, rfl, rfl, rfl, rfl, trivial⟩ rfl)
                  · try simp only [tst] at h14
                    refine Aw ?_
                    refine Ae ?_
                    refine Ad (Af .n (.t rfl) rfl <| Af .n (.t rfl) rfl <| Af .n (.t rfl) rfl <| AX .n (.t rfl) (.t rfl) sl_27 (fun _ => by omega) rfl <| A3 .n (.t rfl) rfl (fun _ => by omega) rfl rfl rfl ic_2 rfl <| AX .n (.t rfl) (.t rfl) sl_29 (fun _ => by omega) rfl <| AE .n (.t rfl) fo_39_1 rfl <| A3 .n (.t rfl) rfl (fun _ => by omega) rfl rfl rfl ic_2 rfl <| Ag .n (.t rfl) rfl <| Lex.nil) ?_
                    refine Ae ?_
                    refine Ae ?_
                    refine Ad (Af .n (.t rfl) rfl <| AK .n (.t rfl) (.c rfl) rfl rfl <| Af .n (.t rfl) rfl <| Af (.f rfl rfl) (.t rfl) rfl <| Af (.f rfl rfl) (.t rfl) rfl <| BD (.f rfl rfl) (.u rfl id) rfl rfl ss_27 rfl <| AK (.f rfl rfl) (.u rfl id) (.u rfl id) rfl rfl <| q_or .n (.t rfl) (.u rfl id) rfl <| Af .n (.t rfl) rfl <| Af (.f rfl rfl) (.t rfl) rfl <| Af (.f rfl rfl) (.t rfl) rfl <| AX (.f rfl rfl) (.u rfl id) (.u rfl id) sl_27 (fun hg => by simp only [tst] at hg; omega) rfl <| A3 (.f rfl rfl) (.u rfl id) rfl (fun hg => by simp only [tst] at hg; omega) rfl rfl rfl ic_2 rfl <| AK (.f rfl rfl) (.u rfl id) (.c rfl) rfl rfl <| q_or .n (.t rfl) (.u rfl id) rfl <| Lex.nil) ?_
                    refine As (.t rfl) rfl (fun h15 => ?_) (fun h15 => ?_)
                    · try simp only [tst] at h15
                      refine Ae ?_
                      refine Ad (Ag .n (.c rfl) rfl <| Lex.nil) ?_
                      exact Ay [] (.cons (.t rfl rfl) .nil) rfl trivial rfl
                    · try simp only [tst] at h15
                      refine Aw ?_
                      refine Ae ?_
                      refine Bl fmo (Af .n (.t rfl) rfl <| Af .n (.t rfl) rfl <| Af .n (.t rfl) rfl <| AX .n (.t rfl) (.t rfl) sl_27 (fun _ => by omega) rfl <| A3 .n (.t rfl) rfl (fun _ => by omega) rfl rfl rfl ic_2 rfl <| AX .n (.t rfl) (.t rfl) sl_27 (fun _ => by (simp only [lens] at * <;> omega)) rfl <| A3 .n (.t rfl) rfl (fun _ => by (simp only [lens] at * <;> omega)) rfl rfl rfl ic_2 rfl <| Af .n (.t rfl) rfl <| Af .n (.t rfl) rfl <| AX .n (.t rfl) (.t rfl) sl_27 (fun _ => by omega) rfl <| A3 .n (.t rfl) rfl (fun _ => by omega) rfl rfl rfl ic_2 rfl <| AK .n (.t rfl) (.t rfl) rfl rfl <| AX .n (.t rfl) (.t rfl) sl_27 (fun _ => by (simp only [lens] at * <;> omega)) rfl <| B0 (IntKind.wrap .i64 ((at' x1.2.2 (at' (Ax (Ac code).1 (Ac code).2.1 (Ac code).2.2.1 (Ac code).2.2.2.1 (Ac code).2.2.2.2.1 (Ac code).2.2.2.2.2.1 (Ac code).2.2.2.2.2.2.1 (Ac code).2.2.2.2.2.2.2).1 x1.1)) + (at' (Ac code).2.2.2.2.1 x1.1))) .n rfl (.t rfl) (.t rfl) rfl ts_2 (by (simp only [lens] at * <;> omega)) rfl rfl <| Lex.nil) (by kernel_rfl) ?_
                      refine Ae ?_
                      refine Ad (Af .n (.t rfl) rfl <| Af .n (.t rfl) rfl <| Af .n (.t rfl) rfl <| AX .n (.t rfl) (.t rfl) sl_27 (fun _ => by omega) rfl <| A3 .n (.t rfl) rfl (fun _ => by omega) rfl rfl rfl ic_2 rfl <| AK .n (.t rfl) (.t rfl) rfl rfl <| Ag .n (.t rfl) rfl <| Lex.nil) ?_
                      refine Ae ?_
                      refine Bl fmo (Af .n (.t rfl) rfl <| Af .n (.t rfl) rfl <| Af .n (.t rfl) rfl <| AX .n (.t rfl) (.t rfl) sl_27 (fun _ => by omega) rfl <| A3 .n (.t rfl) rfl (fun _ => by omega) rfl rfl rfl ic_2 rfl <| AX .n (.t rfl) (.t rfl) sl_27 (fun _ => by (simp only [lens] at * <;> omega)) rfl <| A3 .n (.t rfl) rfl (fun _ => by (simp only [lens] at * <;> omega)) rfl rfl rfl ic_2 rfl <| Af .n (.t rfl) rfl <| Af .n (.t rfl) rfl <| Af .n (.t rfl) rfl <| AX .n (.t rfl) (.t rfl) sl_27 (fun _ => by omega) rfl <| A3 .n (.t rfl) rfl (fun _ => by omega) rfl rfl rfl ic_2 rfl <| AX .n (.t rfl) (.t rfl) sl_29 (fun _ => by omega) rfl <| AE .n (.t rfl) fo_39_2 rfl <| A3 .n (.t rfl) rfl (fun _ => by omega) rfl rfl rfl ic_2 rfl <| AK .n (.t rfl) (.t rfl) rfl rfl <| Lex.nil) (by kernel_rfl) ?_
                      refine As (.t rfl) rfl (fun h16 => ?_) (fun h16 => ?_)
                      · try simp only [tst] at h16
                        refine Ae ?_
                        refine Ad (Ag .n (.c rfl) rfl <| Lex.nil) ?_
                        exact Ay [] (.cons (.t rfl rfl) .nil) rfl trivial rfl
                      · try simp only [tst] at h16
                        refine Aw ?_
                        refine AS ?_
                        refine Ad (Af .n (.t rfl) rfl <| BQ .n (.t rfl) (.c rfl) (fun _ => by omega) rfl <| Ag .n (.t rfl) rfl <| Lex.nil) ?_
                        exact Cy (x1.1 + 1, IntKind.wrap .i64 (x1.2.1 + (at' (Ac code).2.2.2.2.1 x1.1)), put' x1.2.2 (at' (Ax (Ac code).1 (Ac code).2.1 (Ac code).2.2.1 (Ac code).2.2.2.1 (Ac code).2.2.2.2.1 (Ac code).2.2.2.2.2.1 (Ac code).2.2.2.2.2.2.1 (Ac code).2.2.2.2.2.2.2).1 x1.1) (IntKind.wrap .i64 ((at' x1.2.2 (at' (Ax (Ac code).1 (Ac code).2.1 (Ac code).2.2.1 (Ac code).2.2.2.1 (Ac code).2.2.2.2.1 (Ac code).2.2.2.2.2.1 (Ac code).2.2.2.2.2.2.1 (Ac code).2.2.2.2.2.2.2).1 x1.1)) + (at' (Ac code).2.2.2.2.1 x1.1)))) ⟨by omega, by omega, by (simp only [lens] at * <;> omega)⟩ (by omega) (sub_of [] ⟨rfl, rfl, rfl, rfl, rfl, rfl, rfl, rfl, rfl, rfl, rfl, os_len rfl (by first | (simp only [put_len]; done) | (first | omega | assumption | (simp only [lens] at * <;> omega) | ((exact hp1.2); done) | ((exact hp2.2); done) | ((exact wr64_le); done))), rfl, trivial⟩ ⟨rfl, rfl, rfl, rfl, rfl, rfl, rfl, trivial⟩ rfl)
            · try simp only [tst] at h11
              refine Ba rfl ?_
              exact AY hk9 (x1.1, x1.2.1, x1.2.2) ⟨by omega, by omega, by omega, by omega⟩ (sub_of [] ⟨rfl, rfl, rfl, rfl, rfl, rfl, trivial⟩ ⟨rfl, rfl, rfl, trivial⟩ rfl)
      · try simp only [tst] at h7
        try have hf0h7 := asg_list h7
        try have hf1h7 := asg_list h7.1
        try have hf2h7 := asg_list h7.2
        try have hf3h7 := asg_list h7.1.1
        try have hf4h7 := asg_list h7.1.2
        try have hf5h7 := asg_list h7.2.1
        try have hf6h7 := asg_list h7.2.2
        try have hf7h7 := asg_len h7
        try have hf8h7 := asg_len h7.1
        try have hf9h7 := asg_len h7.2
        try have hf10h7 := asg_len h7.1.1
        try have hf11h7 := asg_len h7.1.2
        try have hf12h7 := asg_len h7.2.1
        try have hf13h7 := asg_len h7.2.2
        refine Aw ?_
        exact AY hj6 () trivial (sub_of [] ⟨rfl, trivial⟩ trivial rfl)

end Go.Proofs.YtibbfdojcdkopaaGreat
