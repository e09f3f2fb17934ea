/-
  THE WALKS: each Go function computes its model. Conditions: as each theorem states them (hp1, hp2 ..).
-/
import Derived.Test.YtibbfdojcdkopaaGreatPlacesWalks5
set_option linter.unusedVariables false
set_option linter.unusedSimpArgs false
set_option linter.unusedSectionVars false
set_option linter.unnecessarySimpa false
namespace Go.Proofs.YtibbfdojcdkopaaGreat
open Go Go.RowKit Go.Proofs Go.Proofs.YtibbfdojcdkopaaGreat.E
/-! ### impl_NearestRefuge -/
theorem c_impl_NearestRefuge (m_ : AB) (arrivals : List Int) (blocked : Int) (c_ : Bu) (start : Int) (list : List AS) : Con Tryz.prog 17 [.st [.int .i64 m_.Junctions, .sl 7 (m_.Airways.map Ar.v)], .sl 1 (arrivals.map (V.int .i64)), .int .i64 blocked, .st [.str c_.Id, .int .i64 c_.Junction, .int .i64 c_.Speed], .int .i64 start, .sl 4 (list.map AS.v)] [] (.tup [.int .i64 (AQ m_ arrivals blocked c_ start list).1, .int .i64 (AQ m_ arrivals blocked c_ start list).2.1, .int .i64 (AQ m_ arrivals blocked c_ start list).2.2]) ([]) := by
  refine con_intro (out := fun r : Int × Int × Int => ((.tup [.int .i64 r.1, .int .i64 r.2.1, .int .i64 r.2.2] : V), ([] : List (Nat × Option O)))) (r := (AQ m_ arrivals blocked c_ start list)) Tryz.func17 rfl Tryz.ntmps17 rfl ?_
  refine Ch (t := 0) 1 rfl rfl fun hl => ?_
  have l1 := hl; clear hl; simp only [List.length_map] at l1
  refine Br (t := 1) rfl fun hl => ?_
  have l2 := hl; clear hl; simp only [List.length_map] at l2
  refine Br (t := 5) rfl fun hl => ?_
  have l3 := hl; clear hl; simp only [List.length_map] at l3
  refine Af ?_
  refine Ad (Du (l := 200) .n rfl (.t rfl) rfl rfl rfl rfl <| Du (l := 201) .n rfl (.t rfl) rfl rfl rfl rfl <| Ah .n (.c rfl) rfl <| Ah .n (.c rfl) rfl <| Ah .n (.c rfl) rfl <| Lex.nil) ?_
  refine Af ?_
  refine Ad (Ba .n (.t rfl) rfl (.inr rfl) ag_26 (fun _ => rfl) rfl rfl <| Ag .n (.t rfl) rfl <| Ag .n (.t rfl) rfl <| Ba .n (.t rfl) rfl (.inr rfl) ag_37 (fun _ => rfl) rfl rfl <| AV ([c_] : List Bu) (f := Bu.v) (l := 202) .n rfl rfl (.cons (.t rfl) .nil) rfl si_28 zv_37 rfl rfl rfl <| Ag .n (.t rfl) rfl <| AW (full := false) [(3, 202)] [] .n rfl .f en_26 (.cons (.t rfl) (.cons (.t rfl) (.cons (.t rfl) (.cons (.t rfl) (.cons (.t rfl) (.cons (.c rfl) .nil)))))) (.cons (.sts rfl) (.cons (.b (.a (.same rfl))) (.cons (.b (.a (.same rfl))) (.cons (.b (.muts rfl)) (.cons (.b (.a (.same rfl))) (.cons (.b (.a .nls)) .nil)))))) (c_impl_escapeOf m_ arrivals blocked ([c_] : List Bu) start []) ⟨rfl, trivial⟩ rfl rfl (fun h => Bool.noConfusion h) (fun h => Bool.noConfusion h) rfl <| Ag .n (.t rfl) rfl <| C9 .n (.t rfl) rfl rfl rfl <| C9 .n (.t rfl) rfl rfl rfl <| BE (l := 203) .n rfl zv_67 rfl rfl <| AG [.int .i64 (AO m_ arrivals blocked ([c_] : List Bu) start []).1.mine.Junctions, .sl 7 ((AO m_ arrivals blocked ([c_] : List Bu) start []).1.mine.Airways.map Ar.v), .sl 1 ((AO m_ arrivals blocked ([c_] : List Bu) start []).1.arrivals.map (V.int .i64)), .int .i64 (AO m_ arrivals blocked ([c_] : List Bu) start []).1.blocked] .n rfl (.t rfl) (.t rfl) rfl ts_67 rfl rfl <| Ah .n (.t rfl) rfl <| Lex.nil) ?_
  refine Af ?_
  refine Aw ?_
  refine Af ?_
  refine Ad (Ba .n (.t rfl) rfl (.inr rfl) ag_26 (fun _ => rfl) rfl rfl <| Ag .n (.t rfl) rfl <| AJ (full := false) .n .f en_27 (.cons (.t rfl) (.cons (.t rfl) .nil)) (.cons (.sts rfl) (.cons (.b (.a (.same rfl))) .nil)) (fun hg => c_impl_ValidRefuges m_ list) rfl (fun h => Bool.noConfusion h) rfl <| Cg .n (.t rfl) rfl <| Ah .n (.t rfl) rfl <| Lex.nil) ?_
  refine Aq (.t rfl) rfl (fun h4 => ?_) (fun h4 => ?_)
  · try simp only [tst] at h4
    try have hf0h4 := ValidRefuges_imp h4
    try have hf1h4 := ValidRefuges_imp h4.1
    try have hf2h4 := ValidRefuges_imp h4.2
    try have hf3h4 := ValidRefuges_imp h4.1.1
    try have hf4h4 := ValidRefuges_imp h4.1.2
    try have hf5h4 := ValidRefuges_imp h4.2.1
    try have hf6h4 := ValidRefuges_imp h4.2.2
    refine Af ?_
    refine Ad (Ah .n (.c rfl) rfl <| Ah .n (.c rfl) rfl <| Ah .n (.c rfl) rfl <| Lex.nil) ?_
    exact Au [] (.cons (.t rfl rfl) (.cons (.t rfl rfl) (.cons (.t rfl rfl) .nil))) rfl trivial rfl
  · try simp only [tst] at h4
    try have hf0h4 := ValidRefuges_imp h4
    try have hf1h4 := ValidRefuges_imp h4.1
    try have hf2h4 := ValidRefuges_imp h4.2
    try have hf3h4 := ValidRefuges_imp h4.1.1
    try have hf4h4 := ValidRefuges_imp h4.1.2
    try have hf5h4 := ValidRefuges_imp h4.2.1
    try have hf6h4 := ValidRefuges_imp h4.2.2
    refine Af ?_
    refine Ad (Ag .n (.t rfl) rfl <| AF .n (.t rfl) (.c rfl) rfl rfl <| Ah .n (.t rfl) rfl <| Lex.nil) ?_
    refine Aq (.t rfl) rfl (fun h5 => ?_) (fun h5 => ?_)
    · try simp only [tst] at h5
      try have hf0h5 := escapeOf_impS h5
      try have hf1h5 := escapeOf_impS h5.1
      try have hf2h5 := escapeOf_impS h5.2
      try have hf3h5 := escapeOf_impS h5.1.1
      try have hf4h5 := escapeOf_impS h5.1.2
      try have hf5h5 := escapeOf_impS h5.2.1
      try have hf6h5 := escapeOf_impS h5.2.2
      refine Af ?_
      refine Ad (Ag .n (.t rfl) rfl <| Ah .n (.c rfl) rfl <| Ah .n (.c rfl) rfl <| Ah .n (.t rfl) rfl <| Lex.nil) ?_
      exact Au [] (.cons (.t rfl rfl) (.cons (.t rfl rfl) (.cons (.t rfl rfl) .nil))) rfl trivial rfl
    · try simp only [tst] at h5
      try have hf0h5 := escapeOf_impS h5
      try have hf1h5 := escapeOf_impS h5.1
      try have hf2h5 := escapeOf_impS h5.2
      try have hf3h5 := escapeOf_impS h5.1.1
      try have hf4h5 := escapeOf_impS h5.1.2
      try have hf5h5 := escapeOf_impS h5.2.1
      try have hf6h5 := escapeOf_impS h5.2.2
      refine As ?_
      refine AK ?_
      refine Af ?_
      refine Ad (Ba .n (.t rfl) rfl (.inr rfl) ag_67 (fun _ => rfl) rfl rfl <| Ba .n (.t rfl) rfl (.inr rfl) ag_37 (fun _ => rfl) rfl rfl <| Ag .n (.t rfl) rfl <| AW (full := false) [] [(100, 204)] .n rfl .f en_30 (.cons (.t rfl) (.cons (.t rfl) (.cons (.t rfl) .nil))) (.cons (.sts rfl) (.cons (.sts rfl) (.cons (.b (.a (.same rfl))) .nil))) (c_impl_escape_times (AO m_ arrivals blocked ([c_] : List Bu) start []).1 c_ start (by (exact escapeOf_impM (by assumption))) (by (exact escapeOf_impL (by assumption))) (by (exact escapeOf_impC (by assumption))) (by omega)) trivial rfl rfl (fun h => Bool.noConfusion h) (fun h => Bool.noConfusion h) rfl <| Ah .n (.t rfl) rfl <| Ah .n (.c rfl) rfl <| Lex.nil) ?_
      refine Af ?_
      refine Af ?_
      refine Ad (Ag .n (.t rfl) rfl <| BS .n (.t rfl) rfl len_map ss_29 rfl <| Ag .n (.c rfl) rfl <| Lex.nil) ?_
      refine Aw ?_
      refine Bp (Cs m_ arrivals blocked c_ start list) _ _ _ rfl (fun (x1 : Int × Int) => 0 ≤ x1.2 ∧ x1.2 ≤ (list.length : Int) ∧ (x1.1 = -1 ∨ (0 ≤ x1.1 ∧ x1.1 < list.length))) (fun x1 => 0 ≤ x1.2 ∧ x1.2 ≤ (list.length : Int) ∧ (x1.1 = -1 ∨ (0 ≤ x1.1 ∧ x1.1 < list.length)) ∧ (list.length : Int) ≤ x1.2) (fun x1 => ((list.length : Int) - x1.2 : Int).toNat) (fun x1 => ⟨[(5, some (true, .sl 4 (list.map AS.v))), (17, some (true, .os 204 (Bj (AO m_ arrivals blocked ([c_] : List Bu) start []).1 c_ start).length)), (18, some (true, .int .i64 x1.1)), (45, some (true, .sl 4 (list.map AS.v))), (46, some (true, .int .i64 (list.length : Int))), (47, some (true, .int .i64 x1.2))], [(204, some (.row 2 1 ((Bj (AO m_ arrivals blocked ([c_] : List Bu) start []).1 c_ start).map (V.int .i64))))]⟩) (fun x1 => ⟨[(5, some (true, .sl 4 (list.map AS.v))), (17, some (true, .os 204 (Bj (AO m_ arrivals blocked ([c_] : List Bu) start []).1 c_ start).length)), (18, some (true, .int .i64 x1.1))], [(204, some (.row 2 1 ((Bj (AO m_ arrivals blocked ([c_] : List Bu) start []).1 c_ start).map (V.int .i64))))]⟩) ⟨by omega, by omega, by omega⟩ (by omega) (sub_of [] ⟨rfl, rfl, rfl, rfl, rfl, rfl, trivial⟩ ⟨rfl, trivial⟩ rfl) ?_ ?_
      · intro x1 i10
        obtain ⟨e12, e13, e14, e15⟩ := i10
        try dsimp only at *
        refine Af ?_
        refine Af ?_
        refine Ad (Ag .n (.t rfl) rfl <| AF .n (.t rfl) (.c rfl) rfl rfl <| Lex.nil) ?_
        refine Aq (.t rfl) rfl (fun h11 => ?_) (fun h11 => ?_)
        · try simp only [tst] at h11
          refine Af ?_
          refine Ad (Ah .n (.c rfl) rfl <| Ah .n (.c rfl) rfl <| Ah .n (.c rfl) rfl <| Lex.nil) ?_
          exact Au [] (.cons (.t rfl rfl) (.cons (.t rfl rfl) (.cons (.t rfl rfl) .nil))) rfl trivial rfl
        · try simp only [tst] at h11
          refine As ?_
          refine Af ?_
          refine Bk fmo (Ag .n (.t rfl) rfl <| Ag .n (.t rfl) rfl <| Ag .n (.t rfl) rfl <| Ag .n (.t rfl) rfl <| A8 .n (.t rfl) (.t rfl) sl_29 (fun _ => by omega) rfl <| Az .n (.t rfl) fo_39_1 rfl <| Ap .n (.t rfl) rfl ic_2 rfl <| AZ .n (.t rfl) (.t rfl) sl_27 (fun _ => by ((have hR : RefugeIn m_ list := (by assumption); have hT := escTimes_len (m := m_) (arr := arrivals) (blocked := blocked) (c := c_) (start := start) (by assumption); have h1 := at_all (i := x1.1) hR.2 (by omega); omega))) rfl <| A2 .n (.t rfl) rfl (fun _ => by ((have hR : RefugeIn m_ list := (by assumption); have hT := escTimes_len (m := m_) (arr := arrivals) (blocked := blocked) (c := c_) (start := start) (by assumption); have h1 := at_all (i := x1.1) hR.2 (by omega); omega))) rfl rfl rfl ic_2 rfl <| Ah .n (.t rfl) rfl <| Ah .n (.t rfl) rfl <| Ah .n (.c rfl) rfl <| Lex.nil) (by kernel_rfl) ?_
          exact Au [] (.cons (.t rfl rfl) (.cons (.t rfl rfl) (.cons (.t rfl rfl) .nil))) rfl trivial rfl
      · intro rec1 k1 hk6 x1 i7
        obtain ⟨e16, e17, e18⟩ := i7
        try dsimp only at *
        refine Af ?_
        refine Ad (AF .n (.t rfl) (.t rfl) rfl rfl <| Lex.nil) ?_
        refine Af ?_
        refine Aq (.t rfl) rfl (fun h8 => ?_) (fun h8 => ?_)
        · try simp only [tst] at h8
          refine As ?_
          refine Af ?_
          refine Aw ?_
          refine Af ?_
          refine Ad (Ag .n (.t rfl) rfl <| A8 .n (.t rfl) (.t rfl) sl_29 (fun _ => by omega) rfl <| q_ldN_ro .n (.t rfl) ag_39 rfl rfl rfl <| BE (l := 205) .n rfl zv_39 rfl rfl <| Ah .n (.t rfl) rfl <| AG [.str (at' list x1.2).Id, .int .i64 (at' list x1.2).Junction, .int .i64 (at' list x1.2).Places, .int .i64 (at' list x1.2).Air] .n rfl (.t rfl) (.t rfl) rfl ts_39 rfl rfl <| Lex.nil) ?_
          refine Af ?_
          refine Ad (Ag .n (.t rfl) rfl <| AE .n (.t rfl) fo_39_1 rfl <| AP .n (.t rfl) rfl (.inr rfl) (fun _ => rfl) rfl ic_2 rfl <| AZ .n (.t rfl) (.t rfl) sl_27 (fun _ => by ((have hR : RefugeIn m_ list := (by assumption); have hT := escTimes_len (m := m_) (arr := arrivals) (blocked := blocked) (c := c_) (start := start) (by assumption); have h1 := at_all (i := x1.2) hR.2 (by omega); omega))) rfl <| A2 .n (.t rfl) rfl (fun _ => by ((have hR : RefugeIn m_ list := (by assumption); have hT := escTimes_len (m := m_) (arr := arrivals) (blocked := blocked) (c := c_) (start := start) (by assumption); have h1 := at_all (i := x1.2) hR.2 (by omega); omega))) rfl rfl rfl ic_2 rfl <| Ah .n (.t rfl) rfl <| Lex.nil) ?_
          refine Af ?_
          refine Ad (Ag .n (.t rfl) rfl <| AF .n (.t rfl) (.c rfl) rfl rfl <| Ag .n (.t rfl) rfl <| Ag (.t rfl rfl) (.t rfl) rfl <| AF (.t rfl rfl) (.u rfl id) (.c rfl) rfl rfl <| Ag (.t rfl rfl) (.u rfl id) rfl <| Ag (.f rfl rfl) (.t rfl) rfl <| Ag (.f rfl rfl) (.t rfl) rfl <| Ag (.f rfl rfl) (.t rfl) rfl <| Ag (.f rfl rfl) (.t rfl) rfl <| A8 (.f rfl rfl) (.u rfl id) (.u rfl id) sl_29 (fun hg => by simp only [tst] at hg; omega) rfl <| Az (.f rfl rfl) (.u rfl id) fo_39_1 rfl <| Ap (.f rfl rfl) (.u rfl id) rfl ic_2 rfl <| AZ (.f rfl rfl) (.u rfl id) (.u rfl id) sl_27 (fun hg => by simp only [tst] at hg; ((have hR : RefugeIn m_ list := (by assumption); have hT := escTimes_len (m := m_) (arr := arrivals) (blocked := blocked) (c := c_) (start := start) (by assumption); have h1 := at_all (i := x1.1) hR.2 (by omega); omega))) rfl <| A2 (.f rfl rfl) (.u rfl id) rfl (fun hg => by simp only [tst] at hg; ((have hR : RefugeIn m_ list := (by assumption); have hT := escTimes_len (m := m_) (arr := arrivals) (blocked := blocked) (c := c_) (start := start) (by assumption); have h1 := at_all (i := x1.1) hR.2 (by omega); omega))) rfl rfl rfl ic_2 rfl <| AF (.f rfl rfl) (.u rfl id) (.u rfl id) rfl rfl <| q_or (.t rfl rfl) (.u rfl id) (.u rfl id) rfl <| B4 .n (.t rfl) (.u rfl id) rfl <| Lex.nil) ?_
          refine Aq (.t rfl) rfl (fun h9 => ?_) (fun h9 => ?_)
          · try simp only [tst] at h9
            refine Ad (Ag .n (.t rfl) rfl <| Ah .n (.t rfl) rfl <| Lex.nil) ?_
            refine AK ?_
            refine Ad (BM .n (.t rfl) (.c rfl) (fun _ => by omega) rfl <| Ag .n (.t rfl) rfl <| Lex.nil) ?_
            exact A5 (x1.2, x1.2 + 1) ⟨by omega, by omega, by omega⟩ (by omega) (sub_of [] ⟨rfl, rfl, rfl, rfl, rfl, rfl, trivial⟩ ⟨rfl, trivial⟩ rfl)
          · try simp only [tst] at h9
            refine As ?_
            refine AK ?_
            refine Ad (BM .n (.t rfl) (.c rfl) (fun _ => by omega) rfl <| Ag .n (.t rfl) rfl <| Lex.nil) ?_
            exact A5 (x1.1, x1.2 + 1) ⟨by omega, by omega, by omega⟩ (by omega) (sub_of [] ⟨rfl, rfl, rfl, rfl, rfl, rfl, trivial⟩ ⟨rfl, trivial⟩ rfl)
        · try simp only [tst] at h8
          refine Bb rfl ?_
          exact AY hk6 (x1.1, x1.2) ⟨by omega, by omega, by omega, by omega⟩ (sub_of [] ⟨rfl, rfl, rfl, trivial⟩ ⟨rfl, trivial⟩ rfl)

/-! ### spec_l20One -/
theorem c_spec_l20One (x_ : AS) : Con Tryz.prog 89 [.rp [.str x_.Id, .int .i64 x_.Junction, .int .i64 x_.Places, .int .i64 x_.Air]] [] (.bool (Cf x_)) ([]) := by
  refine con_intro (out := fun r : Bool => ((.bool r : V), ([] : List (Nat × Option O)))) (r := (Cf x_)) Tryz.func89 rfl Tryz.ntmps89 rfl ?_
  refine Af ?_
  refine Ad (Ah .n (.c rfl) rfl <| Lex.nil) ?_
  refine Af ?_
  refine Ad (Ag .n (.t rfl) rfl <| Av .n (.t rfl) rfl <| Az .n (.t rfl) fo_39_0 rfl <| Ap .n (.t rfl) rfl ic_9 rfl <| AJ (full := false) .n .f en_100 (.cons (.t rfl) .nil) (.cons (.b (.a (.same rfl))) .nil) (fun hg => c_spec_l01Name x_.Id) rfl (fun h => Bool.noConfusion h) rfl <| Ag .n (.t rfl) rfl <| Ag (.t rfl rfl) (.t rfl) rfl <| Av (.t rfl rfl) (.u rfl id) rfl <| Az (.t rfl rfl) (.u rfl id) fo_39_1 rfl <| Ap (.t rfl rfl) (.u rfl id) rfl ic_2 rfl <| AJ (full := false) (.t rfl rfl) .f en_72 (.cons (.u rfl id) (.cons (.c rfl) (.cons (.c rfl) .nil))) (.cons (.b (.a (.same rfl))) (.cons (.b (.a (.same rfl))) (.cons (.b (.a (.same rfl))) .nil))) (fun hg => Bt x_.Junction 0 15) rfl (fun h => Bool.noConfusion h) rfl <| B4 .n (.t rfl) (.u rfl id) rfl <| Ag .n (.t rfl) rfl <| Ag (.t rfl rfl) (.t rfl) rfl <| Av (.t rfl rfl) (.u rfl id) rfl <| Az (.t rfl rfl) (.u rfl id) fo_39_2 rfl <| Ap (.t rfl rfl) (.u rfl id) rfl ic_2 rfl <| AJ (full := false) (.t rfl rfl) .f en_72 (.cons (.u rfl id) (.cons (.c rfl) (.cons (.c rfl) .nil))) (.cons (.b (.a (.same rfl))) (.cons (.b (.a (.same rfl))) (.cons (.b (.a (.same rfl))) .nil))) (fun hg => Bt x_.Places 1 200) rfl (fun h => Bool.noConfusion h) rfl <| B4 .n (.t rfl) (.u rfl id) rfl <| Ag .n (.t rfl) rfl <| Ag (.t rfl rfl) (.t rfl) rfl <| Av (.t rfl rfl) (.u rfl id) rfl <| Az (.t rfl rfl) (.u rfl id) fo_39_3 rfl <| Ap (.t rfl rfl) (.u rfl id) rfl ic_2 rfl <| AJ (full := false) (.t rfl rfl) .f en_72 (.cons (.u rfl id) (.cons (.c rfl) (.cons (.c rfl) .nil))) (.cons (.b (.a (.same rfl))) (.cons (.b (.a (.same rfl))) (.cons (.b (.a (.same rfl))) .nil))) (fun hg => Bt x_.Air 0 10000000) rfl (fun h => Bool.noConfusion h) rfl <| B4 .n (.t rfl) (.u rfl id) rfl <| Ah .n (.t rfl) rfl <| Lex.nil) ?_
  exact Au [] (.cons (.t rfl rfl) .nil) rfl trivial rfl

/-! ### spec_l20Ok -/
theorem c_spec_l20Ok (m_ : AB) (list : List AS) : Con Tryz.prog 54 [.rp [.int .i64 m_.Junctions, .sl 7 (m_.Airways.map Ar.v)], .sl 4 (list.map AS.v)] [] (.bool (CS m_ list)) ([]) := by
  refine con_intro (out := fun r : Bool => ((.bool r : V), ([] : List (Nat × Option O)))) (r := (CS m_ list)) Tryz.func54 rfl Tryz.ntmps54 rfl ?_
  refine BH (t := 0) 1 rfl rfl fun hl => ?_
  have l1 := hl; clear hl; simp only [List.length_map] at l1
  refine Br (t := 1) rfl fun hl => ?_
  have l2 := hl; clear hl; simp only [List.length_map] at l2
  refine Af ?_
  refine Ad (Ah .n (.c rfl) rfl <| Lex.nil) ?_
  refine Af ?_
  refine Af ?_
  refine Ad (Ag .n (.t rfl) rfl <| AJ (full := false) .n .f en_50 (.cons (.t rfl) .nil) (.cons (.b (.a (.same rfl))) .nil) (fun hg => Dt m_) rfl (fun h => Bool.noConfusion h) rfl <| Cg .n (.t rfl) rfl <| Ag .n (.t rfl) rfl <| Ag (.f rfl rfl) (.t rfl) rfl <| BS (.f rfl rfl) (.u rfl id) rfl len_map ss_29 rfl <| AF (.f rfl rfl) (.u rfl id) (.c rfl) rfl rfl <| q_or .n (.t rfl) (.u rfl id) rfl <| Lex.nil) ?_
  refine Aq (.t rfl) rfl (fun h3 => ?_) (fun h3 => ?_)
  · try simp only [tst] at h3
    try have hf0h3 := l04Ok_imp h3
    try have hf1h3 := l04Ok_imp h3.1
    try have hf2h3 := l04Ok_imp h3.2
    try have hf3h3 := l04Ok_imp h3.1.1
    try have hf4h3 := l04Ok_imp h3.1.2
    try have hf5h3 := l04Ok_imp h3.2.1
    try have hf6h3 := l04Ok_imp h3.2.2
    refine Af ?_
    refine Ad (Ah .n (.c rfl) rfl <| Lex.nil) ?_
    exact Au [] (.cons (.t rfl rfl) .nil) rfl trivial rfl
  · try simp only [tst] at h3
    try have hf0h3 := l04Ok_imp h3
    try have hf1h3 := l04Ok_imp h3.1
    try have hf2h3 := l04Ok_imp h3.2
    try have hf3h3 := l04Ok_imp h3.1.1
    try have hf4h3 := l04Ok_imp h3.1.2
    try have hf5h3 := l04Ok_imp h3.2.1
    try have hf6h3 := l04Ok_imp h3.2.2
    refine As ?_
    refine Af ?_
    refine Af ?_
    refine Ad (Ah .n (.c rfl) rfl <| Lex.nil) ?_
    refine Aw ?_
    refine Bp (DC m_ list) _ _ _ rfl (fun (x1 : Int) => 0 ≤ x1 ∧ x1 ≤ (list.length : Int)) (fun x1 => 0 ≤ x1 ∧ x1 ≤ (list.length : Int) ∧ (list.length : Int) ≤ x1) (fun x1 => ((list.length : Int) - x1 : Int).toNat) (fun x1 => ⟨[(0, some (true, .rp [.int .i64 m_.Junctions, .sl 7 (m_.Airways.map Ar.v)])), (1, some (true, .sl 4 (list.map AS.v))), (5, some (true, .int .i64 x1))], []⟩) (fun x1 => ⟨[], []⟩) ⟨by omega, by omega⟩ (by omega) (sub_of [] ⟨rfl, rfl, rfl, trivial⟩ trivial rfl) ?_ ?_
    · intro x1 i8
      obtain ⟨e9, e10, e11⟩ := i8
      try dsimp only at *
      refine Af ?_
      refine Ad (Ah .n (.c rfl) rfl <| Lex.nil) ?_
      exact Au [] (.cons (.t rfl rfl) .nil) rfl trivial rfl
    · intro rec1 k1 hk4 x1 i5
      obtain ⟨e12, e13⟩ := i5
      try dsimp only at *
      refine Af ?_
      refine Af ?_
      refine Ad (Ag .n (.t rfl) rfl <| Ag .n (.t rfl) rfl <| BS .n (.t rfl) rfl len_map ss_29 rfl <| AF .n (.t rfl) (.t rfl) rfl rfl <| Lex.nil) ?_
      refine Aq (.t rfl) rfl (fun h6 => ?_) (fun h6 => ?_)
      · try simp only [tst] at h6
        refine As ?_
        refine Af ?_
        refine Aw ?_
        refine Af ?_
        refine Bk fmo (Ag .n (.t rfl) rfl <| Ag .n (.t rfl) rfl <| A8 .n (.t rfl) (.t rfl) sl_29 (fun _ => by omega) rfl <| AJ (full := false) .n .f en_89 (.cons (.t rfl) .nil) (.cons (.b (.a (.same rfl))) .nil) (fun hg => c_spec_l20One (at' list x1)) rfl (fun h => Bool.noConfusion h) rfl <| Cg .n (.t rfl) rfl <| Ag .n (.t rfl) rfl <| Ag (.f rfl rfl) (.t rfl) rfl <| Ag (.f rfl rfl) (.t rfl) rfl <| A8 (.f rfl rfl) (.u rfl id) (.u rfl id) sl_29 (fun hg => by simp only [tst] at hg; omega) rfl <| Az (.f rfl rfl) (.u rfl id) fo_39_1 rfl <| Ap (.f rfl rfl) (.u rfl id) rfl ic_2 rfl <| Ag (.f rfl rfl) (.t rfl) rfl <| Av (.f rfl rfl) (.u rfl id) rfl <| Az (.f rfl rfl) (.u rfl id) fo_26_0 rfl <| Ap (.f rfl rfl) (.u rfl id) rfl ic_2 rfl <| AF (.f rfl rfl) (.u rfl id) (.u rfl id) rfl rfl <| q_or .n (.t rfl) (.u rfl id) rfl <| Ag .n (.t rfl) rfl <| Ag (.f rfl rfl) (.t rfl) rfl <| AF (.f rfl rfl) (.u rfl id) (.c rfl) rfl rfl <| Ag (.f rfl rfl) (.u rfl id) rfl <| Ag (.t rfl rfl) (.t rfl) rfl <| Ag (.t rfl rfl) (.t rfl) rfl <| q_sub (.t rfl rfl) (.u rfl id) (.c rfl) (fun hg => by simp only [tst] at hg; omega) rfl <| A8 (.t rfl rfl) (.u rfl id) (.u rfl id) sl_29 (fun hg => by simp only [tst] at hg; omega) rfl <| Az (.t rfl rfl) (.u rfl id) fo_39_0 rfl <| Ap (.t rfl rfl) (.u rfl id) rfl ic_9 rfl <| Ag (.t rfl rfl) (.t rfl) rfl <| Ag (.t rfl rfl) (.t rfl) rfl <| A8 (.t rfl rfl) (.u rfl id) (.u rfl id) sl_29 (fun hg => by simp only [tst] at hg; omega) rfl <| Az (.t rfl rfl) (.u rfl id) fo_39_0 rfl <| Ap (.t rfl rfl) (.u rfl id) rfl ic_9 rfl <| q_strcmp (.t rfl rfl) (.u rfl id) (.u rfl id) rfl rfl <| B4 (.f rfl rfl) (.u rfl id) (.u rfl id) rfl <| q_or .n (.t rfl) (.u rfl id) rfl <| Lex.nil) (by kernel_rfl) ?_
        refine Aq (.t rfl) rfl (fun h7 => ?_) (fun h7 => ?_)
        · try simp only [tst] at h7
          refine Af ?_
          refine Ad (Ah .n (.c rfl) rfl <| Lex.nil) ?_
          exact Au [] (.cons (.t rfl rfl) .nil) rfl trivial rfl
        · try simp only [tst] at h7
          refine As ?_
          refine AK ?_
          refine Ad (Ag .n (.t rfl) rfl <| BM .n (.t rfl) (.c rfl) (fun _ => by omega) rfl <| Ah .n (.t rfl) rfl <| Lex.nil) ?_
          exact A5 (x1 + 1) ⟨by omega, by omega⟩ (by omega) (sub_of [] ⟨rfl, rfl, rfl, trivial⟩ trivial rfl)
      · try simp only [tst] at h6
        refine Bb rfl ?_
        exact AY hk4 x1 ⟨by omega, by omega, by omega⟩ (sub_of [] trivial trivial rfl)

/-! ### spec_ValidRefuges -/
theorem c_spec_ValidRefuges (m_ : AB) (list : List AS) : Con Tryz.prog 18 [.st [.int .i64 m_.Junctions, .sl 7 (m_.Airways.map Ar.v)], .sl 4 (list.map AS.v)] [] (.bool (BW m_ list)) ([]) := by
  refine con_intro (out := fun r : Bool => ((.bool r : V), ([] : List (Nat × Option O)))) (r := (BW m_ list)) Tryz.func18 rfl Tryz.ntmps18 rfl ?_
  refine Ch (t := 0) 1 rfl rfl fun hl => ?_
  have l1 := hl; clear hl; simp only [List.length_map] at l1
  refine Br (t := 1) rfl fun hl => ?_
  have l2 := hl; clear hl; simp only [List.length_map] at l2
  refine Af ?_
  refine Ad (Du (l := 200) .n rfl (.t rfl) rfl rfl rfl rfl <| Ah .n (.c rfl) rfl <| Lex.nil) ?_
  refine Af ?_
  refine Ad (Ag .n (.t rfl) rfl <| AJ (full := true) .n .f en_54 (.cons (.t rfl) (.cons (.t rfl) .nil)) (.cons (.b (.ptr rfl rfl (.inr rfl) rfl rfl (.cons (.same rfl) (.cons (.same rfl) .nil)))) (.cons (.b (.a (.same rfl))) .nil)) (fun hg => c_spec_l20Ok m_ list) rfl (fun _ => rfl) rfl <| Ah .n (.t rfl) rfl <| Lex.nil) ?_
  exact Au [] (.cons (.t rfl rfl) .nil) rfl trivial rfl

/-! ### laws_FnPlaces -/
set_option maxRecDepth 100000 in
set_option maxHeartbeats 4000000 in
theorem c_laws_FnPlaces (code : List Int) (more : List Int) (hp1 : code.length ≤ 9223372036854775807 ∧ ∀ y ∈ code, 0 ≤ y ∧ y ≤ 255) (hp2 : more.length ≤ 9223372036854775807 ∧ ∀ y ∈ more, 0 ≤ y ∧ y ≤ 255) : Con Tryz.prog 4 [.sl 1 (code.map (V.int .u8)), .sl 1 (more.map (V.int .u8))] [] (.bool (DD code more)) ([]) := by
  refine ConG.con ?_ rfl hr_nil
  refine con_introG (out := fun r : Bool => ((.bool r : V), ([] : List (Nat × Option O)))) (r := (DD code more)) Tryz.func4 rfl Tryz.ntmps4 rfl ?_
  refine Br (t := 0) rfl fun hl => ?_
  have l1 := hl; clear hl; simp only [List.length_map] at l1
  refine Br (t := 1) rfl fun hl => ?_
  have l2 := hl; clear hl; simp only [List.length_map] at l2
  refine Af ?_
  refine Ad (Ah .n (.c rfl) rfl <| Lex.nil) ?_
  refine Af ?_
  refine Af ?_
  refine Ad (Ag .n (.t rfl) rfl <| AJ (full := false) .n .f en_5 (.cons (.t rfl) .nil) (.cons (.b (.a (.same rfl))) .nil) (fun hg => c_laws_b10Long code) rfl (fun h => Bool.noConfusion h) rfl <| Ag .n (.t rfl) rfl <| Ag (.f rfl rfl) (.t rfl) rfl <| AJ (full := false) (.f rfl rfl) .f en_5 (.cons (.u rfl id) .nil) (.cons (.b (.a (.same rfl))) .nil) (fun hg => c_laws_b10Long more) rfl (fun h => Bool.noConfusion h) rfl <| q_or .n (.t rfl) (.u rfl id) rfl <| Lex.nil) ?_
  refine Aq (.t rfl) rfl (fun h3 => ?_) (fun h3 => ?_)
  · try simp only [tst] at h3
    refine Af ?_
    refine Ad (Ah .n (.c rfl) rfl <| Lex.nil) ?_
    exact Au [] (.cons (.t rfl rfl) .nil) rfl trivial rfl
  · try simp only [tst] at h3
    refine As ?_
    refine Af ?_
    refine Ad (Ag .n (.t rfl) rfl <| AW (full := false) [] [(100, 200)] .n rfl .f en_12 (.cons (.t rfl) .nil) (.cons (.b (.a (.same rfl))) .nil) (c_spec_DrawFewestRefuges code (by (exact hp1.2))) trivial rfl rfl (fun h => Bool.noConfusion h) (fun h => Bool.noConfusion h) rfl <| Ag .n (.t rfl) rfl <| C9 .n (.t rfl) rfl rfl rfl <| C9 .n (.t rfl) rfl rfl rfl <| C9 .n (.t rfl) rfl rfl rfl <| C9 .n (.t rfl) rfl rfl rfl <| BE (l := 201) .n rfl zv_26 rfl rfl <| AG [.int .i64 (Ac code).1.Junctions, .os 200 (Ac code).1.Airways.length] .n rfl (.t rfl) (.t rfl) rfl ts_26 rfl rfl <| Ah .n (.t rfl) rfl <| Ah .n (.t rfl) rfl <| Ah .n (.t rfl) rfl <| Lex.nil) ?_
    refine Af ?_
    refine Ad (Ba .n (.t rfl) rfl (.inr rfl) ag_26 (fun _ => rfl) rfl rfl <| Ag .n (.t rfl) rfl <| Ag .n (.t rfl) rfl <| Ag .n (.t rfl) rfl <| AW (full := true) [] [(100, 202)] .n rfl .f en_13 (.cons (.t rfl) (.cons (.t rfl) (.cons (.t rfl) (.cons (.t rfl) .nil)))) (.cons (.st (.cons (.a (.same rfl)) (.cons (.a (.own rfl rfl rfl (take_all (by simp only [len_map, put_len] <;> rfl)) (by simp only [len_map, put_len] <;> rfl))) .nil))) (.cons (.b (.a (.same rfl))) (.cons (.b (.a (.same rfl))) (.cons (.b (.a (.same rfl))) .nil)))) (c_impl_FewestRefuges (Ac code).1 (Ac code).2.1 (Ac code).2.2.1 (Ac code).2.2.2) trivial rfl rfl (fun _ => rfl) (fun _ => (hr_row (fun _ => rfl) hr_nil)) rfl <| Ag .n (.t rfl) rfl <| C9 .n (.t rfl) rfl rfl rfl <| C9 .n (.t rfl) rfl rfl rfl <| Ah .n (.t rfl) rfl <| Ah .n (.t rfl) rfl <| Lex.nil) ?_
    refine Af ?_
    refine Af ?_
    refine Ad (Ag .n (.t rfl) rfl <| AF .n (.t rfl) (.c rfl) rfl rfl <| Lex.nil) ?_
    refine Dn _ _ rfl (fun v4 : Unit => True) (fun v4 => ⟨[(1, some (true, .sl 1 (more.map (V.int .u8))))], []⟩) (fun v4 _ => ?_) (fun j5 hj6 => ?_)
    · refine Af ?_
      refine run_ro <| ro_lex (l1 := [_]) (l2 := [_, _, _, _, _, _, _, _, _, _, _, _, _, _, _, _]) rfl (Ag .n (.t rfl) rfl <| Lex.nil) <| ro_callGM [] [(100, 205), (101, 206)] .f en_16 (.cons (.t rfl) .nil) (.cons (.b (.a (.same rfl))) .nil) (c_spec_DrawNearestRefuge more (by (exact hp2.2))) trivial rfl rfl rfl rfl rfl <| ro_lex (l1 := [_, _, _, _, _, _, _, _, _, _, _, _, _, _, _]) (l2 := []) rfl (Ag .n (.t rfl) rfl <| C9 .n (.t rfl) rfl rfl rfl <| C9 .n (.t rfl) rfl rfl rfl <| C9 .n (.t rfl) rfl rfl rfl <| C9 .n (.t rfl) rfl rfl rfl <| C9 .n (.t rfl) rfl rfl rfl <| C9 .n (.t rfl) rfl rfl rfl <| BE (l := 207) .n rfl zv_26 rfl rfl <| BE (l := 208) .n rfl zv_37 rfl rfl <| AG [.int .i64 (Ae more).1.Junctions, .sl 7 ((Ae more).1.Airways.map Ar.v)] .n rfl (.t rfl) (.t rfl) rfl ts_26 rfl rfl <| Ah .n (.t rfl) rfl <| Ah .n (.t rfl) rfl <| AG [.str (Ae more).2.2.2.1.Id, .int .i64 (Ae more).2.2.2.1.Junction, .int .i64 (Ae more).2.2.2.1.Speed] .n rfl (.t rfl) (.t rfl) rfl ts_37 rfl rfl <| Ah .n (.t rfl) rfl <| Ah .n (.t rfl) rfl <| Lex.nil) <| ro_end ?_
      refine Af ?_
      refine Ad (Ba .n (.t rfl) rfl (.inr rfl) ag_26 (fun _ => rfl) rfl rfl <| Ag .n (.t rfl) rfl <| Ag .n (.t rfl) rfl <| Ba .n (.t rfl) rfl (.inr rfl) ag_37 (fun _ => rfl) rfl rfl <| Ag .n (.t rfl) rfl <| Ag .n (.t rfl) rfl <| AJ (full := true) .n .f en_17 (.cons (.t rfl) (.cons (.t rfl) (.cons (.t rfl) (.cons (.t rfl) (.cons (.t rfl) (.cons (.t rfl) .nil)))))) (.cons (.sts rfl) (.cons (.b (.a (.own rfl rfl rfl (take_all (by simp only [len_map, put_len] <;> rfl)) (by simp only [len_map, put_len] <;> rfl)))) (.cons (.b (.a (.same rfl))) (.cons (.sts rfl) (.cons (.b (.a (.same rfl))) (.cons (.b (.a (.own rfl rfl rfl (take_all (by simp only [len_map, put_len] <;> rfl)) (by simp only [len_map, put_len] <;> rfl)))) .nil)))))) (fun hg => c_impl_NearestRefuge (Ae more).1 (Ae more).2.1 (Ae more).2.2.1 (Ae more).2.2.2.1 (Ae more).2.2.2.2.1 (Ae more).2.2.2.2.2) rfl (fun _ => rfl) rfl <| Ag .n (.t rfl) rfl <| C9 .n (.t rfl) rfl rfl rfl <| C9 .n (.t rfl) rfl rfl rfl <| C9 .n (.t rfl) rfl rfl rfl <| Ah .n (.t rfl) rfl <| Ah .n (.t rfl) rfl <| Ah .n (.t rfl) rfl <| Lex.nil) ?_
      refine Af ?_
      refine Af ?_
      refine Ad (Ag .n (.t rfl) rfl <| AF .n (.t rfl) (.c rfl) rfl rfl <| Lex.nil) ?_
      refine Aq (.t rfl) rfl (fun h49 => ?_) (fun h49 => ?_)
      · try simp only [tst] at h49
        refine Af ?_
        refine Ad (Ag .n (.t rfl) rfl <| AF .n (.t rfl) (.c rfl) rfl rfl <| Ag .n (.t rfl) rfl <| Ag (.t rfl rfl) (.t rfl) rfl <| AF (.t rfl rfl) (.u rfl id) (.c rfl) rfl rfl <| B4 .n (.t rfl) (.u rfl id) rfl <| Ah .n (.t rfl) rfl <| Lex.nil) ?_
        exact Au [] (.cons (.t rfl rfl) .nil) rfl trivial rfl
      · try simp only [tst] at h49
        refine As ?_
        refine Af ?_
        refine Ad (Ba .n (.t rfl) rfl (.inr rfl) ag_26 (fun _ => rfl) rfl rfl <| Ag .n (.t rfl) rfl <| Ag .n (.t rfl) rfl <| Ba .n (.t rfl) rfl (.inr rfl) ag_37 (fun _ => rfl) rfl rfl <| Ag .n (.t rfl) rfl <| AW (full := true) [] [(100, 209)] .n rfl .f en_8 (.cons (.t rfl) (.cons (.t rfl) (.cons (.t rfl) (.cons (.t rfl) (.cons (.t rfl) .nil))))) (.cons (.sts rfl) (.cons (.b (.a (.own rfl rfl rfl (take_all (by simp only [len_map, put_len] <;> rfl)) (by simp only [len_map, put_len] <;> rfl)))) (.cons (.b (.a (.same rfl))) (.cons (.sts rfl) (.cons (.b (.a (.same rfl))) .nil))))) (c_spec_EscapeTimes (Ae more).1 (Ae more).2.1 (Ae more).2.2.1 (Ae more).2.2.2.1 (Ae more).2.2.2.2.1) trivial rfl rfl (fun _ => rfl) (fun _ => (hr_row (fun _ => rfl) hr_nil)) rfl <| Ag .n (.t rfl) rfl <| C9 .n (.t rfl) rfl rfl rfl <| C9 .n (.t rfl) rfl rfl rfl <| Ah .n (.t rfl) rfl <| Ah .n (.t rfl) rfl <| Lex.nil) ?_
        refine Af ?_
        refine Af ?_
        refine Ad (Ag .n (.t rfl) rfl <| AF .n (.t rfl) (.c rfl) rfl rfl <| Ag .n (.t rfl) rfl <| Ag (.f rfl rfl) (.t rfl) rfl <| AF (.f rfl rfl) (.u rfl id) (.c rfl) rfl rfl <| q_or .n (.t rfl) (.u rfl id) rfl <| Ag .n (.t rfl) rfl <| Ag (.f rfl rfl) (.t rfl) rfl <| Ag (.f rfl rfl) (.t rfl) rfl <| BS (.f rfl rfl) (.u rfl id) rfl rfl ss_29 rfl <| AF (.f rfl rfl) (.u rfl id) (.u rfl id) rfl rfl <| q_or .n (.t rfl) (.u rfl id) rfl <| Ag .n (.t rfl) rfl <| Ba (.f rfl rfl) (.t rfl) rfl (.inr rfl) ag_26 (fun _ => rfl) rfl rfl <| Ag (.f rfl rfl) (.t rfl) rfl <| AJ (full := true) (.f rfl rfl) .f en_18 (.cons (.u rfl id) (.cons (.u rfl id) .nil)) (.cons (.sts rfl) (.cons (.b (.a (.own rfl rfl rfl (take_all (by simp only [len_map, put_len] <;> rfl)) (by simp only [len_map, put_len] <;> rfl)))) .nil)) (fun hg => c_spec_ValidRefuges (Ae more).1 (Ae more).2.2.2.2.2) rfl (fun _ => rfl) rfl <| Cg (.f rfl rfl) (.u rfl id) rfl <| q_or .n (.t rfl) (.u rfl id) rfl <| Ag .n (.t rfl) rfl <| Ag (.f rfl rfl) (.t rfl) rfl <| Ag (.f rfl rfl) (.t rfl) rfl <| Ag (.f rfl rfl) (.t rfl) rfl <| AZ (.f rfl rfl) (.u rfl id) (.u rfl id) sl_29 (fun hg => by simp only [tst] at hg; omega) rfl <| AE (.f rfl rfl) (.u rfl id) fo_39_1 rfl <| A2 (.f rfl rfl) (.u rfl id) rfl (fun hg => by simp only [tst] at hg; omega) rfl rfl rfl ic_2 rfl <| AZ (.f rfl rfl) (.u rfl id) (.u rfl id) sl_27 (fun hg => by simp only [tst] at hg; ((have hE := And.left (And.left (And.left hg)); have hV := And.right hg; have hR := vref_imp hV; have hT := askTimes_len hE; have hq := at_all (i := (AQ (Ae more).1 (Ae more).2.1 (Ae more).2.2.1 (Ae more).2.2.2.1 (Ae more).2.2.2.2.1 (Ae more).2.2.2.2.2).1) hR.2 (by omega); omega))) rfl <| A2 (.f rfl rfl) (.u rfl id) rfl (fun hg => by simp only [tst] at hg; ((have hE := And.left (And.left (And.left hg)); have hV := And.right hg; have hR := vref_imp hV; have hT := askTimes_len hE; have hq := at_all (i := (AQ (Ae more).1 (Ae more).2.1 (Ae more).2.2.1 (Ae more).2.2.2.1 (Ae more).2.2.2.2.1 (Ae more).2.2.2.2.2).1) hR.2 (by omega); omega))) rfl rfl rfl ic_2 rfl <| Ag (.f rfl rfl) (.t rfl) rfl <| AF (.f rfl rfl) (.u rfl id) (.u rfl id) rfl rfl <| q_or .n (.t rfl) (.u rfl id) rfl <| Ag .n (.t rfl) rfl <| Ag (.f rfl rfl) (.t rfl) rfl <| Ag (.f rfl rfl) (.t rfl) rfl <| AF (.f rfl rfl) (.u rfl id) (.u rfl id) rfl rfl <| q_or .n (.t rfl) (.u rfl id) rfl <| Lex.nil) ?_
        refine Aq (.t rfl) rfl (fun h50 => ?_) (fun h50 => ?_)
        · try simp only [tst] at h50
          try have hf0h50 := askTimes_len h50
          try have hf1h50 := askTimes_len h50.1
          try have hf2h50 := askTimes_len h50.2
          try have hf3h50 := askTimes_len h50.1.1
          try have hf4h50 := askTimes_len h50.1.2
          try have hf5h50 := askTimes_len h50.2.1
          try have hf6h50 := askTimes_len h50.2.2
          try have hf7h50 := askTimes_len h50.1.1.1
          try have hf8h50 := askTimes_len h50.1.1.2
          try have hf9h50 := vref_imp h50
          try have hf10h50 := vref_imp h50.1
          try have hf11h50 := vref_imp h50.2
          try have hf12h50 := vref_imp h50.1.1
          try have hf13h50 := vref_imp h50.1.2
          try have hf14h50 := vref_imp h50.2.1
          try have hf15h50 := vref_imp h50.2.2
          try have hf16h50 := vref_imp h50.1.1.1
          try have hf17h50 := vref_imp h50.1.1.2
          refine Af ?_
          refine Ad (Ah .n (.c rfl) rfl <| Lex.nil) ?_
          exact Au [] (.cons (.t rfl rfl) .nil) rfl trivial rfl
        · try simp only [tst] at h50
          try have hf0h50 := askTimes_len h50
          try have hf1h50 := askTimes_len h50.1
          try have hf2h50 := askTimes_len h50.2
          try have hf3h50 := askTimes_len h50.1.1
          try have hf4h50 := askTimes_len h50.1.2
          try have hf5h50 := askTimes_len h50.2.1
          try have hf6h50 := askTimes_len h50.2.2
          try have hf7h50 := askTimes_len h50.1.1.1
          try have hf8h50 := askTimes_len h50.1.1.2
          try have hf9h50 := vref_imp h50
          try have hf10h50 := vref_imp h50.1
          try have hf11h50 := vref_imp h50.2
          try have hf12h50 := vref_imp h50.1.1
          try have hf13h50 := vref_imp h50.1.2
          try have hf14h50 := vref_imp h50.2.1
          try have hf15h50 := vref_imp h50.2.2
          try have hf16h50 := vref_imp h50.1.1.1
          try have hf17h50 := vref_imp h50.1.1.2
          refine As ?_
          refine Af ?_
          refine Af ?_
          refine Ad (Ah .n (.c rfl) rfl <| Lex.nil) ?_
          refine Aw ?_
          refine Dw (C8 code more v4) _ _ _ rfl (fun (x4 : Int) => 0 ≤ x4 ∧ x4 ≤ ((Ae more).2.2.2.2.2.length : Int)) (fun x4 => 0 ≤ x4 ∧ x4 ≤ ((Ae more).2.2.2.2.2.length : Int) ∧ ((Ae more).2.2.2.2.2.length : Int) ≤ x4) (fun x4 => (((Ae more).2.2.2.2.2.length : Int) - x4 : Int).toNat) (fun x4 => ⟨[(24, some (true, .os 206 (Ae more).2.2.2.2.2.length)), (26, some (true, .int .i64 (AQ (Ae more).1 (Ae more).2.1 (Ae more).2.2.1 (Ae more).2.2.2.1 (Ae more).2.2.2.2.1 (Ae more).2.2.2.2.2).2.1)), (28, some (true, .os 209 (Bh (Ae more).1 (Ae more).2.1 (Ae more).2.2.1 (Ae more).2.2.2.1 (Ae more).2.2.2.2.1).1.length)), (30, some (true, .int .i64 x4))], [(206, some (.row 39 4 ((Ae more).2.2.2.2.2.map AS.v))), (209, some (.row 2 1 ((Bh (Ae more).1 (Ae more).2.1 (Ae more).2.2.1 (Ae more).2.2.2.1 (Ae more).2.2.2.2.1).1.map (V.int .i64))))]⟩) (fun x4 => ⟨[], []⟩) ⟨by omega, by omega⟩ (by omega) (sub_of [] ⟨rfl, rfl, rfl, rfl, trivial⟩ ⟨rfl, rfl, trivial⟩ rfl) rfl ?_ ?_
          · intro x4 i55
            obtain ⟨e56, e57, e58⟩ := i55
            try dsimp only at *
            refine Af ?_
            refine Ad (Ah .n (.c rfl) rfl <| Lex.nil) ?_
            exact Au [] (.cons (.t rfl rfl) .nil) rfl trivial rfl
          · intro rec4 k4 hk51 x4 i52
            obtain ⟨e59, e60⟩ := i52
            try dsimp only at *
            refine Af ?_
            refine Af ?_
            refine Ad (Ag .n (.t rfl) rfl <| Ag .n (.t rfl) rfl <| BS .n (.t rfl) rfl rfl ss_29 rfl <| AF .n (.t rfl) (.t rfl) rfl rfl <| Lex.nil) ?_
            refine Aq (.t rfl) rfl (fun h53 => ?_) (fun h53 => ?_)
            · try simp only [tst] at h53
              refine As ?_
              refine Af ?_
              refine Aw ?_
              refine Af ?_
              refine Ad (Ag .n (.t rfl) rfl <| Ag .n (.t rfl) rfl <| Ag .n (.t rfl) rfl <| AZ .n (.t rfl) (.t rfl) sl_29 (fun _ => by omega) rfl <| AE .n (.t rfl) fo_39_1 rfl <| A2 .n (.t rfl) rfl (fun _ => by omega) rfl rfl rfl ic_2 rfl <| AZ .n (.t rfl) (.t rfl) sl_27 (fun _ => by ((have hR := vref_imp (And.right (And.left (And.left (by assumption))) : BW (Ae more).1 (Ae more).2.2.2.2.2 = true); have hT := askTimes_len (And.left (And.left (And.left (And.left (And.left (by assumption))))) : (Bh (Ae more).1 (Ae more).2.1 (Ae more).2.2.1 (Ae more).2.2.2.1 (Ae more).2.2.2.2.1).2 = 0); have hq := at_all (i := x4) hR.2 (by omega); omega))) rfl <| A2 .n (.t rfl) rfl (fun _ => by ((have hR := vref_imp (And.right (And.left (And.left (by assumption))) : BW (Ae more).1 (Ae more).2.2.2.2.2 = true); have hT := askTimes_len (And.left (And.left (And.left (And.left (And.left (by assumption))))) : (Bh (Ae more).1 (Ae more).2.1 (Ae more).2.2.1 (Ae more).2.2.2.1 (Ae more).2.2.2.2.1).2 = 0); have hq := at_all (i := x4) hR.2 (by omega); omega))) rfl rfl rfl ic_2 rfl <| Ah .n (.t rfl) rfl <| Lex.nil) ?_
              refine Af ?_
              refine Ad (Ag .n (.t rfl) rfl <| AF .n (.t rfl) (.c rfl) rfl rfl <| Ag .n (.t rfl) rfl <| Ag (.t rfl rfl) (.t rfl) rfl <| Ag (.t rfl rfl) (.t rfl) rfl <| AF (.t rfl rfl) (.u rfl id) (.u rfl id) rfl rfl <| B4 .n (.t rfl) (.u rfl id) rfl <| Lex.nil) ?_
              refine Aq (.t rfl) rfl (fun h54 => ?_) (fun h54 => ?_)
              · try simp only [tst] at h54
                refine Af ?_
                refine Ad (Ah .n (.c rfl) rfl <| Lex.nil) ?_
                exact Au [] (.cons (.t rfl rfl) .nil) rfl trivial rfl
              · try simp only [tst] at h54
                refine As ?_
                refine AK ?_
                refine Ad (Ag .n (.t rfl) rfl <| BM .n (.t rfl) (.c rfl) (fun _ => by ((have hR : RefugeIn (Ae more).1 (Ae more).2.2.2.2.2 := (by assumption); have hq := hR.1; omega))) rfl <| Ah .n (.t rfl) rfl <| Lex.nil) ?_
                exact CC (x4 + 1) ⟨by omega, by omega⟩ (by omega) (sub_of [] ⟨rfl, rfl, rfl, rfl, trivial⟩ ⟨rfl, rfl, trivial⟩ rfl)
            · try simp only [tst] at h53
              refine Bb rfl ?_
              exact AY hk51 x4 ⟨by omega, by omega, by omega⟩ (sub_of [] trivial trivial rfl)
    · refine Aq (.t rfl) rfl (fun h7 => ?_) (fun h7 => ?_)
      · try simp only [tst] at h7
        try have hf0h7 := fw_len h7
        try have hf1h7 := fw_len h7.1
        try have hf2h7 := fw_len h7.2
        try have hf3h7 := fw_len h7.1.1
        try have hf4h7 := fw_len h7.1.2
        try have hf5h7 := fw_len h7.2.1
        try have hf6h7 := fw_len h7.2.2
        try have hf7h7 := fw_J h7
        try have hf8h7 := fw_J h7.1
        try have hf9h7 := fw_J h7.2
        try have hf10h7 := fw_J h7.1.1
        try have hf11h7 := fw_J h7.1.2
        try have hf12h7 := fw_J h7.2.1
        try have hf13h7 := fw_J h7.2.2
        try have hf14h7 := fw_in h7
        try have hf15h7 := fw_in h7.1
        try have hf16h7 := fw_in h7.2
        try have hf17h7 := fw_in h7.1.1
        try have hf18h7 := fw_in h7.1.2
        try have hf19h7 := fw_in h7.2.1
        try have hf20h7 := fw_in h7.2.2
        refine Af ?_
        refine Af ?_
        refine Ad (Ag .n (.t rfl) rfl <| AE .n (.t rfl) fo_26_0 rfl <| AP .n (.t rfl) rfl (.inr rfl) (fun _ => rfl) rfl ic_2 rfl <| AJ (full := true) .n .f en_14 (.cons (.t rfl) (.cons (.t rfl) .nil)) (.cons (.b (.a (.own rfl rfl rfl (take_all (by simp only [len_map, put_len] <;> rfl)) (by simp only [len_map, put_len] <;> rfl)))) (.cons (.b (.a (.same rfl))) .nil)) (fun hg => c_laws_b10Rises (Ao (Ac code).1 (Ac code).2.1 (Ac code).2.2.1 (Ac code).2.2.2).1 (Ac code).1.Junctions) rfl (fun _ => rfl) rfl <| Cg .n (.t rfl) rfl <| Lex.nil) ?_
        refine Aq (.t rfl) rfl (fun h8 => ?_) (fun h8 => ?_)
        · try simp only [tst] at h8
          refine Af ?_
          refine Ad (Ah .n (.c rfl) rfl <| Lex.nil) ?_
          exact Au [] (.cons (.t rfl rfl) .nil) rfl trivial rfl
        · try simp only [tst] at h8
          refine As ?_
          refine Af ?_
          refine Ad (Ag .n (.t rfl) rfl <| BS .n (.t rfl) rfl rfl ss_27 rfl <| q_makem (f := V.int .i64) (l := 203) (0 : Int) .n rfl (.t rfl) (.t rfl) si_50 zv_3 (by omega) rfl rfl rfl <| Ah .n (.t rfl) rfl <| Lex.nil) ?_
          refine Af ?_
          refine Af ?_
          refine Ad (Ah .n (.c rfl) rfl <| Lex.nil) ?_
          refine Aw ?_
          refine Dw (CM code more j5) _ _ _ rfl (fun (x1 : (List Int) × Int) => 0 ≤ x1.2 ∧ x1.2 ≤ (Ac code).1.Junctions ∧ x1.1.length = (List.replicate (((Ao (Ac code).1 (Ac code).2.1 (Ac code).2.2.1 (Ac code).2.2.2).1.length : Int) : Int).toNat (0 : Int)).length ∧ x1.1.length = (Ao (Ac code).1 (Ac code).2.1 (Ac code).2.2.1 (Ac code).2.2.2).1.length) (fun x1 => 0 ≤ x1.2 ∧ x1.2 ≤ (Ac code).1.Junctions ∧ x1.1.length = (List.replicate (((Ao (Ac code).1 (Ac code).2.1 (Ac code).2.2.1 (Ac code).2.2.2).1.length : Int) : Int).toNat (0 : Int)).length ∧ x1.1.length = (Ao (Ac code).1 (Ac code).2.1 (Ac code).2.2.1 (Ac code).2.2.2).1.length ∧ (Ac code).1.Junctions ≤ x1.2) (fun x1 => ((Ac code).1.Junctions - x1.2 : Int).toNat) (fun x1 => ⟨[(1, some (true, .sl 1 (more.map (V.int .u8)))), (5, some (true, .op 201 0 0 0)), (6, some (true, .int .i64 (Ac code).2.1)), (7, some (true, .int .i64 (Ac code).2.2.1)), (9, some (true, .os 202 (Ao (Ac code).1 (Ac code).2.1 (Ac code).2.2.1 (Ac code).2.2.2).1.length)), (11, some (true, .os 203 x1.1.length)), (12, some (true, .int .i64 x1.2))], [(200, some (.row 112 7 ((Ac code).1.Airways.map Ar.v))), (201, some (.box 26 [.int .i64 (Ac code).1.Junctions, .os 200 (Ac code).1.Airways.length])), (202, some (.row 2 1 ((Ao (Ac code).1 (Ac code).2.1 (Ac code).2.2.1 (Ac code).2.2.2).1.map (V.int .i64)))), (203, some (.row 3 1 (x1.1.map (V.int .i64))))]⟩) (fun x1 => ⟨[(1, some (true, .sl 1 (more.map (V.int .u8)))), (11, some (true, .os 203 x1.1.length))], [(203, some (.row 3 1 (x1.1.map (V.int .i64))))]⟩) ⟨by omega, by omega, by (simp only [lens] at * <;> omega), by (simp only [lens] at * <;> omega)⟩ (by omega) (sub_of [] ⟨rfl, rfl, rfl, rfl, rfl, rfl, rfl, trivial⟩ ⟨rfl, rfl, rfl, rfl, trivial⟩ rfl) rfl ?_ ?_
          · intro x1 i29
            obtain ⟨e40, e41, e42, e43, e44⟩ := i29
            try dsimp only at *
            refine Af ?_
            refine Ad (Ah .n (.c rfl) rfl <| Lex.nil) ?_
            refine Aw ?_
            refine Dw (CL code more j5 x1) _ _ _ rfl (fun (x3 : Int) => 0 ≤ x3 ∧ x3 ≤ (x1.1.length : Int)) (fun x3 => 0 ≤ x3 ∧ x3 ≤ (x1.1.length : Int) ∧ (x1.1.length : Int) ≤ x3) (fun x3 => ((x1.1.length : Int) - x3 : Int).toNat) (fun x3 => ⟨[(1, some (true, .sl 1 (more.map (V.int .u8)))), (11, some (true, .os 203 x1.1.length)), (18, some (true, .int .i64 x3))], [(203, some (.row 3 1 (x1.1.map (V.int .i64))))]⟩) (fun x3 => ⟨[(1, some (true, .sl 1 (more.map (V.int .u8))))], []⟩) ⟨by omega, by omega⟩ (by omega) (sub_of [] ⟨rfl, rfl, rfl, trivial⟩ ⟨rfl, trivial⟩ rfl) rfl ?_ ?_
            · intro x3 i34
              obtain ⟨e35, e36, e37⟩ := i34
              try dsimp only at *
              exact AY hj6 () trivial (sub_of [] ⟨rfl, trivial⟩ trivial rfl)
            · intro rec3 k3 hk30 x3 i31
              obtain ⟨e38, e39⟩ := i31
              try dsimp only at *
              refine Af ?_
              refine Af ?_
              refine Ad (Ag .n (.t rfl) rfl <| Ag .n (.t rfl) rfl <| BS .n (.t rfl) rfl rfl ss_50 rfl <| AF .n (.t rfl) (.t rfl) rfl rfl <| Lex.nil) ?_
              refine Aq (.t rfl) rfl (fun h32 => ?_) (fun h32 => ?_)
              · try simp only [tst] at h32
                refine As ?_
                refine Af ?_
                refine Aw ?_
                refine Af ?_
                refine Ad (Ag .n (.t rfl) rfl <| Ag .n (.t rfl) rfl <| AZ .n (.t rfl) (.t rfl) sl_50 (fun _ => by omega) rfl <| A2 .n (.t rfl) rfl (fun _ => by omega) rfl rfl rfl ic_3 rfl <| AF .n (.t rfl) (.c rfl) rfl rfl <| Lex.nil) ?_
                refine Aq (.t rfl) rfl (fun h33 => ?_) (fun h33 => ?_)
                · try simp only [tst] at h33
                  refine Af ?_
                  refine Ad (Ah .n (.c rfl) rfl <| Lex.nil) ?_
                  exact Au [] (.cons (.t rfl rfl) .nil) rfl trivial rfl
                · try simp only [tst] at h33
                  refine As ?_
                  refine AK ?_
                  refine Ad (Ag .n (.t rfl) rfl <| BM .n (.t rfl) (.c rfl) (fun _ => by omega) rfl <| Ah .n (.t rfl) rfl <| Lex.nil) ?_
                  exact CC (x3 + 1) ⟨by omega, by omega⟩ (by omega) (sub_of [] ⟨rfl, rfl, rfl, trivial⟩ ⟨rfl, trivial⟩ rfl)
              · try simp only [tst] at h32
                refine Bb rfl ?_
                exact AY hk30 x3 ⟨by omega, by omega, by omega⟩ (sub_of [] ⟨rfl, trivial⟩ trivial rfl)
          · intro rec1 k1 hk9 x1 i10
            obtain ⟨e45, e46, e47, e48⟩ := i10
            try dsimp only at *
            refine Af ?_
            refine Af ?_
            refine Ad (Ag .n (.t rfl) rfl <| AE .n (.t rfl) fo_26_0 rfl <| AP .n (.t rfl) rfl (.inr rfl) (fun _ => rfl) rfl ic_2 rfl <| AF .n (.t rfl) (.t rfl) rfl rfl <| Lex.nil) ?_
            refine Aq (.t rfl) rfl (fun h11 => ?_) (fun h11 => ?_)
            · try simp only [tst] at h11
              refine As ?_
              refine Af ?_
              refine Aw ?_
              refine Af ?_
              refine Ad (Ba .n (.t rfl) rfl (.inr rfl) ag_26 (fun _ => rfl) rfl rfl <| Ag .n (.t rfl) rfl <| Ag .n (.t rfl) rfl <| AW (full := true) [] [(100, 204)] .n rfl .f en_15 (.cons (.t rfl) (.cons (.t rfl) (.cons (.t rfl) .nil))) (.cons (.st (.cons (.a (.same rfl)) (.cons (.a (.own rfl rfl rfl (take_all (by simp only [len_map, put_len] <;> rfl)) (by simp only [len_map, put_len] <;> rfl))) .nil))) (.cons (.b (.a (.same rfl))) (.cons (.b (.a (.same rfl))) .nil))) (c_spec_WalkTimes (Ac code).1 x1.2 (Ac code).2.1) trivial rfl rfl (fun _ => rfl) (fun _ => (hr_row (fun _ => rfl) hr_nil)) rfl <| Ag .n (.t rfl) rfl <| C9 .n (.t rfl) rfl rfl rfl <| C9 .n (.t rfl) rfl rfl rfl <| Ah .n (.t rfl) rfl <| Ah .n (.t rfl) rfl <| Lex.nil) ?_
              refine Af ?_
              refine Af ?_
              refine Ad (Ag .n (.t rfl) rfl <| AF .n (.t rfl) (.c rfl) rfl rfl <| Lex.nil) ?_
              refine Aq (.t rfl) rfl (fun h12 => ?_) (fun h12 => ?_)
              · try simp only [tst] at h12
                try have hf0h12 := wlkS_len h12
                try have hf1h12 := wlkS_len h12.1
                try have hf2h12 := wlkS_len h12.2
                try have hf3h12 := wlkS_len h12.1.1
                try have hf4h12 := wlkS_len h12.1.2
                try have hf5h12 := wlkS_len h12.2.1
                try have hf6h12 := wlkS_len h12.2.2
                refine Af ?_
                refine Ad (Ah .n (.c rfl) rfl <| Lex.nil) ?_
                exact Au [] (.cons (.t rfl rfl) .nil) rfl trivial rfl
              · try simp only [tst] at h12
                try have hf0h12 := wlkS_len h12
                try have hf1h12 := wlkS_len h12.1
                try have hf2h12 := wlkS_len h12.2
                try have hf3h12 := wlkS_len h12.1.1
                try have hf4h12 := wlkS_len h12.1.2
                try have hf5h12 := wlkS_len h12.2.1
                try have hf6h12 := wlkS_len h12.2.2
                refine As ?_
                refine Af ?_
                refine Ad (Ah .n (.c rfl) rfl <| Lex.nil) ?_
                refine Af ?_
                refine Ad (Ah .n (.c rfl) rfl <| Lex.nil) ?_
                refine Af ?_
                refine Af ?_
                refine Ad (Ah .n (.c rfl) rfl <| Lex.nil) ?_
                refine Aw ?_
                refine Dw (C7 code more j5 rec1 k1 x1) _ _ _ rfl (fun (x2 : Int × Int × Int) => 0 ≤ x2.2.1 ∧ x2.2.1 ≤ ((Ao (Ac code).1 (Ac code).2.1 (Ac code).2.2.1 (Ac code).2.2.2).1.length : Int) ∧ (0 ≤ x2.2.2 ∧ (x2.2.2 < (Ao (Ac code).1 (Ac code).2.1 (Ac code).2.2.1 (Ac code).2.2.2).1.length ∨ x2.1 = 0)) ∧ (0 ≤ x2.1 ∧ x2.1 ≤ x2.2.1)) (fun x2 => 0 ≤ x2.2.1 ∧ x2.2.1 ≤ ((Ao (Ac code).1 (Ac code).2.1 (Ac code).2.2.1 (Ac code).2.2.2).1.length : Int) ∧ (0 ≤ x2.2.2 ∧ (x2.2.2 < (Ao (Ac code).1 (Ac code).2.1 (Ac code).2.2.1 (Ac code).2.2.2).1.length ∨ x2.1 = 0)) ∧ (0 ≤ x2.1 ∧ x2.1 ≤ x2.2.1) ∧ ((Ao (Ac code).1 (Ac code).2.1 (Ac code).2.2.1 (Ac code).2.2.2).1.length : Int) ≤ x2.2.1) (fun x2 => (((Ao (Ac code).1 (Ac code).2.1 (Ac code).2.2.1 (Ac code).2.2.2).1.length : Int) - x2.2.1 : Int).toNat) (fun x2 => ⟨[(1, some (true, .sl 1 (more.map (V.int .u8)))), (5, some (true, .op 201 0 0 0)), (6, some (true, .int .i64 (Ac code).2.1)), (7, some (true, .int .i64 (Ac code).2.2.1)), (9, some (true, .os 202 (Ao (Ac code).1 (Ac code).2.1 (Ac code).2.2.1 (Ac code).2.2.2).1.length)), (11, some (true, .os 203 x1.1.length)), (12, some (true, .int .i64 x1.2)), (13, some (true, .os 204 (A6 (Ac code).1 x1.2 (Ac code).2.1).1.length)), (15, some (true, .int .i64 x2.1)), (16, some (true, .int .i64 x2.2.2)), (17, some (true, .int .i64 x2.2.1))], [(200, some (.row 112 7 ((Ac code).1.Airways.map Ar.v))), (201, some (.box 26 [.int .i64 (Ac code).1.Junctions, .os 200 (Ac code).1.Airways.length])), (202, some (.row 2 1 ((Ao (Ac code).1 (Ac code).2.1 (Ac code).2.2.1 (Ac code).2.2.2).1.map (V.int .i64)))), (203, some (.row 3 1 (x1.1.map (V.int .i64)))), (204, some (.row 2 1 ((A6 (Ac code).1 x1.2 (Ac code).2.1).1.map (V.int .i64))))]⟩) (fun x2 => ⟨[(1, some (true, .sl 1 (more.map (V.int .u8)))), (5, some (true, .op 201 0 0 0)), (6, some (true, .int .i64 (Ac code).2.1)), (7, some (true, .int .i64 (Ac code).2.2.1)), (9, some (true, .os 202 (Ao (Ac code).1 (Ac code).2.1 (Ac code).2.2.1 (Ac code).2.2.2).1.length)), (11, some (true, .os 203 x1.1.length)), (12, some (true, .int .i64 x1.2)), (15, some (true, .int .i64 x2.1)), (16, some (true, .int .i64 x2.2.2))], [(200, some (.row 112 7 ((Ac code).1.Airways.map Ar.v))), (201, some (.box 26 [.int .i64 (Ac code).1.Junctions, .os 200 (Ac code).1.Airways.length])), (202, some (.row 2 1 ((Ao (Ac code).1 (Ac code).2.1 (Ac code).2.2.1 (Ac code).2.2.2).1.map (V.int .i64)))), (203, some (.row 3 1 (x1.1.map (V.int .i64))))]⟩) ⟨by (simp only [lens] at * <;> omega), by (simp only [lens] at * <;> omega), by ((dsimp only; omega)), by (simp only [lens] at * <;> omega)⟩ (by (simp only [lens] at * <;> omega)) (sub_of [] ⟨rfl, rfl, rfl, rfl, rfl, rfl, rfl, rfl, rfl, rfl, rfl, trivial⟩ ⟨rfl, rfl, rfl, rfl, rfl, trivial⟩ rfl) rfl ?_ ?_
                · intro x2 i17
                  obtain ⟨e20, e21, e22, e23, e24⟩ := i17
                  try dsimp only at *
                  refine Af ?_
                  refine Af ?_
                  refine Ad (Ag .n (.t rfl) rfl <| AF .n (.t rfl) (.c rfl) rfl rfl <| Lex.nil) ?_
                  refine Aq (.t rfl) rfl (fun h18 => ?_) (fun h18 => ?_)
                  · try simp only [tst] at h18
                    refine Af ?_
                    refine Ad (Ah .n (.c rfl) rfl <| Lex.nil) ?_
                    exact Au [] (.cons (.t rfl rfl) .nil) rfl trivial rfl
                  · try simp only [tst] at h18
                    refine As ?_
                    refine Af ?_
                    refine Ad (Ag .n (.t rfl) rfl <| AF .n (.t rfl) (.c rfl) rfl rfl <| Lex.nil) ?_
                    refine Aq (.t rfl) rfl (fun h19 => ?_) (fun h19 => ?_)
                    · try simp only [tst] at h19
                      refine Ad (Ag .n (.t rfl) rfl <| Ag .n (.t rfl) rfl <| AZ .n (.t rfl) (.t rfl) sl_50 (fun _ => by omega) rfl <| A2 .n (.t rfl) rfl (fun _ => by omega) rfl rfl rfl ic_3 rfl <| AF .n (.t rfl) (.c rfl) rfl rfl <| AZ .n (.t rfl) (.t rfl) sl_50 (fun _ => by omega) rfl <| B0 (IntKind.wrap .i64 ((at' x1.1 x2.2.2) + 1)) .n rfl (.t rfl) (.t rfl) rfl ts_3 (by omega) rfl rfl <| Lex.nil) ?_
                      refine AK ?_
                      refine Ad (Ag .n (.t rfl) rfl <| BM .n (.t rfl) (.c rfl) (fun _ => by omega) rfl <| Ah .n (.t rfl) rfl <| Lex.nil) ?_
                      exact CC (put' x1.1 x2.2.2 (IntKind.wrap .i64 ((at' x1.1 x2.2.2) + 1)), x1.2 + 1) ⟨by omega, by omega, by (simp only [lens] at * <;> omega), by (simp only [lens] at * <;> omega)⟩ (by omega) (sub_of [] ⟨rfl, rfl, rfl, rfl, rfl, os_len rfl (by first | (simp only [put_len]; done) | (first | omega | assumption | (simp only [lens] at * <;> omega) | ((exact hp1.2); done) | ((exact hp2.2); done) | (((dsimp only; omega)); done) | (((rw [List.length_replicate]; omega)); done) | (((dsimp only; rw [List.length_replicate]; omega)); done) | (((rw [put_len]; omega)); done) | (((dsimp only; rw [put_len]; omega)); done) | (((rw [wr64 (n := x2.1 + 1) (by omega)]; omega)); done) | (((dsimp only; rw [wr64 (n := x2.1 + 1) (by omega)]; omega)); done) | (((have hq := at_all (i := x2.2.1) (show ∀ y ∈ (Ao (Ac code).1 (Ac code).2.1 (Ac code).2.2.1 (Ac code).2.2.2).1, 0 ≤ y ∧ y < (Ac code).1.Junctions by assumption) (by omega); omega)); done) | (((have hR : RefugeIn (Ae more).1 (Ae more).2.2.2.2.2 := (by assumption); have hq := hR.1; omega)); done) | (((have hR : RefugeIn (Ae more).1 (Ae more).2.2.2.2.2 := (by assumption); have hq := at_all (i := (AQ (Ae more).1 (Ae more).2.1 (Ae more).2.2.1 (Ae more).2.2.2.1 (Ae more).2.2.2.2.1 (Ae more).2.2.2.2.2).1) hR.2 (by omega); omega)); done) | (((have hE := And.left (And.left (And.left hg)); have hV := And.right hg; have hR := vref_imp hV; have hT := askTimes_len hE; have hq := at_all (i := (AQ (Ae more).1 (Ae more).2.1 (Ae more).2.2.1 (Ae more).2.2.2.1 (Ae more).2.2.2.2.1 (Ae more).2.2.2.2.2).1) hR.2 (by omega); omega)); done) | ((exact wr64_le); done))), rfl, trivial⟩ ⟨rfl, rfl, rfl, rfl, trivial⟩ rfl)
                    · try simp only [tst] at h19
                      refine As ?_
                      refine AK ?_
                      refine Ad (Ag .n (.t rfl) rfl <| BM .n (.t rfl) (.c rfl) (fun _ => by omega) rfl <| Ah .n (.t rfl) rfl <| Lex.nil) ?_
                      exact CC (x1.1, x1.2 + 1) ⟨by omega, by omega, by omega, by omega⟩ (by omega) (sub_of [] ⟨rfl, rfl, rfl, rfl, rfl, rfl, rfl, trivial⟩ ⟨rfl, rfl, rfl, rfl, trivial⟩ rfl)
                · intro rec2 k2 hk13 x2 i14
                  obtain ⟨e25, e26, e27, e28⟩ := i14
                  try dsimp only at *
                  refine Af ?_
                  refine Af ?_
                  refine Ad (Ag .n (.t rfl) rfl <| Ag .n (.t rfl) rfl <| BS .n (.t rfl) rfl rfl ss_27 rfl <| AF .n (.t rfl) (.t rfl) rfl rfl <| Lex.nil) ?_
                  refine Aq (.t rfl) rfl (fun h15 => ?_) (fun h15 => ?_)
                  · try simp only [tst] at h15
                    refine As ?_
                    refine Af ?_
                    refine Aw ?_
                    refine Af ?_
                    refine Ad (Ag .n (.t rfl) rfl <| Ag .n (.t rfl) rfl <| Ag .n (.t rfl) rfl <| AZ .n (.t rfl) (.t rfl) sl_27 (fun _ => by omega) rfl <| A2 .n (.t rfl) rfl (fun _ => by omega) rfl rfl rfl ic_2 rfl <| AZ .n (.t rfl) (.t rfl) sl_27 (fun _ => by ((have hq := at_all (i := x2.2.1) (show ∀ y ∈ (Ao (Ac code).1 (Ac code).2.1 (Ac code).2.2.1 (Ac code).2.2.2).1, 0 ≤ y ∧ y < (Ac code).1.Junctions by assumption) (by omega); omega))) rfl <| A2 .n (.t rfl) rfl (fun _ => by ((have hq := at_all (i := x2.2.1) (show ∀ y ∈ (Ao (Ac code).1 (Ac code).2.1 (Ac code).2.2.1 (Ac code).2.2.2).1, 0 ≤ y ∧ y < (Ac code).1.Junctions by assumption) (by omega); omega))) rfl rfl rfl ic_2 rfl <| AF .n (.t rfl) (.c rfl) rfl rfl <| Ag .n (.t rfl) rfl <| Ag (.t rfl rfl) (.t rfl) rfl <| Ag (.t rfl rfl) (.t rfl) rfl <| Ag (.t rfl rfl) (.t rfl) rfl <| AZ (.t rfl rfl) (.u rfl id) (.u rfl id) sl_27 (fun hg => by simp only [tst] at hg; omega) rfl <| A2 (.t rfl rfl) (.u rfl id) rfl (fun hg => by simp only [tst] at hg; omega) rfl rfl rfl ic_2 rfl <| AZ (.t rfl rfl) (.u rfl id) (.u rfl id) sl_27 (fun hg => by simp only [tst] at hg; ((have hq := at_all (i := x2.2.1) (show ∀ y ∈ (Ao (Ac code).1 (Ac code).2.1 (Ac code).2.2.1 (Ac code).2.2.2).1, 0 ≤ y ∧ y < (Ac code).1.Junctions by assumption) (by omega); omega))) rfl <| A2 (.t rfl rfl) (.u rfl id) rfl (fun hg => by simp only [tst] at hg; ((have hq := at_all (i := x2.2.1) (show ∀ y ∈ (Ao (Ac code).1 (Ac code).2.1 (Ac code).2.2.1 (Ac code).2.2.2).1, 0 ≤ y ∧ y < (Ac code).1.Junctions by assumption) (by omega); omega))) rfl rfl rfl ic_2 rfl <| Ag (.t rfl rfl) (.t rfl) rfl <| AF (.t rfl rfl) (.u rfl id) (.u rfl id) rfl rfl <| B4 .n (.t rfl) (.u rfl id) rfl <| Lex.nil) ?_
                    refine Aq (.t rfl) rfl (fun h16 => ?_) (fun h16 => ?_)
                    · try simp only [tst] at h16
                      refine Af ?_
                      refine Ad (Ag .n (.t rfl) rfl <| AF .n (.t rfl) (.c rfl) rfl rfl <| Ah .n (.t rfl) rfl <| Lex.nil) ?_
                      refine Ad (Ag .n (.t rfl) rfl <| Ah .n (.t rfl) rfl <| Lex.nil) ?_
                      refine AK ?_
                      refine Ad (Ag .n (.t rfl) rfl <| BM .n (.t rfl) (.c rfl) (fun _ => by omega) rfl <| Ah .n (.t rfl) rfl <| Lex.nil) ?_
                      exact CC (IntKind.wrap .i64 (x2.1 + 1), x2.2.1 + 1, x2.2.1) ⟨by (simp only [lens] at * <;> omega), by assumption, by (simp only [lens] at * <;> omega), by ((dsimp only; rw [wr64 (n := x2.1 + 1) (by omega)]; omega))⟩ (by (simp only [lens] at * <;> omega)) (sub_of [] ⟨rfl, rfl, rfl, rfl, rfl, rfl, rfl, rfl, rfl, rfl, rfl, trivial⟩ ⟨rfl, rfl, rfl, rfl, rfl, trivial⟩ rfl)
                    · try simp only [tst] at h16
                      refine As ?_
                      refine AK ?_
                      refine Ad (Ag .n (.t rfl) rfl <| BM .n (.t rfl) (.c rfl) (fun _ => by omega) rfl <| Ah .n (.t rfl) rfl <| Lex.nil) ?_
                      exact CC (x2.1, x2.2.1 + 1, x2.2.2) ⟨by (simp only [lens] at * <;> omega), by assumption, by omega, by (simp only [lens] at * <;> omega)⟩ (by (simp only [lens] at * <;> omega)) (sub_of [] ⟨rfl, rfl, rfl, rfl, rfl, rfl, rfl, rfl, rfl, rfl, rfl, trivial⟩ ⟨rfl, rfl, rfl, rfl, rfl, trivial⟩ rfl)
                  · try simp only [tst] at h15
                    refine Bb rfl ?_
                    exact AY hk13 (x2.1, x2.2.1, x2.2.2) ⟨by omega, by omega, by omega, by omega, by omega⟩ (sub_of [] ⟨rfl, rfl, rfl, rfl, rfl, rfl, rfl, rfl, rfl, trivial⟩ ⟨rfl, rfl, rfl, rfl, trivial⟩ rfl)
            · try simp only [tst] at h11
              refine Bb rfl ?_
              exact AY hk9 (x1.1, x1.2) ⟨by omega, by omega, by omega, by omega, by omega⟩ (sub_of [] ⟨rfl, rfl, trivial⟩ ⟨rfl, trivial⟩ rfl)
      · try simp only [tst] at h7
        try have hf0h7 := fw_len h7
        try have hf1h7 := fw_len h7.1
        try have hf2h7 := fw_len h7.2
        try have hf3h7 := fw_len h7.1.1
        try have hf4h7 := fw_len h7.1.2
        try have hf5h7 := fw_len h7.2.1
        try have hf6h7 := fw_len h7.2.2
        try have hf7h7 := fw_J h7
        try have hf8h7 := fw_J h7.1
        try have hf9h7 := fw_J h7.2
        try have hf10h7 := fw_J h7.1.1
        try have hf11h7 := fw_J h7.1.2
        try have hf12h7 := fw_J h7.2.1
        try have hf13h7 := fw_J h7.2.2
        try have hf14h7 := fw_in h7
        try have hf15h7 := fw_in h7.1
        try have hf16h7 := fw_in h7.2
        try have hf17h7 := fw_in h7.1.1
        try have hf18h7 := fw_in h7.1.2
        try have hf19h7 := fw_in h7.2.1
        try have hf20h7 := fw_in h7.2.2
        refine As ?_
        exact AY hj6 () trivial (sub_of [] ⟨rfl, trivial⟩ trivial rfl)

end Go.Proofs.YtibbfdojcdkopaaGreat
