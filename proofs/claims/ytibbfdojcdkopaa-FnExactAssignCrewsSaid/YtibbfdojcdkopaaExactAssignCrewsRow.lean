/-
  THE ROW: the statement FnExactAssignCrewsSaid: whatever the input, the law returns true and each argument reads as it read before. Conditions: none.
-/
import Derived.Test.YtibbfdojcdkopaaEngM
import Derived.Test.YtibbfdojcdkopaaExactAssignCrewsPlain17
import Derived.Test.YtibbfdojcdkopaaExactAssignCrewsWalks4
import Derived.Test.YtibbfdojcdkopaaRows
set_option linter.unusedVariables false
set_option linter.unusedSimpArgs false
set_option linter.unusedSectionVars false
set_option linter.unnecessarySimpa false
namespace Go.Proofs.Ytibbfdojcdkopaa
open Go Go.RowKit Go.Proofs Go.Proofs.Ytibbfdojcdkopaa.E Go.WideShapes Go.ChangeShapes Go.ChangeAt Go.Deep
theorem own : ownKnob Try.prog.godebug = none := by kernel_rfl
theorem laidOut : laidOutB Try.prog = true := by kernel_rfl
theorem c2 : Try.prog.cellsOf 2 = 1 := by kernel_rfl
theorem c9 : Try.prog.cellsOf 9 = 1 := by kernel_rfl
theorem c93 : Try.prog.cellsOf 93 = 7 := by kernel_rfl
theorem c22 : Try.prog.cellsOf 22 = 1 := by kernel_rfl
theorem c24 : Try.prog.cellsOf 24 = 2 := by kernel_rfl
theorem c25 : Try.prog.cellsOf 25 = 1 := by kernel_rfl
theorem c54 : Try.prog.cellsOf 54 = 3 := by kernel_rfl
theorem c26 : Try.prog.cellsOf 26 = 1 := by kernel_rfl
theorem c57 : Try.prog.cellsOf 57 = 4 := by kernel_rfl
theorem c27 : Try.prog.cellsOf 27 = 1 := by kernel_rfl
section
variable {H : Type} {enc : TypeId × Value → H}
theorem o2 : Opens enc Try.prog 2 (V.int .i64) (fun x => -9223372036854775808 ≤ x ∧ x ≤ 9223372036854775807) := opens_i64 Try.underlying2
theorem o9 : Opens enc Try.prog 9 V.str (fun x => x.length ≤ 9223372036854775807) := opens_str Try.underlying9
theorem o93 : Opens enc Try.prog 93 gAirway.v (fun x => gAirway.ok x) := by
  intro W spare held n cs x hx
  obtain ⟨xs, n', _, _, hl, hxl, hf⟩ := DataW.trod_struct Try.underlying93 hx
  rw [c93] at hl
  obtain ⟨a0, h0, k0⟩ := opens_field (sz := 1) o9 c9 (by rw [hxl]; decide) (hf 0 _ rfl)
  obtain ⟨a1, h1, k1⟩ := opens_field (sz := 1) o2 c2 (by rw [hxl]; decide) (hf 1 _ rfl)
  obtain ⟨a2, h2, k2⟩ := opens_field (sz := 1) o2 c2 (by rw [hxl]; decide) (hf 2 _ rfl)
  obtain ⟨a3, h3, k3⟩ := opens_field (sz := 1) o2 c2 (by rw [hxl]; decide) (hf 3 _ rfl)
  obtain ⟨a4, h4, k4⟩ := opens_field (sz := 1) o2 c2 (by rw [hxl]; decide) (hf 4 _ rfl)
  obtain ⟨a5, h5, k5⟩ := opens_field (sz := 1) o2 c2 (by rw [hxl]; decide) (hf 5 _ rfl)
  obtain ⟨a6, h6, k6⟩ := opens_field (sz := 1) o2 c2 (by rw [hxl]; decide) (hf 6 _ rfl)
  exact ⟨gAirway.mk a0 a1 a2 a3 a4 a5 a6, all2_cut (o := 0) h0 (all2_cut h1 (all2_cut h2 (all2_cut h3 (all2_cut h4 (all2_cut h5 (all2_cut h6 (all2_end hl))))))), ⟨k0, k1, k2, k3, k4, k5, k6⟩⟩
theorem o22 : Opens enc Try.prog 22 (slv 7 gAirway.v) (fun x => x.length ≤ 9223372036854775807 ∧ ∀ y ∈ x, gAirway.ok y) := opens_slice Try.underlying22 c93 (fun _ => rfl) (by decide) o93
theorem o24 : Opens enc Try.prog 24 gMine.v (fun x => gMine.ok x) := by
  intro W spare held n cs x hx
  obtain ⟨xs, n', _, _, hl, hxl, hf⟩ := DataW.trod_struct Try.underlying24 hx
  rw [c24] at hl
  obtain ⟨a0, h0, k0⟩ := opens_field (sz := 1) o2 c2 (by rw [hxl]; decide) (hf 0 _ rfl)
  obtain ⟨a1, h1, k1⟩ := opens_field (sz := 1) o22 c22 (by rw [hxl]; decide) (hf 1 _ rfl)
  exact ⟨gMine.mk a0 a1, all2_cut (o := 0) h0 (all2_cut h1 (all2_end hl)), ⟨k0, k1⟩⟩
theorem o25 : Opens enc Try.prog 25 (slv 1 (V.int .i64)) (fun x => x.length ≤ 9223372036854775807 ∧ ∀ y ∈ x, -9223372036854775808 ≤ y ∧ y ≤ 9223372036854775807) := opens_slice Try.underlying25 c2 (fun _ => rfl) (by decide) o2
theorem o54 : Opens enc Try.prog 54 gCrew.v (fun x => gCrew.ok x) := by
  intro W spare held n cs x hx
  obtain ⟨xs, n', _, _, hl, hxl, hf⟩ := DataW.trod_struct Try.underlying54 hx
  rw [c54] at hl
  obtain ⟨a0, h0, k0⟩ := opens_field (sz := 1) o9 c9 (by rw [hxl]; decide) (hf 0 _ rfl)
  obtain ⟨a1, h1, k1⟩ := opens_field (sz := 1) o2 c2 (by rw [hxl]; decide) (hf 1 _ rfl)
  obtain ⟨a2, h2, k2⟩ := opens_field (sz := 1) o2 c2 (by rw [hxl]; decide) (hf 2 _ rfl)
  exact ⟨gCrew.mk a0 a1 a2, all2_cut (o := 0) h0 (all2_cut h1 (all2_cut h2 (all2_end hl))), ⟨k0, k1, k2⟩⟩
theorem o26 : Opens enc Try.prog 26 (slv 3 gCrew.v) (fun x => x.length ≤ 9223372036854775807 ∧ ∀ y ∈ x, gCrew.ok y) := opens_slice Try.underlying26 c54 (fun _ => rfl) (by decide) o54
theorem o57 : Opens enc Try.prog 57 gRefuge.v (fun x => gRefuge.ok x) := by
  intro W spare held n cs x hx
  obtain ⟨xs, n', _, _, hl, hxl, hf⟩ := DataW.trod_struct Try.underlying57 hx
  rw [c57] at hl
  obtain ⟨a0, h0, k0⟩ := opens_field (sz := 1) o9 c9 (by rw [hxl]; decide) (hf 0 _ rfl)
  obtain ⟨a1, h1, k1⟩ := opens_field (sz := 1) o2 c2 (by rw [hxl]; decide) (hf 1 _ rfl)
  obtain ⟨a2, h2, k2⟩ := opens_field (sz := 1) o2 c2 (by rw [hxl]; decide) (hf 2 _ rfl)
  obtain ⟨a3, h3, k3⟩ := opens_field (sz := 1) o2 c2 (by rw [hxl]; decide) (hf 3 _ rfl)
  exact ⟨gRefuge.mk a0 a1 a2 a3, all2_cut (o := 0) h0 (all2_cut h1 (all2_cut h2 (all2_cut h3 (all2_end hl)))), ⟨k0, k1, k2, k3⟩⟩
theorem o27 : Opens enc Try.prog 27 (slv 4 gRefuge.v) (fun x => x.length ≤ 9223372036854775807 ∧ ∀ y ∈ x, gRefuge.ok y) := opens_slice Try.underlying27 c57 (fun _ => rfl) (by decide) o57
end
set_option maxRecDepth 100000 in
theorem lifted (os : Os) (started : os.Started) (H : Type) (enc : TypeId × Value → H) :
    ReturnsInHanded {} Try.checked os 3 .any (Rows.fnExactAssignCrewsSpec.pre6 enc Try.prog Try.f3 Rows.fnExactAssignCrewsRow.domain false) (Rows.fnExactAssignCrewsSpec.post enc Try.prog Try.f3 false true false false) := by
  refine returnsInHanded_of_change (C := Try.checked) own started (by kernel_rfl) Try.func3
    (ChangeSpec.witness6 (enc := enc) (C := Try.checked) false ⟨#[], #[.agg #[.int .i64 0, .slice none 0 0], .slice none 0 0, .int .i64 0, .slice none 0 0, .slice none 0 0, .int .i64 0, .slice none 0 0, .int .i64 0], []⟩ 8 (by kernel_rfl) (by kernel_rfl) (by kernel_rfl) (by kernel_rfl)) ?_
  intro W base args ds gs before hval0 hW hcnd _
  have hval : ∀ (j : Nat) t v, Try.f3.params[j]? = some t → args[j]? = some v → Value.okWide Try.prog W .any base t v := hval0
  have hW' := hW
  obtain ⟨p, q, hA0, hV, rfl, hfz, hnd⟩ := hW
  have hA : DataW.TrodAll enc Try.prog W 0 (fun _ => true) true Try.f3.params.toList args.toList ds p := hA0
  rw [Try.params3] at hA hval
  obtain ⟨v0, L0, d0, ds0, p0, q0, hL0, rfl, rfl, h0, hA0'⟩ := trodAll_c hA
  obtain ⟨v1, L1, d1, ds1, p1, q1, hL1, rfl, rfl, h1, hA1'⟩ := trodAll_c hA0'
  obtain ⟨v2, L2, d2, ds2, p2, q2, hL2, rfl, rfl, h2, hA2'⟩ := trodAll_c hA1'
  obtain ⟨v3, L3, d3, ds3, p3, q3, hL3, rfl, rfl, h3, hA3'⟩ := trodAll_c hA2'
  obtain ⟨v4, L4, d4, ds4, p4, q4, hL4, rfl, rfl, h4, hA4'⟩ := trodAll_c hA3'
  obtain ⟨v5, L5, d5, ds5, p5, q5, hL5, rfl, rfl, h5, hA5'⟩ := trodAll_c hA4'
  obtain ⟨v6, L6, d6, ds6, p6, q6, hL6, rfl, rfl, h6, hA6'⟩ := trodAll_c hA5'
  obtain ⟨v7, L7, d7, ds7, p7, q7, hL7, rfl, rfl, h7, hA7'⟩ := trodAll_c hA6'
  obtain ⟨hLn, rfl, rfl⟩ := trodAll_n hA7'
  subst hLn; subst hL7; subst hL6; subst hL5; subst hL4; subst hL3; subst hL2; subst hL1
  obtain rfl : args = #[v0, v1, v2, v3, v4, v5, v6, v7] := Array.ext' hL0
  obtain ⟨rfl, rfl⟩ := trodVars_none hV
  obtain ⟨a0, r0, k0⟩ := opens_arg o24 h0
  obtain ⟨c0, e0, _⟩ := okWide_struct Try.underlying24 (hval 0 24 v0 rfl rfl)
  obtain ⟨a1, r1, k1⟩ := opens_arg o25 h1
  obtain ⟨s1, l1, m1, e1⟩ := okWide_slice Try.underlying25 (hval 1 25 v1 rfl rfl)
  obtain ⟨a2, r2, k2⟩ := opens_arg o2 h2
  obtain ⟨n2, e2⟩ := okWide_int Try.underlying2 (hval 2 2 v2 rfl rfl)
  obtain ⟨a3, r3, k3⟩ := opens_arg o26 h3
  obtain ⟨s3, l3, m3, e3⟩ := okWide_slice Try.underlying26 (hval 3 26 v3 rfl rfl)
  obtain ⟨a4, r4, k4⟩ := opens_arg o25 h4
  obtain ⟨s4, l4, m4, e4⟩ := okWide_slice Try.underlying25 (hval 4 25 v4 rfl rfl)
  obtain ⟨a5, r5, k5⟩ := opens_arg o2 h5
  obtain ⟨n5, e5⟩ := okWide_int Try.underlying2 (hval 5 2 v5 rfl rfl)
  obtain ⟨a6, r6, k6⟩ := opens_arg o27 h6
  obtain ⟨s6, l6, m6, e6⟩ := okWide_slice Try.underlying27 (hval 6 27 v6 rfl rfl)
  obtain ⟨a7, r7, k7⟩ := opens_arg o2 h7
  obtain ⟨n7, e7⟩ := okWide_int Try.underlying2 (hval 7 2 v7 rfl rfl)
  have hcon := c_laws_FnExactAssignCrews a0 a1 a2 a3 a4 a5 a6 a7 k0 k1 k2 k3 k4 k5 k6 k7 (cx0 W) [v0, v1, v2, v3, v4, v5, v6, v7] (cx0_okP trivial) ⟨rep_st e0 r0, rep_one (by subst e1; rfl) rfl r1, rep_one (by subst e2; rfl) rfl r2, rep_one (by subst e3; rfl) rfl r3, rep_one (by subst e4; rfl) rfl r4, rep_one (by subst e5; rfl) rfl r5, rep_one (by subst e6; rfl) rfl r6, rep_one (by subst e7; rfl) rfl r7, trivial⟩ (mem0 W)
  rw [law_FnExactAssignCrews a0 a1 a2 a3 a4 a5 a6 a7 k0 k1 k2 k3 k4 k5 k6 k7] at hcon
  refine hcon.mono fun e W' ⟨x, κ', he, hr, hm⟩ => ?_
  subst he
  have hx : x = .bool true := repT_bool hr
  subst hx
  exact ⟨_, rfl, post_true laidOut Try.underlying4 rfl rfl (fun t ht => by rw [Try.params3] at ht; simp at ht; rcases ht with rfl | rfl | rfl | rfl | rfl | rfl | rfl | rfl <;> exact ⟨by kernel_rfl, of_decide_eq_true (by kernel_rfl)⟩) rfl hW' hm.ext.below⟩
theorem proved : Rows.FnExactAssignCrewsSaid :=
  OpenClaim.holds_of_wide 3 Try.f3 rfl rfl rfl rfl rfl rfl rfl ⟨rfl, rfl, rfl, rfl, rfl⟩ rfl rfl rfl rfl rfl (by kernel_rfl) Try.func3 (by kernel_rfl)
    (of_decide_eq_true (by kernel_rfl)) (by unfold Func.isWrapper; first | (rw [if_pos (by decide +kernel)]; kernel_rfl) | (rw [if_neg (by decide +kernel)]; exact ⟨rfl, rfl⟩))
    (fun os started H enc _ => lifted os started H enc)
#print axioms proved

end Go.Proofs.Ytibbfdojcdkopaa
