/-
  THE ROW: the statement FnExactMostPermitsSaid: whatever the input, the law returns true and each argument reads as it read before. Conditions: none.
-/
import Derived.Test.YtchjibndocnnhaaEngM
import Derived.Test.YtchjibndocnnhaaExactMostPermitsPlain7
import Derived.Test.YtchjibndocnnhaaExactMostPermitsWalks3
import Derived.Test.YtchjibndocnnhaaRows
set_option linter.unusedVariables false
set_option linter.unusedSimpArgs false
set_option linter.unusedSectionVars false
set_option linter.unnecessarySimpa false
namespace Go.Proofs.Ytchjibndocnnhaa
open Go Go.RowKit Go.Proofs Go.Proofs.Ytchjibndocnnhaa.E Go.WideShapes Go.ChangeShapes Go.ChangeAt Go.Deep
theorem own : ownKnob Try.prog.godebug = none := by kernel_rfl
theorem laidOut : laidOutB Try.prog = true := by kernel_rfl
theorem c2 : Try.prog.cellsOf 2 = 1 := by kernel_rfl
theorem c9 : Try.prog.cellsOf 9 = 1 := by kernel_rfl
theorem c126 : Try.prog.cellsOf 126 = 7 := by kernel_rfl
theorem c22 : Try.prog.cellsOf 22 = 1 := by kernel_rfl
theorem c24 : Try.prog.cellsOf 24 = 2 := by kernel_rfl
theorem c99 : Try.prog.cellsOf 99 = 5 := by kernel_rfl
theorem c47 : Try.prog.cellsOf 47 = 1 := by kernel_rfl
section
variable {H : Type} {enc : TypeId × Value → H}
theorem o2 : Opens enc Try.prog 2 (V.int .i64) (fun x => -9223372036854775808 ≤ x ∧ x ≤ 9223372036854775807) := opens_i64 Try.underlying2
theorem o9 : Opens enc Try.prog 9 V.str (fun x => x.length ≤ 9223372036854775807) := opens_str Try.underlying9
theorem o126 : Opens enc Try.prog 126 gAirway.v (fun x => gAirway.ok x) := by
  intro W spare held n cs x hx
  obtain ⟨xs, n', _, _, hl, hxl, hf⟩ := DataW.trod_struct Try.underlying126 hx
  rw [c126] at hl
  obtain ⟨a0, h0, k0⟩ := opens_field (sz := 1) o9 c9 (by rw [hxl]; decide) (hf 0 _ rfl)
  obtain ⟨a1, h1, k1⟩ := opens_field (sz := 1) o2 c2 (by rw [hxl]; decide) (hf 1 _ rfl)
  obtain ⟨a2, h2, k2⟩ := opens_field (sz := 1) o2 c2 (by rw [hxl]; decide) (hf 2 _ rfl)
  obtain ⟨a3, h3, k3⟩ := opens_field (sz := 1) o2 c2 (by rw [hxl]; decide) (hf 3 _ rfl)
  obtain ⟨a4, h4, k4⟩ := opens_field (sz := 1) o2 c2 (by rw [hxl]; decide) (hf 4 _ rfl)
  obtain ⟨a5, h5, k5⟩ := opens_field (sz := 1) o2 c2 (by rw [hxl]; decide) (hf 5 _ rfl)
  obtain ⟨a6, h6, k6⟩ := opens_field (sz := 1) o2 c2 (by rw [hxl]; decide) (hf 6 _ rfl)
  exact ⟨gAirway.mk a0 a1 a2 a3 a4 a5 a6, all2_cut (o := 0) h0 (all2_cut h1 (all2_cut h2 (all2_cut h3 (all2_cut h4 (all2_cut h5 (all2_cut h6 (all2_end hl))))))), ⟨k0, k1, k2, k3, k4, k5, k6⟩⟩
theorem o22 : Opens enc Try.prog 22 (slv 7 gAirway.v) (fun x => x.length ≤ 9223372036854775807 ∧ ∀ y ∈ x, gAirway.ok y) := opens_slice Try.underlying22 c126 (fun _ => rfl) (by decide) o126
theorem o24 : Opens enc Try.prog 24 gMine.v (fun x => gMine.ok x) := by
  intro W spare held n cs x hx
  obtain ⟨xs, n', _, _, hl, hxl, hf⟩ := DataW.trod_struct Try.underlying24 hx
  rw [c24] at hl
  obtain ⟨a0, h0, k0⟩ := opens_field (sz := 1) o2 c2 (by rw [hxl]; decide) (hf 0 _ rfl)
  obtain ⟨a1, h1, k1⟩ := opens_field (sz := 1) o22 c22 (by rw [hxl]; decide) (hf 1 _ rfl)
  exact ⟨gMine.mk a0 a1, all2_cut (o := 0) h0 (all2_cut h1 (all2_end hl)), ⟨k0, k1⟩⟩
theorem o99 : Opens enc Try.prog 99 gPermit.v (fun x => gPermit.ok x) := by
  intro W spare held n cs x hx
  obtain ⟨xs, n', _, _, hl, hxl, hf⟩ := DataW.trod_struct Try.underlying99 hx
  rw [c99] at hl
  obtain ⟨a0, h0, k0⟩ := opens_field (sz := 1) o9 c9 (by rw [hxl]; decide) (hf 0 _ rfl)
  obtain ⟨a1, h1, k1⟩ := opens_field (sz := 1) o2 c2 (by rw [hxl]; decide) (hf 1 _ rfl)
  obtain ⟨a2, h2, k2⟩ := opens_field (sz := 1) o2 c2 (by rw [hxl]; decide) (hf 2 _ rfl)
  obtain ⟨a3, h3, k3⟩ := opens_field (sz := 1) o2 c2 (by rw [hxl]; decide) (hf 3 _ rfl)
  obtain ⟨a4, h4, k4⟩ := opens_field (sz := 1) o2 c2 (by rw [hxl]; decide) (hf 4 _ rfl)
  exact ⟨gPermit.mk a0 a1 a2 a3 a4, all2_cut (o := 0) h0 (all2_cut h1 (all2_cut h2 (all2_cut h3 (all2_cut h4 (all2_end hl))))), ⟨k0, k1, k2, k3, k4⟩⟩
theorem o47 : Opens enc Try.prog 47 (slv 5 gPermit.v) (fun x => x.length ≤ 9223372036854775807 ∧ ∀ y ∈ x, gPermit.ok y) := opens_slice Try.underlying47 c99 (fun _ => rfl) (by decide) o99
end
set_option maxRecDepth 100000 in
theorem lifted (os : Os) (started : os.Started) (H : Type) (enc : TypeId × Value → H) :
    ReturnsInHanded {} Try.checked os 5 .any (Rows.fnExactMostPermitsSpec.pre6 enc Try.prog Try.f5 Rows.fnExactMostPermitsRow.domain false) (Rows.fnExactMostPermitsSpec.post enc Try.prog Try.f5 false true false false) := by
  refine returnsInHanded_of_change (C := Try.checked) own started (by kernel_rfl) Try.func5
    (ChangeSpec.witness6 (enc := enc) (C := Try.checked) false ⟨#[], #[.agg #[.int .i64 0, .slice none 0 0], .slice none 0 0, .int .i64 0], []⟩ 8 (by kernel_rfl) (by kernel_rfl) (by kernel_rfl) (by kernel_rfl)) ?_
  intro W base args ds gs before hval0 hW hcnd _
  have hval : ∀ (j : Nat) t v, Try.f5.params[j]? = some t → args[j]? = some v → Value.okWide Try.prog W .any base t v := hval0
  have hW' := hW
  obtain ⟨p, q, hA0, hV, rfl, hfz, hnd⟩ := hW
  have hA : DataW.TrodAll enc Try.prog W 0 (fun _ => true) true Try.f5.params.toList args.toList ds p := hA0
  rw [Try.params5] at hA hval
  obtain ⟨v0, L0, d0, ds0, p0, q0, hL0, rfl, rfl, h0, hA0'⟩ := trodAll_c hA
  obtain ⟨v1, L1, d1, ds1, p1, q1, hL1, rfl, rfl, h1, hA1'⟩ := trodAll_c hA0'
  obtain ⟨v2, L2, d2, ds2, p2, q2, hL2, rfl, rfl, h2, hA2'⟩ := trodAll_c hA1'
  obtain ⟨hLn, rfl, rfl⟩ := trodAll_n hA2'
  subst hLn; subst hL2; subst hL1
  obtain rfl : args = #[v0, v1, v2] := Array.ext' hL0
  obtain ⟨rfl, rfl⟩ := trodVars_none hV
  obtain ⟨a0, r0, k0⟩ := opens_arg o24 h0
  obtain ⟨c0, e0, _⟩ := okWide_struct Try.underlying24 (hval 0 24 v0 rfl rfl)
  obtain ⟨a1, r1, k1⟩ := opens_arg o47 h1
  obtain ⟨s1, l1, m1, e1⟩ := okWide_slice Try.underlying47 (hval 1 47 v1 rfl rfl)
  obtain ⟨a2, r2, k2⟩ := opens_arg o2 h2
  obtain ⟨n2, e2⟩ := okWide_int Try.underlying2 (hval 2 2 v2 rfl rfl)
  have hcon := c_laws_FnExactMostPermits a0 a1 a2 k0 k1 k2 (cx0 W) [v0, v1, v2] (cx0_okP trivial) ⟨rep_st e0 r0, rep_one (by subst e1; rfl) rfl r1, rep_one (by subst e2; rfl) rfl r2, trivial⟩ (mem0 W)
  rw [law_FnExactMostPermits a0 a1 a2 k0 k1 k2] at hcon
  refine hcon.mono fun e W' ⟨x, κ', he, hr, hm⟩ => ?_
  subst he
  have hx : x = .bool true := repT_bool hr
  subst hx
  exact ⟨_, rfl, post_true laidOut Try.underlying4 rfl rfl (fun t ht => by rw [Try.params5] at ht; simp at ht; rcases ht with rfl | rfl | rfl <;> exact ⟨by kernel_rfl, of_decide_eq_true (by kernel_rfl)⟩) rfl hW' hm.ext.below⟩
theorem proved : Rows.FnExactMostPermitsSaid :=
  OpenClaim.holds_of_wide 5 Try.f5 rfl rfl rfl rfl rfl rfl rfl ⟨rfl, rfl, rfl, rfl, rfl⟩ rfl rfl rfl rfl rfl (by kernel_rfl) Try.func5 (by kernel_rfl)
    (of_decide_eq_true (by kernel_rfl)) (by unfold Func.isWrapper; first | (rw [if_pos (by decide +kernel)]; kernel_rfl) | (rw [if_neg (by decide +kernel)]; exact ⟨rfl, rfl⟩))
    (fun os started H enc _ => lifted os started H enc)
#print axioms proved

end Go.Proofs.Ytchjibndocnnhaa
