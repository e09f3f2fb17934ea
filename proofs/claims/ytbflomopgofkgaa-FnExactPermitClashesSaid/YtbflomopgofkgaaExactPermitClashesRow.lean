/-
  THE ROW: the statement FnExactPermitClashesSaid: whatever the input, the law returns true and each argument reads as it read before. Conditions: none.
-/
import Derived.Test.YtbflomopgofkgaaEngM
import Derived.Test.YtbflomopgofkgaaExactPermitClashesPlain9
import Derived.Test.YtbflomopgofkgaaExactPermitClashesWalks2
import Derived.Test.YtbflomopgofkgaaRows
set_option linter.unusedVariables false
set_option linter.unusedSimpArgs false
set_option linter.unusedSectionVars false
set_option linter.unnecessarySimpa false
namespace Go.Proofs.Ytbflomopgofkgaa
open Go Go.RowKit Go.Proofs Go.Proofs.Ytbflomopgofkgaa.E Go.WideShapes Go.ChangeShapes Go.ChangeAt Go.Deep
theorem own : ownKnob Try.prog.godebug = none := by kernel_rfl
theorem laidOut : laidOutB Try.prog = true := by kernel_rfl
theorem c2 : Try.prog.cellsOf 2 = 1 := by kernel_rfl
theorem c9 : Try.prog.cellsOf 9 = 1 := by kernel_rfl
theorem c156 : Try.prog.cellsOf 156 = 7 := by kernel_rfl
theorem c34 : Try.prog.cellsOf 34 = 1 := by kernel_rfl
theorem c36 : Try.prog.cellsOf 36 = 2 := by kernel_rfl
theorem c39 : Try.prog.cellsOf 39 = 5 := by kernel_rfl
theorem c37 : Try.prog.cellsOf 37 = 1 := by kernel_rfl
section
variable {H : Type} {enc : TypeId × Value → H}
theorem o2 : Opens enc Try.prog 2 (V.int .i64) (fun x => -9223372036854775808 ≤ x ∧ x ≤ 9223372036854775807) := opens_i64 Try.underlying2
theorem o9 : Opens enc Try.prog 9 V.str (fun x => x.length ≤ 9223372036854775807) := opens_str Try.underlying9
theorem o156 : Opens enc Try.prog 156 gAirway.v (fun x => gAirway.ok x) := by
  intro W spare held n cs x hx
  obtain ⟨xs, n', _, _, hl, hxl, hf⟩ := DataW.trod_struct Try.underlying156 hx
  rw [c156] at hl
  obtain ⟨a0, h0, k0⟩ := opens_field (sz := 1) o9 c9 (by rw [hxl]; decide) (hf 0 _ rfl)
  obtain ⟨a1, h1, k1⟩ := opens_field (sz := 1) o2 c2 (by rw [hxl]; decide) (hf 1 _ rfl)
  obtain ⟨a2, h2, k2⟩ := opens_field (sz := 1) o2 c2 (by rw [hxl]; decide) (hf 2 _ rfl)
  obtain ⟨a3, h3, k3⟩ := opens_field (sz := 1) o2 c2 (by rw [hxl]; decide) (hf 3 _ rfl)
  obtain ⟨a4, h4, k4⟩ := opens_field (sz := 1) o2 c2 (by rw [hxl]; decide) (hf 4 _ rfl)
  obtain ⟨a5, h5, k5⟩ := opens_field (sz := 1) o2 c2 (by rw [hxl]; decide) (hf 5 _ rfl)
  obtain ⟨a6, h6, k6⟩ := opens_field (sz := 1) o2 c2 (by rw [hxl]; decide) (hf 6 _ rfl)
  exact ⟨gAirway.mk a0 a1 a2 a3 a4 a5 a6, all2_cut (o := 0) h0 (all2_cut h1 (all2_cut h2 (all2_cut h3 (all2_cut h4 (all2_cut h5 (all2_cut h6 (all2_end hl))))))), ⟨k0, k1, k2, k3, k4, k5, k6⟩⟩
theorem o34 : Opens enc Try.prog 34 (slv 7 gAirway.v) (fun x => x.length ≤ 9223372036854775807 ∧ ∀ y ∈ x, gAirway.ok y) := opens_slice Try.underlying34 c156 (fun _ => rfl) (by decide) o156
theorem o36 : Opens enc Try.prog 36 gMine.v (fun x => gMine.ok x) := by
  intro W spare held n cs x hx
  obtain ⟨xs, n', _, _, hl, hxl, hf⟩ := DataW.trod_struct Try.underlying36 hx
  rw [c36] at hl
  obtain ⟨a0, h0, k0⟩ := opens_field (sz := 1) o2 c2 (by rw [hxl]; decide) (hf 0 _ rfl)
  obtain ⟨a1, h1, k1⟩ := opens_field (sz := 1) o34 c34 (by rw [hxl]; decide) (hf 1 _ rfl)
  exact ⟨gMine.mk a0 a1, all2_cut (o := 0) h0 (all2_cut h1 (all2_end hl)), ⟨k0, k1⟩⟩
theorem o39 : Opens enc Try.prog 39 gPermit.v (fun x => gPermit.ok x) := by
  intro W spare held n cs x hx
  obtain ⟨xs, n', _, _, hl, hxl, hf⟩ := DataW.trod_struct Try.underlying39 hx
  rw [c39] at hl
  obtain ⟨a0, h0, k0⟩ := opens_field (sz := 1) o9 c9 (by rw [hxl]; decide) (hf 0 _ rfl)
  obtain ⟨a1, h1, k1⟩ := opens_field (sz := 1) o2 c2 (by rw [hxl]; decide) (hf 1 _ rfl)
  obtain ⟨a2, h2, k2⟩ := opens_field (sz := 1) o2 c2 (by rw [hxl]; decide) (hf 2 _ rfl)
  obtain ⟨a3, h3, k3⟩ := opens_field (sz := 1) o2 c2 (by rw [hxl]; decide) (hf 3 _ rfl)
  obtain ⟨a4, h4, k4⟩ := opens_field (sz := 1) o2 c2 (by rw [hxl]; decide) (hf 4 _ rfl)
  exact ⟨gPermit.mk a0 a1 a2 a3 a4, all2_cut (o := 0) h0 (all2_cut h1 (all2_cut h2 (all2_cut h3 (all2_cut h4 (all2_end hl))))), ⟨k0, k1, k2, k3, k4⟩⟩
theorem o37 : Opens enc Try.prog 37 (slv 5 gPermit.v) (fun x => x.length ≤ 9223372036854775807 ∧ ∀ y ∈ x, gPermit.ok y) := opens_slice Try.underlying37 c39 (fun _ => rfl) (by decide) o39
end
set_option maxRecDepth 100000 in
theorem lifted (os : Os) (started : os.Started) (H : Type) (enc : TypeId × Value → H) :
    ReturnsInHanded {} Try.checked os 6 .any (Rows.fnExactPermitClashesSpec.pre6 enc Try.prog Try.f6 Rows.fnExactPermitClashesRow.domain false) (Rows.fnExactPermitClashesSpec.post enc Try.prog Try.f6 false true false false) := by
  refine returnsInHanded_of_change (C := Try.checked) own started (by kernel_rfl) Try.func6
    (ChangeSpec.witness6 (enc := enc) (C := Try.checked) false ⟨#[], #[.agg #[.int .i64 0, .slice none 0 0], .slice none 0 0], []⟩ 8 (by kernel_rfl) (by kernel_rfl) (by kernel_rfl) (by kernel_rfl)) ?_
  intro W base args ds gs before hval0 hW hcnd _
  have hval : ∀ (j : Nat) t v, Try.f6.params[j]? = some t → args[j]? = some v → Value.okWide Try.prog W .any base t v := hval0
  have hW' := hW
  obtain ⟨p, q, hA0, hV, rfl, hfz, hnd⟩ := hW
  have hA : DataW.TrodAll enc Try.prog W 0 (fun _ => true) true Try.f6.params.toList args.toList ds p := hA0
  rw [Try.params6] at hA hval
  obtain ⟨v0, L0, d0, ds0, p0, q0, hL0, rfl, rfl, h0, hA0'⟩ := trodAll_c hA
  obtain ⟨v1, L1, d1, ds1, p1, q1, hL1, rfl, rfl, h1, hA1'⟩ := trodAll_c hA0'
  obtain ⟨hLn, rfl, rfl⟩ := trodAll_n hA1'
  subst hLn; subst hL1
  obtain rfl : args = #[v0, v1] := Array.ext' hL0
  obtain ⟨rfl, rfl⟩ := trodVars_none hV
  obtain ⟨a0, r0, k0⟩ := opens_arg o36 h0
  obtain ⟨c0, e0, _⟩ := okWide_struct Try.underlying36 (hval 0 36 v0 rfl rfl)
  obtain ⟨a1, r1, k1⟩ := opens_arg o37 h1
  obtain ⟨s1, l1, m1, e1⟩ := okWide_slice Try.underlying37 (hval 1 37 v1 rfl rfl)
  have hcon := c_laws_FnExactPermitClashes a0 a1 k0 k1 (cx0 W) [v0, v1] (cx0_okP trivial) ⟨rep_st e0 r0, rep_one (by subst e1; rfl) rfl r1, trivial⟩ (mem0 W)
  rw [law_FnExactPermitClashes a0 a1 k0 k1] at hcon
  refine hcon.mono fun e W' ⟨x, κ', he, hr, hm⟩ => ?_
  subst he
  have hx : x = .bool true := repT_bool hr
  subst hx
  exact ⟨_, rfl, post_true laidOut Try.underlying4 rfl rfl (fun t ht => by rw [Try.params6] at ht; simp at ht; rcases ht with rfl | rfl <;> exact ⟨by kernel_rfl, of_decide_eq_true (by kernel_rfl)⟩) rfl hW' hm.ext.below⟩
theorem proved : Rows.FnExactPermitClashesSaid :=
  OpenClaim.holds_of_wide 6 Try.f6 rfl rfl rfl rfl rfl rfl rfl ⟨rfl, rfl, rfl, rfl, rfl⟩ rfl rfl rfl rfl rfl (by kernel_rfl) Try.func6 (by kernel_rfl)
    (of_decide_eq_true (by kernel_rfl)) (by unfold Func.isWrapper; first | (rw [if_pos (by decide +kernel)]; kernel_rfl) | (rw [if_neg (by decide +kernel)]; exact ⟨rfl, rfl⟩))
    (fun os started H enc _ => lifted os started H enc)
#print axioms proved

end Go.Proofs.Ytbflomopgofkgaa
