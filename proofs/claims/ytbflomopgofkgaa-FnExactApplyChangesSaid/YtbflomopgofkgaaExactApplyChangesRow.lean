/-
  THE ROW: the statement FnExactApplyChangesSaid: whatever the input, the law returns true and each argument reads as it read before. Conditions: none.
-/
import Derived.Test.YtbflomopgofkgaaEngM
import Derived.Test.YtbflomopgofkgaaExactApplyChangesPlain11
import Derived.Test.YtbflomopgofkgaaExactApplyChangesWalks2
import Derived.Test.YtbflomopgofkgaaRows
set_option linter.unusedVariables false
set_option linter.unusedSimpArgs false
set_option linter.unusedSectionVars false
set_option linter.unnecessarySimpa false
namespace Go.Proofs.Ytbflomopgofkgaa
open Go Go.RowKit Go.Proofs Go.Proofs.Ytbflomopgofkgaa.E Go.WideShapes Go.ChangeShapes Go.ChangeAt Go.Deep
theorem own : ownKnob Try.prog.godebug = none := by kernel_rfl
theorem laidOut : laidOutB Try.prog = true := by kernel_rfl
theorem c9 : Try.prog.cellsOf 9 = 1 := by kernel_rfl
theorem c2 : Try.prog.cellsOf 2 = 1 := by kernel_rfl
theorem c115 : Try.prog.cellsOf 115 = 2 := by kernel_rfl
theorem c58 : Try.prog.cellsOf 58 = 1 := by kernel_rfl
theorem c118 : Try.prog.cellsOf 118 = 3 := by kernel_rfl
theorem c59 : Try.prog.cellsOf 59 = 1 := by kernel_rfl
section
variable {H : Type} {enc : TypeId × Value → H}
theorem o9 : Opens enc Try.prog 9 V.str (fun x => x.length ≤ 9223372036854775807) := opens_str Try.underlying9
theorem o2 : Opens enc Try.prog 2 (V.int .i64) (fun x => -9223372036854775808 ≤ x ∧ x ≤ 9223372036854775807) := opens_i64 Try.underlying2
theorem o115 : Opens enc Try.prog 115 gSetting.v (fun x => gSetting.ok x) := by
  intro W spare held n cs x hx
  obtain ⟨xs, n', _, _, hl, hxl, hf⟩ := DataW.trod_struct Try.underlying115 hx
  rw [c115] at hl
  obtain ⟨a0, h0, k0⟩ := opens_field (sz := 1) o9 c9 (by rw [hxl]; decide) (hf 0 _ rfl)
  obtain ⟨a1, h1, k1⟩ := opens_field (sz := 1) o2 c2 (by rw [hxl]; decide) (hf 1 _ rfl)
  exact ⟨gSetting.mk a0 a1, all2_cut (o := 0) h0 (all2_cut h1 (all2_end hl)), ⟨k0, k1⟩⟩
theorem o58 : Opens enc Try.prog 58 (slv 2 gSetting.v) (fun x => x.length ≤ 9223372036854775807 ∧ ∀ y ∈ x, gSetting.ok y) := opens_slice Try.underlying58 c115 (fun _ => rfl) (by decide) o115
theorem o118 : Opens enc Try.prog 118 gChange.v (fun x => gChange.ok x) := by
  intro W spare held n cs x hx
  obtain ⟨xs, n', _, _, hl, hxl, hf⟩ := DataW.trod_struct Try.underlying118 hx
  rw [c118] at hl
  obtain ⟨a0, h0, k0⟩ := opens_field (sz := 1) o2 c2 (by rw [hxl]; decide) (hf 0 _ rfl)
  obtain ⟨a1, h1, k1⟩ := opens_field (sz := 2) o115 c115 (by rw [hxl]; decide) (hf 1 _ rfl)
  exact ⟨gChange.mk a0 a1, all2_cut (o := 0) h0 (all2_cut h1 (all2_end hl)), ⟨k0, k1⟩⟩
theorem o59 : Opens enc Try.prog 59 (slv 3 gChange.v) (fun x => x.length ≤ 9223372036854775807 ∧ ∀ y ∈ x, gChange.ok y) := opens_slice Try.underlying59 c118 (fun _ => rfl) (by decide) o118
end
set_option maxRecDepth 100000 in
theorem lifted (os : Os) (started : os.Started) (H : Type) (enc : TypeId × Value → H) :
    ReturnsInHanded {} Try.checked os 5 .any (Rows.fnExactApplyChangesSpec.pre6 enc Try.prog Try.f5 Rows.fnExactApplyChangesRow.domain false) (Rows.fnExactApplyChangesSpec.post enc Try.prog Try.f5 false true false false) := by
  refine returnsInHanded_of_change (C := Try.checked) own started (by kernel_rfl) Try.func5
    (ChangeSpec.witness6 (enc := enc) (C := Try.checked) false ⟨#[], #[.slice none 0 0, .slice none 0 0], []⟩ 8 (by kernel_rfl) (by kernel_rfl) (by kernel_rfl) (by kernel_rfl)) ?_
  intro W base args ds gs before hval0 hW hcnd _
  have hval : ∀ (j : Nat) t v, Try.f5.params[j]? = some t → args[j]? = some v → Value.okWide Try.prog W .any base t v := hval0
  have hW' := hW
  obtain ⟨p, q, hA0, hV, rfl, hfz, hnd⟩ := hW
  have hA : DataW.TrodAll enc Try.prog W 0 (fun _ => true) true Try.f5.params.toList args.toList ds p := hA0
  rw [Try.params5] at hA hval
  obtain ⟨v0, L0, d0, ds0, p0, q0, hL0, rfl, rfl, h0, hA0'⟩ := trodAll_c hA
  obtain ⟨v1, L1, d1, ds1, p1, q1, hL1, rfl, rfl, h1, hA1'⟩ := trodAll_c hA0'
  obtain ⟨hLn, rfl, rfl⟩ := trodAll_n hA1'
  subst hLn; subst hL1
  obtain rfl : args = #[v0, v1] := Array.ext' hL0
  obtain ⟨rfl, rfl⟩ := trodVars_none hV
  obtain ⟨a0, r0, k0⟩ := opens_arg o58 h0
  obtain ⟨s0, l0, m0, e0⟩ := okWide_slice Try.underlying58 (hval 0 58 v0 rfl rfl)
  obtain ⟨a1, r1, k1⟩ := opens_arg o59 h1
  obtain ⟨s1, l1, m1, e1⟩ := okWide_slice Try.underlying59 (hval 1 59 v1 rfl rfl)
  have hcon := c_laws_FnExactApplyChanges a0 a1 k0 k1 (cx0 W) [v0, v1] (cx0_okP trivial) ⟨rep_one (by subst e0; rfl) rfl r0, rep_one (by subst e1; rfl) rfl r1, trivial⟩ (mem0 W)
  rw [law_FnExactApplyChanges a0 a1 k0 k1] at hcon
  refine hcon.mono fun e W' ⟨x, κ', he, hr, hm⟩ => ?_
  subst he
  have hx : x = .bool true := repT_bool hr
  subst hx
  exact ⟨_, rfl, post_true laidOut Try.underlying4 rfl rfl (fun t ht => by rw [Try.params5] at ht; simp at ht; rcases ht with rfl | rfl <;> exact ⟨by kernel_rfl, of_decide_eq_true (by kernel_rfl)⟩) rfl hW' hm.ext.below⟩
theorem proved : Rows.FnExactApplyChangesSaid :=
  OpenClaim.holds_of_wide 5 Try.f5 rfl rfl rfl rfl rfl rfl rfl ⟨rfl, rfl, rfl, rfl, rfl⟩ rfl rfl rfl rfl rfl (by kernel_rfl) Try.func5 (by kernel_rfl)
    (of_decide_eq_true (by kernel_rfl)) (by unfold Func.isWrapper; first | (rw [if_pos (by decide +kernel)]; kernel_rfl) | (rw [if_neg (by decide +kernel)]; exact ⟨rfl, rfl⟩))
    (fun os started H enc _ => lifted os started H enc)
#print axioms proved

end Go.Proofs.Ytbflomopgofkgaa
