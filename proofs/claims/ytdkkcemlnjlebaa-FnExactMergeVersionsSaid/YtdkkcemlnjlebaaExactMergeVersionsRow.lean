/-
  THE ROW: the statement FnExactMergeVersionsSaid: whatever the input, the law returns true and each argument reads as it read before. Conditions: none.
-/
import Derived.Test.YtdkkcemlnjlebaaEngM
import Derived.Test.YtdkkcemlnjlebaaExactMergeVersionsPlain6
import Derived.Test.YtdkkcemlnjlebaaExactMergeVersionsWalks3
import Derived.Test.YtdkkcemlnjlebaaRows
set_option linter.unusedVariables false
set_option linter.unusedSimpArgs false
set_option linter.unusedSectionVars false
set_option linter.unnecessarySimpa false
namespace Go.Proofs.Ytdkkcemlnjlebaa
open Go Go.RowKit Go.Proofs Go.Proofs.Ytdkkcemlnjlebaa.E Go.WideShapes Go.ChangeShapes Go.ChangeAt Go.Deep
theorem own : ownKnob Try.prog.godebug = none := by kernel_rfl
theorem laidOut : laidOutB Try.prog = true := by kernel_rfl
theorem c2 : Try.prog.cellsOf 2 = 1 := by kernel_rfl
theorem c9 : Try.prog.cellsOf 9 = 1 := by kernel_rfl
theorem c74 : Try.prog.cellsOf 74 = 2 := by kernel_rfl
theorem c32 : Try.prog.cellsOf 32 = 1 := by kernel_rfl
theorem c34 : Try.prog.cellsOf 34 = 4 := by kernel_rfl
theorem c22 : Try.prog.cellsOf 22 = 1 := by kernel_rfl
section
variable {H : Type} {enc : TypeId × Value → H}
theorem o2 : Opens enc Try.prog 2 (V.int .i64) (fun x => -9223372036854775808 ≤ x ∧ x ≤ 9223372036854775807) := opens_i64 Try.underlying2
theorem o9 : Opens enc Try.prog 9 V.str (fun x => x.length ≤ 9223372036854775807) := opens_str Try.underlying9
theorem o74 : Opens enc Try.prog 74 gSetting.v (fun x => gSetting.ok x) := by
  intro W spare held n cs x hx
  obtain ⟨xs, n', _, _, hl, hxl, hf⟩ := DataW.trod_struct Try.underlying74 hx
  rw [c74] at hl
  obtain ⟨a0, h0, k0⟩ := opens_field (sz := 1) o9 c9 (by rw [hxl]; decide) (hf 0 _ rfl)
  obtain ⟨a1, h1, k1⟩ := opens_field (sz := 1) o2 c2 (by rw [hxl]; decide) (hf 1 _ rfl)
  exact ⟨gSetting.mk a0 a1, all2_cut (o := 0) h0 (all2_cut h1 (all2_end hl)), ⟨k0, k1⟩⟩
theorem o32 : Opens enc Try.prog 32 (slv 2 gSetting.v) (fun x => x.length ≤ 9223372036854775807 ∧ ∀ y ∈ x, gSetting.ok y) := opens_slice Try.underlying32 c74 (fun _ => rfl) (by decide) o74
theorem o34 : Opens enc Try.prog 34 gVersion.v (fun x => gVersion.ok x) := by
  intro W spare held n cs x hx
  obtain ⟨xs, n', _, _, hl, hxl, hf⟩ := DataW.trod_struct Try.underlying34 hx
  rw [c34] at hl
  obtain ⟨a0, h0, k0⟩ := opens_field (sz := 1) o2 c2 (by rw [hxl]; decide) (hf 0 _ rfl)
  obtain ⟨a1, h1, k1⟩ := opens_field (sz := 1) o2 c2 (by rw [hxl]; decide) (hf 1 _ rfl)
  obtain ⟨a2, h2, k2⟩ := opens_field (sz := 1) o9 c9 (by rw [hxl]; decide) (hf 2 _ rfl)
  obtain ⟨a3, h3, k3⟩ := opens_field (sz := 1) o32 c32 (by rw [hxl]; decide) (hf 3 _ rfl)
  exact ⟨gVersion.mk a0 a1 a2 a3, all2_cut (o := 0) h0 (all2_cut h1 (all2_cut h2 (all2_cut h3 (all2_end hl)))), ⟨k0, k1, k2, k3⟩⟩
theorem o22 : Opens enc Try.prog 22 (slv 4 gVersion.v) (fun x => x.length ≤ 9223372036854775807 ∧ ∀ y ∈ x, gVersion.ok y) := opens_slice Try.underlying22 c34 (fun _ => rfl) (by decide) o34
end
set_option maxRecDepth 100000 in
theorem lifted (os : Os) (started : os.Started) (H : Type) (enc : TypeId × Value → H) :
    ReturnsInHanded {} Try.checked os 3 .any (Rows.fnExactMergeVersionsSpec.pre6 enc Try.prog Try.f3 Rows.fnExactMergeVersionsRow.domain false) (Rows.fnExactMergeVersionsSpec.post enc Try.prog Try.f3 false true false false) := by
  refine returnsInHanded_of_change (C := Try.checked) own started (by kernel_rfl) Try.func3
    (ChangeSpec.witness6 (enc := enc) (C := Try.checked) false ⟨#[], #[.slice none 0 0, .int .i64 0, .int .i64 0, .string ByteArray.empty], []⟩ 8 (by kernel_rfl) (by kernel_rfl) (by kernel_rfl) (by kernel_rfl)) ?_
  intro W base args ds gs before hval0 hW hcnd _
  have hval : ∀ (j : Nat) t v, Try.f3.params[j]? = some t → args[j]? = some v → Value.okWide Try.prog W .any base t v := hval0
  have hW' := hW
  obtain ⟨p, q, hA0, hV, rfl, hfz, hnd⟩ := hW
  have hA : DataW.TrodAll enc Try.prog W 0 (fun _ => true) true Try.f3.params.toList args.toList ds p := hA0
  rw [Try.params3] at hA hval
  obtain ⟨v0, L0, d0, ds0, p0, q0, hL0, rfl, rfl, h0, hA0'⟩ := trodAll_c hA
  obtain ⟨v1, L1, d1, ds1, p1, q1, hL1, rfl, rfl, h1, hA1'⟩ := trodAll_c hA0'
  obtain ⟨v2, L2, d2, ds2, p2, q2, hL2, rfl, rfl, h2, hA2'⟩ := trodAll_c hA1'
  obtain ⟨v3, L3, d3, ds3, p3, q3, hL3, rfl, rfl, h3, hA3'⟩ := trodAll_c hA2'
  obtain ⟨hLn, rfl, rfl⟩ := trodAll_n hA3'
  subst hLn; subst hL3; subst hL2; subst hL1
  obtain rfl : args = #[v0, v1, v2, v3] := Array.ext' hL0
  obtain ⟨rfl, rfl⟩ := trodVars_none hV
  obtain ⟨a0, r0, k0⟩ := opens_arg o22 h0
  obtain ⟨s0, l0, m0, e0⟩ := okWide_slice Try.underlying22 (hval 0 22 v0 rfl rfl)
  obtain ⟨a1, r1, k1⟩ := opens_arg o2 h1
  obtain ⟨n1, e1⟩ := okWide_int Try.underlying2 (hval 1 2 v1 rfl rfl)
  obtain ⟨a2, r2, k2⟩ := opens_arg o2 h2
  obtain ⟨n2, e2⟩ := okWide_int Try.underlying2 (hval 2 2 v2 rfl rfl)
  obtain ⟨a3, r3, k3⟩ := opens_arg o9 h3
  obtain ⟨n3, e3⟩ := okWide_string Try.underlying9 (hval 3 9 v3 rfl rfl)
  have hcon := c_laws_FnExactMergeVersions a0 a1 a2 a3 k0 k1 k2 k3 (cx0 W) [v0, v1, v2, v3] (cx0_okP trivial) ⟨rep_one (by subst e0; rfl) rfl r0, rep_one (by subst e1; rfl) rfl r1, rep_one (by subst e2; rfl) rfl r2, rep_one (by subst e3; rfl) rfl r3, trivial⟩ (mem0 W)
  rw [law_FnExactMergeVersions a0 a1 a2 a3 k0 k1 k2 k3] at hcon
  refine hcon.mono fun e W' ⟨x, κ', he, hr, hm⟩ => ?_
  subst he
  have hx : x = .bool true := repT_bool hr
  subst hx
  exact ⟨_, rfl, post_true laidOut Try.underlying4 rfl rfl (fun t ht => by rw [Try.params3] at ht; simp at ht; rcases ht with rfl | rfl | rfl | rfl <;> exact ⟨by kernel_rfl, of_decide_eq_true (by kernel_rfl)⟩) rfl hW' hm.ext.below⟩
theorem proved : Rows.FnExactMergeVersionsSaid :=
  OpenClaim.holds_of_wide 3 Try.f3 rfl rfl rfl rfl rfl rfl rfl ⟨rfl, rfl, rfl, rfl, rfl⟩ rfl rfl rfl rfl rfl (by kernel_rfl) Try.func3 (by kernel_rfl)
    (of_decide_eq_true (by kernel_rfl)) (by unfold Func.isWrapper; first | (rw [if_pos (by decide +kernel)]; kernel_rfl) | (rw [if_neg (by decide +kernel)]; exact ⟨rfl, rfl⟩))
    (fun os started H enc _ => lifted os started H enc)
#print axioms proved

end Go.Proofs.Ytdkkcemlnjlebaa
