/-
  THE ROW: the statement FnExactRankCrewsSaid: whatever the input, the law returns true and each argument reads as it read before. Conditions: none.
-/
import Derived.Test.YtbflomopgofkgaaEngM
import Derived.Test.YtbflomopgofkgaaExactRankCrewsPlain15
import Derived.Test.YtbflomopgofkgaaExactRankCrewsWalks2
import Derived.Test.YtbflomopgofkgaaRows
set_option linter.unusedVariables false
set_option linter.unusedSimpArgs false
set_option linter.unusedSectionVars false
set_option linter.unnecessarySimpa false
namespace Go.Proofs.Ytbflomopgofkgaa
open Go Go.RowKit Go.Proofs Go.Proofs.Ytbflomopgofkgaa.E Go.WideShapes Go.ChangeShapes Go.ChangeAt Go.Deep
theorem own : ownKnob Try.prog.godebug = none := by kernel_rfl
theorem laidOut : laidOutB Try.prog = true := by kernel_rfl
theorem c2 : Try.prog.cellsOf 2 = 1 := by kernel_rfl
theorem c9 : Try.prog.cellsOf 9 = 1 := by kernel_rfl
theorem c81 : Try.prog.cellsOf 81 = 5 := by kernel_rfl
theorem c22 : Try.prog.cellsOf 22 = 1 := by kernel_rfl
section
variable {H : Type} {enc : TypeId × Value → H}
theorem o2 : Opens enc Try.prog 2 (V.int .i64) (fun x => -9223372036854775808 ≤ x ∧ x ≤ 9223372036854775807) := opens_i64 Try.underlying2
theorem o9 : Opens enc Try.prog 9 V.str (fun x => x.length ≤ 9223372036854775807) := opens_str Try.underlying9
theorem o81 : Opens enc Try.prog 81 gDrill.v (fun x => gDrill.ok x) := by
  intro W spare held n cs x hx
  obtain ⟨xs, n', _, _, hl, hxl, hf⟩ := DataW.trod_struct Try.underlying81 hx
  rw [c81] at hl
  obtain ⟨a0, h0, k0⟩ := opens_field (sz := 1) o2 c2 (by rw [hxl]; decide) (hf 0 _ rfl)
  obtain ⟨a1, h1, k1⟩ := opens_field (sz := 1) o9 c9 (by rw [hxl]; decide) (hf 1 _ rfl)
  obtain ⟨a2, h2, k2⟩ := opens_field (sz := 1) o2 c2 (by rw [hxl]; decide) (hf 2 _ rfl)
  obtain ⟨a3, h3, k3⟩ := opens_field (sz := 1) o2 c2 (by rw [hxl]; decide) (hf 3 _ rfl)
  obtain ⟨a4, h4, k4⟩ := opens_field (sz := 1) o2 c2 (by rw [hxl]; decide) (hf 4 _ rfl)
  exact ⟨gDrill.mk a0 a1 a2 a3 a4, all2_cut (o := 0) h0 (all2_cut h1 (all2_cut h2 (all2_cut h3 (all2_cut h4 (all2_end hl))))), ⟨k0, k1, k2, k3, k4⟩⟩
theorem o22 : Opens enc Try.prog 22 (slv 5 gDrill.v) (fun x => x.length ≤ 9223372036854775807 ∧ ∀ y ∈ x, gDrill.ok y) := opens_slice Try.underlying22 c81 (fun _ => rfl) (by decide) o81
end
set_option maxRecDepth 100000 in
theorem lifted (os : Os) (started : os.Started) (H : Type) (enc : TypeId × Value → H) :
    ReturnsInHanded {} Try.checked os 3 .any (Rows.fnExactRankCrewsSpec.pre6 enc Try.prog Try.f3 Rows.fnExactRankCrewsRow.domain false) (Rows.fnExactRankCrewsSpec.post enc Try.prog Try.f3 false true false false) := by
  refine returnsInHanded_of_change (C := Try.checked) own started (by kernel_rfl) Try.func3
    (ChangeSpec.witness6 (enc := enc) (C := Try.checked) false ⟨#[], #[.slice none 0 0], []⟩ 8 (by kernel_rfl) (by kernel_rfl) (by kernel_rfl) (by kernel_rfl)) ?_
  intro W base args ds gs before hval0 hW hcnd _
  have hval : ∀ (j : Nat) t v, Try.f3.params[j]? = some t → args[j]? = some v → Value.okWide Try.prog W .any base t v := hval0
  have hW' := hW
  obtain ⟨p, q, hA0, hV, rfl, hfz, hnd⟩ := hW
  have hA : DataW.TrodAll enc Try.prog W 0 (fun _ => true) true Try.f3.params.toList args.toList ds p := hA0
  rw [Try.params3] at hA hval
  obtain ⟨v0, L0, d0, ds0, p0, q0, hL0, rfl, rfl, h0, hA0'⟩ := trodAll_c hA
  obtain ⟨hLn, rfl, rfl⟩ := trodAll_n hA0'
  subst hLn
  obtain rfl : args = #[v0] := Array.ext' hL0
  obtain ⟨rfl, rfl⟩ := trodVars_none hV
  obtain ⟨a0, r0, k0⟩ := opens_arg o22 h0
  obtain ⟨s0, l0, m0, e0⟩ := okWide_slice Try.underlying22 (hval 0 22 v0 rfl rfl)
  have hcon := c_laws_FnExactRankCrews a0 k0 (cx0 W) [v0] (cx0_okP trivial) ⟨rep_one (by subst e0; rfl) rfl r0, trivial⟩ (mem0 W)
  rw [law_FnExactRankCrews a0 k0] at hcon
  refine hcon.mono fun e W' ⟨x, κ', he, hr, hm⟩ => ?_
  subst he
  have hx : x = .bool true := repT_bool hr
  subst hx
  exact ⟨_, rfl, post_true laidOut Try.underlying4 rfl rfl (fun t ht => by rw [Try.params3] at ht; simp at ht; rcases ht with rfl <;> exact ⟨by kernel_rfl, of_decide_eq_true (by kernel_rfl)⟩) rfl hW' hm.ext.below⟩
theorem proved : Rows.FnExactRankCrewsSaid :=
  OpenClaim.holds_of_wide 3 Try.f3 rfl rfl rfl rfl rfl rfl rfl ⟨rfl, rfl, rfl, rfl, rfl⟩ rfl rfl rfl rfl rfl (by kernel_rfl) Try.func3 (by kernel_rfl)
    (of_decide_eq_true (by kernel_rfl)) (by unfold Func.isWrapper; first | (rw [if_pos (by decide +kernel)]; kernel_rfl) | (rw [if_neg (by decide +kernel)]; exact ⟨rfl, rfl⟩))
    (fun os started H enc _ => lifted os started H enc)
#print axioms proved

end Go.Proofs.Ytbflomopgofkgaa
