/-
  THE ROW: the statement FnExactUndoVersionSaid: whatever the input, the law returns true and each argument reads as it read before. Conditions: none.
-/
import Derived.Test.YtdkkcemlnjlebaaDoorEngM
import Derived.Test.YtdkkcemlnjlebaaDoorExactUndoVersionPlain6
import Derived.Test.YtdkkcemlnjlebaaDoorExactUndoVersionWalks2
import Derived.Test.YtdkkcemlnjlebaaDoorRows
import Derived.Test.YtdkkcemlnjlebaaDoorTie
import Derived.Test.YtdkkcemlnjlebaaDoorCards
import Derived.LaidMore
import Derived.Stop.Joined
import Derived.SevenTiedAt
import Derived.Lib.LaidTab
import Derived.HandedShaped
import Derived.Lay
set_option linter.unusedVariables false
set_option linter.unusedSimpArgs false
set_option linter.unusedSectionVars false
set_option linter.unnecessarySimpa false
namespace Go.Proofs.YtdkkcemlnjlebaaDoor
open Go Go.RowKit Go.Proofs Go.Proofs.YtdkkcemlnjlebaaDoor.E Go.WideShapes Go.ChangeShapes Go.ChangeAt Go.Deep
theorem own : ownKnob Tryd.prog.godebug = none := by kernel_rfl
theorem laidOut : laidOutB Tryd.prog = true := by kernel_rfl
theorem c2 : Tryd.prog.cellsOf 2 = 1 := by kernel_rfl
theorem c9 : Tryd.prog.cellsOf 9 = 1 := by kernel_rfl
theorem c116 : Tryd.prog.cellsOf 116 = 2 := by kernel_rfl
theorem c57 : Tryd.prog.cellsOf 57 = 1 := by kernel_rfl
theorem c59 : Tryd.prog.cellsOf 59 = 4 := by kernel_rfl
theorem c22 : Tryd.prog.cellsOf 22 = 1 := by kernel_rfl
section
variable {H : Type} {enc : TypeId × Value → H}
theorem o2 : Opens enc Tryd.prog 2 (V.int .i64) (fun x => -9223372036854775808 ≤ x ∧ x ≤ 9223372036854775807) := opens_i64 Tryd.underlying2
theorem o9 : Opens enc Tryd.prog 9 V.str (fun x => x.length ≤ 9223372036854775807) := opens_str Tryd.underlying9
theorem o116 : Opens enc Tryd.prog 116 gSetting.v (fun x => gSetting.ok x) := by
  intro W spare held n cs x hx
  obtain ⟨xs, n', _, _, hl, hxl, hf⟩ := DataW.trod_struct Tryd.underlying116 hx
  rw [c116] at hl
  obtain ⟨a0, h0, k0⟩ := opens_field (sz := 1) o9 c9 (by rw [hxl]; decide) (hf 0 _ rfl)
  obtain ⟨a1, h1, k1⟩ := opens_field (sz := 1) o2 c2 (by rw [hxl]; decide) (hf 1 _ rfl)
  exact ⟨gSetting.mk a0 a1, all2_cut (o := 0) h0 (all2_cut h1 (all2_end hl)), ⟨k0, k1⟩⟩
theorem o57 : Opens enc Tryd.prog 57 (slv 2 gSetting.v) (fun x => x.length ≤ 9223372036854775807 ∧ ∀ y ∈ x, gSetting.ok y) := opens_slice Tryd.underlying57 c116 (fun _ => rfl) (by decide) o116
theorem o59 : Opens enc Tryd.prog 59 gVersion.v (fun x => gVersion.ok x) := by
  intro W spare held n cs x hx
  obtain ⟨xs, n', _, _, hl, hxl, hf⟩ := DataW.trod_struct Tryd.underlying59 hx
  rw [c59] at hl
  obtain ⟨a0, h0, k0⟩ := opens_field (sz := 1) o2 c2 (by rw [hxl]; decide) (hf 0 _ rfl)
  obtain ⟨a1, h1, k1⟩ := opens_field (sz := 1) o2 c2 (by rw [hxl]; decide) (hf 1 _ rfl)
  obtain ⟨a2, h2, k2⟩ := opens_field (sz := 1) o9 c9 (by rw [hxl]; decide) (hf 2 _ rfl)
  obtain ⟨a3, h3, k3⟩ := opens_field (sz := 1) o57 c57 (by rw [hxl]; decide) (hf 3 _ rfl)
  exact ⟨gVersion.mk a0 a1 a2 a3, all2_cut (o := 0) h0 (all2_cut h1 (all2_cut h2 (all2_cut h3 (all2_end hl)))), ⟨k0, k1, k2, k3⟩⟩
theorem o22 : Opens enc Tryd.prog 22 (slv 4 gVersion.v) (fun x => x.length ≤ 9223372036854775807 ∧ ∀ y ∈ x, gVersion.ok y) := opens_slice Tryd.underlying22 c59 (fun _ => rfl) (by decide) o59
end
theorem door_met (os : Os) (args : Array Value) : laidMetH Tryd.prog Rows.fnExactUndoVersionRow.laid ((World.doorLaid Tryd.prog 24 os).forCall (fun _ _ => 0) ⟨#[], args, []⟩).memory :=
  laidMetH_of_parts3 (fuel := 8) (laidMet_of_run' 8 (by kernel_rfl) (by kernel_rfl)) (by kernel_rfl) (by kernel_rfl)
theorem given_of {W : World} (h : laidMetH Tryd.prog Rows.fnExactUndoVersionRow.laid W) : Given Tryd.prog W := by
  rw [MakeChecks.laidMetH_plain _ _ _ (by kernel_rfl)] at h
  obtain ⟨ps, ⟨g0, t0, cs0, f0, p0, q0, hg0, ht0, hv0, hd0, ⟨g1, t1, cs1, f1, p1, q1, hg1, ht1, hv1, hd1, ⟨g2, t2, cs2, f2, p2, q2, hg2, ht2, hv2, hd2, _, _⟩, _⟩, _⟩, _, _⟩ := h
  have eg : g2 = 0 := Option.some.inj (hg2.symm.trans (by kernel_rfl))
  subst eg
  have e : t2 = 134 := Option.some.inj (ht2.symm.trans (by kernel_rfl))
  subst e
  have hc := Lib.cells_of_tab (k := .u64) (zs := Lib.pow10Tab) (n := 20) (e := 100) (by kernel_rfl) (by kernel_rfl) (by kernel_rfl) (by kernel_rfl) hd2
  unfold World.var? at hv2
  rw [hg2] at hv2
  simp only [Option.bind_some] at hv2
  split at hv2
  · rename_i cs ty fr hh; simp only [Option.some.injEq] at hv2; subst hv2; have hcs : cs = (Lib.pow10Tab.map fun z => Value.int .u64 z).toArray := Array.ext' (by rw [hc]); exact ⟨ty, fr, by rw [hh, hcs]; rfl⟩
  · simp at hv2
set_option maxRecDepth 100000 in
theorem lifted (os : Os) (started : os.Started) (H : Type) (enc : TypeId × Value → H) :
    ReturnsInHanded {} Tryd.checked os 3 .any (fun w args => (Rows.fnExactUndoVersionSpec.pre enc Tryd.prog Tryd.f3 [] false w args ∧ laidMetH Tryd.prog Rows.fnExactUndoVersionRow.laid w) ∧ sizedMet enc Tryd.prog Tryd.f3 (OpenSpec.ofChange Rows.fnExactUndoVersionSpec) false w args) (Rows.fnExactUndoVersionSpec.post enc Tryd.prog Tryd.f3 false true false false) := by
  refine returnsInHanded_of_change_and (C := Tryd.checked) (X := fun w _ => laidMetH Tryd.prog Rows.fnExactUndoVersionRow.laid w) (fun _ _ _ hh h => h.of_heap hh) own started (by kernel_rfl) Tryd.func3
    (ChangeSpec.witness_shaped (enc := enc) (C := Tryd.checked) (os := os) (X := fun w _ => laidMetH Tryd.prog Rows.fnExactUndoVersionRow.laid w) false (World.doorLaid Tryd.prog 24 os) #[.slice none 0 0, .int .i64 0] 8 rfl (World.shaped_of_RefB (by kernel_rfl) (by kernel_rfl)) (by kernel_rfl) (by kernel_rfl) (by kernel_rfl) (door_met os _)) ?_
  intro W base args ds gs before hval0 hW hcnd _ hL _
  have hval : ∀ (j : Nat) t v, Tryd.f3.params[j]? = some t → args[j]? = some v → Value.okWide Tryd.prog W .any base t v := hval0
  have hW' := hW
  obtain ⟨p, q, hA0, hV, rfl, hfz, hnd⟩ := hW
  have hA : DataW.TrodAll enc Tryd.prog W 0 (fun _ => true) true Tryd.f3.params.toList args.toList ds p := hA0
  rw [Tryd.params3] at hA hval
  obtain ⟨v0, L0, d0, ds0, p0, q0, hL0, rfl, rfl, h0, hA0'⟩ := trodAll_c hA
  obtain ⟨v1, L1, d1, ds1, p1, q1, hL1, rfl, rfl, h1, hA1'⟩ := trodAll_c hA0'
  obtain ⟨hLn, rfl, rfl⟩ := trodAll_n hA1'
  subst hLn; subst hL1
  obtain rfl : args = #[v0, v1] := Array.ext' hL0
  obtain ⟨rfl, rfl⟩ := trodVars_none hV
  obtain ⟨a0, r0, k0⟩ := opens_arg o22 h0
  obtain ⟨s0, l0, m0, e0⟩ := okWide_slice Tryd.underlying22 (hval 0 22 v0 rfl rfl)
  obtain ⟨a1, r1, k1⟩ := opens_arg o2 h1
  obtain ⟨n1, e1⟩ := okWide_int Tryd.underlying2 (hval 1 2 v1 rfl rfl)
  have hcon := c_laws_FnExactUndoVersion a0 a1 k0 k1 (cx0 W) [v0, v1] (cx0_okP (given_of hL)) ⟨rep_one (by subst e0; rfl) rfl r0, rep_one (by subst e1; rfl) rfl r1, trivial⟩ (mem0 W)
  rw [law_FnExactUndoVersion a0 a1 k0 k1] at hcon
  refine hcon.mono fun e W' ⟨x, κ', he, hr, hm⟩ => ?_
  subst he
  have hx : x = .bool true := repT_bool hr
  subst hx
  exact ⟨_, rfl, post_true laidOut Tryd.underlying4 rfl rfl (fun t ht => by rw [Tryd.params3] at ht; simp at ht; rcases ht with rfl | rfl <;> exact ⟨by kernel_rfl, of_decide_eq_true (by kernel_rfl)⟩) rfl hW' hm.ext.below⟩
theorem row_holds : Rows.FnExactUndoVersionSaid :=
  OpenClaim.holds_of_wide 3 Tryd.f3 rfl rfl rfl rfl rfl rfl rfl ⟨rfl, rfl, rfl, rfl, rfl⟩ rfl rfl rfl rfl rfl (by kernel_rfl) Tryd.func3 (by kernel_rfl)
    (of_decide_eq_true (by kernel_rfl)) (by unfold Func.isWrapper; first | (rw [if_pos (by decide +kernel)]; kernel_rfl) | (rw [if_neg (by decide +kernel)]; exact ⟨rfl, rfl⟩))
    (fun os started H enc _ => lifted os started H enc)
theorem proved : Rows.FnExactUndoVersionCardSaid :=
  Claim7.holds_tied_plain_at .later [] [.data, .data, .data] true Rows.fnExactUndoVersionCard.stood.harness Rows.fnExactUndoVersionCard.stood.looks
    row_holds (fun _ h => by cases h) (by kernel_rfl) (fun _ h => by cases h) fnExactUndoVersion_row_tie rfl ⟨rfl, rfl⟩ (by kernel_rfl) rfl
    (fun f fn hf hfn => by
      have e1 : f = 3 := Option.some.inj (hf.symm.trans (by kernel_rfl))
      subst e1
      obtain rfl : fn = Tryd.f3 := (Option.some.inj (Tryd.func3.symm.trans hfn)).symm
      exact ⟨by kernel_rfl, fun j t ht => by
        rw [Tryd.params3] at ht
        have hm : t ∈ [22, 2] := by simpa using Array.mem_of_getElem? ht
        have hall : ([22, 2].all fun u => !Tryd.prog.wantsStandIn u) = true := by kernel_rfl
        exact (show Tryd.prog.wantsStandIn t = false by simpa using List.all_eq_true.1 hall t hm)⟩)
    (by kernel_rfl)
#print axioms proved

end Go.Proofs.YtdkkcemlnjlebaaDoor
