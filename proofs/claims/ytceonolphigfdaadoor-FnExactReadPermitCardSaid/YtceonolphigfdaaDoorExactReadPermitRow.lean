/-
  THE ROW: the statement FnExactReadPermitSaid: whatever the input, the law returns true and each argument reads as it read before. Conditions: none.
-/
import Derived.Test.YtceonolphigfdaaDoorEngM
import Derived.Test.YtceonolphigfdaaDoorExactReadPermitPlain15
import Derived.Test.YtceonolphigfdaaDoorExactReadPermitWalks2
import Derived.Test.YtceonolphigfdaaDoorRows
import Derived.Test.YtceonolphigfdaaDoorTie
import Derived.Test.YtceonolphigfdaaDoorCards
import Derived.LaidMore
import Derived.Stop.Joined
import Derived.SevenTiedAt
import Derived.Lib.LaidTab
import Derived.HandedShaped
import Derived.Lay
set_option linter.unusedVariables false
set_option linter.unusedSimpArgs false
set_option linter.unusedSectionVars false
set_option linter.unnecessarySimpa false
namespace Go.Proofs.YtceonolphigfdaaDoor
open Go Go.RowKit Go.Proofs Go.Proofs.YtceonolphigfdaaDoor.E Go.WideShapes Go.ChangeShapes Go.ChangeAt Go.Deep
theorem own : ownKnob Tryd.prog.godebug = none := by kernel_rfl
theorem laidOut : laidOutB Tryd.prog = true := by kernel_rfl
theorem c9 : Tryd.prog.cellsOf 9 = 1 := by kernel_rfl
section
variable {H : Type} {enc : TypeId × Value → H}
theorem o9 : Opens enc Tryd.prog 9 V.str (fun x => x.length ≤ 9223372036854775807) := opens_str Tryd.underlying9
end
theorem rih_both {H : Type} {enc : TypeId × Value → H} {a : Assume} {C : Checked} {os : Os} {f : FuncId} {fn : Func} {s : ChangeSpec} {conds : List PathCond} {apart fresh handsOn again : Bool} {X : World → Array Value → Prop}
    (hX : ∀ (w w' : World) (args : Array Value), w.heap = w'.heap → X w args → X w' args)
    (own : ownKnob C.prog.godebug = none) (started : os.Started) (noInit : C.prog.inits.idxOf? f = none) (hfn : C.prog.funcs[f]? = some fn)
    (witness : ∃ (w : World) (tape : Tape) (i : Input), w.os = os ∧ (w.forCall tape i).Shaped C.prog ∧ i.vars = [] ∧ Input.okWide C.prog (w.forCall tape i) .any w.heap.size f i ∧
      ((s.pre enc C.prog fn conds apart (w.forCall tape i).memory i.args ∧ X (w.forCall tape i).memory i.args) ∧ sizedMet enc C.prog fn (OpenSpec.ofChange s) apart (w.forCall tape i).memory i.args) ∧ a.holds C.prog (lone (Frame.enter C.prog f i.args .normal) [] (w.forCall tape i)))
    (contract : ∀ (W : World) (base : Nat) (args : Array Value) (ds gs : List (DataW H)) (before : List MemPlace),
      (∀ (j : Nat) t v, fn.params[j]? = some t → args[j]? = some v → Value.okWide C.prog W .any base t v) →
      DataW.Whole enc C.prog fn.params.toList s.vars apart W args.toList ds gs before →
      conds.all (PathCond.test C.prog ⟨fn.params.toList, ds, s.plain.varTypes C.prog, gs⟩) = true →
      (DataW.weightsEach C.prog (fn.params.toList ++ s.plain.varTypes C.prog) (ds ++ gs)).all (· ≤ reachBytes) = true → X W args → W.ShapedOpen C.prog →
      a.holds C.prog (lone (Frame.enter C.prog f args .normal) [] W) →
      Calls C.prog f args W fun e W' => ∃ v, e = .returned v ∧ s.post enc C.prog fn apart fresh handsOn again W args v W') :
    ReturnsInHanded a C os f .any (fun w args => (s.pre enc C.prog fn conds apart w args ∧ X w args) ∧ sizedMet enc C.prog fn (OpenSpec.ofChange s) apart w args) (s.post enc C.prog fn apart fresh handsOn again) := by
  refine returnsInHanded_of_calls own started noInit witness ?_
  intro w tape i _ hsh _ hok hpre hholds
  obtain ⟨_, _, _, fn', hfn', _, _, _, _, hval⟩ := hok
  obtain rfl : fn' = fn := Option.some.inj (hfn'.symm.trans hfn)
  obtain ⟨⟨⟨ds, gs, before, hw, hc⟩, hx⟩, hz⟩ := hpre
  refine (contract (w.forCall tape i) w.heap.size i.args ds gs before hval (DataW.Whole.of_heap (w' := w.forCall tape i) (by rfl) hw) hc (hz.weights hw) (hX _ _ _ (by rfl) hx) hsh hholds).mono fun e W' ⟨v, he, hp⟩ => ?_
  subst he
  exact ChangeSpec.post_blind hp
theorem given_of {W : World} (h : laidMetH Tryd.prog Rows.fnExactReadPermitRow.laid W) (hsh : W.ShapedOpen Tryd.prog) : Given Tryd.prog W := by
  rw [MakeChecks.laidMetH_plain _ _ _ (by kernel_rfl)] at h
  obtain ⟨ps, ⟨g0, t0, cs0, f0, p0, q0, hg0, ht0, hv0, hd0, ⟨g1, t1, cs1, f1, p1, q1, hg1, ht1, hv1, hd1, ⟨g2, t2, cs2, f2, p2, q2, hg2, ht2, hv2, hd2, ⟨g3, t3, cs3, f3, p3, q3, hg3, ht3, hv3, hd3, ⟨g4, t4, cs4, f4, p4, q4, hg4, ht4, hv4, hd4, ⟨g5, t5, cs5, f5, p5, q5, hg5, ht5, hv5, hd5, ⟨g6, t6, cs6, f6, p6, q6, hg6, ht6, hv6, hd6, _, _⟩, _⟩, _⟩, _⟩, _⟩, _⟩, _⟩, _, _⟩ := h
  refine ⟨?_, ?_, ?_, ?_⟩
  · have eg : g2 = 5 := Option.some.inj (hg2.symm.trans (by kernel_rfl))
    subst eg
    have e : t2 = 134 := Option.some.inj (ht2.symm.trans (by kernel_rfl))
    subst e
    have hc := Lib.cells_of_tab (k := .u64) (zs := Lib.pow10Tab) (n := 20) (e := 108) (by kernel_rfl) (by kernel_rfl) (by kernel_rfl) (by kernel_rfl) hd2
    unfold World.var? at hv2
    rw [hg2] at hv2
    simp only [Option.bind_some] at hv2
    split at hv2
    · rename_i cs ty fr hh; simp only [Option.some.injEq] at hv2; subst hv2; have hcs : cs = (Lib.pow10Tab.map fun z => Value.int .u64 z).toArray := Array.ext' (by rw [hc]); exact ⟨ty, fr, by rw [hh, hcs]; rfl⟩
    · simp at hv2
  · obtain ⟨m, hm⟩ := Go.Proofs.cell_of_shapedOpen_int (g := 0) (zero := #[.int .i64 0]) (t := 3) hsh (of_decide_eq_true (by kernel_rfl)) (by kernel_rfl) rfl (by kernel_rfl) (by kernel_rfl) Tryd.underlying3
    unfold World.cell? at hm
    split at hm
    · rename_i cs ty fr hh; exact ⟨cs, ty, fr, hh, m, by simpa using hm⟩
    · simp at hm
  · have eg : g5 = 3 := Option.some.inj (hg5.symm.trans (by kernel_rfl))
    subst eg
    have e : t5 = 83 := Option.some.inj (ht5.symm.trans (by kernel_rfl))
    subst e
    obtain ⟨_, u, v, hcs, _, _⟩ := iface_of_trod (ms := Tryd.prog.methodsAt 83) (by kernel_rfl) hd5
    unfold World.var? at hv5
    rw [hg5] at hv5
    simp only [Option.bind_some] at hv5
    split at hv5
    · rename_i cs ty fr hh; simp only [Option.some.injEq] at hv5; subst hv5; exact ⟨cs, ty, fr, hh, u, v, by rw [← Array.getElem?_toList, hcs]; rfl⟩
    · simp at hv5
  · have eg : g4 = 4 := Option.some.inj (hg4.symm.trans (by kernel_rfl))
    subst eg
    have e : t4 = 83 := Option.some.inj (ht4.symm.trans (by kernel_rfl))
    subst e
    obtain ⟨_, u, v, hcs, _, _⟩ := iface_of_trod (ms := Tryd.prog.methodsAt 83) (by kernel_rfl) hd4
    unfold World.var? at hv4
    rw [hg4] at hv4
    simp only [Option.bind_some] at hv4
    split at hv4
    · rename_i cs ty fr hh; simp only [Option.some.injEq] at hv4; subst hv4; exact ⟨cs, ty, fr, hh, u, v, by rw [← Array.getElem?_toList, hcs]; rfl⟩
    · simp at hv4
set_option maxRecDepth 100000 in
theorem lifted (os : Os) (started : os.Started) (H : Type) (enc : TypeId × Value → H) :
    ReturnsInHanded {} Tryd.checked os 6 .any (fun w args => (Rows.fnExactReadPermitSpec.pre enc Tryd.prog Tryd.f6 [] false w args ∧ laidMetH Tryd.prog Rows.fnExactReadPermitRow.laid w) ∧ sizedMet enc Tryd.prog Tryd.f6 (OpenSpec.ofChange Rows.fnExactReadPermitSpec) false w args) (Rows.fnExactReadPermitSpec.post enc Tryd.prog Tryd.f6 false true false false) := by
  refine rih_both (C := Tryd.checked) (X := fun w _ => laidMetH Tryd.prog Rows.fnExactReadPermitRow.laid w) (fun _ _ _ hh h => h.of_heap hh) own started (by kernel_rfl) Tryd.func6
    (ChangeSpec.witness_shaped (enc := enc) (C := Tryd.checked) (os := os) (X := fun w _ => laidMetH Tryd.prog Rows.fnExactReadPermitRow.laid w) false (World.laidAll Tryd.prog os Rows.fnExactReadPermitRow.laid) #[.string ByteArray.empty] 8 (World.laidAll_os _ _ _) (World.shaped_of_ZipB (by kernel_rfl) (by kernel_rfl)) (by kernel_rfl) (by kernel_rfl) (by kernel_rfl) (by rw [MakeChecks.laidMetH_plain _ _ _ (by kernel_rfl)]; exact laidMet_laidAll _ (by kernel_rfl) (by kernel_rfl))) ?_
  intro W base args ds gs before hval0 hW hcnd _ hL hsh _
  have hval : ∀ (j : Nat) t v, Tryd.f6.params[j]? = some t → args[j]? = some v → Value.okWide Tryd.prog W .any base t v := hval0
  have hW' := hW
  obtain ⟨p, q, hA0, hV, rfl, hfz, hnd⟩ := hW
  have hA : DataW.TrodAll enc Tryd.prog W 0 (fun _ => true) true Tryd.f6.params.toList args.toList ds p := hA0
  rw [Tryd.params6] at hA hval
  obtain ⟨v0, L0, d0, ds0, p0, q0, hL0, rfl, rfl, h0, hA0'⟩ := trodAll_c hA
  obtain ⟨hLn, rfl, rfl⟩ := trodAll_n hA0'
  subst hLn
  obtain rfl : args = #[v0] := Array.ext' hL0
  obtain ⟨rfl, rfl⟩ := trodVars_none hV
  obtain ⟨a0, r0, k0⟩ := opens_arg o9 h0
  obtain ⟨n0, e0⟩ := okWide_string Tryd.underlying9 (hval 0 9 v0 rfl rfl)
  have hcon := c_laws_FnExactReadPermit a0 k0 (cx0 W) [v0] (cx0_okP (given_of hL hsh)) ⟨rep_one (by subst e0; rfl) rfl r0, trivial⟩ (mem0 W)
  rw [law_FnExactReadPermit a0 k0] at hcon
  refine hcon.mono fun e W' ⟨x, κ', he, hr, hm⟩ => ?_
  subst he
  have hx : x = .bool true := repT_bool hr
  subst hx
  exact ⟨_, rfl, post_true laidOut Tryd.underlying4 rfl rfl (fun t ht => by rw [Tryd.params6] at ht; simp at ht; rcases ht with rfl <;> exact ⟨by kernel_rfl, of_decide_eq_true (by kernel_rfl)⟩) rfl hW' hm.ext.below⟩
theorem row_holds : Rows.FnExactReadPermitSaid :=
  OpenClaim.holds_of_wide 6 Tryd.f6 rfl rfl rfl rfl rfl rfl rfl ⟨rfl, rfl, rfl, rfl, rfl⟩ rfl rfl rfl rfl rfl (by kernel_rfl) Tryd.func6 (by kernel_rfl)
    (of_decide_eq_true (by kernel_rfl)) (by unfold Func.isWrapper; first | (rw [if_pos (by decide +kernel)]; kernel_rfl) | (rw [if_neg (by decide +kernel)]; exact ⟨rfl, rfl⟩))
    (fun os started H enc _ => lifted os started H enc)
theorem proved : Rows.FnExactReadPermitCardSaid :=
  Claim7.holds_tied_plain_at .later [] [.data, .data, .data, .data, .sentinel, .sentinel, .pinned] true Rows.fnExactReadPermitCard.stood.harness Rows.fnExactReadPermitCard.stood.looks
    row_holds (fun _ h => by cases h) (by kernel_rfl) (fun _ h => by cases h) fnExactReadPermit_row_tie rfl ⟨rfl, rfl⟩ (by kernel_rfl) rfl
    (fun f fn hf hfn => by
      have e1 : f = 6 := Option.some.inj (hf.symm.trans (by kernel_rfl))
      subst e1
      obtain rfl : fn = Tryd.f6 := (Option.some.inj (Tryd.func6.symm.trans hfn)).symm
      exact ⟨by kernel_rfl, fun j t ht => by
        rw [Tryd.params6] at ht
        have hm : t ∈ [9] := by simpa using Array.mem_of_getElem? ht
        have hall : ([9].all fun u => !Tryd.prog.wantsStandIn u) = true := by kernel_rfl
        exact (show Tryd.prog.wantsStandIn t = false by simpa using List.all_eq_true.1 hall t hm)⟩)
    (by kernel_rfl)
#print axioms proved

end Go.Proofs.YtceonolphigfdaaDoor
