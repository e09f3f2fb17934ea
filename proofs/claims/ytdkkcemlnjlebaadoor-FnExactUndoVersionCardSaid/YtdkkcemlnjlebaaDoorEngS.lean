/-
  CONTRACTS OF GO'S LIBRARY AT THIS SEAT'S PROGRAM, in the engine's form: what the shelf proves once, laid here, and turned into 'Con'.
  Conditions: as each theorem states them (hp1, hp2 ..).
-/
import Derived.Shelf.Strconv.Itoa4
import Derived.Test.YtdkkcemlnjlebaaDoorEngN
import Derived.Test.YtdkkcemlnjlebaaDoorProg
set_option linter.unusedVariables false
set_option linter.unusedSimpArgs false
set_option linter.unusedSectionVars false
set_option linter.unnecessarySimpa false
namespace Go.Proofs.YtdkkcemlnjlebaaDoor
open Go Go.RowKit Go.Proofs Go.Proofs.YtdkkcemlnjlebaaDoor.E Go.Shelf

def laysM173_ren : Go.Shelf.Ren := ⟨fun | 173 => 72 | 246 => 92 | 283 => 101 | 284 => 102 | 285 => 103 | 286 => 104 | 129 => 109 | 317 => 108 | 318 => 110 | 319 => 111 | 320 => 112 | 337 => 113 | 338 => 114 | n => n, fun | 2 => 2 | 3 => 3 | 9 => 9 | 4 => 4 | 171 => 125 | 0 => 0 | 53 => 100 | 37 => 31 | 5 => 5 | 173 => 128 | 212 => 134 | 51 => 135 | 20 => 20 | 213 => 136 | 46 => 110 | 232 => 140 | 233 => 141 | n => n, fun | 17 => 0 | 18 => 1 | 19 => 2 | n => n⟩
theorem laysM173 : Go.Proofs.LaysM.n173 Tryd.prog laysM173_ren := {
  mixed := by kernel_rfl
  f129 := Tryd.func109.trans (congrArg some (by kernel_rfl))
  f173 := Tryd.func72.trans (congrArg some (by kernel_rfl))
  f246 := Tryd.func92.trans (congrArg some (by kernel_rfl))
  f283 := Tryd.func101.trans (congrArg some (by kernel_rfl))
  f284 := Tryd.func102.trans (congrArg some (by kernel_rfl))
  f285 := Tryd.func103.trans (congrArg some (by kernel_rfl))
  f286 := Tryd.func104.trans (congrArg some (by kernel_rfl))
  f317 := Tryd.func108.trans (congrArg some (by kernel_rfl))
  f318 := Tryd.func110.trans (congrArg some (by kernel_rfl))
  f319 := Tryd.func111.trans (congrArg some (by kernel_rfl))
  f320 := Tryd.func112.trans (congrArg some (by kernel_rfl))
  f337 := Tryd.func113.trans (congrArg some (by kernel_rfl))
  f338 := Tryd.func114.trans (congrArg some (by kernel_rfl))
  t0 := Tryd.underlying0
  a0 := Tryd.isAgg0
  z0 := Tryd.sizeOf0
  v0 := Tryd.zeroValue0
  t2 := Tryd.underlying2
  a2 := Tryd.isAgg2
  z2 := Tryd.sizeOf2
  v2 := Tryd.zeroValue2
  t3 := Tryd.underlying3
  a3 := Tryd.isAgg3
  z3 := Tryd.sizeOf3
  v3 := Tryd.zeroValue3
  t4 := Tryd.underlying4
  a4 := Tryd.isAgg4
  z4 := Tryd.sizeOf4
  v4 := Tryd.zeroValue4
  t5 := Tryd.underlying5
  a5 := Tryd.isAgg5
  z5 := Tryd.sizeOf5
  v5 := Tryd.zeroValue5
  t9 := Tryd.underlying9
  a9 := Tryd.isAgg9
  z9 := Tryd.sizeOf9
  v9 := Tryd.zeroValue9
  t20 := Tryd.underlying20
  a20 := Tryd.isAgg20
  z20 := Tryd.sizeOf20
  v20 := Tryd.zeroValue20
  t37 := Tryd.underlying31
  a37 := Tryd.isAgg31
  z37 := Tryd.sizeOf31
  v37 := Tryd.zeroValue31
  t46 := Tryd.underlying110
  a46 := Tryd.isAgg110
  z46 := Tryd.sizeOf110
  v46 := Tryd.zeroValue110
  t51 := Tryd.underlying135
  a51 := Tryd.isAgg135
  z51 := Tryd.sizeOf135
  v51 := Tryd.zeroValue135
  t53 := Tryd.underlying100
  a53 := Tryd.isAgg100
  z53 := Tryd.sizeOf100
  v53 := Tryd.zeroValue100
  t171 := Tryd.underlying125
  a171 := Tryd.isAgg125
  z171 := Tryd.sizeOf125
  v171 := Tryd.zeroValue125
  t173 := Tryd.underlying128
  a173 := Tryd.isAgg128
  z173 := Tryd.sizeOf128
  v173 := Tryd.zeroValue128
  t212 := Tryd.underlying134
  a212 := Tryd.isAgg134
  z212 := Tryd.sizeOf134
  v212 := Tryd.zeroValue134
  t213 := Tryd.underlying136
  a213 := Tryd.isAgg136
  z213 := Tryd.sizeOf136
  t232 := Tryd.underlying140
  a232 := Tryd.isAgg140
  z232 := Tryd.sizeOf140
  v232 := Tryd.zeroValue140
  t233 := Tryd.underlying141
  a233 := Tryd.isAgg141
  z233 := Tryd.sizeOf141
  v233 := Tryd.zeroValue141
  g17 := by kernel_rfl
  g18 := by kernel_rfl
  g19 := by kernel_rfl
  i0 := by kernel_rfl
  i2 := by kernel_rfl
  i3 := by kernel_rfl
  i4 := by kernel_rfl
  i5 := by kernel_rfl
  i9 := by kernel_rfl
  i20 := by kernel_rfl
  i37 := by kernel_rfl
  i46 := by kernel_rfl
  i51 := by kernel_rfl
  i53 := by kernel_rfl
  i171 := by kernel_rfl
  i173 := by kernel_rfl
  i212 := by kernel_rfl
  i232 := by kernel_rfl
  i233 := by kernel_rfl
  m17 := by kernel_rfl
  m18 := by kernel_rfl
  m19 := by kernel_rfl }

theorem ext_of_below {w w' : World} (h : Below w.heap.size w w') : Ext (fun _ => False) w w' := ⟨h.os, h.tape, h.output, h.size, fun b hb _ => h.block b hb⟩
theorem mem_nil {c : Cx} {w' : World} (h : Ext (fun _ => False) c.w w') : Mem c c.κ [] w' := ⟨h.mono (fun _ h => h.elim), fun l o h => by simp [E.get] at h, fun l o b k h _ => by simp [E.get] at h, fun l l' o o' b k k' h _ _ _ => by simp [E.get] at h, fun _ _ => rfl, Ns.nil fun l o h => by simp [E.get] at h⟩
theorem cell_now {P : Program} {c : Cx} (hc : c.okP P) {Q : World → Prop} (h1 : ∀ W, Given P W → Q W) (h2 : ∀ W W', Q W → Ext (fun _ => False) W W' → Q W') : Q c.w := by
  obtain ⟨W0, hg, hx, _⟩ := hc.gv
  exact h2 W0 c.w (h1 W0 hg) hx
theorem blk_stays {g : Nat} {cs : Array Value} {W W' : World} (h : ∃ t fr, W.heap[g]? = some (.cells cs t fr)) (hx : Ext (fun _ => False) W W') : ∃ t fr, W'.heap[g]? = some (.cells cs t fr) := by
  obtain ⟨t, fr, h⟩ := h
  exact ⟨t, fr, (hx.block g (Array.getElem?_eq_some_iff.1 h).1 id).trans h⟩
theorem tab_bind {o : Option Nat} {g : Nat} {w : World} {cs : Array Value} (ho : o = some g) (h : ∃ t fr, w.heap[g]? = some (.cells cs t fr)) :
    (o.bind fun g => match w.heap[g]? with | some (.cells cs _ _) => some cs | _ => none) = some cs := by
  obtain ⟨t, fr, h⟩ := h
  subst ho; simp [h]
theorem c_strconv_FormatInt (i base : Int) (hp1 : base = 10) (hp2 : -9223372036854775808 ≤ i ∧ i ≤ 9223372036854775807) : Con Tryd.prog 72 [.int .i64 i, .int .i64 base] [] (.str (Lib.itoa i)) [] := by
  intro c xs hc hargs hm
  match xs, hargs with
  | [x, y], ⟨h1, h2, _⟩ =>
    rw [repT_int h1, repT_int h2, hp1]
    have ht : ∃ t fr, c.w.heap[0]? = some (.cells ((((List.range 20).map fun i => ((10 ^ i : Nat) : Int)).map fun z => Value.int .u64 z).toArray) t fr) := cell_now hc (fun _ h => h) (fun _ _ h hx => blk_stays h hx)
    refine (Any.strconv_FormatInt_10 laysM173 i hp2.1 hp2.2 c.w (by unfold Lib.TabIs World.var?; exact tab_bind (by kernel_rfl) ht)).mono ?_
    rintro e w' ⟨rfl, k, os, rfl⟩
    exact ⟨_, c.κ, rfl, RepR.str _, mem_nil (ext_of_below (⟨rfl, rfl, rfl, by show c.w.heap.size ≤ (c.w.heap ++ os).size; rw [Array.size_append]; omega, fun j hj => by show (c.w.heap ++ os)[j]? = c.w.heap[j]?; exact Array.getElem?_append_left hj⟩))⟩
end Go.Proofs.YtdkkcemlnjlebaaDoor
