/-
  CONTRACTS OF GO'S LIBRARY AT THIS SEAT'S PROGRAM, in the engine's form: what the shelf proves once, laid here, and turned into 'Con'.
  Conditions: as each theorem states them (hp1, hp2 ..).
-/
import Derived.Shelf.Strconv.Itoa4
import Derived.Shelf.Strings.OnBuilder
import Derived.Test.YtandefcnbemclaaDoorEngN
import Derived.Test.YtandefcnbemclaaDoorProg
set_option linter.unusedVariables false
set_option linter.unusedSimpArgs false
set_option linter.unusedSectionVars false
set_option linter.unnecessarySimpa false
namespace Go.Proofs.YtandefcnbemclaaDoor
open Go Go.RowKit Go.Proofs Go.Proofs.YtandefcnbemclaaDoor.E Go.Shelf

def lays156_ren : Go.Shelf.Ren := ⟨fun | 156 => 71 | 165 => 76 | 166 => 77 | 169 => 78 | 240 => 83 | 241 => 84 | 276 => 90 | 277 => 91 | n => n, fun | 31 => 97 | 9 => 9 | 3 => 3 | 4 => 4 | 0 => 0 | 20 => 20 | 72 => 102 | 76 => 106 | 70 => 100 | 37 => 91 | 75 => 105 | 127 => 116 | 164 => 125 | 5 => 5 | 80 => 108 | n => n, fun | n => n⟩
theorem lays156 : Go.Proofs.Lays.n156 Tryd.prog lays156_ren := {
  mixed := by kernel_rfl
  f156 := Tryd.func71.trans (congrArg some (by kernel_rfl))
  f165 := Tryd.func76.trans (congrArg some (by kernel_rfl))
  f166 := Tryd.func77.trans (congrArg some (by kernel_rfl))
  f169 := Tryd.func78.trans (congrArg some (by kernel_rfl))
  f240 := Tryd.func83.trans (congrArg some (by kernel_rfl))
  f241 := Tryd.func84.trans (congrArg some (by kernel_rfl))
  f276 := Tryd.func90.trans (congrArg some (by kernel_rfl))
  f277 := Tryd.func91.trans (congrArg some (by kernel_rfl))
  t0 := Tryd.underlying0
  a0 := Tryd.isAgg0
  z0 := Tryd.sizeOf0
  v0 := Tryd.zeroValue0
  t3 := Tryd.underlying3
  a3 := Tryd.isAgg3
  z3 := Tryd.sizeOf3
  v3 := Tryd.zeroValue3
  t4 := Tryd.underlying4
  a4 := Tryd.isAgg4
  z4 := Tryd.sizeOf4
  v4 := Tryd.zeroValue4
  t9 := Tryd.underlying9
  a9 := Tryd.isAgg9
  z9 := Tryd.sizeOf9
  v9 := Tryd.zeroValue9
  t20 := Tryd.underlying20
  a20 := Tryd.isAgg20
  z20 := Tryd.sizeOf20
  v20 := Tryd.zeroValue20
  t31 := Tryd.underlying97
  a31 := Tryd.isAgg97
  z31 := Tryd.sizeOf97
  v31 := Tryd.zeroValue97
  t37 := Tryd.underlying91
  a37 := Tryd.isAgg91
  z37 := Tryd.sizeOf91
  v37 := Tryd.zeroValue91
  t70 := Tryd.underlying100
  a70 := Tryd.isAgg100
  z70 := Tryd.sizeOf100
  v70 := Tryd.zeroValue100
  t72 := Tryd.underlying102
  a72 := Tryd.isAgg102
  z72 := Tryd.sizeOf102
  v72 := Tryd.zeroValue102
  t75 := Tryd.underlying105
  a75 := Tryd.isAgg105
  z75 := Tryd.sizeOf105
  v75 := Tryd.zeroValue105
  t76 := Tryd.underlying106
  a76 := Tryd.isAgg106
  z76 := Tryd.sizeOf106
  v76 := Tryd.zeroValue106
  t127 := Tryd.underlying116
  a127 := Tryd.isAgg116
  z127 := Tryd.sizeOf116
  v127 := Tryd.zeroValue116
  t164 := Tryd.underlying125
  a164 := Tryd.isAgg125
  z164 := Tryd.sizeOf125
  v164 := Tryd.zeroValue125 }
theorem Builder_Extra_156 : Builder.Extra Tryd.prog lays156_ren := {
  sizeBuilder := by kernel_rfl
  liesBuilder := by kernel_rfl
  t5 := Tryd.underlying5
  a5 := Tryd.isAgg5
  z5 := Tryd.sizeOf5
  v5 := Tryd.zeroValue5
  infoByte := by kernel_rfl
  cellsByte := by kernel_rfl
  sizeByte := by kernel_rfl
  neB5 := by decide }
def laysM173_ren : Go.Shelf.Ren := ⟨fun | 173 => 65 | 246 => 75 | 283 => 79 | 284 => 80 | 285 => 81 | 286 => 82 | 129 => 86 | 317 => 85 | 318 => 87 | 319 => 88 | 320 => 89 | 337 => 92 | 338 => 93 | n => n, fun | 2 => 2 | 3 => 3 | 9 => 9 | 4 => 4 | 171 => 110 | 0 => 0 | 53 => 111 | 37 => 91 | 5 => 5 | 173 => 114 | 212 => 119 | 51 => 120 | 20 => 20 | 213 => 121 | 46 => 123 | 232 => 129 | 233 => 130 | n => n, fun | 17 => 0 | 18 => 2 | 19 => 3 | n => n⟩
theorem laysM173 : Go.Proofs.LaysM.n173 Tryd.prog laysM173_ren := {
  mixed := by kernel_rfl
  f129 := Tryd.func86.trans (congrArg some (by kernel_rfl))
  f173 := Tryd.func65.trans (congrArg some (by kernel_rfl))
  f246 := Tryd.func75.trans (congrArg some (by kernel_rfl))
  f283 := Tryd.func79.trans (congrArg some (by kernel_rfl))
  f284 := Tryd.func80.trans (congrArg some (by kernel_rfl))
  f285 := Tryd.func81.trans (congrArg some (by kernel_rfl))
  f286 := Tryd.func82.trans (congrArg some (by kernel_rfl))
  f317 := Tryd.func85.trans (congrArg some (by kernel_rfl))
  f318 := Tryd.func87.trans (congrArg some (by kernel_rfl))
  f319 := Tryd.func88.trans (congrArg some (by kernel_rfl))
  f320 := Tryd.func89.trans (congrArg some (by kernel_rfl))
  f337 := Tryd.func92.trans (congrArg some (by kernel_rfl))
  f338 := Tryd.func93.trans (congrArg some (by kernel_rfl))
  t0 := Tryd.underlying0
  a0 := Tryd.isAgg0
  z0 := Tryd.sizeOf0
  v0 := Tryd.zeroValue0
  t2 := Tryd.underlying2
  a2 := Tryd.isAgg2
  z2 := Tryd.sizeOf2
  v2 := Tryd.zeroValue2
  t3 := Tryd.underlying3
  a3 := Tryd.isAgg3
  z3 := Tryd.sizeOf3
  v3 := Tryd.zeroValue3
  t4 := Tryd.underlying4
  a4 := Tryd.isAgg4
  z4 := Tryd.sizeOf4
  v4 := Tryd.zeroValue4
  t5 := Tryd.underlying5
  a5 := Tryd.isAgg5
  z5 := Tryd.sizeOf5
  v5 := Tryd.zeroValue5
  t9 := Tryd.underlying9
  a9 := Tryd.isAgg9
  z9 := Tryd.sizeOf9
  v9 := Tryd.zeroValue9
  t20 := Tryd.underlying20
  a20 := Tryd.isAgg20
  z20 := Tryd.sizeOf20
  v20 := Tryd.zeroValue20
  t37 := Tryd.underlying91
  a37 := Tryd.isAgg91
  z37 := Tryd.sizeOf91
  v37 := Tryd.zeroValue91
  t46 := Tryd.underlying123
  a46 := Tryd.isAgg123
  z46 := Tryd.sizeOf123
  v46 := Tryd.zeroValue123
  t51 := Tryd.underlying120
  a51 := Tryd.isAgg120
  z51 := Tryd.sizeOf120
  v51 := Tryd.zeroValue120
  t53 := Tryd.underlying111
  a53 := Tryd.isAgg111
  z53 := Tryd.sizeOf111
  v53 := Tryd.zeroValue111
  t171 := Tryd.underlying110
  a171 := Tryd.isAgg110
  z171 := Tryd.sizeOf110
  v171 := Tryd.zeroValue110
  t173 := Tryd.underlying114
  a173 := Tryd.isAgg114
  z173 := Tryd.sizeOf114
  v173 := Tryd.zeroValue114
  t212 := Tryd.underlying119
  a212 := Tryd.isAgg119
  z212 := Tryd.sizeOf119
  v212 := Tryd.zeroValue119
  t213 := Tryd.underlying121
  a213 := Tryd.isAgg121
  z213 := Tryd.sizeOf121
  t232 := Tryd.underlying129
  a232 := Tryd.isAgg129
  z232 := Tryd.sizeOf129
  v232 := Tryd.zeroValue129
  t233 := Tryd.underlying130
  a233 := Tryd.isAgg130
  z233 := Tryd.sizeOf130
  v233 := Tryd.zeroValue130
  g17 := by kernel_rfl
  g18 := by kernel_rfl
  g19 := by kernel_rfl
  i0 := by kernel_rfl
  i2 := by kernel_rfl
  i3 := by kernel_rfl
  i4 := by kernel_rfl
  i5 := by kernel_rfl
  i9 := by kernel_rfl
  i20 := by kernel_rfl
  i37 := by kernel_rfl
  i46 := by kernel_rfl
  i51 := by kernel_rfl
  i53 := by kernel_rfl
  i171 := by kernel_rfl
  i173 := by kernel_rfl
  i212 := by kernel_rfl
  i232 := by kernel_rfl
  i233 := by kernel_rfl
  m17 := by kernel_rfl
  m18 := by kernel_rfl
  m19 := by kernel_rfl }

theorem ext_of_below {w w' : World} (h : Below w.heap.size w w') : Ext (fun _ => False) w w' := ⟨h.os, h.tape, h.output, h.size, fun b hb _ => h.block b hb⟩
theorem mem_nil {c : Cx} {w' : World} (h : Ext (fun _ => False) c.w w') : Mem c c.κ [] w' := ⟨h.mono (fun _ h => h.elim), fun l o h => by simp [E.get] at h, fun l o b k h _ => by simp [E.get] at h, fun l l' o o' b k k' h _ _ _ => by simp [E.get] at h, fun _ _ => rfl⟩
theorem cell_now {P : Program} {c : Cx} (hc : c.okP P) {Q : World → Prop} (h1 : ∀ W, Given P W → Q W) (h2 : ∀ W W', Q W → Ext (fun _ => False) W W' → Q W') : Q c.w := by
  obtain ⟨W0, hg, hx, _⟩ := hc.gv
  exact h2 W0 c.w (h1 W0 hg) hx
theorem blk_stays {g : Nat} {cs : Array Value} {W W' : World} (h : ∃ t fr, W.heap[g]? = some (.cells cs t fr)) (hx : Ext (fun _ => False) W W') : ∃ t fr, W'.heap[g]? = some (.cells cs t fr) := by
  obtain ⟨t, fr, h⟩ := h
  exact ⟨t, fr, (hx.block g (Array.getElem?_eq_some_iff.1 h).1 id).trans h⟩
theorem tab_bind {o : Option Nat} {g : Nat} {w : World} {cs : Array Value} (ho : o = some g) (h : ∃ t fr, w.heap[g]? = some (.cells cs t fr)) :
    (o.bind fun g => match w.heap[g]? with | some (.cells cs _ _) => some cs | _ => none) = some cs := by
  obtain ⟨t, fr, h⟩ := h
  subst ho; simp [h]
theorem c_strconv_FormatInt (i base : Int) (hp1 : base = 10) (hp2 : -9223372036854775808 ≤ i ∧ i ≤ 9223372036854775807) : Con Tryd.prog 65 [.int .i64 i, .int .i64 base] [] (.str (Lib.itoa i)) [] := by
  intro c xs hc hargs hm
  match xs, hargs with
  | [x, y], ⟨h1, h2, _⟩ =>
    rw [repT_int h1, repT_int h2, hp1]
    have ht : ∃ t fr, c.w.heap[0]? = some (.cells ((((List.range 20).map fun i => ((10 ^ i : Nat) : Int)).map fun z => Value.int .u64 z).toArray) t fr) := cell_now hc (fun _ h => h) (fun _ _ h hx => blk_stays h hx)
    refine (Any.strconv_FormatInt_10 laysM173 i hp2.1 hp2.2 c.w (by unfold Lib.TabIs World.var?; exact tab_bind (by kernel_rfl) ht)).mono ?_
    rintro e w' ⟨rfl, k, os, rfl⟩
    exact ⟨_, c.κ, rfl, RepR.str _, mem_nil (ext_of_below (⟨rfl, rfl, rfl, by show c.w.heap.size ≤ (c.w.heap ++ os).size; rw [Array.size_append]; omega, fun j hj => by show (c.w.heap ++ os)[j]? = c.w.heap[j]?; exact Array.getElem?_append_left hj⟩))⟩
theorem c_strings_Join (elems : List (List UInt8)) (sep : List UInt8) (hp1 : elems.length ≤ 140737488355328) (hp2 : (Lib.join elems sep).length ≤ 140737488355328) : Con Tryd.prog 71 [.sl 1 (elems.map V.str), .str sep] [] (.str (Lib.join elems sep)) [] := by
  intro c xs hc hargs hm
  match xs, hargs with
  | [x, y], ⟨h1, h2, _⟩ =>
    rw [repT_str h2]
    have none_ : elems = [] → ∀ (a : Option Addr) (cap : Nat), Calls Tryd.prog 71 #[.slice a 0 cap, .string ⟨⟨sep⟩⟩] c.w fun e w' => ∃ x κ', e = .returned x ∧ RepT c κ' (.str (Lib.join elems sep)) x ∧ Mem c κ' [] w' := fun he a cap => by
      subst he
      refine (Any.strings_Join_none lays156 Builder_Extra_156 a cap ⟨⟨sep⟩⟩ c.w).mono ?_
      rintro e w' ⟨rfl, rfl⟩
      exact ⟨_, c.κ, rfl, RepR.str [], mem_nil (Ext.refl _ _)⟩
    have h1' : RepR c (.sl 1 (elems.map V.str)) x := h1
    generalize hes : elems.map V.str = es at h1'
    cases h1' with
    | nil sz => exact none_ (List.map_eq_nil_iff.1 hes) none 0
    | sl sz es a cap f hD hl hcap hz g1 g2 =>
      subst hes
      cases elems with
      | nil => exact none_ rfl (some a) cap
      | cons y0 r =>
        have hfl : ∀ l : List (List UInt8), (l.map V.str).flatMap V.cells = l.map V.str := fun l => by induction l with | nil => rfl | cons z r ih => rw [List.map_cons, List.flatMap_cons, ih]; rfl
        rw [hfl] at g1 g2
        have hat : ∀ (j : Nat) (s : List UInt8), (y0 :: r)[j]? = some s → c.w.cell? (a.add j) = some (.string ⟨⟨s⟩⟩) := fun j s hs => by
          have hu : ((y0 :: r).map V.str)[j]? = some (.str s) := by rw [List.getElem?_map, hs]; rfl
          rw [g1 j _ hu]
          have := g2 j _ hu
          generalize f j = v at this ⊢
          cases this; rfl
        have h0 := hat 0 y0 rfl
        obtain ⟨b, o, sp⟩ := a
        have hsp : sp = none := by
          cases sp with
          | none => rfl
          | some q =>
            exfalso
            have : (⟨b, o, some q⟩ : Addr).add 0 = ⟨b, o, some q⟩ := by simp [Addr.add]
            rw [this] at h0
            unfold World.cell? at h0
            split at h0 <;> simp at h0
        subst hsp
        have key := Any.strings_Join lays156 Builder_Extra_156 b o cap ((y0 :: r).map fun s => (⟨⟨s⟩⟩ : ByteArray)) ⟨⟨sep⟩⟩ c.w (fun j x hx => by
            rw [List.getElem?_map] at hx
            cases hs : (y0 :: r)[j]? with
            | none => rw [hs] at hx; simp at hx
            | some s =>
              rw [hs] at hx; simp at hx; subst hx
              have := hat j s hs
              rw [add_lit] at this
              exact this)
          (World.block_lt_of_cell? _ _ (by rw [add_lit, Nat.add_zero] at h0; exact h0)) (by simpa using hp1) (by simpa using hl) (by
            simp only [List.map_map]
            have e : (fun x : ByteArray => x.data.toList) ∘ (fun s : List UInt8 => (⟨⟨s⟩⟩ : ByteArray)) = id := rfl
            rw [show List.map ((fun x : ByteArray => x.data.toList) ∘ fun s => (⟨⟨s⟩⟩ : ByteArray)) (y0 :: r) = y0 :: r from by rw [e, List.map_id]]
            exact hp2)
        have e3 : List.map (fun x : ByteArray => x.data.toList) ((y0 :: r).map fun s => (⟨⟨s⟩⟩ : ByteArray)) = y0 :: r := by
          rw [List.map_map]; exact List.map_id _
        rw [e3] at key
        simp only [List.length_map] at key ⊢
        refine key.mono ?_
        rintro e w' ⟨rfl, hb⟩
        exact ⟨_, c.κ, rfl, RepR.str _, mem_nil (ext_of_below hb)⟩
end Go.Proofs.YtandefcnbemclaaDoor
