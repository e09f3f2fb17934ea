/-
  CONTRACT OF GO'S slices.Sort AT []int64 AT THIS SEAT'S PROGRAM, in the engine's form: what the shelf proves once, laid here, and turned into 'Con'.
  Conditions: as each theorem states them (hp1, hp2 ..).
-/
import Derived.Shelf.SlGeneric
import Derived.Ground.SlgnProg
import Derived.Shelf.SortG.Plain
import Derived.Shelf.SortG.SortNone
import Derived.Test.YtdhehmaglhobjaaEngN
import Derived.Test.YtdhehmaglhobjaaProg
set_option linter.unusedVariables false
set_option linter.unusedSimpArgs false
set_option linter.unusedSectionVars false
set_option linter.unnecessarySimpa false
namespace Go.Proofs.Ytdhehmaglhobjaa
open Go Go.RowKit Go.Proofs Go.Proofs.Ytdhehmaglhobjaa.E Go.Shelf

def laysN53_ren : Go.Shelf.Ren := ⟨fun | 53 => 57 | 64 => 76 | 63 => 75 | 78 => 99 | 79 => 100 | 70 => 90 | 71 => 91 | 72 => 92 | 73 => 93 | 74 => 94 | 75 => 95 | 59 => 96 | 76 => 97 | 77 => 98 | 88 => 115 | 89 => 116 | 90 => 117 | 91 => 118 | 92 => 119 | 68 => 73 | 96 => 124 | n => n, fun | 22 => 53 | 23 => 2 | 3 => 3 | 51 => 100 | 0 => 0 | 67 => 119 | 69 => 121 | 4 => 4 | 61 => 111 | 60 => 110 | 44 => 116 | 5 => 5 | 9 => 9 | 75 => 130 | 79 => 134 | 83 => 138 | 84 => 139 | n => n, fun | n => n⟩
theorem laysN53 : Go.Proofs.SlLaysN.n53 Try.prog laysN53_ren := {
  mixed := by kernel_rfl
  f53 := ⟨Try.f57.name, by decide, Try.func57.trans (congrArg some (by kernel_rfl))⟩
  f59 := ⟨Try.f96.name, by decide, Try.func96.trans (congrArg some (by kernel_rfl))⟩
  f63 := ⟨Try.f75.name, by decide, Try.func75.trans (congrArg some (by kernel_rfl))⟩
  f64 := Try.func76.trans (congrArg some (by kernel_rfl))
  f68 := ⟨Try.f73.name, by decide, Try.func73.trans (congrArg some (by kernel_rfl))⟩
  f70 := ⟨Try.f90.name, by decide, Try.func90.trans (congrArg some (by kernel_rfl))⟩
  f71 := ⟨Try.f91.name, by decide, Try.func91.trans (congrArg some (by kernel_rfl))⟩
  f72 := ⟨Try.f92.name, by decide, Try.func92.trans (congrArg some (by kernel_rfl))⟩
  f73 := ⟨Try.f93.name, by decide, Try.func93.trans (congrArg some (by kernel_rfl))⟩
  f74 := ⟨Try.f94.name, by decide, Try.func94.trans (congrArg some (by kernel_rfl))⟩
  f75 := ⟨Try.f95.name, by decide, Try.func95.trans (congrArg some (by kernel_rfl))⟩
  f76 := ⟨Try.f97.name, by decide, Try.func97.trans (congrArg some (by kernel_rfl))⟩
  f77 := ⟨Try.f98.name, by decide, Try.func98.trans (congrArg some (by kernel_rfl))⟩
  f78 := Try.func99.trans (congrArg some (by kernel_rfl))
  f79 := Try.func100.trans (congrArg some (by kernel_rfl))
  f88 := ⟨Try.f115.name, by decide, Try.func115.trans (congrArg some (by kernel_rfl))⟩
  f89 := Try.func116.trans (congrArg some (by kernel_rfl))
  f90 := Try.func117.trans (congrArg some (by kernel_rfl))
  f91 := ⟨Try.f118.name, by decide, Try.func118.trans (congrArg some (by kernel_rfl))⟩
  f92 := ⟨Try.f119.name, by decide, Try.func119.trans (congrArg some (by kernel_rfl))⟩
  f96 := ⟨Try.f124.name, by decide, Try.func124.trans (congrArg some (by kernel_rfl))⟩
  t0 := Try.underlying0
  a0 := Try.isAgg0
  z0 := Try.sizeOf0
  v0 := Try.zeroValue0
  t3 := Try.underlying3
  a3 := Try.isAgg3
  z3 := Try.sizeOf3
  v3 := Try.zeroValue3
  t4 := Try.underlying4
  a4 := Try.isAgg4
  z4 := Try.sizeOf4
  v4 := Try.zeroValue4
  t5 := Try.underlying5
  a5 := Try.isAgg5
  z5 := Try.sizeOf5
  v5 := Try.zeroValue5
  t9 := Try.underlying9
  a9 := Try.isAgg9
  z9 := Try.sizeOf9
  v9 := Try.zeroValue9
  t22 := Try.underlying53
  a22 := Try.isAgg53
  z22 := Try.sizeOf53
  v22 := Try.zeroValue53
  t23 := Try.underlying2
  a23 := Try.isAgg2
  z23 := Try.sizeOf2
  v23 := Try.zeroValue2
  t44 := Try.underlying116
  a44 := Try.isAgg116
  z44 := Try.sizeOf116
  v44 := Try.zeroValue116
  t51 := Try.underlying100
  a51 := Try.isAgg100
  z51 := Try.sizeOf100
  v51 := Try.zeroValue100
  t60 := Try.underlying110
  a60 := Try.isAgg110
  z60 := Try.sizeOf110
  v60 := Try.zeroValue110
  t61 := Try.underlying111
  a61 := Try.isAgg111
  z61 := Try.sizeOf111
  v61 := Try.zeroValue111
  t67 := Try.underlying119
  a67 := Try.isAgg119
  z67 := Try.sizeOf119
  v67 := Try.zeroValue119
  t69 := Try.underlying121
  a69 := Try.isAgg121
  z69 := Try.sizeOf121
  v69 := Try.zeroValue121
  t75 := Try.underlying130
  a75 := Try.isAgg130
  z75 := Try.sizeOf130
  v75 := Try.zeroValue130
  t79 := Try.underlying134
  a79 := Try.isAgg134
  z79 := Try.sizeOf134
  v79 := Try.zeroValue134
  t83 := Try.underlying138
  a83 := Try.isAgg138
  z83 := Try.sizeOf138
  v83 := Try.zeroValue138
  t84 := Try.underlying139
  a84 := Try.isAgg139
  z84 := Try.sizeOf139
  v84 := Try.zeroValue139 }

/-! ## The library's slices.Sort at []int64, as a contract over an own row (over the kit's laid contract) -/
theorem get_grow {w : World} {os : Array Obj} {b : Nat} (h : b < w.heap.size) : (Sort.grow w os).heap[b]? = w.heap[b]? := by
  simp [Sort.grow, Array.getElem?_append, h]
theorem putCells_at {α : Type} [Inhabited α] {enc : α → Value} {d : Array α} {c : Array Value} {j : Nat} (h : j < c.size) : (Sort.putCells enc 0 d c)[j]? = some (if j < d.size then enc d[j]! else c[j]) := by
  simp [Sort.putCells, h]
theorem map_flat {zs : List Int} : (zs.map (V.int .i64)).flatMap V.cells = zs.map (V.int .i64) := by
  induction zs with
  | nil => rfl
  | cons z zs ih => simp [List.flatMap_cons, ih, V.cells]
theorem con_sort_int {P : Program} {ρ : Ren} (L : SlLaysN.n53 P ρ) (el : TypeId) (zs : List Int) (hz : zs.length ≤ 1073741824) :
    Con P (ρ.f 53) [.os 0 zs.length] [(0, some (.row el 1 (zs.map (V.int .i64))))] (.tup []) [(0, some (.row el 1 ((zs.mergeSort fun x y => decide (x ≤ y)).map (V.int .i64))))] := by
  intro c xs hc hargs hm
  match xs, hargs with
  | [x], ⟨h1, _⟩ =>
    have hrow := hm.hp 0 _ rfl
    have hlen : (zs.mergeSort fun x y => decide (x ≤ y)).length = zs.length := List.length_mergeSort zs
    cases hk : c.κ 0 with
    | none =>
      have hx : zs.length = 0 ∧ x = .slice none 0 0 := by
        have : RepB c c.κ (.os 0 zs.length) x := h1
        simpa [RepB, hk] using this
      obtain ⟨h0, rfl⟩ := hx
      have hnil : zs = [] := List.length_eq_zero_iff.1 h0
      subst hnil
      refine (AnyG.slices_Sort_int_none L none 0 c.w).mono ?_
      rintro e w' ⟨rfl, rfl⟩
      exact ⟨_, c.κ, rfl, ⟨[], rfl, trivial⟩, by rw [List.mergeSort_nil]; exact hm⟩
    | some bk =>
      obtain ⟨b, cap⟩ := bk
      have hx : zs.length ≤ cap ∧ cap ≤ maxLen ∧ x = .slice (some ⟨b, 0, none⟩) zs.length cap := by
        have : RepB c c.κ (.os 0 zs.length) x := h1
        simpa [RepB, hk] using this
      obtain ⟨hcap, hmax, rfl⟩ := hx
      simp only [Holds, hk] at hrow
      obtain ⟨cur, hb, hl, hm2, hsz, hc1, hread⟩ := hrow
      rw [List.length_map] at hl
      rw [Nat.mul_one] at hsz
      rw [map_flat] at hread
      have hlt : b < c.w.heap.size := (Array.getElem?_eq_some_iff.1 hb).1
      have hH : Sort.Holds (Value.int .i64) c.w b 0 zs.toArray := by
        intro j hj
        have hj' : j < zs.length := by simpa using hj
        constructor
        · obtain ⟨y, hy, hr⟩ := hread j (V.int .i64 zs[j]) (by simp [hj'])
          have : y = .int .i64 zs[j] := by cases hr; rfl
          subst this
          simp [World.cell?, hb, hy, hj']
        · simp [World.frozen?, hb]
      refine (AnyG.slices_Sort_int L b 0 cap zs c.w hH hlt (by omega)).mono ?_
      rintro e w' ⟨rfl, n, os, rfl⟩
      have hap := (hm.ow 0 _ b cap rfl hk)
      have hX : c.X b := by rcases hap.1 with h | h; · omega
                            · exact h
      have hput : ∀ b', (Sort.putRow (Value.int .i64) (Sort.ahead c.w n) b 0 (zs.mergeSort fun x y => decide (x ≤ y)).toArray).heap[b']? = if b = b' then some (.cells (Sort.putCells (Value.int .i64) 0 (zs.mergeSort fun x y => decide (x ≤ y)).toArray cur) el (0, 0)) else c.w.heap[b']? := by
        intro b'
        simp only [Sort.putRow, Sort.mapBlock, Sort.ahead, Array.getElem?_modify]
        by_cases hbb : b = b'
        · subst hbb; simp [hb, Sort.onCells]
        · simp [hbb]
      have hpsz : (Sort.putRow (Value.int .i64) (Sort.ahead c.w n) b 0 (zs.mergeSort fun x y => decide (x ≤ y)).toArray).heap.size = c.w.heap.size := by
        simp [Sort.putRow, Sort.mapBlock, Sort.ahead]
      have hfl : (Sort.grow (Sort.putRow (Value.int .i64) (Sort.ahead c.w n) b 0 (zs.mergeSort fun x y => decide (x ≤ y)).toArray) os).heap[b]? = some (.cells (Sort.putCells (Value.int .i64) 0 (zs.mergeSort fun x y => decide (x ≤ y)).toArray cur) el (0, 0)) := by
        rw [get_grow (by rw [hpsz]; exact hlt), hput b, if_pos rfl]
      have hg0 : ∀ l o, E.get [(0, some (O.row el 1 ((zs.mergeSort fun x y => decide (x ≤ y)).map (V.int .i64))))] l = some o → l = 0 ∧ o = O.row el 1 ((zs.mergeSort fun x y => decide (x ≤ y)).map (V.int .i64)) := by
        intro l o h
        rw [get_cons] at h
        by_cases hl0 : 0 = l
        · rw [if_pos hl0] at h; exact ⟨hl0.symm, (Option.some.inj h).symm⟩
        · rw [if_neg hl0] at h; simp [E.get] at h
      refine ⟨_, c.κ, rfl, ⟨[], rfl, trivial⟩, ⟨⟨rfl, rfl, rfl, ?_, ?_⟩, ?_, ?_, ?_, fun _ _ => rfl⟩⟩
      · simp only [Sort.grow, Array.size_append, hpsz]; omega
      · intro b' hb' hX'
        rw [get_grow (by rw [hpsz]; exact hb'), hput b', if_neg (fun (e : b = b') => hX' (by rw [← e]; exact hX))]
      · intro l o h
        obtain ⟨rfl, rfl⟩ := hg0 l o h
        simp only [Holds, hk]
        refine ⟨_, hfl, by rw [List.length_map, hlen]; exact hcap, hmax, by simp [Sort.putCells, hsz], fun e he => by obtain ⟨z, _, rfl⟩ := List.mem_map.1 he; rfl, fun j u hu => ?_⟩
        rw [map_flat, List.getElem?_map] at hu
        cases hj : (zs.mergeSort fun x y => decide (x ≤ y))[j]? with
        | none => rw [hj] at hu; simp at hu
        | some z =>
          rw [hj] at hu
          have : u = V.int .i64 z := by simpa using hu.symm
          subst this
          have hjl := (List.getElem?_eq_some_iff.1 hj).1
          refine ⟨.int .i64 z, ?_, .int .i64 z⟩
          rw [putCells_at (by omega), if_pos (by simpa using hjl)]
          have hg : (zs.mergeSort fun x y => decide (x ≤ y)).toArray[j]! = z := by
            rw [getElem!_pos _ j (by simpa using hjl), List.getElem_toArray]
            rw [List.getElem?_eq_getElem hjl] at hj
            exact Option.some.inj hj
          rw [hg]
      · intro l o b' k' h hk'
        obtain ⟨rfl, rfl⟩ := hg0 l o h
        rw [hk] at hk'; obtain ⟨rfl, rfl⟩ := by simpa using hk'
        exact ⟨.inr hX, hap.2⟩
      · intro l l' o o' b' k' k'' h h' _ _
        obtain ⟨rfl, rfl⟩ := hg0 l o h
        obtain ⟨rfl, rfl⟩ := hg0 l' o' h'
        rfl
theorem c_slices_Sort_int64 (x : List Int) (hp1 : x.length ≤ 1073741824) : Con Try.prog 57 [.os 0 x.length] [(0, some (.row 2 1 (x.map (V.int .i64))))] (.tup []) [(0, some (.row 2 1 ((x.mergeSort fun x y => decide (x ≤ y)).map (V.int .i64))))] :=
  con_sort_int laysN53 2 x hp1
end Go.Proofs.Ytdhehmaglhobjaa
