/-
  CONTRACTS OF GO'S slices.Sort AND slices.Compact AT []string AT THIS SEAT'S PROGRAM, in the engine's form: what the shelf proves once, laid here, and turned into 'Con'.
  Conditions: as each theorem states them (hp1, hp2 ..).
-/
import Derived.Shelf.Sort.Plain
import Derived.Shelf.Slices.In.SortNone
import Derived.Shelf.Slices.CompactS
import Derived.Test.YtbflomopgofkgaaEngN
import Derived.Test.YtbflomopgofkgaaProg
import Derived.Shelf.SlGeneric
import Derived.Ground.SlgnProg
import Derived.Shelf.SortG.Plain
import Derived.Shelf.SortG.SortNone
set_option linter.unusedVariables false
set_option linter.unusedSimpArgs false
set_option linter.unusedSectionVars false
set_option linter.unnecessarySimpa false
namespace Go.Proofs.Ytbflomopgofkgaa
open Go Go.RowKit Go.Proofs Go.Proofs.Ytbflomopgofkgaa.E Go.Shelf

def lays190_ren : Go.Shelf.Ren := ⟨fun | 190 => 106 | 125 => 142 | 258 => 141 | 128 => 167 | 129 => 168 | 302 => 158 | 303 => 159 | 304 => 160 | 305 => 161 | 306 => 162 | 307 => 163 | 308 => 164 | 309 => 165 | 310 => 166 | 333 => 183 | 329 => 184 | 330 => 185 | 334 => 186 | 335 => 187 | 336 => 156 | 344 => 192 | n => n, fun | 31 => 24 | 9 => 9 | 3 => 3 | 46 => 162 | 0 => 0 | 51 => 198 | 53 => 200 | 4 => 4 | 183 => 191 | 182 => 190 | 131 => 100 | 5 => 5 | 218 => 209 | 222 => 213 | 228 => 217 | 229 => 218 | n => n, fun | n => n⟩
theorem lays190 : Go.Proofs.Lays.n190 Try.prog lays190_ren := {
  mixed := by kernel_rfl
  f125 := Try.func142.trans (congrArg some (by kernel_rfl))
  f128 := Try.func167.trans (congrArg some (by kernel_rfl))
  f129 := Try.func168.trans (congrArg some (by kernel_rfl))
  f190 := Try.func106.trans (congrArg some (by kernel_rfl))
  f258 := Try.func141.trans (congrArg some (by kernel_rfl))
  f302 := Try.func158.trans (congrArg some (by kernel_rfl))
  f303 := Try.func159.trans (congrArg some (by kernel_rfl))
  f304 := Try.func160.trans (congrArg some (by kernel_rfl))
  f305 := Try.func161.trans (congrArg some (by kernel_rfl))
  f306 := Try.func162.trans (congrArg some (by kernel_rfl))
  f307 := Try.func163.trans (congrArg some (by kernel_rfl))
  f308 := Try.func164.trans (congrArg some (by kernel_rfl))
  f309 := Try.func165.trans (congrArg some (by kernel_rfl))
  f310 := Try.func166.trans (congrArg some (by kernel_rfl))
  f329 := Try.func184.trans (congrArg some (by kernel_rfl))
  f330 := Try.func185.trans (congrArg some (by kernel_rfl))
  f333 := Try.func183.trans (congrArg some (by kernel_rfl))
  f334 := Try.func186.trans (congrArg some (by kernel_rfl))
  f335 := Try.func187.trans (congrArg some (by kernel_rfl))
  f336 := Try.func156.trans (congrArg some (by kernel_rfl))
  f344 := Try.func192.trans (congrArg some (by kernel_rfl))
  t0 := Try.underlying0
  a0 := Try.isAgg0
  z0 := Try.sizeOf0
  v0 := Try.zeroValue0
  t3 := Try.underlying3
  a3 := Try.isAgg3
  z3 := Try.sizeOf3
  v3 := Try.zeroValue3
  t4 := Try.underlying4
  a4 := Try.isAgg4
  z4 := Try.sizeOf4
  v4 := Try.zeroValue4
  t5 := Try.underlying5
  a5 := Try.isAgg5
  z5 := Try.sizeOf5
  v5 := Try.zeroValue5
  t9 := Try.underlying9
  a9 := Try.isAgg9
  z9 := Try.sizeOf9
  v9 := Try.zeroValue9
  t31 := Try.underlying24
  a31 := Try.isAgg24
  z31 := Try.sizeOf24
  v31 := Try.zeroValue24
  t46 := Try.underlying162
  a46 := Try.isAgg162
  z46 := Try.sizeOf162
  v46 := Try.zeroValue162
  t51 := Try.underlying198
  a51 := Try.isAgg198
  z51 := Try.sizeOf198
  v51 := Try.zeroValue198
  t53 := Try.underlying200
  a53 := Try.isAgg200
  z53 := Try.sizeOf200
  v53 := Try.zeroValue200
  t131 := Try.underlying100
  a131 := Try.isAgg100
  z131 := Try.sizeOf100
  v131 := Try.zeroValue100
  t182 := Try.underlying190
  a182 := Try.isAgg190
  z182 := Try.sizeOf190
  v182 := Try.zeroValue190
  t183 := Try.underlying191
  a183 := Try.isAgg191
  z183 := Try.sizeOf191
  v183 := Try.zeroValue191
  t218 := Try.underlying209
  a218 := Try.isAgg209
  z218 := Try.sizeOf209
  v218 := Try.zeroValue209
  t222 := Try.underlying213
  a222 := Try.isAgg213
  z222 := Try.sizeOf213
  v222 := Try.zeroValue213
  t228 := Try.underlying217
  a228 := Try.isAgg217
  z228 := Try.sizeOf217
  v228 := Try.zeroValue217
  t229 := Try.underlying218
  a229 := Try.isAgg218
  z229 := Try.sizeOf218
  v229 := Try.zeroValue218 }
def lays194_ren : Go.Shelf.Ren := ⟨fun | 194 => 107 | n => n, fun | 31 => 24 | 9 => 9 | 3 => 3 | 4 => 4 | 0 => 0 | n => n, fun | n => n⟩
theorem lays194 : Go.Proofs.Lays.n194 Try.prog lays194_ren := {
  mixed := by kernel_rfl
  f194 := Try.func107.trans (congrArg some (by kernel_rfl))
  t0 := Try.underlying0
  a0 := Try.isAgg0
  z0 := Try.sizeOf0
  v0 := Try.zeroValue0
  t3 := Try.underlying3
  a3 := Try.isAgg3
  z3 := Try.sizeOf3
  v3 := Try.zeroValue3
  t4 := Try.underlying4
  a4 := Try.isAgg4
  z4 := Try.sizeOf4
  v4 := Try.zeroValue4
  t9 := Try.underlying9
  a9 := Try.isAgg9
  z9 := Try.sizeOf9
  v9 := Try.zeroValue9
  t31 := Try.underlying24
  a31 := Try.isAgg24
  z31 := Try.sizeOf24
  v31 := Try.zeroValue24 }

theorem sget_grow {w : World} {os : Array Obj} {b : Nat} (h : b < w.heap.size) : (Sort.grow w os).heap[b]? = w.heap[b]? := by
  simp [Sort.grow, Array.getElem?_append, h]
theorem sput_at {α : Type} [Inhabited α] {enc : α → Value} {d : Array α} {c : Array Value} {j : Nat} (h : j < c.size) : (Sort.putCells enc 0 d c)[j]? = some (if j < d.size then enc d[j]! else c[j]) := by
  simp [Sort.putCells, h]
theorem flat_str {zs : List (List UInt8)} : (zs.map V.str).flatMap V.cells = zs.map V.str := by
  induction zs with
  | nil => rfl
  | cons z zs ih => simp [List.flatMap_cons, ih, V.cells]
/-- an own row of texts, as the library's contracts see it -/
theorem row_holds {c : Cx} {el : TypeId} {zs : List (List UInt8)} {b cap : Nat} {x : Value} (hm : Mem c c.κ [(0, some (.row el 1 (zs.map V.str)))] c.w) (hk : c.κ 0 = some (b, cap)) (h1 : RepT c c.κ (.os 0 zs.length) x) :
    zs.length ≤ cap ∧ cap ≤ maxLen ∧ x = .slice (some ⟨b, 0, none⟩) zs.length cap ∧ b < c.w.heap.size ∧ Sort.Holds encStr c.w b 0 zs.toArray := by
  have hx : zs.length ≤ cap ∧ cap ≤ maxLen ∧ x = .slice (some ⟨b, 0, none⟩) zs.length cap := by
    have : RepB c c.κ (.os 0 zs.length) x := h1
    simpa [RepB, hk] using this
  have hrow := hm.hp 0 _ rfl
  simp only [Holds, hk] at hrow
  obtain ⟨cur, hb, hl, hm2, hsz, hc1, hread⟩ := hrow
  rw [flat_str] at hread
  refine ⟨hx.1, hx.2.1, hx.2.2, (Array.getElem?_eq_some_iff.1 hb).1, fun j hj => ?_⟩
  have hj' : j < zs.length := by simpa using hj
  constructor
  · obtain ⟨y, hy, hr⟩ := hread j (V.str zs[j]) (by simp [hj'])
    have : y = .string ⟨⟨zs[j]⟩⟩ := by cases hr; rfl
    subst this
    have e1 : zs.toArray[j]! = zs[j] := by rw [getElem!_pos _ j (by simpa using hj'), List.getElem_toArray]
    rw [e1]; simp only [World.cell?, hb, Nat.zero_add]; exact hy
  · simp [World.frozen?, hb]
/-- .. and what it holds when they have written it -/
theorem row_put {c : Cx} {el : TypeId} {zs ys full : List (List UInt8)} {b cap n : Nat} {os : Array Obj} (hm : Mem c c.κ [(0, some (.row el 1 (zs.map V.str)))] c.w) (hk : c.κ 0 = some (b, cap)) (hf : full.length = zs.length) (hy : ys <+: full) :
    Mem c c.κ [(0, some (.row el 1 (ys.map V.str)))] (Sort.grow (Sort.putRow encStr (Sort.ahead c.w n) b 0 full.toArray) os) := by
  have hrow := hm.hp 0 _ rfl
  simp only [Holds, hk] at hrow
  obtain ⟨cur, hb, hl, hm2, hsz, hc1, hread⟩ := hrow
  rw [List.length_map] at hl
  rw [Nat.mul_one] at hsz
  have hlt : b < c.w.heap.size := (Array.getElem?_eq_some_iff.1 hb).1
  have hyl : ys.length ≤ full.length := hy.length_le
  have hap := (hm.ow 0 _ b cap rfl hk)
  have hX : c.X b := by rcases hap.1 with h | h; · omega
                        · exact h
  have hput : ∀ b', (Sort.putRow encStr (Sort.ahead c.w n) b 0 full.toArray).heap[b']? = if b = b' then some (.cells (Sort.putCells encStr 0 full.toArray cur) el (0, 0)) else c.w.heap[b']? := by
    intro b'
    simp only [Sort.putRow, Sort.mapBlock, Sort.ahead, Array.getElem?_modify]
    by_cases hbb : b = b'
    · subst hbb; simp [hb, Sort.onCells]
    · simp [hbb]
  have hpsz : (Sort.putRow encStr (Sort.ahead c.w n) b 0 full.toArray).heap.size = c.w.heap.size := by
    simp [Sort.putRow, Sort.mapBlock, Sort.ahead]
  have hfl : (Sort.grow (Sort.putRow encStr (Sort.ahead c.w n) b 0 full.toArray) os).heap[b]? = some (.cells (Sort.putCells encStr 0 full.toArray cur) el (0, 0)) := by
    rw [sget_grow (by rw [hpsz]; exact hlt), hput b, if_pos rfl]
  have hg0 : ∀ l o, E.get [(0, some (O.row el 1 (ys.map V.str)))] l = some o → l = 0 ∧ o = O.row el 1 (ys.map V.str) := by
    intro l o h
    rw [get_cons] at h
    by_cases hl0 : 0 = l
    · rw [if_pos hl0] at h; exact ⟨hl0.symm, (Option.some.inj h).symm⟩
    · rw [if_neg hl0] at h; simp [E.get] at h
  refine ⟨⟨rfl, rfl, rfl, ?_, ?_⟩, ?_, ?_, ?_, fun _ _ => rfl, Ns.nil fun l o h => by rw [(hg0 l o h).2]; rfl⟩
  · simp only [Sort.grow, Array.size_append, hpsz]; omega
  · intro b' hb' hX'
    rw [sget_grow (by rw [hpsz]; exact hb'), hput b', if_neg (fun (e : b = b') => hX' (by rw [← e]; exact hX))]
  · intro l o h
    obtain ⟨rfl, rfl⟩ := hg0 l o h
    simp only [Holds, hk]
    refine ⟨_, hfl, by rw [List.length_map]; omega, hm2, by simp [Sort.putCells, hsz], fun e he => by obtain ⟨z, _, rfl⟩ := List.mem_map.1 he; rfl, fun j u hu => ?_⟩
    rw [flat_str, List.getElem?_map] at hu
    cases hj : ys[j]? with
    | none => rw [hj] at hu; simp at hu
    | some z =>
      rw [hj] at hu
      have : u = V.str z := by simpa using hu.symm
      subst this
      have hjl := (List.getElem?_eq_some_iff.1 hj).1
      refine ⟨.string ⟨⟨z⟩⟩, ?_, .str z⟩
      rw [sput_at (by omega), if_pos (by simp; omega)]
      have hg : full.toArray[j]! = z := by
        rw [getElem!_pos _ j (by simp; omega), List.getElem_toArray]
        have : full[j]? = some z := by
          obtain ⟨t, ht⟩ := hy
          rw [← ht, List.getElem?_append_left hjl]; exact hj
        rw [List.getElem?_eq_getElem (by omega)] at this
        exact Option.some.inj this
      rw [hg]
  · intro l o b' k' h hk'
    obtain ⟨rfl, rfl⟩ := hg0 l o h
    rw [hk] at hk'; obtain ⟨rfl, rfl⟩ := by simpa using hk'
    exact ⟨.inr hX, hap.2⟩
  · intro l l' o o' b' k' k'' h h' _ _
    obtain ⟨rfl, rfl⟩ := hg0 l o h
    obtain ⟨rfl, rfl⟩ := hg0 l' o' h'
    rfl
theorem row_none {c : Cx} {zs : List (List UInt8)} {x : Value} (hk : c.κ 0 = none) (h1 : RepT c c.κ (.os 0 zs.length) x) : zs = [] ∧ x = .slice none 0 0 := by
  have : RepB c c.κ (.os 0 zs.length) x := h1
  have h : zs.length = 0 ∧ x = .slice none 0 0 := by simpa [RepB, hk] using this
  exact ⟨List.length_eq_zero_iff.1 h.1, h.2⟩
theorem c_slices_Sort_string (x : List (List UInt8)) (hp1 : x.length ≤ 1073741824) : Con Try.prog 106 [.os 0 x.length] [(0, some (.row 9 1 (x.map V.str)))] (.tup []) [(0, some (.row 9 1 ((x.mergeSort fun x y => decide (x ≤ y)).map V.str)))] := by
  intro c xs hc hargs hm
  match xs, hargs with
  | [v], ⟨h1, _⟩ =>
    cases hk : c.κ 0 with
    | none =>
      obtain ⟨rfl, rfl⟩ := row_none hk h1
      refine (Any.slices_Sort_string_none lays190 none 0 c.w).mono ?_
      rintro e w' ⟨rfl, rfl⟩
      exact ⟨_, c.κ, rfl, ⟨[], rfl, trivial⟩, by rw [List.mergeSort_nil]; exact hm⟩
    | some bk =>
      obtain ⟨b, cap⟩ := bk
      obtain ⟨hcap, hmax, rfl, hlt, hH⟩ := row_holds hm hk h1
      refine (Any.slices_Sort_string lays190 b 0 cap x c.w hH hlt (by omega)).mono ?_
      rintro e w' ⟨rfl, n, os, rfl⟩
      exact ⟨_, c.κ, rfl, ⟨[], rfl, trivial⟩, row_put hm hk (List.length_mergeSort x) (List.prefix_refl _)⟩
theorem compact_le (x : List (List UInt8)) : (Lib.compact x).length ≤ x.length := by
  unfold Lib.compact Lib.compactUpTo
  rw [List.length_map]
  exact Nat.le_trans (List.length_filter_le _ _) (by simp)
theorem c_slices_Compact_string (s : List (List UInt8)) (hp1 : s.length ≤ 1073741824) : Con Try.prog 107 [.os 0 s.length] [(0, some (.row 9 1 (s.map V.str)))] (.os 0 (Lib.compact s).length) [(0, some (.row 9 1 ((Lib.compact s).map V.str)))] := by
  intro c xs hc hargs hm
  match xs, hargs with
  | [v], ⟨h1, _⟩ =>
    cases hk : c.κ 0 with
    | none =>
      obtain ⟨rfl, rfl⟩ := row_none hk h1
      refine (Any.slices_Compact_string_empty lays194 none 0 c.w).mono ?_
      rintro e w' ⟨rfl, rfl⟩
      exact ⟨_, c.κ, rfl, h1, hm⟩
    | some bk =>
      obtain ⟨b, cap⟩ := bk
      obtain ⟨hcap, hmax, rfl, hlt, hH⟩ := row_holds hm hk h1
      refine (Any.slices_Compact_string lays194 b 0 cap s c.w hH (by omega) hcap).mono ?_
      rintro e w' ⟨rfl, n, rfl⟩
      have hle := compact_le s
      refine ⟨_, c.κ, rfl, repT_os hk ⟨by omega, hmax, rfl⟩, ?_⟩
      have := row_put (n := n) (os := #[]) (ys := Lib.compact s) (full := Lib.compact s ++ List.replicate (s.length - (Lib.compact s).length) []) hm hk (by rw [List.length_append, List.length_replicate]; omega) (List.prefix_append _ _)
      rwa [Sort.grow_empty] at this

def laysN53_ren : Go.Shelf.Ren := ⟨fun | 53 => 110 | 64 => 142 | 63 => 145 | 78 => 167 | 79 => 168 | 70 => 170 | 71 => 171 | 72 => 172 | 73 => 173 | 74 => 174 | 75 => 175 | 59 => 176 | 76 => 177 | 77 => 178 | 88 => 189 | 89 => 184 | 90 => 185 | 91 => 190 | 92 => 191 | 68 => 109 | 96 => 193 | n => n, fun | 22 => 139 | 23 => 2 | 3 => 3 | 51 => 162 | 0 => 0 | 67 => 198 | 69 => 200 | 4 => 4 | 61 => 191 | 60 => 190 | 44 => 100 | 5 => 5 | 9 => 9 | 75 => 209 | 79 => 213 | 83 => 217 | 84 => 218 | n => n, fun | n => n⟩
theorem laysN53 : Go.Proofs.SlLaysN.n53 Try.prog laysN53_ren := {
  mixed := by kernel_rfl
  f53 := ⟨Try.f110.name, by decide, Try.func110.trans (congrArg some (by kernel_rfl))⟩
  f59 := ⟨Try.f176.name, by decide, Try.func176.trans (congrArg some (by kernel_rfl))⟩
  f63 := ⟨Try.f145.name, by decide, Try.func145.trans (congrArg some (by kernel_rfl))⟩
  f64 := Try.func142.trans (congrArg some (by kernel_rfl))
  f68 := ⟨Try.f109.name, by decide, Try.func109.trans (congrArg some (by kernel_rfl))⟩
  f70 := ⟨Try.f170.name, by decide, Try.func170.trans (congrArg some (by kernel_rfl))⟩
  f71 := ⟨Try.f171.name, by decide, Try.func171.trans (congrArg some (by kernel_rfl))⟩
  f72 := ⟨Try.f172.name, by decide, Try.func172.trans (congrArg some (by kernel_rfl))⟩
  f73 := ⟨Try.f173.name, by decide, Try.func173.trans (congrArg some (by kernel_rfl))⟩
  f74 := ⟨Try.f174.name, by decide, Try.func174.trans (congrArg some (by kernel_rfl))⟩
  f75 := ⟨Try.f175.name, by decide, Try.func175.trans (congrArg some (by kernel_rfl))⟩
  f76 := ⟨Try.f177.name, by decide, Try.func177.trans (congrArg some (by kernel_rfl))⟩
  f77 := ⟨Try.f178.name, by decide, Try.func178.trans (congrArg some (by kernel_rfl))⟩
  f78 := Try.func167.trans (congrArg some (by kernel_rfl))
  f79 := Try.func168.trans (congrArg some (by kernel_rfl))
  f88 := ⟨Try.f189.name, by decide, Try.func189.trans (congrArg some (by kernel_rfl))⟩
  f89 := Try.func184.trans (congrArg some (by kernel_rfl))
  f90 := Try.func185.trans (congrArg some (by kernel_rfl))
  f91 := ⟨Try.f190.name, by decide, Try.func190.trans (congrArg some (by kernel_rfl))⟩
  f92 := ⟨Try.f191.name, by decide, Try.func191.trans (congrArg some (by kernel_rfl))⟩
  f96 := ⟨Try.f193.name, by decide, Try.func193.trans (congrArg some (by kernel_rfl))⟩
  t0 := Try.underlying0
  a0 := Try.isAgg0
  z0 := Try.sizeOf0
  v0 := Try.zeroValue0
  t3 := Try.underlying3
  a3 := Try.isAgg3
  z3 := Try.sizeOf3
  v3 := Try.zeroValue3
  t4 := Try.underlying4
  a4 := Try.isAgg4
  z4 := Try.sizeOf4
  v4 := Try.zeroValue4
  t5 := Try.underlying5
  a5 := Try.isAgg5
  z5 := Try.sizeOf5
  v5 := Try.zeroValue5
  t9 := Try.underlying9
  a9 := Try.isAgg9
  z9 := Try.sizeOf9
  v9 := Try.zeroValue9
  t22 := Try.underlying139
  a22 := Try.isAgg139
  z22 := Try.sizeOf139
  v22 := Try.zeroValue139
  t23 := Try.underlying2
  a23 := Try.isAgg2
  z23 := Try.sizeOf2
  v23 := Try.zeroValue2
  t44 := Try.underlying100
  a44 := Try.isAgg100
  z44 := Try.sizeOf100
  v44 := Try.zeroValue100
  t51 := Try.underlying162
  a51 := Try.isAgg162
  z51 := Try.sizeOf162
  v51 := Try.zeroValue162
  t60 := Try.underlying190
  a60 := Try.isAgg190
  z60 := Try.sizeOf190
  v60 := Try.zeroValue190
  t61 := Try.underlying191
  a61 := Try.isAgg191
  z61 := Try.sizeOf191
  v61 := Try.zeroValue191
  t67 := Try.underlying198
  a67 := Try.isAgg198
  z67 := Try.sizeOf198
  v67 := Try.zeroValue198
  t69 := Try.underlying200
  a69 := Try.isAgg200
  z69 := Try.sizeOf200
  v69 := Try.zeroValue200
  t75 := Try.underlying209
  a75 := Try.isAgg209
  z75 := Try.sizeOf209
  v75 := Try.zeroValue209
  t79 := Try.underlying213
  a79 := Try.isAgg213
  z79 := Try.sizeOf213
  v79 := Try.zeroValue213
  t83 := Try.underlying217
  a83 := Try.isAgg217
  z83 := Try.sizeOf217
  v83 := Try.zeroValue217
  t84 := Try.underlying218
  a84 := Try.isAgg218
  z84 := Try.sizeOf218
  v84 := Try.zeroValue218 }

/-! ## The library's slices.Sort at []int64, as a contract over an own row (over the kit's laid contract) -/
theorem get_grow {w : World} {os : Array Obj} {b : Nat} (h : b < w.heap.size) : (Sort.grow w os).heap[b]? = w.heap[b]? := by
  simp [Sort.grow, Array.getElem?_append, h]
theorem putCells_at {α : Type} [Inhabited α] {enc : α → Value} {d : Array α} {c : Array Value} {j : Nat} (h : j < c.size) : (Sort.putCells enc 0 d c)[j]? = some (if j < d.size then enc d[j]! else c[j]) := by
  simp [Sort.putCells, h]
theorem map_flat {zs : List Int} : (zs.map (V.int .i64)).flatMap V.cells = zs.map (V.int .i64) := by
  induction zs with
  | nil => rfl
  | cons z zs ih => simp [List.flatMap_cons, ih, V.cells]
theorem con_sort_int {P : Program} {ρ : Ren} (L : SlLaysN.n53 P ρ) (el : TypeId) (zs : List Int) (hz : zs.length ≤ 1073741824) :
    Con P (ρ.f 53) [.os 0 zs.length] [(0, some (.row el 1 (zs.map (V.int .i64))))] (.tup []) [(0, some (.row el 1 ((zs.mergeSort fun x y => decide (x ≤ y)).map (V.int .i64))))] := by
  intro c xs hc hargs hm
  match xs, hargs with
  | [x], ⟨h1, _⟩ =>
    have hrow := hm.hp 0 _ rfl
    have hlen : (zs.mergeSort fun x y => decide (x ≤ y)).length = zs.length := List.length_mergeSort zs
    cases hk : c.κ 0 with
    | none =>
      have hx : zs.length = 0 ∧ x = .slice none 0 0 := by
        have : RepB c c.κ (.os 0 zs.length) x := h1
        simpa [RepB, hk] using this
      obtain ⟨h0, rfl⟩ := hx
      have hnil : zs = [] := List.length_eq_zero_iff.1 h0
      subst hnil
      refine (AnyG.slices_Sort_int_none L none 0 c.w).mono ?_
      rintro e w' ⟨rfl, rfl⟩
      exact ⟨_, c.κ, rfl, ⟨[], rfl, trivial⟩, by rw [List.mergeSort_nil]; exact hm⟩
    | some bk =>
      obtain ⟨b, cap⟩ := bk
      have hx : zs.length ≤ cap ∧ cap ≤ maxLen ∧ x = .slice (some ⟨b, 0, none⟩) zs.length cap := by
        have : RepB c c.κ (.os 0 zs.length) x := h1
        simpa [RepB, hk] using this
      obtain ⟨hcap, hmax, rfl⟩ := hx
      simp only [Holds, hk] at hrow
      obtain ⟨cur, hb, hl, hm2, hsz, hc1, hread⟩ := hrow
      rw [List.length_map] at hl
      rw [Nat.mul_one] at hsz
      rw [map_flat] at hread
      have hlt : b < c.w.heap.size := (Array.getElem?_eq_some_iff.1 hb).1
      have hH : Sort.Holds (Value.int .i64) c.w b 0 zs.toArray := by
        intro j hj
        have hj' : j < zs.length := by simpa using hj
        constructor
        · obtain ⟨y, hy, hr⟩ := hread j (V.int .i64 zs[j]) (by simp [hj'])
          have : y = .int .i64 zs[j] := by cases hr; rfl
          subst this
          simp [World.cell?, hb, hy, hj']
        · simp [World.frozen?, hb]
      refine (AnyG.slices_Sort_int L b 0 cap zs c.w hH hlt (by omega)).mono ?_
      rintro e w' ⟨rfl, n, os, rfl⟩
      have hap := (hm.ow 0 _ b cap rfl hk)
      have hX : c.X b := by rcases hap.1 with h | h; · omega
                            · exact h
      have hput : ∀ b', (Sort.putRow (Value.int .i64) (Sort.ahead c.w n) b 0 (zs.mergeSort fun x y => decide (x ≤ y)).toArray).heap[b']? = if b = b' then some (.cells (Sort.putCells (Value.int .i64) 0 (zs.mergeSort fun x y => decide (x ≤ y)).toArray cur) el (0, 0)) else c.w.heap[b']? := by
        intro b'
        simp only [Sort.putRow, Sort.mapBlock, Sort.ahead, Array.getElem?_modify]
        by_cases hbb : b = b'
        · subst hbb; simp [hb, Sort.onCells]
        · simp [hbb]
      have hpsz : (Sort.putRow (Value.int .i64) (Sort.ahead c.w n) b 0 (zs.mergeSort fun x y => decide (x ≤ y)).toArray).heap.size = c.w.heap.size := by
        simp [Sort.putRow, Sort.mapBlock, Sort.ahead]
      have hfl : (Sort.grow (Sort.putRow (Value.int .i64) (Sort.ahead c.w n) b 0 (zs.mergeSort fun x y => decide (x ≤ y)).toArray) os).heap[b]? = some (.cells (Sort.putCells (Value.int .i64) 0 (zs.mergeSort fun x y => decide (x ≤ y)).toArray cur) el (0, 0)) := by
        rw [get_grow (by rw [hpsz]; exact hlt), hput b, if_pos rfl]
      have hg0 : ∀ l o, E.get [(0, some (O.row el 1 ((zs.mergeSort fun x y => decide (x ≤ y)).map (V.int .i64))))] l = some o → l = 0 ∧ o = O.row el 1 ((zs.mergeSort fun x y => decide (x ≤ y)).map (V.int .i64)) := by
        intro l o h
        rw [get_cons] at h
        by_cases hl0 : 0 = l
        · rw [if_pos hl0] at h; exact ⟨hl0.symm, (Option.some.inj h).symm⟩
        · rw [if_neg hl0] at h; simp [E.get] at h
      refine ⟨_, c.κ, rfl, ⟨[], rfl, trivial⟩, ⟨⟨rfl, rfl, rfl, ?_, ?_⟩, ?_, ?_, ?_, fun _ _ => rfl, Ns.nil fun l o h => by rw [(hg0 l o h).2]; rfl⟩⟩
      · simp only [Sort.grow, Array.size_append, hpsz]; omega
      · intro b' hb' hX'
        rw [get_grow (by rw [hpsz]; exact hb'), hput b', if_neg (fun (e : b = b') => hX' (by rw [← e]; exact hX))]
      · intro l o h
        obtain ⟨rfl, rfl⟩ := hg0 l o h
        simp only [Holds, hk]
        refine ⟨_, hfl, by rw [List.length_map, hlen]; exact hcap, hmax, by simp [Sort.putCells, hsz], fun e he => by obtain ⟨z, _, rfl⟩ := List.mem_map.1 he; rfl, fun j u hu => ?_⟩
        rw [map_flat, List.getElem?_map] at hu
        cases hj : (zs.mergeSort fun x y => decide (x ≤ y))[j]? with
        | none => rw [hj] at hu; simp at hu
        | some z =>
          rw [hj] at hu
          have : u = V.int .i64 z := by simpa using hu.symm
          subst this
          have hjl := (List.getElem?_eq_some_iff.1 hj).1
          refine ⟨.int .i64 z, ?_, .int .i64 z⟩
          rw [putCells_at (by omega), if_pos (by simpa using hjl)]
          have hg : (zs.mergeSort fun x y => decide (x ≤ y)).toArray[j]! = z := by
            rw [getElem!_pos _ j (by simpa using hjl), List.getElem_toArray]
            rw [List.getElem?_eq_getElem hjl] at hj
            exact Option.some.inj hj
          rw [hg]
      · intro l o b' k' h hk'
        obtain ⟨rfl, rfl⟩ := hg0 l o h
        rw [hk] at hk'; obtain ⟨rfl, rfl⟩ := by simpa using hk'
        exact ⟨.inr hX, hap.2⟩
      · intro l l' o o' b' k' k'' h h' _ _
        obtain ⟨rfl, rfl⟩ := hg0 l o h
        obtain ⟨rfl, rfl⟩ := hg0 l' o' h'
        rfl
theorem c_slices_Sort_int64 (x : List Int) (hp1 : x.length ≤ 1073741824) : Con Try.prog 110 [.os 0 x.length] [(0, some (.row 2 1 (x.map (V.int .i64))))] (.tup []) [(0, some (.row 2 1 ((x.mergeSort fun x y => decide (x ≤ y)).map (V.int .i64))))] :=
  con_sort_int laysN53 2 x hp1
end Go.Proofs.Ytbflomopgofkgaa
