/-
  CONTRACTS OF GO'S slices.Sort AND slices.Compact AT []string AT THIS SEAT'S PROGRAM, in the engine's form: what the shelf proves once, laid here, and turned into 'Con'.
  Conditions: as each theorem states them (hp1, hp2 ..).
-/
import Derived.Shelf.Sort.Plain
import Derived.Shelf.Slices.In.SortNone
import Derived.Shelf.Slices.CompactS
import Derived.Test.YtdkkcemlnjlebaaEngN
import Derived.Test.YtdkkcemlnjlebaaProg
set_option linter.unusedVariables false
set_option linter.unusedSimpArgs false
set_option linter.unusedSectionVars false
set_option linter.unnecessarySimpa false
namespace Go.Proofs.Ytdkkcemlnjlebaa
open Go Go.RowKit Go.Proofs Go.Proofs.Ytdkkcemlnjlebaa.E Go.Shelf

def lays190_ren : Go.Shelf.Ren := ⟨fun | 190 => 63 | 125 => 73 | 258 => 72 | 128 => 86 | 129 => 87 | 302 => 77 | 303 => 78 | 304 => 79 | 305 => 80 | 306 => 81 | 307 => 82 | 308 => 83 | 309 => 84 | 310 => 85 | 333 => 88 | 329 => 89 | 330 => 90 | 334 => 91 | 335 => 92 | 336 => 93 | 344 => 94 | n => n, fun | 31 => 54 | 9 => 9 | 3 => 3 | 46 => 95 | 0 => 0 | 51 => 107 | 53 => 109 | 4 => 4 | 183 => 99 | 182 => 98 | 131 => 104 | 5 => 5 | 218 => 110 | 222 => 114 | 228 => 116 | 229 => 117 | n => n, fun | n => n⟩
theorem lays190 : Go.Proofs.Lays.n190 Try.prog lays190_ren := {
  mixed := by kernel_rfl
  f125 := Try.func73.trans (congrArg some (by kernel_rfl))
  f128 := Try.func86.trans (congrArg some (by kernel_rfl))
  f129 := Try.func87.trans (congrArg some (by kernel_rfl))
  f190 := Try.func63.trans (congrArg some (by kernel_rfl))
  f258 := Try.func72.trans (congrArg some (by kernel_rfl))
  f302 := Try.func77.trans (congrArg some (by kernel_rfl))
  f303 := Try.func78.trans (congrArg some (by kernel_rfl))
  f304 := Try.func79.trans (congrArg some (by kernel_rfl))
  f305 := Try.func80.trans (congrArg some (by kernel_rfl))
  f306 := Try.func81.trans (congrArg some (by kernel_rfl))
  f307 := Try.func82.trans (congrArg some (by kernel_rfl))
  f308 := Try.func83.trans (congrArg some (by kernel_rfl))
  f309 := Try.func84.trans (congrArg some (by kernel_rfl))
  f310 := Try.func85.trans (congrArg some (by kernel_rfl))
  f329 := Try.func89.trans (congrArg some (by kernel_rfl))
  f330 := Try.func90.trans (congrArg some (by kernel_rfl))
  f333 := Try.func88.trans (congrArg some (by kernel_rfl))
  f334 := Try.func91.trans (congrArg some (by kernel_rfl))
  f335 := Try.func92.trans (congrArg some (by kernel_rfl))
  f336 := Try.func93.trans (congrArg some (by kernel_rfl))
  f344 := Try.func94.trans (congrArg some (by kernel_rfl))
  t0 := Try.underlying0
  a0 := Try.isAgg0
  z0 := Try.sizeOf0
  v0 := Try.zeroValue0
  t3 := Try.underlying3
  a3 := Try.isAgg3
  z3 := Try.sizeOf3
  v3 := Try.zeroValue3
  t4 := Try.underlying4
  a4 := Try.isAgg4
  z4 := Try.sizeOf4
  v4 := Try.zeroValue4
  t5 := Try.underlying5
  a5 := Try.isAgg5
  z5 := Try.sizeOf5
  v5 := Try.zeroValue5
  t9 := Try.underlying9
  a9 := Try.isAgg9
  z9 := Try.sizeOf9
  v9 := Try.zeroValue9
  t31 := Try.underlying54
  a31 := Try.isAgg54
  z31 := Try.sizeOf54
  v31 := Try.zeroValue54
  t46 := Try.underlying95
  a46 := Try.isAgg95
  z46 := Try.sizeOf95
  v46 := Try.zeroValue95
  t51 := Try.underlying107
  a51 := Try.isAgg107
  z51 := Try.sizeOf107
  v51 := Try.zeroValue107
  t53 := Try.underlying109
  a53 := Try.isAgg109
  z53 := Try.sizeOf109
  v53 := Try.zeroValue109
  t131 := Try.underlying104
  a131 := Try.isAgg104
  z131 := Try.sizeOf104
  v131 := Try.zeroValue104
  t182 := Try.underlying98
  a182 := Try.isAgg98
  z182 := Try.sizeOf98
  v182 := Try.zeroValue98
  t183 := Try.underlying99
  a183 := Try.isAgg99
  z183 := Try.sizeOf99
  v183 := Try.zeroValue99
  t218 := Try.underlying110
  a218 := Try.isAgg110
  z218 := Try.sizeOf110
  v218 := Try.zeroValue110
  t222 := Try.underlying114
  a222 := Try.isAgg114
  z222 := Try.sizeOf114
  v222 := Try.zeroValue114
  t228 := Try.underlying116
  a228 := Try.isAgg116
  z228 := Try.sizeOf116
  v228 := Try.zeroValue116
  t229 := Try.underlying117
  a229 := Try.isAgg117
  z229 := Try.sizeOf117
  v229 := Try.zeroValue117 }
def lays194_ren : Go.Shelf.Ren := ⟨fun | 194 => 64 | n => n, fun | 31 => 54 | 9 => 9 | 3 => 3 | 4 => 4 | 0 => 0 | n => n, fun | n => n⟩
theorem lays194 : Go.Proofs.Lays.n194 Try.prog lays194_ren := {
  mixed := by kernel_rfl
  f194 := Try.func64.trans (congrArg some (by kernel_rfl))
  t0 := Try.underlying0
  a0 := Try.isAgg0
  z0 := Try.sizeOf0
  v0 := Try.zeroValue0
  t3 := Try.underlying3
  a3 := Try.isAgg3
  z3 := Try.sizeOf3
  v3 := Try.zeroValue3
  t4 := Try.underlying4
  a4 := Try.isAgg4
  z4 := Try.sizeOf4
  v4 := Try.zeroValue4
  t9 := Try.underlying9
  a9 := Try.isAgg9
  z9 := Try.sizeOf9
  v9 := Try.zeroValue9
  t31 := Try.underlying54
  a31 := Try.isAgg54
  z31 := Try.sizeOf54
  v31 := Try.zeroValue54 }

theorem sget_grow {w : World} {os : Array Obj} {b : Nat} (h : b < w.heap.size) : (Sort.grow w os).heap[b]? = w.heap[b]? := by
  simp [Sort.grow, Array.getElem?_append, h]
theorem sput_at {α : Type} [Inhabited α] {enc : α → Value} {d : Array α} {c : Array Value} {j : Nat} (h : j < c.size) : (Sort.putCells enc 0 d c)[j]? = some (if j < d.size then enc d[j]! else c[j]) := by
  simp [Sort.putCells, h]
theorem flat_str {zs : List (List UInt8)} : (zs.map V.str).flatMap V.cells = zs.map V.str := by
  induction zs with
  | nil => rfl
  | cons z zs ih => simp [List.flatMap_cons, ih, V.cells]
/-- an own row of texts, as the library's contracts see it -/
theorem row_holds {c : Cx} {el : TypeId} {zs : List (List UInt8)} {b cap : Nat} {x : Value} (hm : Mem c c.κ [(0, some (.row el 1 (zs.map V.str)))] c.w) (hk : c.κ 0 = some (b, cap)) (h1 : RepT c c.κ (.os 0 zs.length) x) :
    zs.length ≤ cap ∧ cap ≤ maxLen ∧ x = .slice (some ⟨b, 0, none⟩) zs.length cap ∧ b < c.w.heap.size ∧ Sort.Holds encStr c.w b 0 zs.toArray := by
  have hx : zs.length ≤ cap ∧ cap ≤ maxLen ∧ x = .slice (some ⟨b, 0, none⟩) zs.length cap := by
    have : RepB c c.κ (.os 0 zs.length) x := h1
    simpa [RepB, hk] using this
  have hrow := hm.hp 0 _ rfl
  simp only [Holds, hk] at hrow
  obtain ⟨cur, hb, hl, hm2, hsz, hc1, hread⟩ := hrow
  rw [flat_str] at hread
  refine ⟨hx.1, hx.2.1, hx.2.2, (Array.getElem?_eq_some_iff.1 hb).1, fun j hj => ?_⟩
  have hj' : j < zs.length := by simpa using hj
  constructor
  · obtain ⟨y, hy, hr⟩ := hread j (V.str zs[j]) (by simp [hj'])
    have : y = .string ⟨⟨zs[j]⟩⟩ := by cases hr; rfl
    subst this
    have e1 : zs.toArray[j]! = zs[j] := by rw [getElem!_pos _ j (by simpa using hj'), List.getElem_toArray]
    rw [e1]; simp only [World.cell?, hb, Nat.zero_add]; exact hy
  · simp [World.frozen?, hb]
/-- .. and what it holds when they have written it -/
theorem row_put {c : Cx} {el : TypeId} {zs ys full : List (List UInt8)} {b cap n : Nat} {os : Array Obj} (hm : Mem c c.κ [(0, some (.row el 1 (zs.map V.str)))] c.w) (hk : c.κ 0 = some (b, cap)) (hf : full.length = zs.length) (hy : ys <+: full) :
    Mem c c.κ [(0, some (.row el 1 (ys.map V.str)))] (Sort.grow (Sort.putRow encStr (Sort.ahead c.w n) b 0 full.toArray) os) := by
  have hrow := hm.hp 0 _ rfl
  simp only [Holds, hk] at hrow
  obtain ⟨cur, hb, hl, hm2, hsz, hc1, hread⟩ := hrow
  rw [List.length_map] at hl
  rw [Nat.mul_one] at hsz
  have hlt : b < c.w.heap.size := (Array.getElem?_eq_some_iff.1 hb).1
  have hyl : ys.length ≤ full.length := hy.length_le
  have hap := (hm.ow 0 _ b cap rfl hk)
  have hX : c.X b := by rcases hap.1 with h | h; · omega
                        · exact h
  have hput : ∀ b', (Sort.putRow encStr (Sort.ahead c.w n) b 0 full.toArray).heap[b']? = if b = b' then some (.cells (Sort.putCells encStr 0 full.toArray cur) el (0, 0)) else c.w.heap[b']? := by
    intro b'
    simp only [Sort.putRow, Sort.mapBlock, Sort.ahead, Array.getElem?_modify]
    by_cases hbb : b = b'
    · subst hbb; simp [hb, Sort.onCells]
    · simp [hbb]
  have hpsz : (Sort.putRow encStr (Sort.ahead c.w n) b 0 full.toArray).heap.size = c.w.heap.size := by
    simp [Sort.putRow, Sort.mapBlock, Sort.ahead]
  have hfl : (Sort.grow (Sort.putRow encStr (Sort.ahead c.w n) b 0 full.toArray) os).heap[b]? = some (.cells (Sort.putCells encStr 0 full.toArray cur) el (0, 0)) := by
    rw [sget_grow (by rw [hpsz]; exact hlt), hput b, if_pos rfl]
  have hg0 : ∀ l o, E.get [(0, some (O.row el 1 (ys.map V.str)))] l = some o → l = 0 ∧ o = O.row el 1 (ys.map V.str) := by
    intro l o h
    rw [get_cons] at h
    by_cases hl0 : 0 = l
    · rw [if_pos hl0] at h; exact ⟨hl0.symm, (Option.some.inj h).symm⟩
    · rw [if_neg hl0] at h; simp [E.get] at h
  refine ⟨⟨rfl, rfl, rfl, ?_, ?_⟩, ?_, ?_, ?_, fun _ _ => rfl, Ns.nil fun l o h => by rw [(hg0 l o h).2]; rfl⟩
  · simp only [Sort.grow, Array.size_append, hpsz]; omega
  · intro b' hb' hX'
    rw [sget_grow (by rw [hpsz]; exact hb'), hput b', if_neg (fun (e : b = b') => hX' (by rw [← e]; exact hX))]
  · intro l o h
    obtain ⟨rfl, rfl⟩ := hg0 l o h
    simp only [Holds, hk]
    refine ⟨_, hfl, by rw [List.length_map]; omega, hm2, by simp [Sort.putCells, hsz], fun e he => by obtain ⟨z, _, rfl⟩ := List.mem_map.1 he; rfl, fun j u hu => ?_⟩
    rw [flat_str, List.getElem?_map] at hu
    cases hj : ys[j]? with
    | none => rw [hj] at hu; simp at hu
    | some z =>
      rw [hj] at hu
      have : u = V.str z := by simpa using hu.symm
      subst this
      have hjl := (List.getElem?_eq_some_iff.1 hj).1
      refine ⟨.string ⟨⟨z⟩⟩, ?_, .str z⟩
      rw [sput_at (by omega), if_pos (by simp; omega)]
      have hg : full.toArray[j]! = z := by
        rw [getElem!_pos _ j (by simp; omega), List.getElem_toArray]
        have : full[j]? = some z := by
          obtain ⟨t, ht⟩ := hy
          rw [← ht, List.getElem?_append_left hjl]; exact hj
        rw [List.getElem?_eq_getElem (by omega)] at this
        exact Option.some.inj this
      rw [hg]
  · intro l o b' k' h hk'
    obtain ⟨rfl, rfl⟩ := hg0 l o h
    rw [hk] at hk'; obtain ⟨rfl, rfl⟩ := by simpa using hk'
    exact ⟨.inr hX, hap.2⟩
  · intro l l' o o' b' k' k'' h h' _ _
    obtain ⟨rfl, rfl⟩ := hg0 l o h
    obtain ⟨rfl, rfl⟩ := hg0 l' o' h'
    rfl
theorem row_none {c : Cx} {zs : List (List UInt8)} {x : Value} (hk : c.κ 0 = none) (h1 : RepT c c.κ (.os 0 zs.length) x) : zs = [] ∧ x = .slice none 0 0 := by
  have : RepB c c.κ (.os 0 zs.length) x := h1
  have h : zs.length = 0 ∧ x = .slice none 0 0 := by simpa [RepB, hk] using this
  exact ⟨List.length_eq_zero_iff.1 h.1, h.2⟩
theorem c_slices_Sort_string (x : List (List UInt8)) (hp1 : x.length ≤ 1073741824) : Con Try.prog 63 [.os 0 x.length] [(0, some (.row 9 1 (x.map V.str)))] (.tup []) [(0, some (.row 9 1 ((x.mergeSort fun x y => decide (x ≤ y)).map V.str)))] := by
  intro c xs hc hargs hm
  match xs, hargs with
  | [v], ⟨h1, _⟩ =>
    cases hk : c.κ 0 with
    | none =>
      obtain ⟨rfl, rfl⟩ := row_none hk h1
      refine (Any.slices_Sort_string_none lays190 none 0 c.w).mono ?_
      rintro e w' ⟨rfl, rfl⟩
      exact ⟨_, c.κ, rfl, ⟨[], rfl, trivial⟩, by rw [List.mergeSort_nil]; exact hm⟩
    | some bk =>
      obtain ⟨b, cap⟩ := bk
      obtain ⟨hcap, hmax, rfl, hlt, hH⟩ := row_holds hm hk h1
      refine (Any.slices_Sort_string lays190 b 0 cap x c.w hH hlt (by omega)).mono ?_
      rintro e w' ⟨rfl, n, os, rfl⟩
      exact ⟨_, c.κ, rfl, ⟨[], rfl, trivial⟩, row_put hm hk (List.length_mergeSort x) (List.prefix_refl _)⟩
theorem compact_le (x : List (List UInt8)) : (Lib.compact x).length ≤ x.length := by
  unfold Lib.compact Lib.compactUpTo
  rw [List.length_map]
  exact Nat.le_trans (List.length_filter_le _ _) (by simp)
theorem c_slices_Compact_string (s : List (List UInt8)) (hp1 : s.length ≤ 1073741824) : Con Try.prog 64 [.os 0 s.length] [(0, some (.row 9 1 (s.map V.str)))] (.os 0 (Lib.compact s).length) [(0, some (.row 9 1 ((Lib.compact s).map V.str)))] := by
  intro c xs hc hargs hm
  match xs, hargs with
  | [v], ⟨h1, _⟩ =>
    cases hk : c.κ 0 with
    | none =>
      obtain ⟨rfl, rfl⟩ := row_none hk h1
      refine (Any.slices_Compact_string_empty lays194 none 0 c.w).mono ?_
      rintro e w' ⟨rfl, rfl⟩
      exact ⟨_, c.κ, rfl, h1, hm⟩
    | some bk =>
      obtain ⟨b, cap⟩ := bk
      obtain ⟨hcap, hmax, rfl, hlt, hH⟩ := row_holds hm hk h1
      refine (Any.slices_Compact_string lays194 b 0 cap s c.w hH (by omega) hcap).mono ?_
      rintro e w' ⟨rfl, n, rfl⟩
      have hle := compact_le s
      refine ⟨_, c.κ, rfl, repT_os hk ⟨by omega, hmax, rfl⟩, ?_⟩
      have := row_put (n := n) (os := #[]) (ys := Lib.compact s) (full := Lib.compact s ++ List.replicate (s.length - (Lib.compact s).length) []) hm hk (by rw [List.length_append, List.length_replicate]; omega) (List.prefix_append _ _)
      rwa [Sort.grow_empty] at this
end Go.Proofs.Ytdkkcemlnjlebaa
