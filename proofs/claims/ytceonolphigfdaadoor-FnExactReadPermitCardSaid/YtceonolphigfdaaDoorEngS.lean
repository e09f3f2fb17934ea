/-
  CONTRACTS OF GO'S LIBRARY AT THIS SEAT'S PROGRAM, in the engine's form: what the shelf proves once, laid here, and turned into 'Con'.
  Conditions: as each theorem states them (hp1, hp2 ..).
-/
import Derived.Shelf.Strconv.Itoa4
import Derived.Shelf.Strings.OnBuilder
import Derived.Shelf.Strings.Split
import Derived.Shelf.Strings.Cut
import Derived.Shelf.Strings.Prefix
import Derived.Shelf.Strconv.ParseIntPublic10
import Derived.Lib.AtoiErrMem
import Derived.Test.YtceonolphigfdaaDoorEngN
import Derived.Test.YtceonolphigfdaaDoorProg
set_option linter.unusedVariables false
set_option linter.unusedSimpArgs false
set_option linter.unusedSectionVars false
set_option linter.unnecessarySimpa false
namespace Go.Proofs.YtceonolphigfdaaDoor
open Go Go.RowKit Go.Proofs Go.Proofs.YtceonolphigfdaaDoor.E Go.Shelf

def lays156_ren : Go.Shelf.Ren := ⟨fun | 156 => 66 | 165 => 75 | 166 => 76 | 169 => 77 | 240 => 87 | 241 => 88 | 276 => 101 | 277 => 102 | n => n, fun | 31 => 43 | 9 => 9 | 3 => 3 | 4 => 4 | 0 => 0 | 20 => 20 | 72 => 95 | 76 => 97 | 70 => 92 | 37 => 93 | 75 => 83 | 127 => 103 | 164 => 125 | 5 => 5 | 80 => 99 | n => n, fun | n => n⟩
theorem lays156 : Go.Proofs.Lays.n156 Tryd.prog lays156_ren := {
  mixed := by kernel_rfl
  f156 := Tryd.func66.trans (congrArg some (by kernel_rfl))
  f165 := Tryd.func75.trans (congrArg some (by kernel_rfl))
  f166 := Tryd.func76.trans (congrArg some (by kernel_rfl))
  f169 := Tryd.func77.trans (congrArg some (by kernel_rfl))
  f240 := Tryd.func87.trans (congrArg some (by kernel_rfl))
  f241 := Tryd.func88.trans (congrArg some (by kernel_rfl))
  f276 := Tryd.func101.trans (congrArg some (by kernel_rfl))
  f277 := Tryd.func102.trans (congrArg some (by kernel_rfl))
  t0 := Tryd.underlying0
  a0 := Tryd.isAgg0
  z0 := Tryd.sizeOf0
  v0 := Tryd.zeroValue0
  t3 := Tryd.underlying3
  a3 := Tryd.isAgg3
  z3 := Tryd.sizeOf3
  v3 := Tryd.zeroValue3
  t4 := Tryd.underlying4
  a4 := Tryd.isAgg4
  z4 := Tryd.sizeOf4
  v4 := Tryd.zeroValue4
  t9 := Tryd.underlying9
  a9 := Tryd.isAgg9
  z9 := Tryd.sizeOf9
  v9 := Tryd.zeroValue9
  t20 := Tryd.underlying20
  a20 := Tryd.isAgg20
  z20 := Tryd.sizeOf20
  v20 := Tryd.zeroValue20
  t31 := Tryd.underlying43
  a31 := Tryd.isAgg43
  z31 := Tryd.sizeOf43
  v31 := Tryd.zeroValue43
  t37 := Tryd.underlying93
  a37 := Tryd.isAgg93
  z37 := Tryd.sizeOf93
  v37 := Tryd.zeroValue93
  t70 := Tryd.underlying92
  a70 := Tryd.isAgg92
  z70 := Tryd.sizeOf92
  v70 := Tryd.zeroValue92
  t72 := Tryd.underlying95
  a72 := Tryd.isAgg95
  z72 := Tryd.sizeOf95
  v72 := Tryd.zeroValue95
  t75 := Tryd.underlying83
  a75 := Tryd.isAgg83
  z75 := Tryd.sizeOf83
  v75 := Tryd.zeroValue83
  t76 := Tryd.underlying97
  a76 := Tryd.isAgg97
  z76 := Tryd.sizeOf97
  v76 := Tryd.zeroValue97
  t127 := Tryd.underlying103
  a127 := Tryd.isAgg103
  z127 := Tryd.sizeOf103
  v127 := Tryd.zeroValue103
  t164 := Tryd.underlying125
  a164 := Tryd.isAgg125
  z164 := Tryd.sizeOf125
  v164 := Tryd.zeroValue125 }
theorem Builder_Extra_156 : Builder.Extra Tryd.prog lays156_ren := {
  sizeBuilder := by kernel_rfl
  liesBuilder := by kernel_rfl
  t5 := Tryd.underlying5
  a5 := Tryd.isAgg5
  z5 := Tryd.sizeOf5
  v5 := Tryd.zeroValue5
  infoByte := by kernel_rfl
  cellsByte := by kernel_rfl
  sizeByte := by kernel_rfl
  neB5 := by decide }
def laysM173_ren : Go.Shelf.Ren := ⟨fun | 173 => 74 | 246 => 86 | 283 => 97 | 284 => 98 | 285 => 99 | 286 => 100 | 129 => 109 | 317 => 108 | 318 => 110 | 319 => 111 | 320 => 112 | 337 => 114 | 338 => 115 | n => n, fun | 2 => 2 | 3 => 3 | 9 => 9 | 4 => 4 | 171 => 120 | 0 => 0 | 53 => 108 | 37 => 93 | 5 => 5 | 173 => 123 | 212 => 134 | 51 => 104 | 20 => 20 | 213 => 135 | 46 => 101 | 232 => 142 | 233 => 143 | n => n, fun | 17 => 5 | 18 => 6 | 19 => 7 | n => n⟩
theorem laysM173 : Go.Proofs.LaysM.n173 Tryd.prog laysM173_ren := {
  mixed := by kernel_rfl
  f129 := Tryd.func109.trans (congrArg some (by kernel_rfl))
  f173 := Tryd.func74.trans (congrArg some (by kernel_rfl))
  f246 := Tryd.func86.trans (congrArg some (by kernel_rfl))
  f283 := Tryd.func97.trans (congrArg some (by kernel_rfl))
  f284 := Tryd.func98.trans (congrArg some (by kernel_rfl))
  f285 := Tryd.func99.trans (congrArg some (by kernel_rfl))
  f286 := Tryd.func100.trans (congrArg some (by kernel_rfl))
  f317 := Tryd.func108.trans (congrArg some (by kernel_rfl))
  f318 := Tryd.func110.trans (congrArg some (by kernel_rfl))
  f319 := Tryd.func111.trans (congrArg some (by kernel_rfl))
  f320 := Tryd.func112.trans (congrArg some (by kernel_rfl))
  f337 := Tryd.func114.trans (congrArg some (by kernel_rfl))
  f338 := Tryd.func115.trans (congrArg some (by kernel_rfl))
  t0 := Tryd.underlying0
  a0 := Tryd.isAgg0
  z0 := Tryd.sizeOf0
  v0 := Tryd.zeroValue0
  t2 := Tryd.underlying2
  a2 := Tryd.isAgg2
  z2 := Tryd.sizeOf2
  v2 := Tryd.zeroValue2
  t3 := Tryd.underlying3
  a3 := Tryd.isAgg3
  z3 := Tryd.sizeOf3
  v3 := Tryd.zeroValue3
  t4 := Tryd.underlying4
  a4 := Tryd.isAgg4
  z4 := Tryd.sizeOf4
  v4 := Tryd.zeroValue4
  t5 := Tryd.underlying5
  a5 := Tryd.isAgg5
  z5 := Tryd.sizeOf5
  v5 := Tryd.zeroValue5
  t9 := Tryd.underlying9
  a9 := Tryd.isAgg9
  z9 := Tryd.sizeOf9
  v9 := Tryd.zeroValue9
  t20 := Tryd.underlying20
  a20 := Tryd.isAgg20
  z20 := Tryd.sizeOf20
  v20 := Tryd.zeroValue20
  t37 := Tryd.underlying93
  a37 := Tryd.isAgg93
  z37 := Tryd.sizeOf93
  v37 := Tryd.zeroValue93
  t46 := Tryd.underlying101
  a46 := Tryd.isAgg101
  z46 := Tryd.sizeOf101
  v46 := Tryd.zeroValue101
  t51 := Tryd.underlying104
  a51 := Tryd.isAgg104
  z51 := Tryd.sizeOf104
  v51 := Tryd.zeroValue104
  t53 := Tryd.underlying108
  a53 := Tryd.isAgg108
  z53 := Tryd.sizeOf108
  v53 := Tryd.zeroValue108
  t171 := Tryd.underlying120
  a171 := Tryd.isAgg120
  z171 := Tryd.sizeOf120
  v171 := Tryd.zeroValue120
  t173 := Tryd.underlying123
  a173 := Tryd.isAgg123
  z173 := Tryd.sizeOf123
  v173 := Tryd.zeroValue123
  t212 := Tryd.underlying134
  a212 := Tryd.isAgg134
  z212 := Tryd.sizeOf134
  v212 := Tryd.zeroValue134
  t213 := Tryd.underlying135
  a213 := Tryd.isAgg135
  z213 := Tryd.sizeOf135
  t232 := Tryd.underlying142
  a232 := Tryd.isAgg142
  z232 := Tryd.sizeOf142
  v232 := Tryd.zeroValue142
  t233 := Tryd.underlying143
  a233 := Tryd.isAgg143
  z233 := Tryd.sizeOf143
  v233 := Tryd.zeroValue143
  g17 := by kernel_rfl
  g18 := by kernel_rfl
  g19 := by kernel_rfl
  i0 := by kernel_rfl
  i2 := by kernel_rfl
  i3 := by kernel_rfl
  i4 := by kernel_rfl
  i5 := by kernel_rfl
  i9 := by kernel_rfl
  i20 := by kernel_rfl
  i37 := by kernel_rfl
  i46 := by kernel_rfl
  i51 := by kernel_rfl
  i53 := by kernel_rfl
  i171 := by kernel_rfl
  i173 := by kernel_rfl
  i212 := by kernel_rfl
  i232 := by kernel_rfl
  i233 := by kernel_rfl
  m17 := by kernel_rfl
  m18 := by kernel_rfl
  m19 := by kernel_rfl }
def lays147_ren : Go.Shelf.Ren := ⟨fun | 147 => 54 | 221 => 47 | 268 => 62 | 138 => 63 | 143 => 64 | 195 => 71 | 197 => 72 | 218 => 73 | 219 => 67 | 260 => 85 | 217 => 78 | 225 => 79 | 224 => 80 | 267 => 81 | 266 => 89 | 314 => 90 | n => n, fun | 9 => 9 | 3 => 3 | 31 => 43 | 4 => 4 | 0 => 0 | 105 => 88 | 21 => 21 | 5 => 5 | 46 => 101 | 119 => 115 | 139 => 118 | 138 => 117 | 146 => 105 | 51 => 104 | n => n, fun | 1 => 0 | 3 => 1 | 4 => 2 | n => n⟩
theorem lays147 : Go.Proofs.Lays.n147 Tryd.prog lays147_ren := {
  mixed := by kernel_rfl
  f138 := Tryd.func63.trans (congrArg some (by kernel_rfl))
  f143 := Tryd.func64.trans (congrArg some (by kernel_rfl))
  f147 := Tryd.func54.trans (congrArg some (by kernel_rfl))
  f195 := Tryd.func71.trans (congrArg some (by kernel_rfl))
  f197 := Tryd.func72.trans (congrArg some (by kernel_rfl))
  f217 := Tryd.func78.trans (congrArg some (by kernel_rfl))
  f218 := Tryd.func73.trans (congrArg some (by kernel_rfl))
  f219 := Tryd.func67.trans (congrArg some (by kernel_rfl))
  f221 := Tryd.func47.trans (congrArg some (by kernel_rfl))
  f224 := Tryd.func80.trans (congrArg some (by kernel_rfl))
  f225 := Tryd.func79.trans (congrArg some (by kernel_rfl))
  f260 := Tryd.func85.trans (congrArg some (by kernel_rfl))
  f266 := Tryd.func89.trans (congrArg some (by kernel_rfl))
  f267 := Tryd.func81.trans (congrArg some (by kernel_rfl))
  f268 := Tryd.func62.trans (congrArg some (by kernel_rfl))
  f314 := Tryd.func90.trans (congrArg some (by kernel_rfl))
  t0 := Tryd.underlying0
  a0 := Tryd.isAgg0
  z0 := Tryd.sizeOf0
  v0 := Tryd.zeroValue0
  t3 := Tryd.underlying3
  a3 := Tryd.isAgg3
  z3 := Tryd.sizeOf3
  v3 := Tryd.zeroValue3
  t4 := Tryd.underlying4
  a4 := Tryd.isAgg4
  z4 := Tryd.sizeOf4
  v4 := Tryd.zeroValue4
  t5 := Tryd.underlying5
  a5 := Tryd.isAgg5
  z5 := Tryd.sizeOf5
  v5 := Tryd.zeroValue5
  t9 := Tryd.underlying9
  a9 := Tryd.isAgg9
  z9 := Tryd.sizeOf9
  v9 := Tryd.zeroValue9
  t21 := Tryd.underlying21
  a21 := Tryd.isAgg21
  z21 := Tryd.sizeOf21
  v21 := Tryd.zeroValue21
  t31 := Tryd.underlying43
  a31 := Tryd.isAgg43
  z31 := Tryd.sizeOf43
  v31 := Tryd.zeroValue43
  t46 := Tryd.underlying101
  a46 := Tryd.isAgg101
  z46 := Tryd.sizeOf101
  v46 := Tryd.zeroValue101
  t51 := Tryd.underlying104
  a51 := Tryd.isAgg104
  z51 := Tryd.sizeOf104
  v51 := Tryd.zeroValue104
  t105 := Tryd.underlying88
  a105 := Tryd.isAgg88
  z105 := Tryd.sizeOf88
  v105 := Tryd.zeroValue88
  t119 := Tryd.underlying115
  a119 := Tryd.isAgg115
  z119 := Tryd.sizeOf115
  t138 := Tryd.underlying117
  a138 := Tryd.isAgg117
  z138 := Tryd.sizeOf117
  v138 := Tryd.zeroValue117
  t139 := Tryd.underlying118
  a139 := Tryd.isAgg118
  z139 := Tryd.sizeOf118
  v139 := Tryd.zeroValue118
  t146 := Tryd.underlying105
  a146 := Tryd.isAgg105
  z146 := Tryd.sizeOf105
  v146 := Tryd.zeroValue105
  g1 := by kernel_rfl
  g3 := by kernel_rfl
  g4 := by kernel_rfl }
def lays146_ren : Go.Shelf.Ren := ⟨fun | 146 => 29 | 221 => 47 | 268 => 62 | 138 => 63 | 143 => 64 | 195 => 71 | 197 => 72 | 218 => 73 | 219 => 67 | 260 => 85 | 217 => 78 | 225 => 79 | 224 => 80 | 267 => 81 | 266 => 89 | 314 => 90 | n => n, fun | 9 => 9 | 31 => 43 | 3 => 3 | 4 => 4 | 0 => 0 | 105 => 88 | 21 => 21 | 5 => 5 | 46 => 101 | 119 => 115 | 139 => 118 | 138 => 117 | 146 => 105 | 51 => 104 | n => n, fun | 1 => 0 | 3 => 1 | 4 => 2 | n => n⟩
theorem lays146 : Go.Proofs.Lays.n146 Tryd.prog lays146_ren := {
  mixed := by kernel_rfl
  f138 := Tryd.func63.trans (congrArg some (by kernel_rfl))
  f143 := Tryd.func64.trans (congrArg some (by kernel_rfl))
  f146 := Tryd.func29.trans (congrArg some (by kernel_rfl))
  f195 := Tryd.func71.trans (congrArg some (by kernel_rfl))
  f197 := Tryd.func72.trans (congrArg some (by kernel_rfl))
  f217 := Tryd.func78.trans (congrArg some (by kernel_rfl))
  f218 := Tryd.func73.trans (congrArg some (by kernel_rfl))
  f219 := Tryd.func67.trans (congrArg some (by kernel_rfl))
  f221 := Tryd.func47.trans (congrArg some (by kernel_rfl))
  f224 := Tryd.func80.trans (congrArg some (by kernel_rfl))
  f225 := Tryd.func79.trans (congrArg some (by kernel_rfl))
  f260 := Tryd.func85.trans (congrArg some (by kernel_rfl))
  f266 := Tryd.func89.trans (congrArg some (by kernel_rfl))
  f267 := Tryd.func81.trans (congrArg some (by kernel_rfl))
  f268 := Tryd.func62.trans (congrArg some (by kernel_rfl))
  f314 := Tryd.func90.trans (congrArg some (by kernel_rfl))
  t0 := Tryd.underlying0
  a0 := Tryd.isAgg0
  z0 := Tryd.sizeOf0
  v0 := Tryd.zeroValue0
  t3 := Tryd.underlying3
  a3 := Tryd.isAgg3
  z3 := Tryd.sizeOf3
  v3 := Tryd.zeroValue3
  t4 := Tryd.underlying4
  a4 := Tryd.isAgg4
  z4 := Tryd.sizeOf4
  v4 := Tryd.zeroValue4
  t5 := Tryd.underlying5
  a5 := Tryd.isAgg5
  z5 := Tryd.sizeOf5
  v5 := Tryd.zeroValue5
  t9 := Tryd.underlying9
  a9 := Tryd.isAgg9
  z9 := Tryd.sizeOf9
  v9 := Tryd.zeroValue9
  t21 := Tryd.underlying21
  a21 := Tryd.isAgg21
  z21 := Tryd.sizeOf21
  v21 := Tryd.zeroValue21
  t31 := Tryd.underlying43
  a31 := Tryd.isAgg43
  z31 := Tryd.sizeOf43
  v31 := Tryd.zeroValue43
  t46 := Tryd.underlying101
  a46 := Tryd.isAgg101
  z46 := Tryd.sizeOf101
  v46 := Tryd.zeroValue101
  t51 := Tryd.underlying104
  a51 := Tryd.isAgg104
  z51 := Tryd.sizeOf104
  v51 := Tryd.zeroValue104
  t105 := Tryd.underlying88
  a105 := Tryd.isAgg88
  z105 := Tryd.sizeOf88
  v105 := Tryd.zeroValue88
  t119 := Tryd.underlying115
  a119 := Tryd.isAgg115
  z119 := Tryd.sizeOf115
  t138 := Tryd.underlying117
  a138 := Tryd.isAgg117
  z138 := Tryd.sizeOf117
  v138 := Tryd.zeroValue117
  t139 := Tryd.underlying118
  a139 := Tryd.isAgg118
  z139 := Tryd.sizeOf118
  v139 := Tryd.zeroValue118
  t146 := Tryd.underlying105
  a146 := Tryd.isAgg105
  z146 := Tryd.sizeOf105
  v146 := Tryd.zeroValue105
  g1 := by kernel_rfl
  g3 := by kernel_rfl
  g4 := by kernel_rfl }
def lays145_ren : Go.Shelf.Ren := ⟨fun | 145 => 38 | 220 => 53 | 219 => 67 | 217 => 78 | 225 => 79 | 224 => 80 | 267 => 81 | 266 => 89 | 314 => 90 | n => n, fun | 9 => 9 | 4 => 4 | 59 => 66 | 3 => 3 | 5 => 5 | 46 => 101 | 146 => 105 | 51 => 104 | n => n, fun | 1 => 0 | n => n⟩
theorem lays145 : Go.Proofs.Lays.n145 Tryd.prog lays145_ren := {
  mixed := by kernel_rfl
  f145 := Tryd.func38.trans (congrArg some (by kernel_rfl))
  f217 := Tryd.func78.trans (congrArg some (by kernel_rfl))
  f219 := Tryd.func67.trans (congrArg some (by kernel_rfl))
  f220 := Tryd.func53.trans (congrArg some (by kernel_rfl))
  f224 := Tryd.func80.trans (congrArg some (by kernel_rfl))
  f225 := Tryd.func79.trans (congrArg some (by kernel_rfl))
  f266 := Tryd.func89.trans (congrArg some (by kernel_rfl))
  f267 := Tryd.func81.trans (congrArg some (by kernel_rfl))
  f314 := Tryd.func90.trans (congrArg some (by kernel_rfl))
  t3 := Tryd.underlying3
  a3 := Tryd.isAgg3
  z3 := Tryd.sizeOf3
  v3 := Tryd.zeroValue3
  t4 := Tryd.underlying4
  a4 := Tryd.isAgg4
  z4 := Tryd.sizeOf4
  v4 := Tryd.zeroValue4
  t5 := Tryd.underlying5
  a5 := Tryd.isAgg5
  z5 := Tryd.sizeOf5
  v5 := Tryd.zeroValue5
  t9 := Tryd.underlying9
  a9 := Tryd.isAgg9
  z9 := Tryd.sizeOf9
  v9 := Tryd.zeroValue9
  t46 := Tryd.underlying101
  a46 := Tryd.isAgg101
  z46 := Tryd.sizeOf101
  v46 := Tryd.zeroValue101
  t51 := Tryd.underlying104
  a51 := Tryd.isAgg104
  z51 := Tryd.sizeOf104
  v51 := Tryd.zeroValue104
  t59 := Tryd.underlying66
  a59 := Tryd.isAgg66
  z59 := Tryd.sizeOf66
  v59 := Tryd.zeroValue66
  t146 := Tryd.underlying105
  a146 := Tryd.isAgg105
  z146 := Tryd.sizeOf105
  v146 := Tryd.zeroValue105
  g1 := by kernel_rfl }
def lays101_ren : Go.Shelf.Ren := ⟨fun | 101 => 69 | 208 => 84 | 206 => 96 | n => n, fun | 9 => 9 | 4 => 4 | 3 => 3 | n => n, fun | n => n⟩
theorem lays101 : Go.Proofs.Lays.n101 Tryd.prog lays101_ren := {
  mixed := by kernel_rfl
  f101 := Tryd.func69.trans (congrArg some (by kernel_rfl))
  f206 := Tryd.func96.trans (congrArg some (by kernel_rfl))
  f208 := Tryd.func84.trans (congrArg some (by kernel_rfl))
  t3 := Tryd.underlying3
  a3 := Tryd.isAgg3
  z3 := Tryd.sizeOf3
  v3 := Tryd.zeroValue3
  t4 := Tryd.underlying4
  a4 := Tryd.isAgg4
  z4 := Tryd.sizeOf4
  v4 := Tryd.zeroValue4
  t9 := Tryd.underlying9
  a9 := Tryd.isAgg9
  z9 := Tryd.sizeOf9
  v9 := Tryd.zeroValue9 }
def laysC174_ren : Go.Shelf.Ren := ⟨fun | 174 => 68 | 247 => 82 | 245 => 83 | 287 => 91 | 279 => 92 | 280 => 93 | 281 => 94 | 282 => 95 | 321 => 103 | 322 => 104 | 316 => 105 | 171 => 107 | 205 => 106 | 243 => 113 | 246 => 86 | 283 => 97 | 284 => 98 | 285 => 99 | 286 => 100 | 129 => 109 | 317 => 108 | 318 => 110 | 319 => 111 | 320 => 112 | 337 => 114 | 338 => 115 | n => n, fun | 9 => 9 | 3 => 3 | 2 => 2 | 75 => 83 | 85 => 84 | 4 => 4 | 167 => 107 | 5 => 5 | 53 => 108 | 175 => 109 | 46 => 101 | 168 => 111 | 37 => 93 | 0 => 0 | 210 => 131 | 21 => 21 | 127 => 103 | 145 => 140 | 143 => 138 | 171 => 120 | 173 => 123 | 212 => 134 | 51 => 104 | 20 => 20 | 213 => 135 | 232 => 142 | 233 => 143 | 80 => 99 | n => n, fun | 15 => 3 | 16 => 4 | 17 => 5 | 18 => 6 | 19 => 7 | n => n⟩
theorem laysC174 : Go.Proofs.LaysC.n174 Tryd.prog laysC174_ren := {
  mixed := by kernel_rfl
  f129 := Tryd.func109.trans (congrArg some (by kernel_rfl))
  f171 := Tryd.func107.trans (congrArg some (by kernel_rfl))
  f174 := Tryd.func68.trans (congrArg some (by kernel_rfl))
  f205 := Tryd.func106.trans (congrArg some (by kernel_rfl))
  f243 := Tryd.func113.trans (congrArg some (by kernel_rfl))
  f245 := Tryd.func83.trans (congrArg some (by kernel_rfl))
  f246 := Tryd.func86.trans (congrArg some (by kernel_rfl))
  f247 := Tryd.func82.trans (congrArg some (by kernel_rfl))
  f279 := Tryd.func92.trans (congrArg some (by kernel_rfl))
  f280 := Tryd.func93.trans (congrArg some (by kernel_rfl))
  f281 := Tryd.func94.trans (congrArg some (by kernel_rfl))
  f282 := Tryd.func95.trans (congrArg some (by kernel_rfl))
  f283 := Tryd.func97.trans (congrArg some (by kernel_rfl))
  f284 := Tryd.func98.trans (congrArg some (by kernel_rfl))
  f285 := Tryd.func99.trans (congrArg some (by kernel_rfl))
  f286 := Tryd.func100.trans (congrArg some (by kernel_rfl))
  f287 := Tryd.func91.trans (congrArg some (by kernel_rfl))
  f316 := Tryd.func105.trans (congrArg some (by kernel_rfl))
  f317 := Tryd.func108.trans (congrArg some (by kernel_rfl))
  f318 := Tryd.func110.trans (congrArg some (by kernel_rfl))
  f319 := Tryd.func111.trans (congrArg some (by kernel_rfl))
  f320 := Tryd.func112.trans (congrArg some (by kernel_rfl))
  f321 := Tryd.func103.trans (congrArg some (by kernel_rfl))
  f322 := Tryd.func104.trans (congrArg some (by kernel_rfl))
  f337 := Tryd.func114.trans (congrArg some (by kernel_rfl))
  f338 := Tryd.func115.trans (congrArg some (by kernel_rfl))
  t0 := Tryd.underlying0
  a0 := Tryd.isAgg0
  z0 := Tryd.sizeOf0
  v0 := Tryd.zeroValue0
  t2 := Tryd.underlying2
  a2 := Tryd.isAgg2
  z2 := Tryd.sizeOf2
  v2 := Tryd.zeroValue2
  t3 := Tryd.underlying3
  a3 := Tryd.isAgg3
  z3 := Tryd.sizeOf3
  v3 := Tryd.zeroValue3
  t4 := Tryd.underlying4
  a4 := Tryd.isAgg4
  z4 := Tryd.sizeOf4
  v4 := Tryd.zeroValue4
  t5 := Tryd.underlying5
  a5 := Tryd.isAgg5
  z5 := Tryd.sizeOf5
  v5 := Tryd.zeroValue5
  t9 := Tryd.underlying9
  a9 := Tryd.isAgg9
  z9 := Tryd.sizeOf9
  v9 := Tryd.zeroValue9
  t20 := Tryd.underlying20
  a20 := Tryd.isAgg20
  z20 := Tryd.sizeOf20
  v20 := Tryd.zeroValue20
  t21 := Tryd.underlying21
  a21 := Tryd.isAgg21
  z21 := Tryd.sizeOf21
  v21 := Tryd.zeroValue21
  t37 := Tryd.underlying93
  a37 := Tryd.isAgg93
  z37 := Tryd.sizeOf93
  v37 := Tryd.zeroValue93
  t46 := Tryd.underlying101
  a46 := Tryd.isAgg101
  z46 := Tryd.sizeOf101
  v46 := Tryd.zeroValue101
  t51 := Tryd.underlying104
  a51 := Tryd.isAgg104
  z51 := Tryd.sizeOf104
  v51 := Tryd.zeroValue104
  t53 := Tryd.underlying108
  a53 := Tryd.isAgg108
  z53 := Tryd.sizeOf108
  v53 := Tryd.zeroValue108
  t75 := Tryd.underlying83
  a75 := Tryd.isAgg83
  z75 := Tryd.sizeOf83
  v75 := Tryd.zeroValue83
  t85 := Tryd.underlying84
  a85 := Tryd.isAgg84
  z85 := Tryd.sizeOf84
  v85 := Tryd.zeroValue84
  t127 := Tryd.underlying103
  a127 := Tryd.isAgg103
  z127 := Tryd.sizeOf103
  v127 := Tryd.zeroValue103
  t143 := Tryd.underlying138
  a143 := Tryd.isAgg138
  z143 := Tryd.sizeOf138
  v143 := Tryd.zeroValue138
  t145 := Tryd.underlying140
  a145 := Tryd.isAgg140
  z145 := Tryd.sizeOf140
  v145 := Tryd.zeroValue140
  t167 := Tryd.underlying107
  a167 := Tryd.isAgg107
  z167 := Tryd.sizeOf107
  v167 := Tryd.zeroValue107
  t168 := Tryd.underlying111
  a168 := Tryd.isAgg111
  z168 := Tryd.sizeOf111
  v168 := Tryd.zeroValue111
  t171 := Tryd.underlying120
  a171 := Tryd.isAgg120
  z171 := Tryd.sizeOf120
  v171 := Tryd.zeroValue120
  t173 := Tryd.underlying123
  a173 := Tryd.isAgg123
  z173 := Tryd.sizeOf123
  v173 := Tryd.zeroValue123
  t175 := Tryd.underlying109
  a175 := Tryd.isAgg109
  z175 := Tryd.sizeOf109
  v175 := Tryd.zeroValue109
  t210 := Tryd.underlying131
  a210 := Tryd.isAgg131
  z210 := Tryd.sizeOf131
  v210 := Tryd.zeroValue131
  t212 := Tryd.underlying134
  a212 := Tryd.isAgg134
  z212 := Tryd.sizeOf134
  v212 := Tryd.zeroValue134
  t213 := Tryd.underlying135
  a213 := Tryd.isAgg135
  z213 := Tryd.sizeOf135
  t232 := Tryd.underlying142
  a232 := Tryd.isAgg142
  z232 := Tryd.sizeOf142
  v232 := Tryd.zeroValue142
  t233 := Tryd.underlying143
  a233 := Tryd.isAgg143
  z233 := Tryd.sizeOf143
  v233 := Tryd.zeroValue143
  g15 := by kernel_rfl
  g16 := by kernel_rfl
  g17 := by kernel_rfl
  g18 := by kernel_rfl
  g19 := by kernel_rfl
  t80 := Tryd.underlying99
  a80 := Tryd.isAgg99
  z80 := Tryd.sizeOf99
  v80 := Tryd.zeroValue99
  i0 := by kernel_rfl
  i2 := by kernel_rfl
  i3 := by kernel_rfl
  i4 := by kernel_rfl
  i5 := by kernel_rfl
  i9 := by kernel_rfl
  i20 := by kernel_rfl
  i21 := by kernel_rfl
  i37 := by kernel_rfl
  i46 := by kernel_rfl
  i51 := by kernel_rfl
  i53 := by kernel_rfl
  i75 := by kernel_rfl
  i80 := by kernel_rfl
  i85 := by kernel_rfl
  i127 := by kernel_rfl
  i143 := by kernel_rfl
  i145 := by kernel_rfl
  i167 := by kernel_rfl
  i168 := by kernel_rfl
  i171 := by kernel_rfl
  i173 := by kernel_rfl
  i175 := by kernel_rfl
  i210 := by kernel_rfl
  i212 := by kernel_rfl
  i232 := by kernel_rfl
  i233 := by kernel_rfl
  m15 := by kernel_rfl
  m16 := by kernel_rfl
  m17 := by kernel_rfl
  m18 := by kernel_rfl
  m19 := by kernel_rfl
  c0 := by kernel_rfl
  c2 := by kernel_rfl
  c3 := by kernel_rfl
  c4 := by kernel_rfl
  c5 := by kernel_rfl
  c9 := by kernel_rfl
  c20 := by kernel_rfl
  c21 := by kernel_rfl
  c37 := by kernel_rfl
  c46 := by kernel_rfl
  c51 := by kernel_rfl
  c53 := by kernel_rfl
  c75 := by kernel_rfl
  c80 := by kernel_rfl
  c85 := by kernel_rfl
  c127 := by kernel_rfl
  c143 := by kernel_rfl
  c145 := by kernel_rfl
  c167 := by kernel_rfl
  c168 := by kernel_rfl
  c171 := by kernel_rfl
  c173 := by kernel_rfl
  c175 := by kernel_rfl
  c210 := by kernel_rfl
  c212 := by kernel_rfl
  c213 := by kernel_rfl
  c232 := by kernel_rfl
  c233 := by kernel_rfl }

theorem ext_of_below {w w' : World} (h : Below w.heap.size w w') : Ext (fun _ => False) w w' := ⟨h.os, h.tape, h.output, h.size, fun b hb _ => h.block b hb⟩
theorem mem_nil {c : Cx} {w' : World} (h : Ext (fun _ => False) c.w w') : Mem c c.κ [] w' := ⟨h.mono (fun _ h => h.elim), fun l o h => by simp [E.get] at h, fun l o b k h _ => by simp [E.get] at h, fun l l' o o' b k k' h _ _ _ => by simp [E.get] at h, fun _ _ => rfl⟩
theorem cell_now {P : Program} {c : Cx} (hc : c.okP P) {Q : World → Prop} (h1 : ∀ W, Given P W → Q W) (h2 : ∀ W W', Q W → Ext (fun _ => False) W W' → Q W') : Q c.w := by
  obtain ⟨W0, hg, hx, _⟩ := hc.gv
  exact h2 W0 c.w (h1 W0 hg) hx
theorem blk_stays {g : Nat} {cs : Array Value} {W W' : World} (h : ∃ t fr, W.heap[g]? = some (.cells cs t fr)) (hx : Ext (fun _ => False) W W') : ∃ t fr, W'.heap[g]? = some (.cells cs t fr) := by
  obtain ⟨t, fr, h⟩ := h
  exact ⟨t, fr, (hx.block g (Array.getElem?_eq_some_iff.1 h).1 id).trans h⟩
theorem tab_bind {o : Option Nat} {g : Nat} {w : World} {cs : Array Value} (ho : o = some g) (h : ∃ t fr, w.heap[g]? = some (.cells cs t fr)) :
    (o.bind fun g => match w.heap[g]? with | some (.cells cs _ _) => some cs | _ => none) = some cs := by
  obtain ⟨t, fr, h⟩ := h
  subst ho; simp [h]
theorem c_strconv_FormatInt (i base : Int) (hp1 : base = 10) (hp2 : -9223372036854775808 ≤ i ∧ i ≤ 9223372036854775807) : Con Tryd.prog 74 [.int .i64 i, .int .i64 base] [] (.str (Lib.itoa i)) [] := by
  intro c xs hc hargs hm
  match xs, hargs with
  | [x, y], ⟨h1, h2, _⟩ =>
    rw [repT_int h1, repT_int h2, hp1]
    have ht : ∃ t fr, c.w.heap[5]? = some (.cells ((((List.range 20).map fun i => ((10 ^ i : Nat) : Int)).map fun z => Value.int .u64 z).toArray) t fr) := cell_now hc (fun _ h => h.1) (fun _ _ h hx => blk_stays h hx)
    refine (Any.strconv_FormatInt_10 laysM173 i hp2.1 hp2.2 c.w (by unfold Lib.TabIs World.var?; exact tab_bind (by kernel_rfl) ht)).mono ?_
    rintro e w' ⟨rfl, k, os, rfl⟩
    exact ⟨_, c.κ, rfl, RepR.str _, mem_nil (ext_of_below (⟨rfl, rfl, rfl, by show c.w.heap.size ≤ (c.w.heap ++ os).size; rw [Array.size_append]; omega, fun j hj => by show (c.w.heap ++ os)[j]? = c.w.heap[j]?; exact Array.getElem?_append_left hj⟩))⟩
theorem c_strings_Join (elems : List (List UInt8)) (sep : List UInt8) (hp1 : elems.length ≤ 140737488355328) (hp2 : (Lib.join elems sep).length ≤ 140737488355328) : Con Tryd.prog 66 [.sl 1 (elems.map V.str), .str sep] [] (.str (Lib.join elems sep)) [] := by
  intro c xs hc hargs hm
  match xs, hargs with
  | [x, y], ⟨h1, h2, _⟩ =>
    rw [repT_str h2]
    have none_ : elems = [] → ∀ (a : Option Addr) (cap : Nat), Calls Tryd.prog 66 #[.slice a 0 cap, .string ⟨⟨sep⟩⟩] c.w fun e w' => ∃ x κ', e = .returned x ∧ RepT c κ' (.str (Lib.join elems sep)) x ∧ Mem c κ' [] w' := fun he a cap => by
      subst he
      refine (Any.strings_Join_none lays156 Builder_Extra_156 a cap ⟨⟨sep⟩⟩ c.w).mono ?_
      rintro e w' ⟨rfl, rfl⟩
      exact ⟨_, c.κ, rfl, RepR.str [], mem_nil (Ext.refl _ _)⟩
    have h1' : RepR c (.sl 1 (elems.map V.str)) x := h1
    generalize hes : elems.map V.str = es at h1'
    cases h1' with
    | nil sz => exact none_ (List.map_eq_nil_iff.1 hes) none 0
    | sl sz es a cap f hD hl hcap hz g1 g2 =>
      subst hes
      cases elems with
      | nil => exact none_ rfl (some a) cap
      | cons y0 r =>
        have hfl : ∀ l : List (List UInt8), (l.map V.str).flatMap V.cells = l.map V.str := fun l => by induction l with | nil => rfl | cons z r ih => rw [List.map_cons, List.flatMap_cons, ih]; rfl
        rw [hfl] at g1 g2
        have hat : ∀ (j : Nat) (s : List UInt8), (y0 :: r)[j]? = some s → c.w.cell? (a.add j) = some (.string ⟨⟨s⟩⟩) := fun j s hs => by
          have hu : ((y0 :: r).map V.str)[j]? = some (.str s) := by rw [List.getElem?_map, hs]; rfl
          rw [g1 j _ hu]
          have := g2 j _ hu
          generalize f j = v at this ⊢
          cases this; rfl
        have h0 := hat 0 y0 rfl
        obtain ⟨b, o, sp⟩ := a
        have hsp : sp = none := by
          cases sp with
          | none => rfl
          | some q =>
            exfalso
            have : (⟨b, o, some q⟩ : Addr).add 0 = ⟨b, o, some q⟩ := by simp [Addr.add]
            rw [this] at h0
            unfold World.cell? at h0
            split at h0 <;> simp at h0
        subst hsp
        have key := Any.strings_Join lays156 Builder_Extra_156 b o cap ((y0 :: r).map fun s => (⟨⟨s⟩⟩ : ByteArray)) ⟨⟨sep⟩⟩ c.w (fun j x hx => by
            rw [List.getElem?_map] at hx
            cases hs : (y0 :: r)[j]? with
            | none => rw [hs] at hx; simp at hx
            | some s =>
              rw [hs] at hx; simp at hx; subst hx
              have := hat j s hs
              rw [add_lit] at this
              exact this)
          (World.block_lt_of_cell? _ _ (by rw [add_lit, Nat.add_zero] at h0; exact h0)) (by simpa using hp1) (by simpa using hl) (by
            simp only [List.map_map]
            have e : (fun x : ByteArray => x.data.toList) ∘ (fun s : List UInt8 => (⟨⟨s⟩⟩ : ByteArray)) = id := rfl
            rw [show List.map ((fun x : ByteArray => x.data.toList) ∘ fun s => (⟨⟨s⟩⟩ : ByteArray)) (y0 :: r) = y0 :: r from by rw [e, List.map_id]]
            exact hp2)
        have e3 : List.map (fun x : ByteArray => x.data.toList) ((y0 :: r).map fun s => (⟨⟨s⟩⟩ : ByteArray)) = y0 :: r := by
          rw [List.map_map]; exact List.map_id _
        rw [e3] at key
        simp only [List.length_map] at key ⊢
        refine key.mono ?_
        rintro e w' ⟨rfl, hb⟩
        exact ⟨_, c.κ, rfl, RepR.str _, mem_nil (ext_of_below hb)⟩
theorem ce_stays {g : Nat} {Q : Array Value → Prop} {W W' : World} (h : ∃ cs t fr, W.heap[g]? = some (.cells cs t fr) ∧ Q cs) (hx : Ext (fun _ => False) W W') : ∃ cs t fr, W'.heap[g]? = some (.cells cs t fr) ∧ Q cs := by
  obtain ⟨cs, t, fr, h, hq⟩ := h
  exact ⟨cs, t, fr, (hx.block g (Array.getElem?_eq_some_iff.1 h).1 id).trans h, hq⟩
theorem cell_of_blk {g : Nat} {v : Value} {W : World} {cs : Array Value} {t : TypeId} {fr : Nat × Nat} (h : W.heap[g]? = some (.cells cs t fr)) (hv : cs[0]? = some v) : W.cell? ⟨g, 0, none⟩ = some v := by
  unfold World.cell?; rw [h]; simpa using hv
theorem int_now {c : Cx} (hc : c.okP Tryd.prog) : ∃ m, c.w.cell? ⟨0, 0, none⟩ = some (.int .i64 m) := by
  obtain ⟨cs, t, fr, h, m, hm⟩ := cell_now hc (fun _ h => h.2.1) (fun _ _ h hx => ce_stays h hx)
  exact ⟨m, cell_of_blk h hm⟩
theorem syn_now {c : Cx} (hc : c.okP Tryd.prog) : ∃ tp p, c.w.cell? ⟨3, 0, none⟩ = some (.iface tp p) := by
  obtain ⟨cs, t, fr, h, tp, p, hm⟩ := cell_now hc (fun _ h => h.2.2.1) (fun _ _ h hx => ce_stays h hx)
  exact ⟨tp, p, cell_of_blk h hm⟩
theorem rng_now {c : Cx} (hc : c.okP Tryd.prog) : ∃ tp p, c.w.cell? ⟨4, 0, none⟩ = some (.iface tp p) := by
  obtain ⟨cs, t, fr, h, tp, p, hm⟩ := cell_now hc (fun _ h => h.2.2.2) (fun _ _ h hx => ce_stays h hx)
  exact ⟨tp, p, cell_of_blk h hm⟩
theorem str_row {c : Cx} {w : World} {el : TypeId} {pieces : List (List UInt8)} {cap : Nat} {cur : Array Value} (hc : c.ok) (hm : Mem c c.κ [] w) (hx : Ext (fun _ => False) c.w w) (hl : pieces.length ≤ cap) (hcp : cap ≤ maxLen) (hsz : cur.size = cap) (hcur : ∀ (j : Nat) s, pieces[j]? = some s → cur[j]? = some (.string ⟨⟨s⟩⟩)) :
    Mem c (fun i => if i = 100 then some (w.heap.size, cap) else c.κ i) [(100, some (.row el 1 (pieces.map V.str)))] (w.alloc (.cells cur el)) := by
  refine new_row (s := ⟨[], []⟩) hc hm (Fresh.of rfl) (by simpa using hl) hcp (by omega) (fun e he => by obtain ⟨s, _, rfl⟩ := List.mem_map.1 he; rfl) (fun j u hu => ?_)
  have hfl : ∀ l : List (List UInt8), (l.map V.str).flatMap V.cells = l.map V.str := fun l => by induction l with | nil => rfl | cons z r ih => rw [List.map_cons, List.flatMap_cons, ih]; rfl
  rw [hfl, List.getElem?_map] at hu
  cases hs : pieces[j]? with
  | none => rw [hs] at hu; simp at hu
  | some s => rw [hs] at hu; simp at hu; subst hu; exact ⟨_, hcur j s hs, .str s⟩
theorem cellsOf_at {done : List ByteArray} {N j : Nat} {s : List UInt8} (h : (done.map (·.data.toList))[j]? = some s) : (Lib.cellsOf done N)[j]? = some (.string ⟨⟨s⟩⟩) := by
  rw [List.getElem?_map] at h
  cases hd : done[j]? with
  | none => rw [hd] at h; simp at h
  | some b =>
    rw [hd] at h; simp at h
    have hlt : j < done.length := (List.getElem?_eq_some_iff.1 hd).1
    simp only [Lib.cellsOf, List.getElem?_toArray]
    rw [List.getElem?_append_left (by simpa using hlt), List.getElem?_map, hd, ← h]; rfl
theorem c_strings_SplitN (s sep : List UInt8) (n : Int) (hp1 : s.length ≤ 1048576) (hp2 : 1 ≤ sep.length) (hp3 : 1 ≤ n ∧ n ≤ 9223372036854775807) : Con Tryd.prog 54 [.str s, .str sep, .int .i64 n] [] (.os 100 (Lib.splitN s sep n.toNat).length) [(100, some (.row 9 1 ((Lib.splitN s sep n.toNat).map V.str)))] := by
  intro c xs hc hargs hm
  match xs, hargs with
  | [x, y, z], ⟨h1, h2, h3, _⟩ =>
    obtain ⟨m, hmx⟩ := int_now hc
    have en : n = ((n.toNat : Nat) : Int) := by omega
    rw [repT_str h1, repT_str h2, repT_int h3]
    have hsz : (ByteArray.mk ⟨s⟩).size = s.length := rfl
    have key := Any.strings_SplitN lays147 (by kernel_rfl) ⟨⟨s⟩⟩ ⟨⟨sep⟩⟩ n.toNat m c.w (by rw [hsz]; omega) hmx hp2 (by omega) (by omega)
    rw [← en] at key
    refine key.mono ?_
    rintro e w' ⟨rfl, rfl⟩
    have hd := Lib.splitB_data ⟨⟨sep⟩⟩ 0 (min n.toNat ((ByteArray.mk ⟨s⟩).size + 1) - 1) ⟨⟨s⟩⟩
    have hle := Lib.splitB_length_le ⟨⟨sep⟩⟩ 0 (min n.toNat ((ByteArray.mk ⟨s⟩).size + 1) - 1) ⟨⟨s⟩⟩
    have hlen : (Lib.splitB ⟨⟨sep⟩⟩ 0 (min n.toNat ((ByteArray.mk ⟨s⟩).size + 1) - 1) ⟨⟨s⟩⟩).length = (Lib.splitN s sep n.toNat).length := by
      have := congrArg List.length hd
      rw [List.length_map] at this; exact this
    refine ⟨_, fun i => if i = 100 then some (c.w.heap.size, min n.toNat (s.length + 1)) else c.κ i, rfl, ?_, ?_⟩
    · rw [hlen]
      exact repT_os (b := c.w.heap.size) (cap := min n.toNat (s.length + 1)) (by simp) ⟨by rw [← hlen]; rw [hsz] at hle ⊢; omega, by unfold maxLen; omega, rfl⟩
    · refine str_row hc hm (Ext.refl _ _) (by rw [← hlen]; rw [hsz] at hle ⊢; omega) (by unfold maxLen; omega) ?_ (fun j q hq => cellsOf_at (by rw [hd]; exact hq))
      rw [hsz] at hle ⊢
      exact Lib.cellsOf_size (by omega)
theorem c_strings_Split (s sep : List UInt8) (hp1 : s.length ≤ 1048576) (hp2 : 1 ≤ sep.length) : Con Tryd.prog 29 [.str s, .str sep] [] (.os 100 (Lib.split s sep).length) [(100, some (.row 9 1 ((Lib.split s sep).map V.str)))] := by
  intro c xs hc hargs hm
  match xs, hargs with
  | [x, y], ⟨h1, h2, _⟩ =>
    obtain ⟨m, hmx⟩ := int_now hc
    rw [repT_str h1, repT_str h2]
    have hsz : (ByteArray.mk ⟨s⟩).size = s.length := rfl
    refine (Any.strings_Split lays146 (by kernel_rfl) ⟨⟨s⟩⟩ ⟨⟨sep⟩⟩ m c.w (by rw [hsz]; omega) hmx hp2).mono ?_
    rintro e w' ⟨rfl, rfl⟩
    have hd := Lib.splitB_data ⟨⟨sep⟩⟩ 0 (Lib.countB ⟨⟨s⟩⟩ ⟨⟨sep⟩⟩) ⟨⟨s⟩⟩
    have hall := Lib.splitB_all ⟨⟨sep⟩⟩ hp2 0 _ ⟨⟨s⟩⟩ rfl
    have hcl := Lib.countB_le ⟨⟨sep⟩⟩ hp2 (ByteArray.mk ⟨s⟩).size ⟨⟨s⟩⟩ (Nat.le_refl _)
    have hlen : Lib.countB ⟨⟨s⟩⟩ ⟨⟨sep⟩⟩ + 1 = (Lib.split s sep).length := by
      have := congrArg List.length hd
      rw [List.length_map, hall] at this; exact this
    have hle : Lib.countB ⟨⟨s⟩⟩ ⟨⟨sep⟩⟩ ≤ s.length := by rw [hsz] at hcl; omega
    refine ⟨_, fun i => if i = 100 then some (c.w.heap.size, Lib.countB ⟨⟨s⟩⟩ ⟨⟨sep⟩⟩ + 1) else c.κ i, rfl, ?_, ?_⟩
    · refine repT_os (b := c.w.heap.size) (cap := Lib.countB ⟨⟨s⟩⟩ ⟨⟨sep⟩⟩ + 1) (by simp) ⟨by omega, by unfold maxLen; omega, by rw [← hlen]⟩
    · refine str_row hc hm (Ext.refl _ _) (by omega) (by unfold maxLen; omega) (by simp [hall]) (fun j q hq => ?_)
      have hq' : ((Lib.splitB ⟨⟨sep⟩⟩ 0 (Lib.countB ⟨⟨s⟩⟩ ⟨⟨sep⟩⟩) ⟨⟨s⟩⟩).map (·.data.toList))[j]? = some q := by rw [hd]; exact hq
      rw [List.getElem?_map] at hq'
      cases hb : (Lib.splitB ⟨⟨sep⟩⟩ 0 (Lib.countB ⟨⟨s⟩⟩ ⟨⟨sep⟩⟩) ⟨⟨s⟩⟩)[j]? with
      | none => rw [hb] at hq'; simp at hq'
      | some b => rw [hb] at hq'; simp at hq'; simp only [List.getElem?_toArray, List.getElem?_map, hb, Option.map_some]; rw [← hq']
theorem drewN_ext (w : World) (n : Nat) : Ext (fun _ => False) w (w.drewN n) := ⟨rfl, rfl, rfl, Nat.le_refl _, fun _ _ _ => rfl⟩
theorem c_strings_Cut (s sep : List UInt8) (hp1 : s.length ≤ 1048576) : Con Tryd.prog 38 [.str s, .str sep] [] (.tup [.str (Lib.cut s sep).1, .str (Lib.cut s sep).2.1, .bool (Lib.cut s sep).2.2]) [] := by
  intro c xs hc hargs hm
  match xs, hargs with
  | [x, y], ⟨h1, h2, _⟩ =>
    obtain ⟨m, hmx⟩ := int_now hc
    rw [repT_str h1, repT_str h2]
    have hsz : (ByteArray.mk ⟨s⟩).size = s.length := rfl
    refine (Any.strings_Cut lays145 ⟨⟨s⟩⟩ ⟨⟨sep⟩⟩ m c.w (by rw [hsz]; omega) hmx).mono ?_
    rintro e w' ⟨rfl, n, rfl⟩
    exact ⟨_, c.κ, rfl, ⟨_, rfl, RepR.str _, RepR.str _, RepR.bool _, trivial⟩, mem_nil (drewN_ext _ n)⟩
theorem c_strings_TrimPrefix (s prefix_ : List UInt8) : Con Tryd.prog 69 [.str s, .str prefix_] [] (.str (Lib.trimPrefix s prefix_)) [] := by
  intro c xs hc hargs hm
  match xs, hargs with
  | [x, y], ⟨h1, h2, _⟩ =>
    rw [repT_str h1, repT_str h2]
    refine (Any.strings_TrimPrefix lays101 ⟨⟨s⟩⟩ ⟨⟨prefix_⟩⟩ c.w).mono ?_
    rintro e w' ⟨rfl, rfl⟩
    exact ⟨_, c.κ, rfl, RepR.str _, mem_nil (Ext.refl _ _)⟩
/-- ParseInt at base 10, 64 bits: the number, and whether there is an error -/
def parse64 (s : List UInt8) : Int × Bool := match Lib.parseIntB 64 s with
  | .ok v => (v, false)
  | .syntax => (0, true)
  | .range => (Lib.intSat 64 s, true)
theorem c_strconv_ParseInt (s : List UInt8) (base bitSize : Int) (hp1 : base = 10) (hp2 : bitSize = 64) (hp3 : s.length ≤ 1048576) : Con Tryd.prog 68 [.str s, .int .i64 base, .int .i64 bitSize] [] (.tup [.int .i64 (parse64 s).1, .err (parse64 s).2]) [] := by
  intro c xs hc hargs hm
  match xs, hargs with
  | [x, y, z], ⟨h1, h2, h3, _⟩ =>
    obtain ⟨t1, p1, hs⟩ := syn_now hc
    obtain ⟨t2, p2, hr⟩ := rng_now hc
    rw [repT_str h1, repT_int h2, repT_int h3, hp1, hp2]
    have hsz : (ByteArray.mk ⟨s⟩).size = s.length := rfl
    cases h : Lib.parseIntB 64 s with
    | ok v =>
      refine (Any.strconv_ParseInt_10_at64_ok laysC174 ⟨⟨s⟩⟩ (by rw [hsz]; omega) v h c.w).mono ?_
      rintro e w' ⟨rfl, hw⟩
      refine ⟨_, c.κ, rfl, ⟨_, rfl, ?_, ?_, trivial⟩, mem_nil ?_⟩
      · simp only [parse64, h]; exact RepR.int _ _
      · simp only [parse64, h]; exact RepR.errn
      · rcases hw with rfl | ⟨t, rfl⟩
        · exact Ext.refl _ _
        · exact ext_of_below (Lib.bytesWorld_below _ _ _)
    | «syntax» =>
      refine (Any.strconv_ParseInt_10_at64_syntax laysC174 ⟨⟨s⟩⟩ (by rw [hsz]; omega) h _ c.w hs (.inr ⟨_, _, rfl⟩)).mono ?_
      rintro e w' ⟨N, rfl, _, _, hb⟩
      refine ⟨_, c.κ, rfl, ⟨_, rfl, ?_, ?_, trivial⟩, mem_nil (ext_of_below hb)⟩
      · simp only [parse64, h]; exact RepR.int _ _
      · simp only [parse64, h]; exact RepR.errv _ _
    | range =>
      refine (Any.strconv_ParseInt_10_at64_range laysC174 ⟨⟨s⟩⟩ (by rw [hsz]; omega) h _ c.w hr (.inr ⟨_, _, rfl⟩)).mono ?_
      rintro e w' ⟨N, rfl, _, _, hb⟩
      refine ⟨_, c.κ, rfl, ⟨_, rfl, ?_, ?_, trivial⟩, mem_nil (ext_of_below hb)⟩
      · simp only [parse64, h]; exact RepR.int _ _
      · simp only [parse64, h]; exact RepR.errv _ _
end Go.Proofs.YtceonolphigfdaaDoor
