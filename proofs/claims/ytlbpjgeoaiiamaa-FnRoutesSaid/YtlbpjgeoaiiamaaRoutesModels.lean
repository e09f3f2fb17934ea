/-
  PLAIN MODELS of the Go functions that the law reaches, printed by a program of this claim. Conditions: none; nothing is claimed here.
-/
import Derived.Test.YtlbpjgeoaiiamaaEngN
set_option linter.unusedVariables false
set_option linter.unusedSimpArgs false
set_option linter.unusedSectionVars false
set_option linter.unnecessarySimpa false
namespace Go.Proofs.Ytlbpjgeoaiiamaa
open Go Go.RowKit Go.Proofs Go.Proofs.Ytlbpjgeoaiiamaa.E
structure gl00Src where
  code : List Int
  at_ : Int
  seed : Int
instance : Inhabited gl00Src := ⟨gl00Src.mk default default default⟩
abbrev gl00Src.v (x : gl00Src) : V := .st [.sl 1 (x.code.map (V.int .u8)), .int .i64 x.at_, .int .u64 x.seed]
structure gAirway where
  Id : List UInt8
  From : Int
  To : Int
  Length : Int
  Section : Int
  Friction : Int
  Shock : Int
instance : Inhabited gAirway := ⟨gAirway.mk default default default default default default default⟩
abbrev gAirway.v (x : gAirway) : V := .st [.str x.Id, .int .i64 x.From, .int .i64 x.To, .int .i64 x.Length, .int .i64 x.Section, .int .i64 x.Friction, .int .i64 x.Shock]
structure gMine where
  Junctions : Int
  Airways : List gAirway
instance : Inhabited gMine := ⟨gMine.mk default default⟩
abbrev gMine.v (x : gMine) : V := .st [.int .i64 x.Junctions, .sl 7 (x.Airways.map gAirway.v)]
structure gFire where
  Airway : Int
  At : Int
  Start : Int
instance : Inhabited gFire := ⟨gFire.mk default default default⟩
abbrev gFire.v (x : gFire) : V := .st [.int .i64 x.Airway, .int .i64 x.At, .int .i64 x.Start]
structure gCrew where
  Id : List UInt8
  Junction : Int
  Speed : Int
instance : Inhabited gCrew := ⟨gCrew.mk default default default⟩
abbrev gCrew.v (x : gCrew) : V := .st [.str x.Id, .int .i64 x.Junction, .int .i64 x.Speed]
structure gescape where
  mine : gMine
  arrivals : List Int
  blocked : Int
instance : Inhabited gescape := ⟨gescape.mk default default default⟩
abbrev gescape.v (x : gescape) : V := .st [.int .i64 x.mine.Junctions, .sl 7 (x.mine.Airways.map gAirway.v), .sl 1 (x.arrivals.map (V.int .i64)), .int .i64 x.blocked]

/-! ### laws_r8Long -/
def m_laws_r8Long (code : List Int) (more : List Int) : Bool :=
  (decide (1048576 < (code.length : Int))) || (decide (1048576 < (more.length : Int)))

/-! ### spec_l00From -/
def m_spec_l00From (code : List Int) : gl00Src :=
  gl00Src.mk code 0 0

/-! ### spec_l00Src_next -/
def m_spec_l00Src_next (s_ : gl00Src) : Int × gl00Src :=
  JN (fun j3 => bif decide (s_.at_ < (s_.code.length : Int)) then j3 (IntKind.wrap .i64 (at' s_.code s_.at_)) else j3 0) (fun (v2 : Int) => bif decide ((IntKind.wrap .i64 (s_.at_ + 1)) ≤ (s_.code.length : Int)) then (v2, gl00Src.mk s_.code (IntKind.wrap .i64 (s_.at_ + 1)) (IntKind.wrap .u64 ((IntKind.wrap .u64 ((IntKind.wrap .u64 (s_.seed * 6364136223846793005)) + (IntKind.wrap .u64 v2))) + 1442695040888963407))) else (IntKind.wrap .i64 (IntKind.wrap .u64 ((((BitVec.ofInt (IntKind.bits .u64) (Int.fdiv (IntKind.wrap .u64 ((IntKind.wrap .u64 ((IntKind.wrap .u64 (s_.seed * 6364136223846793005)) + (IntKind.wrap .u64 v2))) + 1442695040888963407)) (2 ^ min (40 : Int).toNat 64))) &&& (BitVec.ofInt (IntKind.bits .u64) 255)).toNat : Nat) : Int)), gl00Src.mk s_.code (IntKind.wrap .i64 (s_.at_ + 1)) (IntKind.wrap .u64 ((IntKind.wrap .u64 ((IntKind.wrap .u64 (s_.seed * 6364136223846793005)) + (IntKind.wrap .u64 v2))) + 1442695040888963407))))

/-! ### spec_l00Src_pick -/
def m_spec_l00Src_pick (s_ : gl00Src) (n_ : Int) : Int × gl00Src :=
  bif decide (n_ ≤ 1) then (0, s_) else bif decide (200 < n_) then (Int.tmod (IntKind.wrap .i64 ((IntKind.wrap .i64 ((m_spec_l00Src_next s_).1 * 256)) + (m_spec_l00Src_next (m_spec_l00Src_next s_).2).1)) n_, (m_spec_l00Src_next (m_spec_l00Src_next s_).2).2) else (Int.tmod (m_spec_l00Src_next s_).1 n_, (m_spec_l00Src_next s_).2)

/-! ### spec_l00Src_one -/
def m_spec_l00Src_one (s_ : gl00Src) (n_ : Int) : Bool × gl00Src :=
  ((m_spec_l00Src_pick s_ n_).1 == 0, (m_spec_l00Src_pick s_ n_).2)

/-! ### spec_l03DrawOk -/
def m_spec_l03DrawOk (s_ : gl00Src) (id : List UInt8) (from_ : Int) (to : Int) : gAirway × gl00Src :=
  (gAirway.mk id from_ to (IntKind.wrap .i64 (20 + (m_spec_l00Src_pick s_ 900).1)) (IntKind.wrap .i64 (300 + (m_spec_l00Src_pick (m_spec_l00Src_pick s_ 900).2 1500).1)) (IntKind.wrap .i64 (20 + (m_spec_l00Src_pick (m_spec_l00Src_pick (m_spec_l00Src_pick s_ 900).2 1500).2 200).1)) (m_spec_l00Src_pick (m_spec_l00Src_pick (m_spec_l00Src_pick (m_spec_l00Src_pick s_ 900).2 1500).2 200).2 60).1, (m_spec_l00Src_pick (m_spec_l00Src_pick (m_spec_l00Src_pick (m_spec_l00Src_pick s_ 900).2 1500).2 200).2 60).2)

/-! ### spec_l04DrawOk -/
def m_spec_l04DrawOk_b1 (s_ : gl00Src) (rec1 : ((List Int) × Int × Int × Int × (List gAirway)) → (gMine × gl00Src)) (k1 : ((List Int) × Int × Int × Int × (List gAirway)) → (gMine × gl00Src)) (x1 : (List Int) × Int × Int × Int × (List gAirway)) : gMine × gl00Src :=
  bif decide (x1.2.2.2.1 < (([([97] : List UInt8), ([98] : List UInt8), ([99] : List UInt8), ([100] : List UInt8), ([101] : List UInt8), ([102] : List UInt8), ([103] : List UInt8), ([104] : List UInt8)] : List (List UInt8)).length : Int)) then bif (m_spec_l00Src_one (gl00Src.mk x1.1 x1.2.1 x1.2.2.1) 5).1 then rec1 ((m_spec_l00Src_one (gl00Src.mk x1.1 x1.2.1 x1.2.2.1) 5).2.code, (m_spec_l00Src_one (gl00Src.mk x1.1 x1.2.1 x1.2.2.1) 5).2.at_, (m_spec_l00Src_one (gl00Src.mk x1.1 x1.2.1 x1.2.2.1) 5).2.seed, x1.2.2.2.1 + 1, x1.2.2.2.2) else JN (fun j6 => bif (m_spec_l00Src_one (m_spec_l00Src_one (gl00Src.mk x1.1 x1.2.1 x1.2.2.1) 5).2 2).1 then j6 ((m_spec_l00Src_pick (m_spec_l00Src_one (m_spec_l00Src_one (gl00Src.mk x1.1 x1.2.1 x1.2.2.1) 5).2 2).2 (IntKind.wrap .i64 (2 + (m_spec_l00Src_pick s_ 5).1))).2.code, (m_spec_l00Src_pick (m_spec_l00Src_one (m_spec_l00Src_one (gl00Src.mk x1.1 x1.2.1 x1.2.2.1) 5).2 2).2 (IntKind.wrap .i64 (2 + (m_spec_l00Src_pick s_ 5).1))).2.at_, (m_spec_l00Src_pick (m_spec_l00Src_one (m_spec_l00Src_one (gl00Src.mk x1.1 x1.2.1 x1.2.2.1) 5).2 2).2 (IntKind.wrap .i64 (2 + (m_spec_l00Src_pick s_ 5).1))).2.seed, (m_spec_l00Src_pick (m_spec_l00Src_one (m_spec_l00Src_one (gl00Src.mk x1.1 x1.2.1 x1.2.2.1) 5).2 2).2 (IntKind.wrap .i64 (2 + (m_spec_l00Src_pick s_ 5).1))).1) else j6 ((m_spec_l00Src_one (m_spec_l00Src_one (gl00Src.mk x1.1 x1.2.1 x1.2.2.1) 5).2 2).2.code, (m_spec_l00Src_one (m_spec_l00Src_one (gl00Src.mk x1.1 x1.2.1 x1.2.2.1) 5).2 2).2.at_, (m_spec_l00Src_one (m_spec_l00Src_one (gl00Src.mk x1.1 x1.2.1 x1.2.2.1) 5).2 2).2.seed, Int.tmod x1.2.2.2.1 (IntKind.wrap .i64 (2 + (m_spec_l00Src_pick s_ 5).1)))) (fun (v5 : (List Int) × Int × Int × Int) => JN (fun j10 => bif (decide (x1.2.2.2.1 < (IntKind.wrap .i64 ((IntKind.wrap .i64 (2 + (m_spec_l00Src_pick s_ 5).1)) - 1)))) && (!(m_spec_l00Src_one (m_spec_l00Src_pick (gl00Src.mk v5.1 v5.2.1 v5.2.2.1) (IntKind.wrap .i64 ((IntKind.wrap .i64 (2 + (m_spec_l00Src_pick s_ 5).1)) - 1))).2 4).1) then j10 (x1.2.2.2.1, x1.2.2.2.1 + 1) else j10 (v5.2.2.2, Int.tmod (IntKind.wrap .i64 ((IntKind.wrap .i64 (v5.2.2.2 + 1)) + (m_spec_l00Src_pick (gl00Src.mk v5.1 v5.2.1 v5.2.2.1) (IntKind.wrap .i64 ((IntKind.wrap .i64 (2 + (m_spec_l00Src_pick s_ 5).1)) - 1))).1)) (IntKind.wrap .i64 (2 + (m_spec_l00Src_pick s_ 5).1)))) (fun (v9 : Int × Int) => rec1 ((m_spec_l03DrawOk (bif (decide (x1.2.2.2.1 < (IntKind.wrap .i64 ((IntKind.wrap .i64 (2 + (m_spec_l00Src_pick s_ 5).1)) - 1)))) then (m_spec_l00Src_one (m_spec_l00Src_pick (gl00Src.mk v5.1 v5.2.1 v5.2.2.1) (IntKind.wrap .i64 ((IntKind.wrap .i64 (2 + (m_spec_l00Src_pick s_ 5).1)) - 1))).2 4).2 else (m_spec_l00Src_pick (gl00Src.mk v5.1 v5.2.1 v5.2.2.1) (IntKind.wrap .i64 ((IntKind.wrap .i64 (2 + (m_spec_l00Src_pick s_ 5).1)) - 1))).2) (at' ([([97] : List UInt8), ([98] : List UInt8), ([99] : List UInt8), ([100] : List UInt8), ([101] : List UInt8), ([102] : List UInt8), ([103] : List UInt8), ([104] : List UInt8)] : List (List UInt8)) x1.2.2.2.1) v9.1 v9.2).2.code, (m_spec_l03DrawOk (bif (decide (x1.2.2.2.1 < (IntKind.wrap .i64 ((IntKind.wrap .i64 (2 + (m_spec_l00Src_pick s_ 5).1)) - 1)))) then (m_spec_l00Src_one (m_spec_l00Src_pick (gl00Src.mk v5.1 v5.2.1 v5.2.2.1) (IntKind.wrap .i64 ((IntKind.wrap .i64 (2 + (m_spec_l00Src_pick s_ 5).1)) - 1))).2 4).2 else (m_spec_l00Src_pick (gl00Src.mk v5.1 v5.2.1 v5.2.2.1) (IntKind.wrap .i64 ((IntKind.wrap .i64 (2 + (m_spec_l00Src_pick s_ 5).1)) - 1))).2) (at' ([([97] : List UInt8), ([98] : List UInt8), ([99] : List UInt8), ([100] : List UInt8), ([101] : List UInt8), ([102] : List UInt8), ([103] : List UInt8), ([104] : List UInt8)] : List (List UInt8)) x1.2.2.2.1) v9.1 v9.2).2.at_, (m_spec_l03DrawOk (bif (decide (x1.2.2.2.1 < (IntKind.wrap .i64 ((IntKind.wrap .i64 (2 + (m_spec_l00Src_pick s_ 5).1)) - 1)))) then (m_spec_l00Src_one (m_spec_l00Src_pick (gl00Src.mk v5.1 v5.2.1 v5.2.2.1) (IntKind.wrap .i64 ((IntKind.wrap .i64 (2 + (m_spec_l00Src_pick s_ 5).1)) - 1))).2 4).2 else (m_spec_l00Src_pick (gl00Src.mk v5.1 v5.2.1 v5.2.2.1) (IntKind.wrap .i64 ((IntKind.wrap .i64 (2 + (m_spec_l00Src_pick s_ 5).1)) - 1))).2) (at' ([([97] : List UInt8), ([98] : List UInt8), ([99] : List UInt8), ([100] : List UInt8), ([101] : List UInt8), ([102] : List UInt8), ([103] : List UInt8), ([104] : List UInt8)] : List (List UInt8)) x1.2.2.2.1) v9.1 v9.2).2.seed, x1.2.2.2.1 + 1, x1.2.2.2.2 ++ ([(m_spec_l03DrawOk (bif (decide (x1.2.2.2.1 < (IntKind.wrap .i64 ((IntKind.wrap .i64 (2 + (m_spec_l00Src_pick s_ 5).1)) - 1)))) then (m_spec_l00Src_one (m_spec_l00Src_pick (gl00Src.mk v5.1 v5.2.1 v5.2.2.1) (IntKind.wrap .i64 ((IntKind.wrap .i64 (2 + (m_spec_l00Src_pick s_ 5).1)) - 1))).2 4).2 else (m_spec_l00Src_pick (gl00Src.mk v5.1 v5.2.1 v5.2.2.1) (IntKind.wrap .i64 ((IntKind.wrap .i64 (2 + (m_spec_l00Src_pick s_ 5).1)) - 1))).2) (at' ([([97] : List UInt8), ([98] : List UInt8), ([99] : List UInt8), ([100] : List UInt8), ([101] : List UInt8), ([102] : List UInt8), ([103] : List UInt8), ([104] : List UInt8)] : List (List UInt8)) x1.2.2.2.1) v9.1 v9.2).1] : List gAirway)))) else k1 (x1.1, x1.2.1, x1.2.2.1, x1.2.2.2.1, x1.2.2.2.2)
def m_spec_l04DrawOk (s_ : gl00Src) : gMine × gl00Src :=
  LOOP (m_spec_l04DrawOk_b1 s_) (fun (x1 : (List Int) × Int × Int × Int × (List gAirway)) => (gMine.mk (IntKind.wrap .i64 (2 + (m_spec_l00Src_pick s_ 5).1)) x1.2.2.2.2, gl00Src.mk x1.1 x1.2.1 x1.2.2.1)) (((([([97] : List UInt8), ([98] : List UInt8), ([99] : List UInt8), ([100] : List UInt8), ([101] : List UInt8), ([102] : List UInt8), ([103] : List UInt8), ([104] : List UInt8)] : List (List UInt8)).length : Int) - 0 : Int).toNat + 1) ((m_spec_l00Src_pick s_ 5).2.code, (m_spec_l00Src_pick s_ 5).2.at_, (m_spec_l00Src_pick s_ 5).2.seed, 0, ([] : List gAirway))

/-! ### spec_R8Mine -/
def m_spec_R8Mine (code : List Int) : gMine :=
  (m_spec_l04DrawOk (m_spec_l00From code)).1

/-! ### spec_l00Min -/
def m_spec_l00Min (a : Int) (b : Int) : Int :=
  bif decide (a < b) then a else b

/-! ### spec_l00Max -/
def m_spec_l00Max (a : Int) (b : Int) : Int :=
  bif decide (b < a) then a else b

/-! ### spec_l04Parts -/
def m_spec_l04Parts_b3 (m_ : gMine) (list : List Int) (x1 : (List Int) × Int) (rec2 : ((List Int) × Int) → (List Int)) (k2 : ((List Int) × Int) → (List Int)) (x2 : (List Int) × Int) (rec3 : ((List Int) × Int) → (List Int)) (k3 : ((List Int) × Int) → (List Int)) (x3 : (List Int) × Int) : (List Int) :=
  bif decide (x3.2 < (x3.1.length : Int)) then bif (at' x3.1 x3.2) == (m_spec_l00Max (at' x2.1 (at' m_.Airways (at' list x2.2)).From) (at' x2.1 (at' m_.Airways (at' list x2.2)).To)) then rec3 (put' x3.1 x3.2 (m_spec_l00Min (at' x2.1 (at' m_.Airways (at' list x2.2)).From) (at' x2.1 (at' m_.Airways (at' list x2.2)).To)), x3.2 + 1) else rec3 (x3.1, x3.2 + 1) else k3 (x3.1, x3.2)
def m_spec_l04Parts_b2 (m_ : gMine) (list : List Int) (x1 : (List Int) × Int) (rec2 : ((List Int) × Int) → (List Int)) (k2 : ((List Int) × Int) → (List Int)) (x2 : (List Int) × Int) : (List Int) :=
  bif decide (x2.2 < (list.length : Int)) then LOOP (m_spec_l04Parts_b3 m_ list x1 rec2 k2 x2) (fun (x3 : (List Int) × Int) => rec2 (x3.1, x2.2 + 1)) (((x2.1.length : Int) - 0 : Int).toNat + 1) (x2.1, 0) else k2 (x2.1, x2.2)
def m_spec_l04Parts_b1 (m_ : gMine) (list : List Int) (rec1 : ((List Int) × Int) → (List Int)) (k1 : ((List Int) × Int) → (List Int)) (x1 : (List Int) × Int) : (List Int) :=
  bif decide (x1.2 < m_.Junctions) then rec1 (x1.1 ++ ([x1.2] : List Int), x1.2 + 1) else k1 (x1.1, x1.2)
def m_spec_l04Parts (m_ : gMine) (list : List Int) : (List Int) :=
  LOOP (m_spec_l04Parts_b1 m_ list) (fun (x1 : (List Int) × Int) => LOOP (m_spec_l04Parts_b2 m_ list x1) (fun (x2 : (List Int) × Int) => x2.1) (((list.length : Int) - 0 : Int).toNat + 1) (x1.1, 0)) ((m_.Junctions - 0 : Int).toNat + 1) (([] : List Int), 0)

/-! ### spec_l04Tree -/
def m_spec_l04Tree_b1 (m_ : gMine) (rec1 : ((List Int) × Int) → (List Int)) (k1 : ((List Int) × Int) → (List Int)) (x1 : (List Int) × Int) : (List Int) :=
  bif decide (x1.2 < (m_.Airways.length : Int)) then bif (at' (m_spec_l04Parts m_ x1.1) (at' m_.Airways x1.2).From) != (at' (m_spec_l04Parts m_ x1.1) (at' m_.Airways x1.2).To) then rec1 (x1.1 ++ ([x1.2] : List Int), x1.2 + 1) else rec1 (x1.1, x1.2 + 1) else k1 (x1.1, x1.2)
def m_spec_l04Tree (m_ : gMine) : (List Int) :=
  LOOP (m_spec_l04Tree_b1 m_) (fun (x1 : (List Int) × Int) => x1.1) (((m_.Airways.length : Int) - 0 : Int).toNat + 1) (([] : List Int), 0)

/-! ### spec_l00Has -/
def m_spec_l00Has_b1 (list : List Int) (n_ : Int) (rec1 : Int → Bool) (k1 : Int → Bool) (x1 : Int) : Bool :=
  bif decide (x1 < (list.length : Int)) then bif (at' list x1) == n_ then true else rec1 (x1 + 1) else k1 x1
def m_spec_l00Has (list : List Int) (n_ : Int) : Bool :=
  LOOP (m_spec_l00Has_b1 list n_) (fun (x1 : Int) => false) (((list.length : Int) - 0 : Int).toNat + 1) 0

/-! ### spec_l04Walk -/
def m_spec_l04Walk_b3 (m_ : gMine) (list : List Int) (from_ : Int) (to : Int) (x1 : (List Int) × Int) (rec2 : ((List Int) × Int) → ((List Int) × Bool)) (k2 : ((List Int) × Int) → ((List Int) × Bool)) (x2 : (List Int) × Int) (rec3 : ((List Int) × Int) → ((List Int) × Bool)) (k3 : ((List Int) × Int) → ((List Int) × Bool)) (x3 : (List Int) × Int) : (List Int) × Bool :=
  bif decide (x3.2 < (list.length : Int)) then JN (fun j14 => bif ((at' x3.1 (at' m_.Airways (at' list x3.2)).From) == x2.2) && (decide ((at' x3.1 (at' m_.Airways (at' list x3.2)).To) < 0)) then j14 (put' x3.1 (at' m_.Airways (at' list x3.2)).To (x2.2 + 1)) else j14 x3.1) (fun (v13 : (List Int)) => bif ((at' v13 (at' m_.Airways (at' list x3.2)).To) == x2.2) && (decide ((at' v13 (at' m_.Airways (at' list x3.2)).From) < 0)) then rec3 (put' v13 (at' m_.Airways (at' list x3.2)).From (x2.2 + 1), x3.2 + 1) else rec3 (v13, x3.2 + 1)) else k3 (x3.1, x3.2)
def m_spec_l04Walk_b5 (m_ : gMine) (list : List Int) (from_ : Int) (to : Int) (x1 : (List Int) × Int) (x2 : (List Int) × Int) (rec4 : ((List Int) × Int) → ((List Int) × Bool)) (k4 : ((List Int) × Int) → ((List Int) × Bool)) (x4 : (List Int) × Int) (rec5 : (Int × (List Int) × Int) → ((List Int) × Bool)) (k5 : (Int × (List Int) × Int) → ((List Int) × Bool)) (x5 : Int × (List Int) × Int) : (List Int) × Bool :=
  bif decide (x5.1 < (list.length : Int)) then bif ((at' m_.Airways (at' list x5.1)).From == x5.2.2) && ((at' x2.1 (at' m_.Airways (at' list x5.1)).To) == (IntKind.wrap .i64 ((at' x2.1 x5.2.2) - 1))) then k5 (x5.1, x5.2.1 ++ ([IntKind.wrap .i64 ((at' list x5.1) + 1)] : List Int), (at' m_.Airways (at' list x5.1)).To) else bif ((at' m_.Airways (at' list x5.1)).To == x5.2.2) && ((at' x2.1 (at' m_.Airways (at' list x5.1)).From) == (IntKind.wrap .i64 ((at' x2.1 x5.2.2) - 1))) then k5 (x5.1, x5.2.1 ++ ([IntKind.wrap .i64 ((IntKind.wrap .i64 (0 - (at' list x5.1))) - 1)] : List Int), (at' m_.Airways (at' list x5.1)).From) else rec5 (x5.1 + 1, x5.2.1, x5.2.2) else k5 (x5.1, x5.2.1, x5.2.2)
def m_spec_l04Walk_b4 (m_ : gMine) (list : List Int) (from_ : Int) (to : Int) (x1 : (List Int) × Int) (x2 : (List Int) × Int) (rec4 : ((List Int) × Int) → ((List Int) × Bool)) (k4 : ((List Int) × Int) → ((List Int) × Bool)) (x4 : (List Int) × Int) : (List Int) × Bool :=
  bif x4.2 != to then LOOP (m_spec_l04Walk_b5 m_ list from_ to x1 x2 rec4 k4 x4) (fun (x5 : Int × (List Int) × Int) => rec4 (x5.2.1, x5.2.2)) (((list.length : Int) - 0 : Int).toNat + 1) (0, x4.1, x4.2) else k4 (x4.1, x4.2)
def m_spec_l04Walk_b2 (m_ : gMine) (list : List Int) (from_ : Int) (to : Int) (x1 : (List Int) × Int) (rec2 : ((List Int) × Int) → ((List Int) × Bool)) (k2 : ((List Int) × Int) → ((List Int) × Bool)) (x2 : (List Int) × Int) : (List Int) × Bool :=
  bif decide (x2.2 < m_.Junctions) then LOOP (m_spec_l04Walk_b3 m_ list from_ to x1 rec2 k2 x2) (fun (x3 : (List Int) × Int) => rec2 (x3.1, x2.2 + 1)) (((list.length : Int) - 0 : Int).toNat + 1) (x2.1, 0) else k2 (x2.1, x2.2)
def m_spec_l04Walk_b1 (m_ : gMine) (list : List Int) (from_ : Int) (to : Int) (rec1 : ((List Int) × Int) → ((List Int) × Bool)) (k1 : ((List Int) × Int) → ((List Int) × Bool)) (x1 : (List Int) × Int) : (List Int) × Bool :=
  bif decide (x1.2 < m_.Junctions) then rec1 (x1.1 ++ ([(-1)] : List Int), x1.2 + 1) else k1 (x1.1, x1.2)
def m_spec_l04Walk (m_ : gMine) (list : List Int) (from_ : Int) (to : Int) : (List Int) × Bool :=
  LOOP (m_spec_l04Walk_b1 m_ list from_ to) (fun (x1 : (List Int) × Int) => LOOP (m_spec_l04Walk_b2 m_ list from_ to x1) (fun (x2 : (List Int) × Int) => bif decide ((at' x2.1 from_) < 0) then (([] : List Int), false) else LOOP (m_spec_l04Walk_b4 m_ list from_ to x1 x2) (fun (x4 : (List Int) × Int) => (x4.1, true)) ((at' x2.1 from_).toNat + 1) (([] : List Int), from_)) ((m_.Junctions - 0 : Int).toNat + 1) (put' x1.1 to 0, 0)) ((m_.Junctions - 0 : Int).toNat + 1) (([] : List Int), 0)

/-! ### spec_l04Meshes -/
def m_spec_l04Meshes_b1 (m_ : gMine) (rec1 : (Int × (List (List Int))) → (List (List Int))) (k1 : (Int × (List (List Int))) → (List (List Int))) (x1 : Int × (List (List Int))) : (List (List Int)) :=
  bif decide (x1.1 < (m_.Airways.length : Int)) then bif m_spec_l00Has (m_spec_l04Tree m_) x1.1 then rec1 (x1.1 + 1, x1.2) else rec1 (x1.1 + 1, x1.2 ++ ([([x1.1 + 1] : List Int) ++ (m_spec_l04Walk m_ (m_spec_l04Tree m_) (at' m_.Airways x1.1).To (at' m_.Airways x1.1).From).1] : List (List Int))) else k1 (x1.1, x1.2)
def m_spec_l04Meshes (m_ : gMine) : (List (List Int)) :=
  LOOP (m_spec_l04Meshes_b1 m_) (fun (x1 : Int × (List (List Int))) => x1.2) (((m_.Airways.length : Int) - 0 : Int).toNat + 1) (0, ([] : List (List Int)))

/-! ### spec_l07Add -/
def m_spec_l07Add_b1 (flows : List Int) (walk : List Int) (amount : Int) (rec1 : ((List Int) × Int) → (List Int)) (k1 : ((List Int) × Int) → (List Int)) (x1 : (List Int) × Int) : (List Int) :=
  bif decide (x1.2 < (walk.length : Int)) then bif decide (0 < (at' walk x1.2)) then rec1 (put' x1.1 (IntKind.wrap .i64 ((at' walk x1.2) - 1)) (IntKind.wrap .i64 ((at' x1.1 (IntKind.wrap .i64 ((at' walk x1.2) - 1))) + amount)), x1.2 + 1) else rec1 (put' x1.1 (IntKind.wrap .i64 ((IntKind.wrap .i64 (0 - (at' walk x1.2))) - 1)) (IntKind.wrap .i64 ((at' x1.1 (IntKind.wrap .i64 ((IntKind.wrap .i64 (0 - (at' walk x1.2))) - 1))) - amount)), x1.2 + 1) else k1 (x1.1, x1.2)
def m_spec_l07Add (flows : List Int) (walk : List Int) (amount : Int) : (List Int) :=
  LOOP (m_spec_l07Add_b1 flows walk amount) (fun (x1 : (List Int) × Int) => x1.1) (((walk.length : Int) - 0 : Int).toNat + 1) (flows, 0)

/-! ### spec_R8Flows -/
def m_spec_R8Flows_b1 (code : List Int) (m_ : gMine) (rec1 : ((List Int) × Int × Int × (List Int) × Int) → (List Int)) (k1 : ((List Int) × Int × Int × (List Int) × Int) → (List Int)) (x1 : (List Int) × Int × Int × (List Int) × Int) : (List Int) :=
  bif decide (x1.2.2.2.2 < ((m_spec_l04Meshes m_).length : Int)) then rec1 ((m_spec_l00Src_pick (gl00Src.mk x1.1 x1.2.1 x1.2.2.1) 4000).2.code, (m_spec_l00Src_pick (gl00Src.mk x1.1 x1.2.1 x1.2.2.1) 4000).2.at_, (m_spec_l00Src_pick (gl00Src.mk x1.1 x1.2.1 x1.2.2.1) 4000).2.seed, m_spec_l07Add x1.2.2.2.1 (at' (m_spec_l04Meshes m_) x1.2.2.2.2) (IntKind.wrap .i64 ((m_spec_l00Src_pick (gl00Src.mk x1.1 x1.2.1 x1.2.2.1) 4000).1 - 1500)), x1.2.2.2.2 + 1) else k1 (x1.1, x1.2.1, x1.2.2.1, x1.2.2.2.1, x1.2.2.2.2)
def m_spec_R8Flows (code : List Int) (m_ : gMine) : (List Int) :=
  LOOP (m_spec_R8Flows_b1 code m_) (fun (x1 : (List Int) × Int × Int × (List Int) × Int) => x1.2.2.2.1) ((((m_spec_l04Meshes m_).length : Int) - 0 : Int).toNat + 1) ((m_spec_l00From code).code, (m_spec_l00From code).at_, (m_spec_l00From code).seed, List.replicate ((m_.Airways.length : Int) : Int).toNat (0 : Int), 0)

/-! ### spec_R8Fire -/
def m_spec_R8Fire (code : List Int) (m_ : gMine) : gFire :=
  gFire.mk (m_spec_l00Src_pick (m_spec_l00Src_pick (m_spec_l00From code) 10).2 (m_.Airways.length : Int)).1 (m_spec_l00Src_pick (m_spec_l00Src_pick (m_spec_l00Src_pick (m_spec_l00From code) 10).2 (m_.Airways.length : Int)).2 (at' m_.Airways (m_spec_l00Src_pick (m_spec_l00Src_pick (m_spec_l00From code) 10).2 (m_.Airways.length : Int)).1).Length).1 (IntKind.wrap .i64 (60 * (m_spec_l00Src_pick (m_spec_l00From code) 10).1))

/-! ### spec_R8Crew -/
def m_spec_R8Crew (code : List Int) (m_ : gMine) : gCrew :=
  gCrew.mk ([99, 49] : List UInt8) (m_spec_l00Src_pick (m_spec_l00From code) m_.Junctions).1 (IntKind.wrap .i64 (30 + (m_spec_l00Src_pick (m_spec_l00Src_pick (m_spec_l00From code) m_.Junctions).2 150).1))

/-! ### spec_l00In -/
def m_spec_l00In (n_ : Int) (low : Int) (high : Int) : Bool :=
  (decide (low ≤ n_)) && (decide (n_ ≤ high))

/-! ### spec_l01Small -/
def m_spec_l01Small (c_ : Int) : Bool :=
  (decide (97 ≤ c_)) && (decide (c_ ≤ 122))

/-! ### spec_l01Digit -/
def m_spec_l01Digit (c_ : Int) : Bool :=
  (decide (48 ≤ c_)) && (decide (c_ ≤ 57))

/-! ### spec_l01Name -/
def m_spec_l01Name_b1 (s_ : List UInt8) (rec1 : Int → Bool) (k1 : Int → Bool) (x1 : Int) : Bool :=
  bif decide (x1 < (s_.length : Int)) then bif (!(m_spec_l01Small (((s_.getD x1.toNat 0).toNat : Nat) : Int))) && (!(m_spec_l01Digit (((s_.getD x1.toNat 0).toNat : Nat) : Int))) then false else rec1 (x1 + 1) else k1 x1
def m_spec_l01Name (s_ : List UInt8) : Bool :=
  bif ((strB .eql s_ ([] : List UInt8)) || (decide (10 < (s_.length : Int)))) || (!(m_spec_l01Small (((s_.getD (0 : Int).toNat 0).toNat : Nat) : Int))) then false else LOOP (m_spec_l01Name_b1 s_) (fun (x1 : Int) => true) (((s_.length : Int) - 0 : Int).toNat + 1) 0

/-! ### spec_l03Ok -/
def m_spec_l03Ok (a : gAirway) : Bool :=
  bif (((!(m_spec_l01Name a.Id)) || (!(m_spec_l00In a.From 0 15))) || (!(m_spec_l00In a.To 0 15))) || (a.From == a.To) then false else (((m_spec_l00In a.Length 1 10000) && (m_spec_l00In a.Section 50 5000)) && (m_spec_l00In a.Friction 1 1000)) && (m_spec_l00In a.Shock 0 1000)

/-! ### spec_l04Junction -/
def m_spec_l04Junction (m_ : gMine) (j : Int) : Bool :=
  m_spec_l00In j 0 (IntKind.wrap .i64 (m_.Junctions - 1))

/-! ### spec_l04Ok -/
def m_spec_l04Ok_b1 (m_ : gMine) (rec1 : Int → Bool) (k1 : Int → Bool) (x1 : Int) : Bool :=
  bif decide (x1 < (m_.Airways.length : Int)) then bif (((!(m_spec_l03Ok (at' m_.Airways x1))) || (!(m_spec_l04Junction m_ (at' m_.Airways x1).From))) || (!(m_spec_l04Junction m_ (at' m_.Airways x1).To))) || ((decide (0 < x1)) && (strB .geq (at' m_.Airways (x1 - 1)).Id (at' m_.Airways x1).Id)) then false else rec1 (x1 + 1) else k1 x1
def m_spec_l04Ok (m_ : gMine) : Bool :=
  bif !(m_spec_l00In m_.Junctions 1 16) then false else LOOP (m_spec_l04Ok_b1 m_) (fun (x1 : Int) => decide ((m_.Airways.length : Int) ≤ 24)) (((m_.Airways.length : Int) - 0 : Int).toNat + 1) 0

/-! ### spec_l17One -/
def m_spec_l17One (f : gFire) : Bool :=
  ((m_spec_l00In f.Airway 0 23) && (m_spec_l00In f.At 0 10000)) && (m_spec_l00In f.Start 0 36000)

/-! ### spec_l17Fire -/
def m_spec_l17Fire (m_ : gMine) (f : gFire) : Bool :=
  ((m_spec_l17One f) && (decide (f.Airway < (m_.Airways.length : Int)))) && (decide (f.At ≤ (at' m_.Airways f.Airway).Length))

/-! ### spec_l03Flow -/
def m_spec_l03Flow (q : Int) : Bool :=
  m_spec_l00In q (-100000) 100000

/-! ### spec_l07Flows -/
def m_spec_l07Flows_b1 (m_ : gMine) (flows : List Int) (rec1 : Int → Bool) (k1 : Int → Bool) (x1 : Int) : Bool :=
  bif decide (x1 < (flows.length : Int)) then bif !(m_spec_l03Flow (at' flows x1)) then false else rec1 (x1 + 1) else k1 x1
def m_spec_l07Flows (m_ : gMine) (flows : List Int) : Bool :=
  LOOP (m_spec_l07Flows_b1 m_ flows) (fun (x1 : Int) => (flows.length : Int) == (m_.Airways.length : Int)) (((flows.length : Int) - 0 : Int).toNat + 1) 0

/-! ### spec_l17Ask -/
def m_spec_l17Ask (m_ : gMine) (flows : List Int) (f : gFire) : Int :=
  bif (!(m_spec_l04Ok m_)) || (!(m_spec_l17Fire m_ f)) then 1 else bif !(m_spec_l07Flows m_ flows) then 7 else 0

/-! ### spec_l03Abs -/
def m_spec_l03Abs (n_ : Int) : Int :=
  m_spec_l00Max n_ (IntKind.wrap .i64 (0 - n_))

/-! ### spec_l17Leave -/
def m_spec_l17Leave (m_ : gMine) (flows : List Int) (f : gFire) : Int :=
  JN (fun j4 => bif decide (0 < (at' flows f.Airway)) then j4 (IntKind.wrap .i64 ((at' m_.Airways f.Airway).Length - f.At)) else j4 f.At) (fun (v3 : Int) => IntKind.wrap .i64 (f.Start + (IntKind.wrap .i64 (Int.tdiv (IntKind.wrap .i64 ((IntKind.wrap .i64 ((IntKind.wrap .i64 (v3 * (at' m_.Airways f.Airway).Section)) + (m_spec_l03Abs (at' flows f.Airway)))) - 1)) (m_spec_l03Abs (at' flows f.Airway))))))

/-! ### spec_l13Start -/
def m_spec_l13Start (a : gAirway) (flow : Int) : Int :=
  bif decide (0 < flow) then a.From else a.To

/-! ### spec_l03Time -/
def m_spec_l03Time (a : gAirway) (flow : Int) : Int :=
  IntKind.wrap .i64 (Int.tdiv (IntKind.wrap .i64 ((IntKind.wrap .i64 ((IntKind.wrap .i64 (a.Length * a.Section)) + (m_spec_l03Abs flow))) - 1)) (m_spec_l03Abs flow))

/-! ### spec_l17Arrival -/
def m_spec_l17Arrival_b3 (m_ : gMine) (flows : List Int) (f : gFire) (x1 : (List Int) × Int) (rec2 : ((List Int) × Int) → (List Int)) (k2 : ((List Int) × Int) → (List Int)) (x2 : (List Int) × Int) (rec3 : (Int × (List Int)) → (List Int)) (k3 : (Int × (List Int)) → (List Int)) (x3 : Int × (List Int)) : (List Int) :=
  bif decide (x3.1 < (flows.length : Int)) then bif (at' flows x3.1) == 0 then rec3 (x3.1 + 1, x3.2) else bif decide ((at' x3.2 (m_spec_l13Start (at' m_.Airways x3.1) (at' flows x3.1))) < 0) then rec3 (x3.1 + 1, x3.2) else bif (decide ((at' x3.2 (m_spec_l13Start (at' m_.Airways x3.1) (IntKind.wrap .i64 (0 - (at' flows x3.1))))) < 0)) || (decide ((IntKind.wrap .i64 ((at' x3.2 (m_spec_l13Start (at' m_.Airways x3.1) (at' flows x3.1))) + (m_spec_l03Time (at' m_.Airways x3.1) (at' flows x3.1)))) < (at' x3.2 (m_spec_l13Start (at' m_.Airways x3.1) (IntKind.wrap .i64 (0 - (at' flows x3.1))))))) then rec3 (x3.1 + 1, put' x3.2 (m_spec_l13Start (at' m_.Airways x3.1) (IntKind.wrap .i64 (0 - (at' flows x3.1)))) (IntKind.wrap .i64 ((at' x3.2 (m_spec_l13Start (at' m_.Airways x3.1) (at' flows x3.1))) + (m_spec_l03Time (at' m_.Airways x3.1) (at' flows x3.1))))) else rec3 (x3.1 + 1, x3.2) else k3 (x3.1, x3.2)
def m_spec_l17Arrival_b2 (m_ : gMine) (flows : List Int) (f : gFire) (x1 : (List Int) × Int) (rec2 : ((List Int) × Int) → (List Int)) (k2 : ((List Int) × Int) → (List Int)) (x2 : (List Int) × Int) : (List Int) :=
  bif decide (x2.2 < m_.Junctions) then LOOP (m_spec_l17Arrival_b3 m_ flows f x1 rec2 k2 x2) (fun (x3 : Int × (List Int)) => rec2 (x3.2, x2.2 + 1)) (((flows.length : Int) - 0 : Int).toNat + 1) (0, x2.1) else k2 (x2.1, x2.2)
def m_spec_l17Arrival_b1 (m_ : gMine) (flows : List Int) (f : gFire) (rec1 : ((List Int) × Int) → (List Int)) (k1 : ((List Int) × Int) → (List Int)) (x1 : (List Int) × Int) : (List Int) :=
  bif decide (x1.2 < m_.Junctions) then rec1 (x1.1 ++ ([(-1)] : List Int), x1.2 + 1) else k1 (x1.1, x1.2)
def m_spec_l17Arrival (m_ : gMine) (flows : List Int) (f : gFire) : (List Int) :=
  LOOP (m_spec_l17Arrival_b1 m_ flows f) (fun (x1 : (List Int) × Int) => bif (at' flows f.Airway) == 0 then x1.1 else LOOP (m_spec_l17Arrival_b2 m_ flows f x1) (fun (x2 : (List Int) × Int) => x2.1) ((m_.Junctions - 0 : Int).toNat + 1) (put' x1.1 (m_spec_l13Start (at' m_.Airways f.Airway) (IntKind.wrap .i64 (0 - (at' flows f.Airway)))) (m_spec_l17Leave m_ flows f), 0)) ((m_.Junctions - 0 : Int).toNat + 1) (([] : List Int), 0)

/-! ### spec_ArrivalOf -/
def m_spec_ArrivalOf (m_ : gMine) (flows : List Int) (f : gFire) : (List Int) × Int :=
  bif (m_spec_l17Ask m_ flows f) != 0 then (([] : List Int), m_spec_l17Ask m_ flows f) else (m_spec_l17Arrival m_ flows f, 0)

/-! ### impl_within -/
def m_impl_within (n_ : Int) (low : Int) (high : Int) : Bool :=
  (decide (low ≤ n_)) && (decide (n_ ≤ high))

/-! ### impl_onlyNameBytes -/
def m_impl_onlyNameBytes_b1 (s_ : List UInt8) (rec1 : Int → Bool) (k1 : Int → Bool) (x1 : Int) : Bool :=
  bif decide (x1 < (s_.length : Int)) then bif ((decide ((((s_.getD x1.toNat 0).toNat : Nat) : Int) < 97)) || (decide (122 < (((s_.getD x1.toNat 0).toNat : Nat) : Int)))) && ((decide ((((s_.getD x1.toNat 0).toNat : Nat) : Int) < 48)) || (decide (57 < (((s_.getD x1.toNat 0).toNat : Nat) : Int)))) then false else rec1 (x1 + 1) else k1 x1
def m_impl_onlyNameBytes (s_ : List UInt8) : Bool :=
  LOOP (m_impl_onlyNameBytes_b1 s_) (fun (x1 : Int) => true) (((s_.length : Int) - 0 : Int).toNat + 1) 0

/-! ### impl_IsName -/
def m_impl_IsName (s_ : List UInt8) : Bool :=
  bif (((decide ((s_.length : Int) < 1)) || (decide (10 < (s_.length : Int)))) || (decide ((((s_.getD (0 : Int).toNat 0).toNat : Nat) : Int) < 97))) || (decide (122 < (((s_.getD (0 : Int).toNat 0).toNat : Nat) : Int))) then false else m_impl_onlyNameBytes s_

/-! ### impl_junctionOk -/
def m_impl_junctionOk (n_ : Int) : Bool :=
  m_impl_within n_ 0 15

/-! ### impl_ValidAirway -/
def m_impl_ValidAirway (a : gAirway) : Bool :=
  (((((((m_impl_IsName a.Id) && (m_impl_junctionOk a.From)) && (m_impl_junctionOk a.To)) && (a.From != a.To)) && (m_impl_within a.Length 1 10000)) && (m_impl_within a.Section 50 5000)) && (m_impl_within a.Friction 1 1000)) && (m_impl_within a.Shock 0 1000)

/-! ### impl_Mine_hasJunction -/
def m_impl_Mine_hasJunction (m_ : gMine) (n_ : Int) : Bool :=
  m_impl_within n_ 0 (IntKind.wrap .i64 (m_.Junctions - 1))

/-! ### impl_Mine_hasEnds -/
def m_impl_Mine_hasEnds (m_ : gMine) (a : gAirway) : Bool :=
  (m_impl_Mine_hasJunction m_ a.From) && (m_impl_Mine_hasJunction m_ a.To)

/-! ### impl_ValidMine -/
def m_impl_ValidMine_b1 (m_ : gMine) (rec1 : Int → Bool) (k1 : Int → Bool) (x1 : Int) : Bool :=
  bif decide (x1 < (m_.Airways.length : Int)) then bif ((!(m_impl_ValidAirway (at' m_.Airways x1))) || (!(m_impl_Mine_hasEnds m_ (at' m_.Airways x1)))) || ((decide (0 < x1)) && (strB .leq (at' m_.Airways x1).Id (at' m_.Airways (x1 - 1)).Id)) then false else rec1 (x1 + 1) else k1 x1
def m_impl_ValidMine (m_ : gMine) : Bool :=
  bif (!(m_impl_within m_.Junctions 1 16)) || (decide (24 < (m_.Airways.length : Int))) then false else LOOP (m_impl_ValidMine_b1 m_) (fun (x1 : Int) => true) (((m_.Airways.length : Int) - 0 : Int).toNat + 1) 0

/-! ### impl_Crew_valid -/
def m_impl_Crew_valid (c_ : gCrew) : Bool :=
  ((m_impl_IsName c_.Id) && (m_impl_junctionOk c_.Junction)) && (m_impl_within c_.Speed 10 300)

/-! ### impl_ValidCrews -/
def m_impl_ValidCrews_b1 (m_ : gMine) (list : List gCrew) (rec1 : Int → Bool) (k1 : Int → Bool) (x1 : Int) : Bool :=
  bif decide (x1 < (list.length : Int)) then bif ((!(m_impl_Crew_valid (at' list x1))) || (!(m_impl_Mine_hasJunction m_ (at' list x1).Junction))) || ((decide (0 < x1)) && (strB .leq (at' list x1).Id (at' list (x1 - 1)).Id)) then false else rec1 (x1 + 1) else k1 x1
def m_impl_ValidCrews (m_ : gMine) (list : List gCrew) : Bool :=
  bif (!(m_impl_ValidMine m_)) || (decide (8 < (list.length : Int))) then false else LOOP (m_impl_ValidCrews_b1 m_ list) (fun (x1 : Int) => true) (((list.length : Int) - 0 : Int).toNat + 1) 0

/-! ### slices_IndexFunc_int64 -/
def m_slices_IndexFunc_int64_b1 (s_ : List Int) (f : (Int → Bool)) (rec1 : Int → Int) (k1 : Int → Int) (x1 : Int) : Int :=
  bif decide (x1 < (s_.length : Int)) then bif f (at' s_ x1) then x1 else rec1 (x1 + 1) else k1 x1
def m_slices_IndexFunc_int64 (s_ : List Int) (f : Int → Bool) : Int :=
  LOOP (m_slices_IndexFunc_int64_b1 s_ f) (fun (x1 : Int) => (-1)) (((s_.length : Int) - 0 : Int).toNat + 1) 0

/-! ### slices_ContainsFunc_int64 -/
def m_slices_ContainsFunc_int64 (s_ : List Int) (f : Int → Bool) : Bool :=
  decide (0 ≤ (m_slices_IndexFunc_int64 s_ f))

/-! ### impl_allWithin_1 -/
def m_impl_allWithin_1 (n_ : Int) (p1 : Int) (p2 : Int) : Bool :=
  !(m_impl_within n_ p1 p2)

/-! ### impl_allWithin -/
def m_impl_allWithin (list : List Int) (low : Int) (high : Int) : Bool :=
  !(m_slices_ContainsFunc_int64 list (fun (a0 : Int) => m_impl_allWithin_1 a0 low high))

/-! ### impl_increasing -/
def m_impl_increasing_b1 (list : List Int) (rec1 : Int → Bool) (k1 : Int → Bool) (x1 : Int) : Bool :=
  bif decide (x1 < (list.length : Int)) then bif decide ((at' list x1) ≤ (at' list (x1 - 1))) then false else rec1 (x1 + 1) else k1 x1
def m_impl_increasing (list : List Int) : Bool :=
  LOOP (m_impl_increasing_b1 list) (fun (x1 : Int) => true) (((list.length : Int) - 1 : Int).toNat + 1) 1

/-! ### impl_Mine_hasJunctions -/
def m_impl_Mine_hasJunctions (m_ : gMine) (list : List Int) : Bool :=
  (m_impl_increasing list) && (m_impl_allWithin list 0 (IntKind.wrap .i64 (m_.Junctions - 1)))

/-! ### impl_escapeOf -/
def m_impl_escapeOf (m_ : gMine) (arrivals : List Int) (blocked : Int) (list : List gCrew) (start : Int) (exits : List Int) : gescape × Int × (List gCrew) :=
  bif !(m_impl_ValidCrews m_ list) then (gescape.mk (gMine.mk 0 ([] : List gAirway)) ([] : List Int) 0, 1, list) else bif (!(m_impl_within blocked (-1) ((m_.Airways.length : Int) - 1))) || (!(m_impl_within start 0 36000)) then (gescape.mk (gMine.mk 0 ([] : List gAirway)) ([] : List Int) 0, 2, list) else bif (((arrivals.length : Int) != m_.Junctions) || (!(m_impl_allWithin arrivals (-1) 1000000000000))) || (!(m_impl_Mine_hasJunctions m_ exits)) then (gescape.mk (gMine.mk 0 ([] : List gAirway)) ([] : List Int) 0, 7, list) else (gescape.mk m_ arrivals blocked, 0, list)

/-! ### sort_Search -/
def m_sort_Search_b1 (n_ : Int) (f : (Int → Bool)) (rec1 : (Int × Int) → Int) (k1 : (Int × Int) → Int) (x1 : Int × Int) : Int :=
  bif decide (x1.1 < x1.2) then bif !(f (IntKind.wrap .i64 (Int.fdiv (IntKind.wrap .u64 (IntKind.wrap .i64 (x1.1 + x1.2))) (2 ^ min (1 : Int).toNat 64)))) then rec1 (IntKind.wrap .i64 ((IntKind.wrap .i64 (Int.fdiv (IntKind.wrap .u64 (IntKind.wrap .i64 (x1.1 + x1.2))) (2 ^ min (1 : Int).toNat 64))) + 1), x1.2) else rec1 (x1.1, IntKind.wrap .i64 (Int.fdiv (IntKind.wrap .u64 (IntKind.wrap .i64 (x1.1 + x1.2))) (2 ^ min (1 : Int).toNat 64))) else k1 (x1.1, x1.2)
def m_sort_Search (n_ : Int) (f : Int → Bool) : Int :=
  LOOP (m_sort_Search_b1 n_ f) (fun (x1 : Int × Int) => x1.1) (n_.toNat + 1) (0, n_)

/-! ### impl_firstIn_1 -/
def m_impl_firstIn_1 (i : Int) (p1 : Int → Bool) (p2 : Int) : Bool :=
  p1 (IntKind.wrap .i64 (p2 + i))

/-! ### impl_firstIn -/
def m_impl_firstIn (low : Int) (high : Int) (has : Int → Bool) : Int × Bool :=
  (IntKind.wrap .i64 (low + (m_sort_Search (IntKind.wrap .i64 ((IntKind.wrap .i64 (high - low)) + 1)) (fun (a0 : Int) => m_impl_firstIn_1 a0 has low))), decide ((m_sort_Search (IntKind.wrap .i64 ((IntKind.wrap .i64 (high - low)) + 1)) (fun (a0 : Int) => m_impl_firstIn_1 a0 has low)) < (IntKind.wrap .i64 ((IntKind.wrap .i64 (high - low)) + 1))))

/-! ### impl_firstReached -/
def m_impl_firstReached_b1 (times : List Int) (junctions : List Int) (rec1 : (Int × Int) → Int) (k1 : (Int × Int) → Int) (x1 : Int × Int) : Int :=
  bif decide (x1.2 < (junctions.length : Int)) then bif (decide (0 ≤ (at' times (at' junctions x1.2)))) && ((decide (x1.1 < 0)) || (decide ((at' times (at' junctions x1.2)) < (at' times x1.1)))) then rec1 (at' junctions x1.2, x1.2 + 1) else rec1 (x1.1, x1.2 + 1) else k1 (x1.1, x1.2)
def m_impl_firstReached (times : List Int) (junctions : List Int) : Int :=
  LOOP (m_impl_firstReached_b1 times junctions) (fun (x1 : Int × Int) => x1.1) (((junctions.length : Int) - 0 : Int).toNat + 1) ((-1), 0)

/-! ### impl_divUp -/
def m_impl_divUp (a : Int) (b : Int) : Int :=
  IntKind.wrap .i64 (Int.tdiv (IntKind.wrap .i64 ((IntKind.wrap .i64 (a + b)) - 1)) b)

/-! ### impl_Airway_walkTime -/
def m_impl_Airway_walkTime (a : gAirway) (speed : Int) : Int :=
  m_impl_divUp (IntKind.wrap .i64 (100 * a.Length)) speed

/-! ### math_bits_Mul32 -/
def m_math_bits_Mul32 (x_ : Int) (y : Int) : Int × Int :=
  (IntKind.wrap .u32 (Int.fdiv (IntKind.wrap .u64 ((IntKind.wrap .u64 x_) * (IntKind.wrap .u64 y))) (2 ^ min (32 : Int).toNat 64)), IntKind.wrap .u32 (IntKind.wrap .u64 ((IntKind.wrap .u64 x_) * (IntKind.wrap .u64 y))))

/-! ### math_bits_Mul64 -/
def m_math_bits_Mul64 (x_ : Int) (y : Int) : Int × Int :=
  (IntKind.wrap .u64 ((IntKind.wrap .u64 ((IntKind.wrap .u64 ((Int.fdiv x_ (2 ^ min (32 : Int).toNat 64)) * (Int.fdiv y (2 ^ min (32 : Int).toNat 64)))) + (Int.fdiv (IntKind.wrap .u64 ((IntKind.wrap .u64 ((Int.fdiv x_ (2 ^ min (32 : Int).toNat 64)) * (IntKind.wrap .u64 ((((BitVec.ofInt (IntKind.bits .u64) y) &&& (BitVec.ofInt (IntKind.bits .u64) 4294967295)).toNat : Nat) : Int)))) + (Int.fdiv (IntKind.wrap .u64 ((IntKind.wrap .u64 ((((BitVec.ofInt (IntKind.bits .u64) x_) &&& (BitVec.ofInt (IntKind.bits .u64) 4294967295)).toNat : Nat) : Int)) * (IntKind.wrap .u64 ((((BitVec.ofInt (IntKind.bits .u64) y) &&& (BitVec.ofInt (IntKind.bits .u64) 4294967295)).toNat : Nat) : Int)))) (2 ^ min (32 : Int).toNat 64)))) (2 ^ min (32 : Int).toNat 64)))) + (Int.fdiv (IntKind.wrap .u64 ((IntKind.wrap .u64 ((((BitVec.ofInt (IntKind.bits .u64) (IntKind.wrap .u64 ((IntKind.wrap .u64 ((Int.fdiv x_ (2 ^ min (32 : Int).toNat 64)) * (IntKind.wrap .u64 ((((BitVec.ofInt (IntKind.bits .u64) y) &&& (BitVec.ofInt (IntKind.bits .u64) 4294967295)).toNat : Nat) : Int)))) + (Int.fdiv (IntKind.wrap .u64 ((IntKind.wrap .u64 ((((BitVec.ofInt (IntKind.bits .u64) x_) &&& (BitVec.ofInt (IntKind.bits .u64) 4294967295)).toNat : Nat) : Int)) * (IntKind.wrap .u64 ((((BitVec.ofInt (IntKind.bits .u64) y) &&& (BitVec.ofInt (IntKind.bits .u64) 4294967295)).toNat : Nat) : Int)))) (2 ^ min (32 : Int).toNat 64))))) &&& (BitVec.ofInt (IntKind.bits .u64) 4294967295)).toNat : Nat) : Int)) + (IntKind.wrap .u64 ((IntKind.wrap .u64 ((((BitVec.ofInt (IntKind.bits .u64) x_) &&& (BitVec.ofInt (IntKind.bits .u64) 4294967295)).toNat : Nat) : Int)) * (Int.fdiv y (2 ^ min (32 : Int).toNat 64)))))) (2 ^ min (32 : Int).toNat 64))), IntKind.wrap .u64 (x_ * y))

/-! ### math_bits_Mul -/
def m_math_bits_Mul (x_ : Int) (y : Int) : Int × Int :=
  bif false then (IntKind.wrap .u64 (m_math_bits_Mul32 (IntKind.wrap .u32 x_) (IntKind.wrap .u32 y)).1, IntKind.wrap .u64 (m_math_bits_Mul32 (IntKind.wrap .u32 x_) (IntKind.wrap .u32 y)).2) else ((m_math_bits_Mul64 x_ y).1, (m_math_bits_Mul64 x_ y).2)

/-! ### slices_Repeat_int64 -/
def m_slices_Repeat_int64_b1 (x_ : List Int) (count : Int) (rec1 : ((List Int) × Int) → (List Int)) (k1 : ((List Int) × Int) → (List Int)) (x1 : (List Int) × Int) : (List Int) :=
  bif decide (x1.2 < (x1.1.length : Int)) then rec1 (cpy x1.1 (x1.2.toNat) ((pre' x1.1 x1.2).take (min (pre' x1.1 x1.2).length ((x1.1.length : Int).toNat - x1.2.toNat))), IntKind.wrap .i64 (x1.2 + (((min (pre' x1.1 x1.2).length ((x1.1.length : Int).toNat - x1.2.toNat)) : Nat) : Int))) else k1 (x1.1, x1.2)
def m_slices_Repeat_int64 (x_ : List Int) (count : Int) : (List Int) :=
  LOOP (m_slices_Repeat_int64_b1 x_ count) (fun (x1 : (List Int) × Int) => x1.1) (count.toNat + 1) (cpy (List.replicate (IntKind.wrap .i64 (m_math_bits_Mul (IntKind.wrap .u64 (x_.length : Int)) (IntKind.wrap .u64 count)).2 : Int).toNat (0 : Int)) (0) (x_.take (min x_.length (List.replicate (IntKind.wrap .i64 (m_math_bits_Mul (IntKind.wrap .u64 (x_.length : Int)) (IntKind.wrap .u64 count)).2 : Int).toNat (0 : Int)).length)), (((min x_.length (List.replicate (IntKind.wrap .i64 (m_math_bits_Mul (IntKind.wrap .u64 (x_.length : Int)) (IntKind.wrap .u64 count)).2 : Int).toNat (0 : Int)).length) : Nat) : Int))

/-! ### impl_escape_mayBe -/
def m_impl_escape_mayBe (e : gescape) (junction : Int) (second : Int) : Bool :=
  (decide ((at' e.arrivals junction) < 0)) || (decide (second < (at' e.arrivals junction)))

/-! ### impl_escape_times -/
def m_impl_escape_times_b3 (e : gescape) (c_ : gCrew) (start : Int) (rec1 : ((List Int) × Bool) → (List Int)) (k1 : ((List Int) × Bool) → (List Int)) (x1 : (List Int) × Bool) (rec2 : ((List Int) × Bool × Int) → (List Int)) (k2 : ((List Int) × Bool × Int) → (List Int)) (x2 : (List Int) × Bool × Int) (rec3 : ((List Int) × Bool × Int) → (List Int)) (k3 : ((List Int) × Bool × Int) → (List Int)) (x3 : (List Int) × Bool × Int) : (List Int) :=
  bif decide (x3.2.2 < 2) then bif (((x2.2.2 != e.blocked) && (decide (0 ≤ (at' x3.1 (at' ([(at' e.mine.Airways x2.2.2).From, (at' e.mine.Airways x2.2.2).To] : List Int) x3.2.2))))) && ((decide ((at' x3.1 (at' ([(at' e.mine.Airways x2.2.2).To, (at' e.mine.Airways x2.2.2).From] : List Int) x3.2.2)) < 0)) || (decide ((IntKind.wrap .i64 ((at' x3.1 (at' ([(at' e.mine.Airways x2.2.2).From, (at' e.mine.Airways x2.2.2).To] : List Int) x3.2.2)) + (m_impl_Airway_walkTime (at' e.mine.Airways x2.2.2) c_.Speed))) < (at' x3.1 (at' ([(at' e.mine.Airways x2.2.2).To, (at' e.mine.Airways x2.2.2).From] : List Int) x3.2.2)))))) && (m_impl_escape_mayBe e (at' ([(at' e.mine.Airways x2.2.2).To, (at' e.mine.Airways x2.2.2).From] : List Int) x3.2.2) (IntKind.wrap .i64 ((at' x3.1 (at' ([(at' e.mine.Airways x2.2.2).From, (at' e.mine.Airways x2.2.2).To] : List Int) x3.2.2)) + (m_impl_Airway_walkTime (at' e.mine.Airways x2.2.2) c_.Speed)))) then rec3 (put' x3.1 (at' ([(at' e.mine.Airways x2.2.2).To, (at' e.mine.Airways x2.2.2).From] : List Int) x3.2.2) (IntKind.wrap .i64 ((at' x3.1 (at' ([(at' e.mine.Airways x2.2.2).From, (at' e.mine.Airways x2.2.2).To] : List Int) x3.2.2)) + (m_impl_Airway_walkTime (at' e.mine.Airways x2.2.2) c_.Speed))), true, x3.2.2 + 1) else rec3 (x3.1, x3.2.1, x3.2.2 + 1) else k3 (x3.1, x3.2.1, x3.2.2)
def m_impl_escape_times_b2 (e : gescape) (c_ : gCrew) (start : Int) (rec1 : ((List Int) × Bool) → (List Int)) (k1 : ((List Int) × Bool) → (List Int)) (x1 : (List Int) × Bool) (rec2 : ((List Int) × Bool × Int) → (List Int)) (k2 : ((List Int) × Bool × Int) → (List Int)) (x2 : (List Int) × Bool × Int) : (List Int) :=
  bif decide (x2.2.2 < (e.mine.Airways.length : Int)) then LOOP (m_impl_escape_times_b3 e c_ start rec1 k1 x1 rec2 k2 x2) (fun (x3 : (List Int) × Bool × Int) => rec2 (x3.1, x3.2.1, x2.2.2 + 1)) ((2 - 0 : Int).toNat + 1) (x2.1, x2.2.1, 0) else k2 (x2.1, x2.2.1, x2.2.2)
def m_impl_escape_times_b1 (e : gescape) (c_ : gCrew) (start : Int) (rec1 : ((List Int) × Bool) → (List Int)) (k1 : ((List Int) × Bool) → (List Int)) (x1 : (List Int) × Bool) : (List Int) :=
  bif x1.2 then LOOP (m_impl_escape_times_b2 e c_ start rec1 k1 x1) (fun (x2 : (List Int) × Bool × Int) => rec1 (x2.1, x2.2.1)) (((e.mine.Airways.length : Int) - 0 : Int).toNat + 1) (x1.1, false, 0) else k1 (x1.1, x1.2)
def m_impl_escape_times (e : gescape) (c_ : gCrew) (start : Int) : (List Int) :=
  bif !(m_impl_escape_mayBe e c_.Junction start) then m_slices_Repeat_int64 ([(-1)] : List Int) e.mine.Junctions else LOOP (m_impl_escape_times_b1 e c_ start) (fun (x1 : (List Int) × Bool) => x1.1) (300000000000) (put' (m_slices_Repeat_int64 ([(-1)] : List Int) e.mine.Junctions) c_.Junction start, true)

/-! ### impl_LastStart_1 -/
def m_impl_LastStart_1 (start : Int) (p1 : gescape) (p2 : gCrew) (p3 : List Int) : Bool :=
  decide ((m_impl_firstReached (m_impl_escape_times p1 p2 start) p3) < 0)

/-! ### impl_orNotFound -/
def m_impl_orNotFound (n_ : Int) (ok : Bool) : Int × Int :=
  bif !ok then (0, 3) else (n_, 0)

/-! ### impl_LastStart -/
def m_impl_LastStart (m_ : gMine) (arrivals : List Int) (blocked : Int) (c_ : gCrew) (exits : List Int) : Int × Int :=
  bif (m_impl_escapeOf m_ arrivals blocked ([c_] : List gCrew) 0 exits).2.1 != 0 then (0, (m_impl_escapeOf m_ arrivals blocked ([c_] : List gCrew) 0 exits).2.1) else bif !(m_impl_firstIn 0 36000 (fun (a0 : Int) => m_impl_LastStart_1 a0 (m_impl_escapeOf m_ arrivals blocked ([c_] : List gCrew) 0 exits).1 c_ exits)).2 then (36000, 0) else ((m_impl_orNotFound (IntKind.wrap .i64 ((m_impl_firstIn 0 36000 (fun (a0 : Int) => m_impl_LastStart_1 a0 (m_impl_escapeOf m_ arrivals blocked ([c_] : List gCrew) 0 exits).1 c_ exits)).1 - 1)) (decide (0 < (m_impl_firstIn 0 36000 (fun (a0 : Int) => m_impl_LastStart_1 a0 (m_impl_escapeOf m_ arrivals blocked ([c_] : List gCrew) 0 exits).1 c_ exits)).1))).1, (m_impl_orNotFound (IntKind.wrap .i64 ((m_impl_firstIn 0 36000 (fun (a0 : Int) => m_impl_LastStart_1 a0 (m_impl_escapeOf m_ arrivals blocked ([c_] : List gCrew) 0 exits).1 c_ exits)).1 - 1)) (decide (0 < (m_impl_firstIn 0 36000 (fun (a0 : Int) => m_impl_LastStart_1 a0 (m_impl_escapeOf m_ arrivals blocked ([c_] : List gCrew) 0 exits).1 c_ exits)).1))).2)

/-! ### spec_l19One -/
def m_spec_l19One (c_ : gCrew) : Bool :=
  ((m_spec_l01Name c_.Id) && (m_spec_l00In c_.Junction 0 15)) && (m_spec_l00In c_.Speed 10 300)

/-! ### spec_l17Time -/
def m_spec_l17Time (t : Int) : Bool :=
  m_spec_l00In t 0 36000

/-! ### spec_l19Arrivals -/
def m_spec_l19Arrivals_b1 (m_ : gMine) (arrivals : List Int) (rec1 : Int → Bool) (k1 : Int → Bool) (x1 : Int) : Bool :=
  bif decide (x1 < (arrivals.length : Int)) then bif !(m_spec_l00In (at' arrivals x1) (-1) 1000000000000) then false else rec1 (x1 + 1) else k1 x1
def m_spec_l19Arrivals (m_ : gMine) (arrivals : List Int) : Bool :=
  LOOP (m_spec_l19Arrivals_b1 m_ arrivals) (fun (x1 : Int) => (arrivals.length : Int) == m_.Junctions) (((arrivals.length : Int) - 0 : Int).toNat + 1) 0

/-! ### spec_l19Ask -/
def m_spec_l19Ask (m_ : gMine) (arrivals : List Int) (blocked : Int) (c_ : gCrew) (start : Int) : Int :=
  bif ((!(m_spec_l04Ok m_)) || (!(m_spec_l19One c_))) || (decide (m_.Junctions ≤ c_.Junction)) then 1 else bif (!(m_spec_l00In blocked (-1) ((m_.Airways.length : Int) - 1))) || (!(m_spec_l17Time start)) then 2 else bif !(m_spec_l19Arrivals m_ arrivals) then 7 else 0

/-! ### spec_l00Rises -/
def m_spec_l00Rises_b1 (list : List Int) (low : Int) (high : Int) (rec1 : Int → Bool) (k1 : Int → Bool) (x1 : Int) : Bool :=
  bif decide (x1 < (list.length : Int)) then bif (!(m_spec_l00In (at' list x1) low high)) || ((decide (0 < x1)) && (decide ((at' list x1) ≤ (at' list (x1 - 1))))) then false else rec1 (x1 + 1) else k1 x1
def m_spec_l00Rises (list : List Int) (low : Int) (high : Int) : Bool :=
  LOOP (m_spec_l00Rises_b1 list low high) (fun (x1 : Int) => true) (((list.length : Int) - 0 : Int).toNat + 1) 0

/-! ### spec_l19Safe -/
def m_spec_l19Safe (arrivals : List Int) (j : Int) (time : Int) : Bool :=
  (decide ((at' arrivals j) < 0)) || (decide (time < (at' arrivals j)))

/-! ### spec_l19Walk -/
def m_spec_l19Walk (a : gAirway) (speed : Int) : Int :=
  IntKind.wrap .i64 (Int.tdiv (IntKind.wrap .i64 ((IntKind.wrap .i64 ((IntKind.wrap .i64 (100 * a.Length)) + speed)) - 1)) speed)

/-! ### spec_l19Go -/
def m_spec_l19Go (arrivals : List Int) (times : List Int) (from_ : Int) (to : Int) (n_ : Int) : (List Int) :=
  bif decide ((at' times from_) < 0) then times else bif (m_spec_l19Safe arrivals to (IntKind.wrap .i64 ((at' times from_) + n_))) && ((decide ((at' times to) < 0)) || (decide ((IntKind.wrap .i64 ((at' times from_) + n_)) < (at' times to)))) then put' times to (IntKind.wrap .i64 ((at' times from_) + n_)) else times

/-! ### spec_l19Times -/
def m_spec_l19Times_b3 (m_ : gMine) (arrivals : List Int) (blocked : Int) (c_ : gCrew) (start : Int) (x1 : (List Int) × Int) (rec2 : ((List Int) × Int) → (List Int)) (k2 : ((List Int) × Int) → (List Int)) (x2 : (List Int) × Int) (rec3 : (Int × (List Int)) → (List Int)) (k3 : (Int × (List Int)) → (List Int)) (x3 : Int × (List Int)) : (List Int) :=
  bif decide (x3.1 < (m_.Airways.length : Int)) then bif x3.1 == blocked then rec3 (x3.1 + 1, x3.2) else rec3 (x3.1 + 1, m_spec_l19Go arrivals (m_spec_l19Go arrivals x3.2 (at' m_.Airways x3.1).From (at' m_.Airways x3.1).To (m_spec_l19Walk (at' m_.Airways x3.1) c_.Speed)) (at' m_.Airways x3.1).To (at' m_.Airways x3.1).From (m_spec_l19Walk (at' m_.Airways x3.1) c_.Speed)) else k3 (x3.1, x3.2)
def m_spec_l19Times_b2 (m_ : gMine) (arrivals : List Int) (blocked : Int) (c_ : gCrew) (start : Int) (x1 : (List Int) × Int) (rec2 : ((List Int) × Int) → (List Int)) (k2 : ((List Int) × Int) → (List Int)) (x2 : (List Int) × Int) : (List Int) :=
  bif decide (x2.2 < m_.Junctions) then LOOP (m_spec_l19Times_b3 m_ arrivals blocked c_ start x1 rec2 k2 x2) (fun (x3 : Int × (List Int)) => rec2 (x3.2, x2.2 + 1)) (((m_.Airways.length : Int) - 0 : Int).toNat + 1) (0, x2.1) else k2 (x2.1, x2.2)
def m_spec_l19Times_b1 (m_ : gMine) (arrivals : List Int) (blocked : Int) (c_ : gCrew) (start : Int) (rec1 : ((List Int) × Int) → (List Int)) (k1 : ((List Int) × Int) → (List Int)) (x1 : (List Int) × Int) : (List Int) :=
  bif decide (x1.2 < m_.Junctions) then rec1 (x1.1 ++ ([(-1)] : List Int), x1.2 + 1) else k1 (x1.1, x1.2)
def m_spec_l19Times (m_ : gMine) (arrivals : List Int) (blocked : Int) (c_ : gCrew) (start : Int) : (List Int) :=
  LOOP (m_spec_l19Times_b1 m_ arrivals blocked c_ start) (fun (x1 : (List Int) × Int) => bif !(m_spec_l19Safe arrivals c_.Junction start) then x1.1 else LOOP (m_spec_l19Times_b2 m_ arrivals blocked c_ start x1) (fun (x2 : (List Int) × Int) => x2.1) ((m_.Junctions - 0 : Int).toNat + 1) (put' x1.1 c_.Junction start, 0)) ((m_.Junctions - 0 : Int).toNat + 1) (([] : List Int), 0)

/-! ### spec_l19Exit -/
def m_spec_l19Exit_b1 (times : List Int) (exits : List Int) (rec1 : (Int × Int) → Int) (k1 : (Int × Int) → Int) (x1 : Int × Int) : Int :=
  bif decide (x1.2 < (exits.length : Int)) then bif (decide (0 ≤ (at' times (at' exits x1.2)))) && ((decide (x1.1 < 0)) || (decide ((at' times (at' exits x1.2)) < (at' times x1.1)))) then rec1 (at' exits x1.2, x1.2 + 1) else rec1 (x1.1, x1.2 + 1) else k1 (x1.1, x1.2)
def m_spec_l19Exit (times : List Int) (exits : List Int) : Int :=
  LOOP (m_spec_l19Exit_b1 times exits) (fun (x1 : Int × Int) => x1.1) (((exits.length : Int) - 0 : Int).toNat + 1) ((-1), 0)

/-! ### spec_l19Step -/
def m_spec_l19Step_b1 (m_ : gMine) (blocked : Int) (speed : Int) (from_ : Int) (to : Int) (rec1 : (Int × Int) → Int) (k1 : (Int × Int) → Int) (x1 : Int × Int) : Int :=
  bif decide (x1.1 < (m_.Airways.length : Int)) then bif (x1.1 == blocked) || ((((at' m_.Airways x1.1).From != from_) || ((at' m_.Airways x1.1).To != to)) && (((at' m_.Airways x1.1).From != to) || ((at' m_.Airways x1.1).To != from_))) then rec1 (x1.1 + 1, x1.2) else bif (decide (x1.2 < 0)) || (decide ((m_spec_l19Walk (at' m_.Airways x1.1) speed) < x1.2)) then rec1 (x1.1 + 1, m_spec_l19Walk (at' m_.Airways x1.1) speed) else rec1 (x1.1 + 1, x1.2) else k1 (x1.1, x1.2)
def m_spec_l19Step (m_ : gMine) (blocked : Int) (speed : Int) (from_ : Int) (to : Int) : Int :=
  LOOP (m_spec_l19Step_b1 m_ blocked speed from_ to) (fun (x1 : Int × Int) => x1.2) (((m_.Airways.length : Int) - 0 : Int).toNat + 1) (0, (-1))

/-! ### spec_EscapeRoute -/
def m_spec_EscapeRoute_b2 (m_ : gMine) (arrivals : List Int) (blocked : Int) (c_ : gCrew) (start : Int) (exits : List Int) (rec1 : (Int × (List Int)) → ((List Int) × Int × Int)) (k1 : (Int × (List Int)) → ((List Int) × Int × Int)) (x1 : Int × (List Int)) (rec2 : Int → ((List Int) × Int × Int)) (k2 : Int → ((List Int) × Int × Int)) (x2 : Int) : (List Int) × Int × Int :=
  bif ((decide (0 ≤ (m_spec_l19Step m_ blocked c_.Speed x2 x1.1))) && (decide (0 ≤ (at' (m_spec_l19Times m_ arrivals blocked c_ start) x2)))) && ((IntKind.wrap .i64 ((at' (m_spec_l19Times m_ arrivals blocked c_ start) x2) + (m_spec_l19Step m_ blocked c_.Speed x2 x1.1))) == (at' (m_spec_l19Times m_ arrivals blocked c_ start) x1.1)) then k2 x2 else rec2 (x2 + 1)
def m_spec_EscapeRoute_b1 (m_ : gMine) (arrivals : List Int) (blocked : Int) (c_ : gCrew) (start : Int) (exits : List Int) (rec1 : (Int × (List Int)) → ((List Int) × Int × Int)) (k1 : (Int × (List Int)) → ((List Int) × Int × Int)) (x1 : Int × (List Int)) : (List Int) × Int × Int :=
  bif x1.1 != c_.Junction then LOOP (m_spec_EscapeRoute_b2 m_ arrivals blocked c_ start exits rec1 k1 x1) (fun (x2 : Int) => rec1 (x2, ([x2] : List Int) ++ x1.2)) (m_.Junctions.toNat + 1) 0 else k1 (x1.1, x1.2)
def m_spec_EscapeRoute (m_ : gMine) (arrivals : List Int) (blocked : Int) (c_ : gCrew) (start : Int) (exits : List Int) : (List Int) × Int × Int :=
  bif (m_spec_l19Ask m_ arrivals blocked c_ start) != 0 then (([] : List Int), 0, m_spec_l19Ask m_ arrivals blocked c_ start) else bif !(m_spec_l00Rises exits 0 (IntKind.wrap .i64 (m_.Junctions - 1))) then (([] : List Int), 0, 7) else bif decide ((m_spec_l19Exit (m_spec_l19Times m_ arrivals blocked c_ start) exits) < 0) then (([] : List Int), 0, 3) else LOOP (m_spec_EscapeRoute_b1 m_ arrivals blocked c_ start exits) (fun (x1 : Int × (List Int)) => (x1.2, at' (m_spec_l19Times m_ arrivals blocked c_ start) (m_spec_l19Exit (m_spec_l19Times m_ arrivals blocked c_ start) exits), 0)) (m_.Junctions.toNat + 1) (m_spec_l19Exit (m_spec_l19Times m_ arrivals blocked c_ start) exits, ([m_spec_l19Exit (m_spec_l19Times m_ arrivals blocked c_ start) exits] : List Int))

/-! ### impl_EscapeTimes -/
def m_impl_EscapeTimes (m_ : gMine) (arrivals : List Int) (blocked : Int) (c_ : gCrew) (start : Int) : (List Int) × Int :=
  bif (m_impl_escapeOf m_ arrivals blocked ([c_] : List gCrew) start []).2.1 != 0 then (([] : List Int), (m_impl_escapeOf m_ arrivals blocked ([c_] : List gCrew) start []).2.1) else (m_impl_escape_times (m_impl_escapeOf m_ arrivals blocked ([c_] : List gCrew) start []).1 c_ start, 0)

/-! ### laws_r8At -/
def m_laws_r8At (code : List Int) (k_ : Int) (n_ : Int) : Int :=
  bif (decide (n_ ≤ 1)) || (decide ((code.length : Int) ≤ k_)) then 0 else Int.tmod (IntKind.wrap .i64 (at' code k_)) n_

/-! ### impl_WalkTime -/
def m_impl_WalkTime (a : gAirway) (speed : Int) : Int × Int :=
  bif !(m_impl_ValidAirway a) then (0, 1) else bif !(m_impl_within speed 10 300) then (0, 2) else (m_impl_Airway_walkTime a speed, 0)

/-! ### laws_FnRoutes -/
def m_laws_FnRoutes_b1 (code : List Int) (more : List Int) (v5 : Unit) (rec1 : Int → Bool) (k1 : Int → Bool) (x1 : Int) : Bool :=
  bif decide (x1 < ((m_impl_EscapeTimes (m_spec_R8Mine code) (m_spec_ArrivalOf (m_spec_R8Mine code) (m_spec_R8Flows more (m_spec_R8Mine code)) (m_spec_R8Fire more (m_spec_R8Mine code))).1 (m_spec_R8Fire more (m_spec_R8Mine code)).Airway (m_spec_R8Crew more (m_spec_R8Mine code)) 0).1.length : Int)) then bif (decide (0 ≤ (at' (m_impl_EscapeTimes (m_spec_R8Mine code) (m_spec_ArrivalOf (m_spec_R8Mine code) (m_spec_R8Flows more (m_spec_R8Mine code)) (m_spec_R8Fire more (m_spec_R8Mine code))).1 (m_spec_R8Fire more (m_spec_R8Mine code)).Airway (m_spec_R8Crew more (m_spec_R8Mine code)) 0).1 x1))) && ((decide ((at' (m_impl_EscapeTimes (m_spec_R8Mine code) (m_spec_ArrivalOf (m_spec_R8Mine code) (m_spec_R8Flows more (m_spec_R8Mine code)) (m_spec_R8Fire more (m_spec_R8Mine code))).1 (-1) (m_spec_R8Crew more (m_spec_R8Mine code)) 0).1 x1) < 0)) || (decide ((at' (m_impl_EscapeTimes (m_spec_R8Mine code) (m_spec_ArrivalOf (m_spec_R8Mine code) (m_spec_R8Flows more (m_spec_R8Mine code)) (m_spec_R8Fire more (m_spec_R8Mine code))).1 (m_spec_R8Fire more (m_spec_R8Mine code)).Airway (m_spec_R8Crew more (m_spec_R8Mine code)) 0).1 x1) < (at' (m_impl_EscapeTimes (m_spec_R8Mine code) (m_spec_ArrivalOf (m_spec_R8Mine code) (m_spec_R8Flows more (m_spec_R8Mine code)) (m_spec_R8Fire more (m_spec_R8Mine code))).1 (-1) (m_spec_R8Crew more (m_spec_R8Mine code)) 0).1 x1)))) then false else rec1 (x1 + 1) else k1 x1
def m_laws_FnRoutes (code : List Int) (more : List Int) : Bool :=
  bif m_laws_r8Long code more then true else bif ((m_spec_R8Mine code).Airways.length : Int) == 0 then true else JN (fun j6 => bif (m_impl_LastStart (m_spec_R8Mine code) (m_spec_ArrivalOf (m_spec_R8Mine code) (m_spec_R8Flows more (m_spec_R8Mine code)) (m_spec_R8Fire more (m_spec_R8Mine code))).1 (m_spec_R8Fire more (m_spec_R8Mine code)).Airway (m_spec_R8Crew more (m_spec_R8Mine code)) ([0] : List Int)).2 == 0 then bif ((((m_spec_EscapeRoute (m_spec_R8Mine code) (m_spec_ArrivalOf (m_spec_R8Mine code) (m_spec_R8Flows more (m_spec_R8Mine code)) (m_spec_R8Fire more (m_spec_R8Mine code))).1 (m_spec_R8Fire more (m_spec_R8Mine code)).Airway (m_spec_R8Crew more (m_spec_R8Mine code)) (m_impl_LastStart (m_spec_R8Mine code) (m_spec_ArrivalOf (m_spec_R8Mine code) (m_spec_R8Flows more (m_spec_R8Mine code)) (m_spec_R8Fire more (m_spec_R8Mine code))).1 (m_spec_R8Fire more (m_spec_R8Mine code)).Airway (m_spec_R8Crew more (m_spec_R8Mine code)) ([0] : List Int)).1 ([0] : List Int)).2.2 != 0) || (decide ((m_impl_LastStart (m_spec_R8Mine code) (m_spec_ArrivalOf (m_spec_R8Mine code) (m_spec_R8Flows more (m_spec_R8Mine code)) (m_spec_R8Fire more (m_spec_R8Mine code))).1 (m_spec_R8Fire more (m_spec_R8Mine code)).Airway (m_spec_R8Crew more (m_spec_R8Mine code)) ([0] : List Int)).1 < 0))) || (decide (36000 < (m_impl_LastStart (m_spec_R8Mine code) (m_spec_ArrivalOf (m_spec_R8Mine code) (m_spec_R8Flows more (m_spec_R8Mine code)) (m_spec_R8Fire more (m_spec_R8Mine code))).1 (m_spec_R8Fire more (m_spec_R8Mine code)).Airway (m_spec_R8Crew more (m_spec_R8Mine code)) ([0] : List Int)).1))) || ((decide ((m_impl_LastStart (m_spec_R8Mine code) (m_spec_ArrivalOf (m_spec_R8Mine code) (m_spec_R8Flows more (m_spec_R8Mine code)) (m_spec_R8Fire more (m_spec_R8Mine code))).1 (m_spec_R8Fire more (m_spec_R8Mine code)).Airway (m_spec_R8Crew more (m_spec_R8Mine code)) ([0] : List Int)).1 < 36000)) && ((m_spec_EscapeRoute (m_spec_R8Mine code) (m_spec_ArrivalOf (m_spec_R8Mine code) (m_spec_R8Flows more (m_spec_R8Mine code)) (m_spec_R8Fire more (m_spec_R8Mine code))).1 (m_spec_R8Fire more (m_spec_R8Mine code)).Airway (m_spec_R8Crew more (m_spec_R8Mine code)) (IntKind.wrap .i64 ((m_impl_LastStart (m_spec_R8Mine code) (m_spec_ArrivalOf (m_spec_R8Mine code) (m_spec_R8Flows more (m_spec_R8Mine code)) (m_spec_R8Fire more (m_spec_R8Mine code))).1 (m_spec_R8Fire more (m_spec_R8Mine code)).Airway (m_spec_R8Crew more (m_spec_R8Mine code)) ([0] : List Int)).1 + 1)) ([0] : List Int)).2.2 != 3)) then false else j6 () else bif (m_impl_LastStart (m_spec_R8Mine code) (m_spec_ArrivalOf (m_spec_R8Mine code) (m_spec_R8Flows more (m_spec_R8Mine code)) (m_spec_R8Fire more (m_spec_R8Mine code))).1 (m_spec_R8Fire more (m_spec_R8Mine code)).Airway (m_spec_R8Crew more (m_spec_R8Mine code)) ([0] : List Int)).2 != 3 then false else j6 ()) (fun (v5 : Unit) => bif ((((m_impl_EscapeTimes (m_spec_R8Mine code) (m_spec_ArrivalOf (m_spec_R8Mine code) (m_spec_R8Flows more (m_spec_R8Mine code)) (m_spec_R8Fire more (m_spec_R8Mine code))).1 (m_spec_R8Fire more (m_spec_R8Mine code)).Airway (m_spec_R8Crew more (m_spec_R8Mine code)) 0).2 != 0) || ((m_impl_EscapeTimes (m_spec_R8Mine code) (m_spec_ArrivalOf (m_spec_R8Mine code) (m_spec_R8Flows more (m_spec_R8Mine code)) (m_spec_R8Fire more (m_spec_R8Mine code))).1 (-1) (m_spec_R8Crew more (m_spec_R8Mine code)) 0).2 != 0)) || (((m_impl_EscapeTimes (m_spec_R8Mine code) (m_spec_ArrivalOf (m_spec_R8Mine code) (m_spec_R8Flows more (m_spec_R8Mine code)) (m_spec_R8Fire more (m_spec_R8Mine code))).1 (m_spec_R8Fire more (m_spec_R8Mine code)).Airway (m_spec_R8Crew more (m_spec_R8Mine code)) 0).1.length : Int) != ((m_impl_EscapeTimes (m_spec_R8Mine code) (m_spec_ArrivalOf (m_spec_R8Mine code) (m_spec_R8Flows more (m_spec_R8Mine code)) (m_spec_R8Fire more (m_spec_R8Mine code))).1 (-1) (m_spec_R8Crew more (m_spec_R8Mine code)) 0).1.length : Int))) || (((m_impl_EscapeTimes (m_spec_R8Mine code) (m_spec_ArrivalOf (m_spec_R8Mine code) (m_spec_R8Flows more (m_spec_R8Mine code)) (m_spec_R8Fire more (m_spec_R8Mine code))).1 (m_spec_R8Fire more (m_spec_R8Mine code)).Airway (m_spec_R8Crew more (m_spec_R8Mine code)) 0).1.length : Int) != (m_spec_R8Mine code).Junctions) then false else LOOP (m_laws_FnRoutes_b1 code more v5) (fun (x1 : Int) => (((m_impl_WalkTime (at' (m_spec_R8Mine code).Airways (m_laws_r8At more 0 ((m_spec_R8Mine code).Airways.length : Int))) (m_spec_R8Crew more (m_spec_R8Mine code)).Speed).2 == 0) && (decide ((IntKind.wrap .i64 (100 * (at' (m_spec_R8Mine code).Airways (m_laws_r8At more 0 ((m_spec_R8Mine code).Airways.length : Int))).Length)) ≤ (IntKind.wrap .i64 ((m_impl_WalkTime (at' (m_spec_R8Mine code).Airways (m_laws_r8At more 0 ((m_spec_R8Mine code).Airways.length : Int))) (m_spec_R8Crew more (m_spec_R8Mine code)).Speed).1 * (m_spec_R8Crew more (m_spec_R8Mine code)).Speed))))) && (decide ((IntKind.wrap .i64 ((IntKind.wrap .i64 ((m_impl_WalkTime (at' (m_spec_R8Mine code).Airways (m_laws_r8At more 0 ((m_spec_R8Mine code).Airways.length : Int))) (m_spec_R8Crew more (m_spec_R8Mine code)).Speed).1 - 1)) * (m_spec_R8Crew more (m_spec_R8Mine code)).Speed)) < (IntKind.wrap .i64 (100 * (at' (m_spec_R8Mine code).Airways (m_laws_r8At more 0 ((m_spec_R8Mine code).Airways.length : Int))).Length))))) ((((m_impl_EscapeTimes (m_spec_R8Mine code) (m_spec_ArrivalOf (m_spec_R8Mine code) (m_spec_R8Flows more (m_spec_R8Mine code)) (m_spec_R8Fire more (m_spec_R8Mine code))).1 (m_spec_R8Fire more (m_spec_R8Mine code)).Airway (m_spec_R8Crew more (m_spec_R8Mine code)) 0).1.length : Int) - 0 : Int).toNat + 1) 0)

end Go.Proofs.Ytlbpjgeoaiiamaa
