/-
  PLAIN MODELS of the Go functions that the law reaches, printed by a program of this claim. Conditions: none; nothing is claimed here.
-/
import Derived.Test.YtfiedbefaoeoaaaEngN
set_option linter.unusedVariables false
set_option linter.unusedSimpArgs false
set_option linter.unusedSectionVars false
set_option linter.unnecessarySimpa false
namespace Go.Proofs.Ytfiedbefaoeoaaa
open Go Go.RowKit Go.Proofs Go.Proofs.Ytfiedbefaoeoaaa.E
structure gl00Src where
  code : List Int
  at_ : Int
  seed : Int
instance : Inhabited gl00Src := ⟨gl00Src.mk default default default⟩
abbrev gl00Src.v (x : gl00Src) : V := .st [.sl 1 (x.code.map (V.int .u8)), .int .i64 x.at_, .int .u64 x.seed]
structure gAirway where
  Id : List UInt8
  From : Int
  To : Int
  Length : Int
  Section : Int
  Friction : Int
  Shock : Int
instance : Inhabited gAirway := ⟨gAirway.mk default default default default default default default⟩
abbrev gAirway.v (x : gAirway) : V := .st [.str x.Id, .int .i64 x.From, .int .i64 x.To, .int .i64 x.Length, .int .i64 x.Section, .int .i64 x.Friction, .int .i64 x.Shock]
structure gMine where
  Junctions : Int
  Airways : List gAirway
instance : Inhabited gMine := ⟨gMine.mk default default⟩
abbrev gMine.v (x : gMine) : V := .st [.int .i64 x.Junctions, .sl 7 (x.Airways.map gAirway.v)]
structure gSource where
  Id : List UInt8
  Airway : Int
  Rate : Int
instance : Inhabited gSource := ⟨gSource.mk default default default⟩
abbrev gSource.v (x : gSource) : V := .st [.str x.Id, .int .i64 x.Airway, .int .i64 x.Rate]

/-! ### laws_r8Long -/
def m_laws_r8Long (code : List Int) (more : List Int) : Bool :=
  (decide (1048576 < (code.length : Int))) || (decide (1048576 < (more.length : Int)))

/-! ### laws_r8At -/
def m_laws_r8At (code : List Int) (k_ : Int) (n_ : Int) : Int :=
  bif (decide (n_ ≤ 1)) || (decide ((code.length : Int) ≤ k_)) then 0 else Int.tmod (IntKind.wrap .i64 (at' code k_)) n_

/-! ### laws_r8Wide -/
def m_laws_r8Wide (code : List Int) (k_ : Int) (n_ : Int) : Int :=
  Int.tmod (IntKind.wrap .i64 ((IntKind.wrap .i64 (256 * (m_laws_r8At code k_ 256))) + (m_laws_r8At code (IntKind.wrap .i64 (k_ + 1)) 256))) n_

/-! ### spec_l00From -/
def m_spec_l00From (code : List Int) : gl00Src :=
  gl00Src.mk code 0 0

/-! ### spec_l00Src_next -/
def m_spec_l00Src_next (s_ : gl00Src) : Int × gl00Src :=
  JN (fun j3 => bif decide (s_.at_ < (s_.code.length : Int)) then j3 (IntKind.wrap .i64 (at' s_.code s_.at_)) else j3 0) (fun (v2 : Int) => bif decide ((IntKind.wrap .i64 (s_.at_ + 1)) ≤ (s_.code.length : Int)) then (v2, gl00Src.mk s_.code (IntKind.wrap .i64 (s_.at_ + 1)) (IntKind.wrap .u64 ((IntKind.wrap .u64 ((IntKind.wrap .u64 (s_.seed * 6364136223846793005)) + (IntKind.wrap .u64 v2))) + 1442695040888963407))) else (IntKind.wrap .i64 (IntKind.wrap .u64 ((((BitVec.ofInt (IntKind.bits .u64) (Int.fdiv (IntKind.wrap .u64 ((IntKind.wrap .u64 ((IntKind.wrap .u64 (s_.seed * 6364136223846793005)) + (IntKind.wrap .u64 v2))) + 1442695040888963407)) (2 ^ min (40 : Int).toNat 64))) &&& (BitVec.ofInt (IntKind.bits .u64) 255)).toNat : Nat) : Int)), gl00Src.mk s_.code (IntKind.wrap .i64 (s_.at_ + 1)) (IntKind.wrap .u64 ((IntKind.wrap .u64 ((IntKind.wrap .u64 (s_.seed * 6364136223846793005)) + (IntKind.wrap .u64 v2))) + 1442695040888963407))))

/-! ### spec_l00Src_pick -/
def m_spec_l00Src_pick (s_ : gl00Src) (n_ : Int) : Int × gl00Src :=
  bif decide (n_ ≤ 1) then (0, s_) else bif decide (200 < n_) then (Int.tmod (IntKind.wrap .i64 ((IntKind.wrap .i64 ((m_spec_l00Src_next s_).1 * 256)) + (m_spec_l00Src_next (m_spec_l00Src_next s_).2).1)) n_, (m_spec_l00Src_next (m_spec_l00Src_next s_).2).2) else (Int.tmod (m_spec_l00Src_next s_).1 n_, (m_spec_l00Src_next s_).2)

/-! ### spec_l00Src_one -/
def m_spec_l00Src_one (s_ : gl00Src) (n_ : Int) : Bool × gl00Src :=
  ((m_spec_l00Src_pick s_ n_).1 == 0, (m_spec_l00Src_pick s_ n_).2)

/-! ### spec_l03DrawOk -/
def m_spec_l03DrawOk (s_ : gl00Src) (id : List UInt8) (from_ : Int) (to : Int) : gAirway × gl00Src :=
  (gAirway.mk id from_ to (IntKind.wrap .i64 (20 + (m_spec_l00Src_pick s_ 900).1)) (IntKind.wrap .i64 (300 + (m_spec_l00Src_pick (m_spec_l00Src_pick s_ 900).2 1500).1)) (IntKind.wrap .i64 (20 + (m_spec_l00Src_pick (m_spec_l00Src_pick (m_spec_l00Src_pick s_ 900).2 1500).2 200).1)) (m_spec_l00Src_pick (m_spec_l00Src_pick (m_spec_l00Src_pick (m_spec_l00Src_pick s_ 900).2 1500).2 200).2 60).1, (m_spec_l00Src_pick (m_spec_l00Src_pick (m_spec_l00Src_pick (m_spec_l00Src_pick s_ 900).2 1500).2 200).2 60).2)

/-! ### spec_l04DrawOk -/
def m_spec_l04DrawOk_b1 (s_ : gl00Src) (rec1 : ((List Int) × Int × Int × Int × (List gAirway)) → (gMine × gl00Src)) (k1 : ((List Int) × Int × Int × Int × (List gAirway)) → (gMine × gl00Src)) (x1 : (List Int) × Int × Int × Int × (List gAirway)) : gMine × gl00Src :=
  bif decide (x1.2.2.2.1 < (([([97] : List UInt8), ([98] : List UInt8), ([99] : List UInt8), ([100] : List UInt8), ([101] : List UInt8), ([102] : List UInt8), ([103] : List UInt8), ([104] : List UInt8)] : List (List UInt8)).length : Int)) then bif (m_spec_l00Src_one (gl00Src.mk x1.1 x1.2.1 x1.2.2.1) 5).1 then rec1 ((m_spec_l00Src_one (gl00Src.mk x1.1 x1.2.1 x1.2.2.1) 5).2.code, (m_spec_l00Src_one (gl00Src.mk x1.1 x1.2.1 x1.2.2.1) 5).2.at_, (m_spec_l00Src_one (gl00Src.mk x1.1 x1.2.1 x1.2.2.1) 5).2.seed, x1.2.2.2.1 + 1, x1.2.2.2.2) else JN (fun j6 => bif (m_spec_l00Src_one (m_spec_l00Src_one (gl00Src.mk x1.1 x1.2.1 x1.2.2.1) 5).2 2).1 then j6 ((m_spec_l00Src_pick (m_spec_l00Src_one (m_spec_l00Src_one (gl00Src.mk x1.1 x1.2.1 x1.2.2.1) 5).2 2).2 (IntKind.wrap .i64 (2 + (m_spec_l00Src_pick s_ 5).1))).2.code, (m_spec_l00Src_pick (m_spec_l00Src_one (m_spec_l00Src_one (gl00Src.mk x1.1 x1.2.1 x1.2.2.1) 5).2 2).2 (IntKind.wrap .i64 (2 + (m_spec_l00Src_pick s_ 5).1))).2.at_, (m_spec_l00Src_pick (m_spec_l00Src_one (m_spec_l00Src_one (gl00Src.mk x1.1 x1.2.1 x1.2.2.1) 5).2 2).2 (IntKind.wrap .i64 (2 + (m_spec_l00Src_pick s_ 5).1))).2.seed, (m_spec_l00Src_pick (m_spec_l00Src_one (m_spec_l00Src_one (gl00Src.mk x1.1 x1.2.1 x1.2.2.1) 5).2 2).2 (IntKind.wrap .i64 (2 + (m_spec_l00Src_pick s_ 5).1))).1) else j6 ((m_spec_l00Src_one (m_spec_l00Src_one (gl00Src.mk x1.1 x1.2.1 x1.2.2.1) 5).2 2).2.code, (m_spec_l00Src_one (m_spec_l00Src_one (gl00Src.mk x1.1 x1.2.1 x1.2.2.1) 5).2 2).2.at_, (m_spec_l00Src_one (m_spec_l00Src_one (gl00Src.mk x1.1 x1.2.1 x1.2.2.1) 5).2 2).2.seed, Int.tmod x1.2.2.2.1 (IntKind.wrap .i64 (2 + (m_spec_l00Src_pick s_ 5).1)))) (fun (v5 : (List Int) × Int × Int × Int) => JN (fun j10 => bif (decide (x1.2.2.2.1 < (IntKind.wrap .i64 ((IntKind.wrap .i64 (2 + (m_spec_l00Src_pick s_ 5).1)) - 1)))) && (!(m_spec_l00Src_one (m_spec_l00Src_pick (gl00Src.mk v5.1 v5.2.1 v5.2.2.1) (IntKind.wrap .i64 ((IntKind.wrap .i64 (2 + (m_spec_l00Src_pick s_ 5).1)) - 1))).2 4).1) then j10 (x1.2.2.2.1, x1.2.2.2.1 + 1) else j10 (v5.2.2.2, Int.tmod (IntKind.wrap .i64 ((IntKind.wrap .i64 (v5.2.2.2 + 1)) + (m_spec_l00Src_pick (gl00Src.mk v5.1 v5.2.1 v5.2.2.1) (IntKind.wrap .i64 ((IntKind.wrap .i64 (2 + (m_spec_l00Src_pick s_ 5).1)) - 1))).1)) (IntKind.wrap .i64 (2 + (m_spec_l00Src_pick s_ 5).1)))) (fun (v9 : Int × Int) => rec1 ((m_spec_l03DrawOk (bif (decide (x1.2.2.2.1 < (IntKind.wrap .i64 ((IntKind.wrap .i64 (2 + (m_spec_l00Src_pick s_ 5).1)) - 1)))) then (m_spec_l00Src_one (m_spec_l00Src_pick (gl00Src.mk v5.1 v5.2.1 v5.2.2.1) (IntKind.wrap .i64 ((IntKind.wrap .i64 (2 + (m_spec_l00Src_pick s_ 5).1)) - 1))).2 4).2 else (m_spec_l00Src_pick (gl00Src.mk v5.1 v5.2.1 v5.2.2.1) (IntKind.wrap .i64 ((IntKind.wrap .i64 (2 + (m_spec_l00Src_pick s_ 5).1)) - 1))).2) (at' ([([97] : List UInt8), ([98] : List UInt8), ([99] : List UInt8), ([100] : List UInt8), ([101] : List UInt8), ([102] : List UInt8), ([103] : List UInt8), ([104] : List UInt8)] : List (List UInt8)) x1.2.2.2.1) v9.1 v9.2).2.code, (m_spec_l03DrawOk (bif (decide (x1.2.2.2.1 < (IntKind.wrap .i64 ((IntKind.wrap .i64 (2 + (m_spec_l00Src_pick s_ 5).1)) - 1)))) then (m_spec_l00Src_one (m_spec_l00Src_pick (gl00Src.mk v5.1 v5.2.1 v5.2.2.1) (IntKind.wrap .i64 ((IntKind.wrap .i64 (2 + (m_spec_l00Src_pick s_ 5).1)) - 1))).2 4).2 else (m_spec_l00Src_pick (gl00Src.mk v5.1 v5.2.1 v5.2.2.1) (IntKind.wrap .i64 ((IntKind.wrap .i64 (2 + (m_spec_l00Src_pick s_ 5).1)) - 1))).2) (at' ([([97] : List UInt8), ([98] : List UInt8), ([99] : List UInt8), ([100] : List UInt8), ([101] : List UInt8), ([102] : List UInt8), ([103] : List UInt8), ([104] : List UInt8)] : List (List UInt8)) x1.2.2.2.1) v9.1 v9.2).2.at_, (m_spec_l03DrawOk (bif (decide (x1.2.2.2.1 < (IntKind.wrap .i64 ((IntKind.wrap .i64 (2 + (m_spec_l00Src_pick s_ 5).1)) - 1)))) then (m_spec_l00Src_one (m_spec_l00Src_pick (gl00Src.mk v5.1 v5.2.1 v5.2.2.1) (IntKind.wrap .i64 ((IntKind.wrap .i64 (2 + (m_spec_l00Src_pick s_ 5).1)) - 1))).2 4).2 else (m_spec_l00Src_pick (gl00Src.mk v5.1 v5.2.1 v5.2.2.1) (IntKind.wrap .i64 ((IntKind.wrap .i64 (2 + (m_spec_l00Src_pick s_ 5).1)) - 1))).2) (at' ([([97] : List UInt8), ([98] : List UInt8), ([99] : List UInt8), ([100] : List UInt8), ([101] : List UInt8), ([102] : List UInt8), ([103] : List UInt8), ([104] : List UInt8)] : List (List UInt8)) x1.2.2.2.1) v9.1 v9.2).2.seed, x1.2.2.2.1 + 1, x1.2.2.2.2 ++ ([(m_spec_l03DrawOk (bif (decide (x1.2.2.2.1 < (IntKind.wrap .i64 ((IntKind.wrap .i64 (2 + (m_spec_l00Src_pick s_ 5).1)) - 1)))) then (m_spec_l00Src_one (m_spec_l00Src_pick (gl00Src.mk v5.1 v5.2.1 v5.2.2.1) (IntKind.wrap .i64 ((IntKind.wrap .i64 (2 + (m_spec_l00Src_pick s_ 5).1)) - 1))).2 4).2 else (m_spec_l00Src_pick (gl00Src.mk v5.1 v5.2.1 v5.2.2.1) (IntKind.wrap .i64 ((IntKind.wrap .i64 (2 + (m_spec_l00Src_pick s_ 5).1)) - 1))).2) (at' ([([97] : List UInt8), ([98] : List UInt8), ([99] : List UInt8), ([100] : List UInt8), ([101] : List UInt8), ([102] : List UInt8), ([103] : List UInt8), ([104] : List UInt8)] : List (List UInt8)) x1.2.2.2.1) v9.1 v9.2).1] : List gAirway)))) else k1 (x1.1, x1.2.1, x1.2.2.1, x1.2.2.2.1, x1.2.2.2.2)
def m_spec_l04DrawOk (s_ : gl00Src) : gMine × gl00Src :=
  LOOP (m_spec_l04DrawOk_b1 s_) (fun (x1 : (List Int) × Int × Int × Int × (List gAirway)) => (gMine.mk (IntKind.wrap .i64 (2 + (m_spec_l00Src_pick s_ 5).1)) x1.2.2.2.2, gl00Src.mk x1.1 x1.2.1 x1.2.2.1)) (((([([97] : List UInt8), ([98] : List UInt8), ([99] : List UInt8), ([100] : List UInt8), ([101] : List UInt8), ([102] : List UInt8), ([103] : List UInt8), ([104] : List UInt8)] : List (List UInt8)).length : Int) - 0 : Int).toNat + 1) ((m_spec_l00Src_pick s_ 5).2.code, (m_spec_l00Src_pick s_ 5).2.at_, (m_spec_l00Src_pick s_ 5).2.seed, 0, ([] : List gAirway))

/-! ### spec_R8Mine -/
def m_spec_R8Mine (code : List Int) : gMine :=
  (m_spec_l04DrawOk (m_spec_l00From code)).1

/-! ### spec_l00Max -/
def m_spec_l00Max (a : Int) (b : Int) : Int :=
  bif decide (b < a) then a else b

/-! ### spec_l00Min -/
def m_spec_l00Min (a : Int) (b : Int) : Int :=
  bif decide (a < b) then a else b

/-! ### spec_l04Parts -/
def m_spec_l04Parts_b3 (m_ : gMine) (list : List Int) (x1 : (List Int) × Int) (rec2 : ((List Int) × Int) → (List Int)) (k2 : ((List Int) × Int) → (List Int)) (x2 : (List Int) × Int) (rec3 : ((List Int) × Int) → (List Int)) (k3 : ((List Int) × Int) → (List Int)) (x3 : (List Int) × Int) : (List Int) :=
  bif decide (x3.2 < (x3.1.length : Int)) then bif (at' x3.1 x3.2) == (m_spec_l00Max (at' x2.1 (at' m_.Airways (at' list x2.2)).From) (at' x2.1 (at' m_.Airways (at' list x2.2)).To)) then rec3 (put' x3.1 x3.2 (m_spec_l00Min (at' x2.1 (at' m_.Airways (at' list x2.2)).From) (at' x2.1 (at' m_.Airways (at' list x2.2)).To)), x3.2 + 1) else rec3 (x3.1, x3.2 + 1) else k3 (x3.1, x3.2)
def m_spec_l04Parts_b2 (m_ : gMine) (list : List Int) (x1 : (List Int) × Int) (rec2 : ((List Int) × Int) → (List Int)) (k2 : ((List Int) × Int) → (List Int)) (x2 : (List Int) × Int) : (List Int) :=
  bif decide (x2.2 < (list.length : Int)) then LOOP (m_spec_l04Parts_b3 m_ list x1 rec2 k2 x2) (fun (x3 : (List Int) × Int) => rec2 (x3.1, x2.2 + 1)) (((x2.1.length : Int) - 0 : Int).toNat + 1) (x2.1, 0) else k2 (x2.1, x2.2)
def m_spec_l04Parts_b1 (m_ : gMine) (list : List Int) (rec1 : ((List Int) × Int) → (List Int)) (k1 : ((List Int) × Int) → (List Int)) (x1 : (List Int) × Int) : (List Int) :=
  bif decide (x1.2 < m_.Junctions) then rec1 (x1.1 ++ ([x1.2] : List Int), x1.2 + 1) else k1 (x1.1, x1.2)
def m_spec_l04Parts (m_ : gMine) (list : List Int) : (List Int) :=
  LOOP (m_spec_l04Parts_b1 m_ list) (fun (x1 : (List Int) × Int) => LOOP (m_spec_l04Parts_b2 m_ list x1) (fun (x2 : (List Int) × Int) => x2.1) (((list.length : Int) - 0 : Int).toNat + 1) (x1.1, 0)) ((m_.Junctions - 0 : Int).toNat + 1) (([] : List Int), 0)

/-! ### spec_l04Tree -/
def m_spec_l04Tree_b1 (m_ : gMine) (rec1 : ((List Int) × Int) → (List Int)) (k1 : ((List Int) × Int) → (List Int)) (x1 : (List Int) × Int) : (List Int) :=
  bif decide (x1.2 < (m_.Airways.length : Int)) then bif (at' (m_spec_l04Parts m_ x1.1) (at' m_.Airways x1.2).From) != (at' (m_spec_l04Parts m_ x1.1) (at' m_.Airways x1.2).To) then rec1 (x1.1 ++ ([x1.2] : List Int), x1.2 + 1) else rec1 (x1.1, x1.2 + 1) else k1 (x1.1, x1.2)
def m_spec_l04Tree (m_ : gMine) : (List Int) :=
  LOOP (m_spec_l04Tree_b1 m_) (fun (x1 : (List Int) × Int) => x1.1) (((m_.Airways.length : Int) - 0 : Int).toNat + 1) (([] : List Int), 0)

/-! ### spec_l00Has -/
def m_spec_l00Has_b1 (list : List Int) (n_ : Int) (rec1 : Int → Bool) (k1 : Int → Bool) (x1 : Int) : Bool :=
  bif decide (x1 < (list.length : Int)) then bif (at' list x1) == n_ then true else rec1 (x1 + 1) else k1 x1
def m_spec_l00Has (list : List Int) (n_ : Int) : Bool :=
  LOOP (m_spec_l00Has_b1 list n_) (fun (x1 : Int) => false) (((list.length : Int) - 0 : Int).toNat + 1) 0

/-! ### spec_l04Walk -/
def m_spec_l04Walk_b3 (m_ : gMine) (list : List Int) (from_ : Int) (to : Int) (x1 : (List Int) × Int) (rec2 : ((List Int) × Int) → ((List Int) × Bool)) (k2 : ((List Int) × Int) → ((List Int) × Bool)) (x2 : (List Int) × Int) (rec3 : ((List Int) × Int) → ((List Int) × Bool)) (k3 : ((List Int) × Int) → ((List Int) × Bool)) (x3 : (List Int) × Int) : (List Int) × Bool :=
  bif decide (x3.2 < (list.length : Int)) then JN (fun j14 => bif ((at' x3.1 (at' m_.Airways (at' list x3.2)).From) == x2.2) && (decide ((at' x3.1 (at' m_.Airways (at' list x3.2)).To) < 0)) then j14 (put' x3.1 (at' m_.Airways (at' list x3.2)).To (x2.2 + 1)) else j14 x3.1) (fun (v13 : (List Int)) => bif ((at' v13 (at' m_.Airways (at' list x3.2)).To) == x2.2) && (decide ((at' v13 (at' m_.Airways (at' list x3.2)).From) < 0)) then rec3 (put' v13 (at' m_.Airways (at' list x3.2)).From (x2.2 + 1), x3.2 + 1) else rec3 (v13, x3.2 + 1)) else k3 (x3.1, x3.2)
def m_spec_l04Walk_b5 (m_ : gMine) (list : List Int) (from_ : Int) (to : Int) (x1 : (List Int) × Int) (x2 : (List Int) × Int) (rec4 : ((List Int) × Int) → ((List Int) × Bool)) (k4 : ((List Int) × Int) → ((List Int) × Bool)) (x4 : (List Int) × Int) (rec5 : (Int × (List Int) × Int) → ((List Int) × Bool)) (k5 : (Int × (List Int) × Int) → ((List Int) × Bool)) (x5 : Int × (List Int) × Int) : (List Int) × Bool :=
  bif decide (x5.1 < (list.length : Int)) then bif ((at' m_.Airways (at' list x5.1)).From == x5.2.2) && ((at' x2.1 (at' m_.Airways (at' list x5.1)).To) == (IntKind.wrap .i64 ((at' x2.1 x5.2.2) - 1))) then k5 (x5.1, x5.2.1 ++ ([IntKind.wrap .i64 ((at' list x5.1) + 1)] : List Int), (at' m_.Airways (at' list x5.1)).To) else bif ((at' m_.Airways (at' list x5.1)).To == x5.2.2) && ((at' x2.1 (at' m_.Airways (at' list x5.1)).From) == (IntKind.wrap .i64 ((at' x2.1 x5.2.2) - 1))) then k5 (x5.1, x5.2.1 ++ ([IntKind.wrap .i64 ((IntKind.wrap .i64 (0 - (at' list x5.1))) - 1)] : List Int), (at' m_.Airways (at' list x5.1)).From) else rec5 (x5.1 + 1, x5.2.1, x5.2.2) else k5 (x5.1, x5.2.1, x5.2.2)
def m_spec_l04Walk_b4 (m_ : gMine) (list : List Int) (from_ : Int) (to : Int) (x1 : (List Int) × Int) (x2 : (List Int) × Int) (rec4 : ((List Int) × Int) → ((List Int) × Bool)) (k4 : ((List Int) × Int) → ((List Int) × Bool)) (x4 : (List Int) × Int) : (List Int) × Bool :=
  bif x4.2 != to then LOOP (m_spec_l04Walk_b5 m_ list from_ to x1 x2 rec4 k4 x4) (fun (x5 : Int × (List Int) × Int) => rec4 (x5.2.1, x5.2.2)) (((list.length : Int) - 0 : Int).toNat + 1) (0, x4.1, x4.2) else k4 (x4.1, x4.2)
def m_spec_l04Walk_b2 (m_ : gMine) (list : List Int) (from_ : Int) (to : Int) (x1 : (List Int) × Int) (rec2 : ((List Int) × Int) → ((List Int) × Bool)) (k2 : ((List Int) × Int) → ((List Int) × Bool)) (x2 : (List Int) × Int) : (List Int) × Bool :=
  bif decide (x2.2 < m_.Junctions) then LOOP (m_spec_l04Walk_b3 m_ list from_ to x1 rec2 k2 x2) (fun (x3 : (List Int) × Int) => rec2 (x3.1, x2.2 + 1)) (((list.length : Int) - 0 : Int).toNat + 1) (x2.1, 0) else k2 (x2.1, x2.2)
def m_spec_l04Walk_b1 (m_ : gMine) (list : List Int) (from_ : Int) (to : Int) (rec1 : ((List Int) × Int) → ((List Int) × Bool)) (k1 : ((List Int) × Int) → ((List Int) × Bool)) (x1 : (List Int) × Int) : (List Int) × Bool :=
  bif decide (x1.2 < m_.Junctions) then rec1 (x1.1 ++ ([(-1)] : List Int), x1.2 + 1) else k1 (x1.1, x1.2)
def m_spec_l04Walk (m_ : gMine) (list : List Int) (from_ : Int) (to : Int) : (List Int) × Bool :=
  LOOP (m_spec_l04Walk_b1 m_ list from_ to) (fun (x1 : (List Int) × Int) => LOOP (m_spec_l04Walk_b2 m_ list from_ to x1) (fun (x2 : (List Int) × Int) => bif decide ((at' x2.1 from_) < 0) then (([] : List Int), false) else LOOP (m_spec_l04Walk_b4 m_ list from_ to x1 x2) (fun (x4 : (List Int) × Int) => (x4.1, true)) ((at' x2.1 from_).toNat + 1) (([] : List Int), from_)) ((m_.Junctions - 0 : Int).toNat + 1) (put' x1.1 to 0, 0)) ((m_.Junctions - 0 : Int).toNat + 1) (([] : List Int), 0)

/-! ### spec_l04Meshes -/
def m_spec_l04Meshes_b1 (m_ : gMine) (rec1 : (Int × (List (List Int))) → (List (List Int))) (k1 : (Int × (List (List Int))) → (List (List Int))) (x1 : Int × (List (List Int))) : (List (List Int)) :=
  bif decide (x1.1 < (m_.Airways.length : Int)) then bif m_spec_l00Has (m_spec_l04Tree m_) x1.1 then rec1 (x1.1 + 1, x1.2) else rec1 (x1.1 + 1, x1.2 ++ ([([x1.1 + 1] : List Int) ++ (m_spec_l04Walk m_ (m_spec_l04Tree m_) (at' m_.Airways x1.1).To (at' m_.Airways x1.1).From).1] : List (List Int))) else k1 (x1.1, x1.2)
def m_spec_l04Meshes (m_ : gMine) : (List (List Int)) :=
  LOOP (m_spec_l04Meshes_b1 m_) (fun (x1 : Int × (List (List Int))) => x1.2) (((m_.Airways.length : Int) - 0 : Int).toNat + 1) (0, ([] : List (List Int)))

/-! ### spec_l07Add -/
def m_spec_l07Add_b1 (flows : List Int) (walk : List Int) (amount : Int) (rec1 : ((List Int) × Int) → (List Int)) (k1 : ((List Int) × Int) → (List Int)) (x1 : (List Int) × Int) : (List Int) :=
  bif decide (x1.2 < (walk.length : Int)) then bif decide (0 < (at' walk x1.2)) then rec1 (put' x1.1 (IntKind.wrap .i64 ((at' walk x1.2) - 1)) (IntKind.wrap .i64 ((at' x1.1 (IntKind.wrap .i64 ((at' walk x1.2) - 1))) + amount)), x1.2 + 1) else rec1 (put' x1.1 (IntKind.wrap .i64 ((IntKind.wrap .i64 (0 - (at' walk x1.2))) - 1)) (IntKind.wrap .i64 ((at' x1.1 (IntKind.wrap .i64 ((IntKind.wrap .i64 (0 - (at' walk x1.2))) - 1))) - amount)), x1.2 + 1) else k1 (x1.1, x1.2)
def m_spec_l07Add (flows : List Int) (walk : List Int) (amount : Int) : (List Int) :=
  LOOP (m_spec_l07Add_b1 flows walk amount) (fun (x1 : (List Int) × Int) => x1.1) (((walk.length : Int) - 0 : Int).toNat + 1) (flows, 0)

/-! ### spec_R8Flows -/
def m_spec_R8Flows_b1 (code : List Int) (m_ : gMine) (rec1 : ((List Int) × Int × Int × (List Int) × Int) → (List Int)) (k1 : ((List Int) × Int × Int × (List Int) × Int) → (List Int)) (x1 : (List Int) × Int × Int × (List Int) × Int) : (List Int) :=
  bif decide (x1.2.2.2.2 < ((m_spec_l04Meshes m_).length : Int)) then rec1 ((m_spec_l00Src_pick (gl00Src.mk x1.1 x1.2.1 x1.2.2.1) 4000).2.code, (m_spec_l00Src_pick (gl00Src.mk x1.1 x1.2.1 x1.2.2.1) 4000).2.at_, (m_spec_l00Src_pick (gl00Src.mk x1.1 x1.2.1 x1.2.2.1) 4000).2.seed, m_spec_l07Add x1.2.2.2.1 (at' (m_spec_l04Meshes m_) x1.2.2.2.2) (IntKind.wrap .i64 ((m_spec_l00Src_pick (gl00Src.mk x1.1 x1.2.1 x1.2.2.1) 4000).1 - 1500)), x1.2.2.2.2 + 1) else k1 (x1.1, x1.2.1, x1.2.2.1, x1.2.2.2.1, x1.2.2.2.2)
def m_spec_R8Flows (code : List Int) (m_ : gMine) : (List Int) :=
  LOOP (m_spec_R8Flows_b1 code m_) (fun (x1 : (List Int) × Int × Int × (List Int) × Int) => x1.2.2.2.1) ((((m_spec_l04Meshes m_).length : Int) - 0 : Int).toNat + 1) ((m_spec_l00From code).code, (m_spec_l00From code).at_, (m_spec_l00From code).seed, List.replicate ((m_.Airways.length : Int) : Int).toNat (0 : Int), 0)

/-! ### impl_within -/
def m_impl_within (n_ : Int) (low : Int) (high : Int) : Bool :=
  (decide (low ≤ n_)) && (decide (n_ ≤ high))

/-! ### impl_indexValid_impl_Airway -/
def m_impl_indexValid_impl_Airway (list : List gAirway) (k_ : Int) : Bool :=
  m_impl_within k_ 0 ((list.length : Int) - 1)

/-! ### impl_onlyNameBytes -/
def m_impl_onlyNameBytes_b1 (s_ : List UInt8) (rec1 : Int → Bool) (k1 : Int → Bool) (x1 : Int) : Bool :=
  bif decide (x1 < (s_.length : Int)) then bif ((decide ((((s_.getD x1.toNat 0).toNat : Nat) : Int) < 97)) || (decide (122 < (((s_.getD x1.toNat 0).toNat : Nat) : Int)))) && ((decide ((((s_.getD x1.toNat 0).toNat : Nat) : Int) < 48)) || (decide (57 < (((s_.getD x1.toNat 0).toNat : Nat) : Int)))) then false else rec1 (x1 + 1) else k1 x1
def m_impl_onlyNameBytes (s_ : List UInt8) : Bool :=
  LOOP (m_impl_onlyNameBytes_b1 s_) (fun (x1 : Int) => true) (((s_.length : Int) - 0 : Int).toNat + 1) 0

/-! ### impl_IsName -/
def m_impl_IsName (s_ : List UInt8) : Bool :=
  bif (((decide ((s_.length : Int) < 1)) || (decide (10 < (s_.length : Int)))) || (decide ((((s_.getD (0 : Int).toNat 0).toNat : Nat) : Int) < 97))) || (decide (122 < (((s_.getD (0 : Int).toNat 0).toNat : Nat) : Int))) then false else m_impl_onlyNameBytes s_

/-! ### impl_junctionOk -/
def m_impl_junctionOk (n_ : Int) : Bool :=
  m_impl_within n_ 0 15

/-! ### impl_ValidAirway -/
def m_impl_ValidAirway (a : gAirway) : Bool :=
  (((((((m_impl_IsName a.Id) && (m_impl_junctionOk a.From)) && (m_impl_junctionOk a.To)) && (a.From != a.To)) && (m_impl_within a.Length 1 10000)) && (m_impl_within a.Section 50 5000)) && (m_impl_within a.Friction 1 1000)) && (m_impl_within a.Shock 0 1000)

/-! ### impl_Mine_hasJunction -/
def m_impl_Mine_hasJunction (m_ : gMine) (n_ : Int) : Bool :=
  m_impl_within n_ 0 (IntKind.wrap .i64 (m_.Junctions - 1))

/-! ### impl_Mine_hasEnds -/
def m_impl_Mine_hasEnds (m_ : gMine) (a : gAirway) : Bool :=
  (m_impl_Mine_hasJunction m_ a.From) && (m_impl_Mine_hasJunction m_ a.To)

/-! ### impl_ValidMine -/
def m_impl_ValidMine_b1 (m_ : gMine) (rec1 : Int → Bool) (k1 : Int → Bool) (x1 : Int) : Bool :=
  bif decide (x1 < (m_.Airways.length : Int)) then bif ((!(m_impl_ValidAirway (at' m_.Airways x1))) || (!(m_impl_Mine_hasEnds m_ (at' m_.Airways x1)))) || ((decide (0 < x1)) && (strB .leq (at' m_.Airways x1).Id (at' m_.Airways (x1 - 1)).Id)) then false else rec1 (x1 + 1) else k1 x1
def m_impl_ValidMine (m_ : gMine) : Bool :=
  bif (!(m_impl_within m_.Junctions 1 16)) || (decide (24 < (m_.Airways.length : Int))) then false else LOOP (m_impl_ValidMine_b1 m_) (fun (x1 : Int) => true) (((m_.Airways.length : Int) - 0 : Int).toNat + 1) 0

/-! ### impl_rateOk -/
def m_impl_rateOk (n_ : Int) : Bool :=
  m_impl_within n_ 0 10000000

/-! ### impl_Source_valid -/
def m_impl_Source_valid (x_ : gSource) : Bool :=
  ((m_impl_IsName x_.Id) && (m_impl_within x_.Airway 0 23)) && (m_impl_rateOk x_.Rate)

/-! ### impl_ValidSources -/
def m_impl_ValidSources_b1 (m_ : gMine) (list : List gSource) (rec1 : Int → Bool) (k1 : Int → Bool) (x1 : Int) : Bool :=
  bif decide (x1 < (list.length : Int)) then bif ((!(m_impl_Source_valid (at' list x1))) || (!(m_impl_indexValid_impl_Airway m_.Airways (at' list x1).Airway))) || ((decide (0 < x1)) && (strB .leq (at' list x1).Id (at' list (x1 - 1)).Id)) then false else rec1 (x1 + 1) else k1 x1
def m_impl_ValidSources (m_ : gMine) (list : List gSource) : Bool :=
  bif (!(m_impl_ValidMine m_)) || (decide (8 < (list.length : Int))) then false else LOOP (m_impl_ValidSources_b1 m_ list) (fun (x1 : Int) => true) (((list.length : Int) - 0 : Int).toNat + 1) 0

/-! ### slices_IndexFunc_int64 -/
def m_slices_IndexFunc_int64_b1 (s_ : List Int) (f : (Int → Bool)) (rec1 : Int → Int) (k1 : Int → Int) (x1 : Int) : Int :=
  bif decide (x1 < (s_.length : Int)) then bif f (at' s_ x1) then x1 else rec1 (x1 + 1) else k1 x1
def m_slices_IndexFunc_int64 (s_ : List Int) (f : Int → Bool) : Int :=
  LOOP (m_slices_IndexFunc_int64_b1 s_ f) (fun (x1 : Int) => (-1)) (((s_.length : Int) - 0 : Int).toNat + 1) 0

/-! ### slices_ContainsFunc_int64 -/
def m_slices_ContainsFunc_int64 (s_ : List Int) (f : Int → Bool) : Bool :=
  decide (0 ≤ (m_slices_IndexFunc_int64 s_ f))

/-! ### impl_allWithin_1 -/
def m_impl_allWithin_1 (n_ : Int) (p1 : Int) (p2 : Int) : Bool :=
  !(m_impl_within n_ p1 p2)

/-! ### impl_allWithin -/
def m_impl_allWithin (list : List Int) (low : Int) (high : Int) : Bool :=
  !(m_slices_ContainsFunc_int64 list (fun (a0 : Int) => m_impl_allWithin_1 a0 low high))

/-! ### impl_Mine_hasList -/
def m_impl_Mine_hasList (m_ : gMine) (list : List Int) (low : Int) (high : Int) : Bool :=
  ((list.length : Int) == (m_.Airways.length : Int)) && (m_impl_allWithin list low high)

/-! ### impl_Mine_hasFlows -/
def m_impl_Mine_hasFlows (m_ : gMine) (flows : List Int) : Bool :=
  m_impl_Mine_hasList m_ flows (-100000) 100000

/-! ### impl_gasCode -/
def m_impl_gasCode (m_ : gMine) (flows : List Int) (list : List gSource) : Int :=
  bif !(m_impl_ValidSources m_ list) then 1 else bif !(m_impl_Mine_hasFlows m_ flows) then 7 else 0

/-! ### impl_divUp -/
def m_impl_divUp (a : Int) (b : Int) : Int :=
  IntKind.wrap .i64 (Int.tdiv (IntKind.wrap .i64 ((IntKind.wrap .i64 (a + b)) - 1)) b)

/-! ### impl_shareOf -/
def m_impl_shareOf (rate : Int) (flow : Int) : Int :=
  if 1000000 < (m_impl_divUp (IntKind.wrap .i64 (100 * rate)) flow) then 1000000 else (m_impl_divUp (IntKind.wrap .i64 (100 * rate)) flow)

/-! ### impl_gasOf -/
def m_impl_gasOf_b1 (list : List gSource) (airway : Int) (rec1 : (Int × Int) → Int) (k1 : (Int × Int) → Int) (x1 : Int × Int) : Int :=
  bif decide (x1.2 < (list.length : Int)) then bif (at' list x1.2).Airway == airway then rec1 (IntKind.wrap .i64 (x1.1 + (at' list x1.2).Rate), x1.2 + 1) else rec1 (x1.1, x1.2 + 1) else k1 (x1.1, x1.2)
def m_impl_gasOf (list : List gSource) (airway : Int) : Int :=
  LOOP (m_impl_gasOf_b1 list airway) (fun (x1 : Int × Int) => x1.1) (((list.length : Int) - 0 : Int).toNat + 1) (0, 0)

/-! ### impl_Airway_ways -/
def m_impl_Airway_ways (a : gAirway) (flow : Int) : Int × Int :=
  bif decide (flow < 0) then (a.To, a.From) else (a.From, a.To)

/-! ### impl_abs -/
def m_impl_abs (n_ : Int) : Int :=
  if n_ < (IntKind.wrap .i64 (0 - n_)) then (IntKind.wrap .i64 (0 - n_)) else n_

/-! ### impl_Mine_endShares -/
def m_impl_Mine_endShares_b1 (m_ : gMine) (flows : List Int) (list : List gSource) (junctions : List Int) (rec1 : ((List Int) × Int) → (List Int)) (k1 : ((List Int) × Int) → (List Int)) (x1 : (List Int) × Int) : (List Int) :=
  bif decide (x1.2 < (m_.Airways.length : Int)) then bif (at' flows x1.2) != 0 then rec1 (x1.1 ++ ([if 1000000 < (IntKind.wrap .i64 ((at' junctions (m_impl_Airway_ways (at' m_.Airways x1.2) (at' flows x1.2)).1) + (m_impl_shareOf (m_impl_gasOf list x1.2) (m_impl_abs (at' flows x1.2))))) then 1000000 else (IntKind.wrap .i64 ((at' junctions (m_impl_Airway_ways (at' m_.Airways x1.2) (at' flows x1.2)).1) + (m_impl_shareOf (m_impl_gasOf list x1.2) (m_impl_abs (at' flows x1.2)))))] : List Int), x1.2 + 1) else bif decide (0 < (m_impl_gasOf list x1.2)) then rec1 (x1.1 ++ ([1000000] : List Int), x1.2 + 1) else rec1 (x1.1 ++ ([0] : List Int), x1.2 + 1) else k1 (x1.1, x1.2)
def m_impl_Mine_endShares (m_ : gMine) (flows : List Int) (list : List gSource) (junctions : List Int) : (List Int) :=
  LOOP (m_impl_Mine_endShares_b1 m_ flows list junctions) (fun (x1 : (List Int) × Int) => x1.1) (((m_.Airways.length : Int) - 0 : Int).toNat + 1) (([] : List Int), 0)

/-! ### impl_mixShares -/
def m_impl_mixShares_b1 (flows : List Int) (shares : List Int) (rec1 : (Int × Int × Int) → Int) (k1 : (Int × Int × Int) → Int) (x1 : Int × Int × Int) : Int :=
  bif decide (x1.2.2 < (flows.length : Int)) then rec1 (IntKind.wrap .i64 (x1.1 + (IntKind.wrap .i64 ((at' flows x1.2.2) * (at' shares x1.2.2)))), IntKind.wrap .i64 (x1.2.1 + (at' flows x1.2.2)), x1.2.2 + 1) else k1 (x1.1, x1.2.1, x1.2.2)
def m_impl_mixShares (flows : List Int) (shares : List Int) : Int :=
  LOOP (m_impl_mixShares_b1 flows shares) (fun (x1 : Int × Int × Int) => bif x1.2.1 == 0 then 0 else m_impl_divUp x1.1 x1.2.1) (((flows.length : Int) - 0 : Int).toNat + 1) (0, 0, 0)

/-! ### impl_Mine_junctionShares -/
def m_impl_Mine_junctionShares_b3 (m_ : gMine) (flows : List Int) (list : List gSource) (rec1 : ((List Int) × Int) → (List Int)) (k1 : ((List Int) × Int) → (List Int)) (x1 : (List Int) × Int) (rec2 : ((List Int) × Int) → (List Int)) (k2 : ((List Int) × Int) → (List Int)) (x2 : (List Int) × Int) (rec3 : ((List Int) × (List Int) × Int) → (List Int)) (k3 : ((List Int) × (List Int) × Int) → (List Int)) (x3 : (List Int) × (List Int) × Int) : (List Int) :=
  bif decide (x3.2.2 < (m_.Airways.length : Int)) then bif ((at' flows x3.2.2) != 0) && ((m_impl_Airway_ways (at' m_.Airways x3.2.2) (at' flows x3.2.2)).2 == x2.2) then rec3 (x3.1 ++ ([m_impl_abs (at' flows x3.2.2)] : List Int), x3.2.1 ++ ([at' (m_impl_Mine_endShares m_ flows list x1.1) x3.2.2] : List Int), x3.2.2 + 1) else rec3 (x3.1, x3.2.1, x3.2.2 + 1) else k3 (x3.1, x3.2.1, x3.2.2)
def m_impl_Mine_junctionShares_b2 (m_ : gMine) (flows : List Int) (list : List gSource) (rec1 : ((List Int) × Int) → (List Int)) (k1 : ((List Int) × Int) → (List Int)) (x1 : (List Int) × Int) (rec2 : ((List Int) × Int) → (List Int)) (k2 : ((List Int) × Int) → (List Int)) (x2 : (List Int) × Int) : (List Int) :=
  bif decide (x2.2 < ((List.replicate (m_.Junctions : Int).toNat (0 : Int)).length : Int)) then LOOP (m_impl_Mine_junctionShares_b3 m_ flows list rec1 k1 x1 rec2 k2 x2) (fun (x3 : (List Int) × (List Int) × Int) => rec2 (put' x2.1 x2.2 (m_impl_mixShares x3.1 x3.2.1), x2.2 + 1)) (((m_.Airways.length : Int) - 0 : Int).toNat + 1) (([] : List Int), ([] : List Int), 0) else k2 (x2.1, x2.2)
def m_impl_Mine_junctionShares_b1 (m_ : gMine) (flows : List Int) (list : List gSource) (rec1 : ((List Int) × Int) → (List Int)) (k1 : ((List Int) × Int) → (List Int)) (x1 : (List Int) × Int) : (List Int) :=
  bif decide (x1.2 < m_.Junctions) then LOOP (m_impl_Mine_junctionShares_b2 m_ flows list rec1 k1 x1) (fun (x2 : (List Int) × Int) => rec1 (x2.1, x1.2 + 1)) ((((List.replicate (m_.Junctions : Int).toNat (0 : Int)).length : Int) - 0 : Int).toNat + 1) (List.replicate (m_.Junctions : Int).toNat (0 : Int), 0) else k1 (x1.1, x1.2)
def m_impl_Mine_junctionShares (m_ : gMine) (flows : List Int) (list : List gSource) : (List Int) :=
  LOOP (m_impl_Mine_junctionShares_b1 m_ flows list) (fun (x1 : (List Int) × Int) => x1.1) ((m_.Junctions - 0 : Int).toNat + 1) (List.replicate (m_.Junctions : Int).toNat (0 : Int), 0)

/-! ### impl_JunctionShares -/
def m_impl_JunctionShares (m_ : gMine) (flows : List Int) (list : List gSource) : (List Int) × Int :=
  bif (m_impl_gasCode m_ flows list) != 0 then (([] : List Int), m_impl_gasCode m_ flows list) else (m_impl_Mine_junctionShares m_ flows list, 0)

/-! ### impl_AirwayShares -/
def m_impl_AirwayShares (m_ : gMine) (flows : List Int) (list : List gSource) : (List Int) × Int :=
  bif (m_impl_gasCode m_ flows list) != 0 then (([] : List Int), m_impl_gasCode m_ flows list) else (m_impl_Mine_endShares m_ flows list (m_impl_Mine_junctionShares m_ flows list), 0)

/-! ### impl_MixFlows -/
def m_impl_MixFlows (flows : List Int) (shares : List Int) : Int × Int :=
  bif (!(m_impl_allWithin flows 0 100000)) || (!(m_impl_allWithin shares 0 1000000)) then (0, 2) else bif ((flows.length : Int) != (shares.length : Int)) || (decide (64 < (flows.length : Int))) then (0, 7) else (m_impl_mixShares flows shares, 0)

/-! ### spec_R8Sources -/
def m_spec_R8Sources_b1 (code : List Int) (m_ : gMine) (rec1 : ((List Int) × Int × Int × (List gSource) × Int) → (List gSource)) (k1 : ((List Int) × Int × Int × (List gSource) × Int) → (List gSource)) (x1 : (List Int) × Int × Int × (List gSource) × Int) : (List gSource) :=
  bif (decide (x1.2.2.2.2 < (([([103, 49] : List UInt8), ([103, 50] : List UInt8), ([103, 51] : List UInt8)] : List (List UInt8)).length : Int))) && (decide (0 < (m_.Airways.length : Int))) then bif (m_spec_l00Src_one (gl00Src.mk x1.1 x1.2.1 x1.2.2.1) 2).1 then rec1 ((m_spec_l00Src_pick (m_spec_l00Src_pick (m_spec_l00Src_one (gl00Src.mk x1.1 x1.2.1 x1.2.2.1) 2).2 (m_.Airways.length : Int)).2 4000).2.code, (m_spec_l00Src_pick (m_spec_l00Src_pick (m_spec_l00Src_one (gl00Src.mk x1.1 x1.2.1 x1.2.2.1) 2).2 (m_.Airways.length : Int)).2 4000).2.at_, (m_spec_l00Src_pick (m_spec_l00Src_pick (m_spec_l00Src_one (gl00Src.mk x1.1 x1.2.1 x1.2.2.1) 2).2 (m_.Airways.length : Int)).2 4000).2.seed, x1.2.2.2.1 ++ ([gSource.mk (at' ([([103, 49] : List UInt8), ([103, 50] : List UInt8), ([103, 51] : List UInt8)] : List (List UInt8)) x1.2.2.2.2) (m_spec_l00Src_pick (m_spec_l00Src_one (gl00Src.mk x1.1 x1.2.1 x1.2.2.1) 2).2 (m_.Airways.length : Int)).1 (IntKind.wrap .i64 (100 * (m_spec_l00Src_pick (m_spec_l00Src_pick (m_spec_l00Src_one (gl00Src.mk x1.1 x1.2.1 x1.2.2.1) 2).2 (m_.Airways.length : Int)).2 4000).1))] : List gSource), x1.2.2.2.2 + 1) else rec1 ((m_spec_l00Src_one (gl00Src.mk x1.1 x1.2.1 x1.2.2.1) 2).2.code, (m_spec_l00Src_one (gl00Src.mk x1.1 x1.2.1 x1.2.2.1) 2).2.at_, (m_spec_l00Src_one (gl00Src.mk x1.1 x1.2.1 x1.2.2.1) 2).2.seed, x1.2.2.2.1, x1.2.2.2.2 + 1) else k1 (x1.1, x1.2.1, x1.2.2.1, x1.2.2.2.1, x1.2.2.2.2)
def m_spec_R8Sources (code : List Int) (m_ : gMine) : (List gSource) :=
  LOOP (m_spec_R8Sources_b1 code m_) (fun (x1 : (List Int) × Int × Int × (List gSource) × Int) => x1.2.2.2.1) (((([([103, 49] : List UInt8), ([103, 50] : List UInt8), ([103, 51] : List UInt8)] : List (List UInt8)).length : Int) - 0 : Int).toNat + 1) ((m_spec_l00From code).code, (m_spec_l00From code).at_, (m_spec_l00From code).seed, ([] : List gSource), 0)

/-! ### impl_OverLimit -/
def m_impl_OverLimit_b1 (m_ : gMine) (flows : List Int) (list : List gSource) (share : Int) (rec1 : ((List Int) × Int) → ((List Int) × Int)) (k1 : ((List Int) × Int) → ((List Int) × Int)) (x1 : (List Int) × Int) : (List Int) × Int :=
  bif decide (x1.2 < ((m_impl_Mine_endShares m_ flows list (m_impl_Mine_junctionShares m_ flows list)).length : Int)) then bif decide (share < (at' (m_impl_Mine_endShares m_ flows list (m_impl_Mine_junctionShares m_ flows list)) x1.2)) then rec1 (x1.1 ++ ([x1.2] : List Int), x1.2 + 1) else rec1 (x1.1, x1.2 + 1) else k1 (x1.1, x1.2)
def m_impl_OverLimit (m_ : gMine) (flows : List Int) (list : List gSource) (share : Int) : (List Int) × Int :=
  bif (m_impl_gasCode m_ flows list) == 1 then (([] : List Int), m_impl_gasCode m_ flows list) else bif !(m_impl_within share 0 1000000) then (([] : List Int), 2) else bif (m_impl_gasCode m_ flows list) != 0 then (([] : List Int), m_impl_gasCode m_ flows list) else LOOP (m_impl_OverLimit_b1 m_ flows list share) (fun (x1 : (List Int) × Int) => (x1.1, 0)) ((((m_impl_Mine_endShares m_ flows list (m_impl_Mine_junctionShares m_ flows list)).length : Int) - 0 : Int).toNat + 1) (([] : List Int), 0)

/-! ### impl_GasOf -/
def m_impl_GasOf (m_ : gMine) (list : List gSource) (airway : Int) : Int × Int :=
  bif !(m_impl_ValidSources m_ list) then (0, 1) else bif !(m_impl_indexValid_impl_Airway m_.Airways airway) then (0, 2) else (m_impl_gasOf list airway, 0)

/-! ### laws_r8Has -/
def m_laws_r8Has_b1 (list : List Int) (n_ : Int) (rec1 : Int → Bool) (k1 : Int → Bool) (x1 : Int) : Bool :=
  bif decide (x1 < (list.length : Int)) then bif (at' list x1) == n_ then true else rec1 (x1 + 1) else k1 x1
def m_laws_r8Has (list : List Int) (n_ : Int) : Bool :=
  LOOP (m_laws_r8Has_b1 list n_) (fun (x1 : Int) => false) (((list.length : Int) - 0 : Int).toNat + 1) 0

/-! ### slices_Max_int64 -/
def m_slices_Max_int64_b1 (x_ : List Int) (rec1 : (Int × Int) → Int) (k1 : (Int × Int) → Int) (x1 : Int × Int) : Int :=
  bif decide (x1.2 < (x_.length : Int)) then rec1 (if x1.1 < (at' x_ x1.2) then (at' x_ x1.2) else x1.1, x1.2 + 1) else k1 (x1.1, x1.2)
def m_slices_Max_int64 (x_ : List Int) : Int :=
  LOOP (m_slices_Max_int64_b1 x_) (fun (x1 : Int × Int) => x1.1) (((x_.length : Int) - 1 : Int).toNat + 1) (at' x_ 0, 1)

/-! ### slices_Index_int64 -/
def m_slices_Index_int64_b1 (s_ : List Int) (v : Int) (rec1 : Int → Int) (k1 : Int → Int) (x1 : Int) : Int :=
  bif decide (x1 < (s_.length : Int)) then bif v == (at' s_ x1) then x1 else rec1 (x1 + 1) else k1 x1
def m_slices_Index_int64 (s_ : List Int) (v : Int) : Int :=
  LOOP (m_slices_Index_int64_b1 s_ v) (fun (x1 : Int) => (-1)) (((s_.length : Int) - 0 : Int).toNat + 1) 0

/-! ### impl_WorstAirway -/
def m_impl_WorstAirway (m_ : gMine) (flows : List Int) (list : List gSource) : Int × Int × Int :=
  bif (m_impl_gasCode m_ flows list) != 0 then (0, 0, m_impl_gasCode m_ flows list) else bif (m_.Airways.length : Int) == 0 then (0, 0, 3) else (m_slices_Index_int64 (m_impl_Mine_endShares m_ flows list (m_impl_Mine_junctionShares m_ flows list)) (m_slices_Max_int64 (m_impl_Mine_endShares m_ flows list (m_impl_Mine_junctionShares m_ flows list))), m_slices_Max_int64 (m_impl_Mine_endShares m_ flows list (m_impl_Mine_junctionShares m_ flows list)), 0)

/-! ### laws_FnMixing -/
def m_laws_FnMixing_b3 (code : List Int) (more : List Int) (x1 : (List Int) × (List Int) × Int × Int × Int) (x2 : Int) (rec3 : Int → Bool) (k3 : Int → Bool) (x3 : Int) : Bool :=
  bif decide (x3 < ((m_impl_JunctionShares (m_spec_R8Mine more) (m_spec_R8Flows code (m_spec_R8Mine more)) (m_spec_R8Sources code (m_spec_R8Mine more))).1.length : Int)) then bif ((decide ((at' (m_impl_JunctionShares (m_spec_R8Mine more) (m_spec_R8Flows code (m_spec_R8Mine more)) ((([] : List gSource) ++ (m_spec_R8Sources code (m_spec_R8Mine more))) ++ ([gSource.mk ([122, 122] : List UInt8) (m_laws_r8At more 4 ((m_impl_AirwayShares (m_spec_R8Mine more) (m_spec_R8Flows code (m_spec_R8Mine more)) (m_spec_R8Sources code (m_spec_R8Mine more))).1.length : Int)) 5000] : List gSource))).1 x3) < (at' (m_impl_JunctionShares (m_spec_R8Mine more) (m_spec_R8Flows code (m_spec_R8Mine more)) (m_spec_R8Sources code (m_spec_R8Mine more))).1 x3))) || (decide ((at' (m_impl_JunctionShares (m_spec_R8Mine more) (m_spec_R8Flows code (m_spec_R8Mine more)) (m_spec_R8Sources code (m_spec_R8Mine more))).1 x3) < 0))) || (decide (1000000 < (at' (m_impl_JunctionShares (m_spec_R8Mine more) (m_spec_R8Flows code (m_spec_R8Mine more)) ((([] : List gSource) ++ (m_spec_R8Sources code (m_spec_R8Mine more))) ++ ([gSource.mk ([122, 122] : List UInt8) (m_laws_r8At more 4 ((m_impl_AirwayShares (m_spec_R8Mine more) (m_spec_R8Flows code (m_spec_R8Mine more)) (m_spec_R8Sources code (m_spec_R8Mine more))).1.length : Int)) 5000] : List gSource))).1 x3))) then false else rec3 (x3 + 1) else k3 x3
def m_laws_FnMixing_b2 (code : List Int) (more : List Int) (x1 : (List Int) × (List Int) × Int × Int × Int) (rec2 : Int → Bool) (k2 : Int → Bool) (x2 : Int) : Bool :=
  bif decide (x2 < ((m_impl_AirwayShares (m_spec_R8Mine more) (m_spec_R8Flows code (m_spec_R8Mine more)) (m_spec_R8Sources code (m_spec_R8Mine more))).1.length : Int)) then bif (((((decide ((at' (m_impl_AirwayShares (m_spec_R8Mine more) (m_spec_R8Flows code (m_spec_R8Mine more)) (m_spec_R8Sources code (m_spec_R8Mine more))).1 x2) < 0)) || (decide (1000000 < (at' (m_impl_AirwayShares (m_spec_R8Mine more) (m_spec_R8Flows code (m_spec_R8Mine more)) (m_spec_R8Sources code (m_spec_R8Mine more))).1 x2)))) || ((m_laws_r8Has (m_impl_OverLimit (m_spec_R8Mine more) (m_spec_R8Flows code (m_spec_R8Mine more)) (m_spec_R8Sources code (m_spec_R8Mine more)) (m_laws_r8Wide more 0 30000)).1 x2) != (decide ((m_laws_r8Wide more 0 30000) < (at' (m_impl_AirwayShares (m_spec_R8Mine more) (m_spec_R8Flows code (m_spec_R8Mine more)) (m_spec_R8Sources code (m_spec_R8Mine more))).1 x2))))) || ((m_impl_GasOf (m_spec_R8Mine more) (m_spec_R8Sources code (m_spec_R8Mine more)) x2).2 != 0)) || (decide ((m_impl_GasOf (m_spec_R8Mine more) (m_spec_R8Sources code (m_spec_R8Mine more)) x2).1 < 0))) || (((at' (m_spec_R8Flows code (m_spec_R8Mine more)) x2) == 0) && ((decide (0 < (at' (m_impl_AirwayShares (m_spec_R8Mine more) (m_spec_R8Flows code (m_spec_R8Mine more)) (m_spec_R8Sources code (m_spec_R8Mine more))).1 x2))) != (decide (0 < (m_impl_GasOf (m_spec_R8Mine more) (m_spec_R8Sources code (m_spec_R8Mine more)) x2).1)))) then false else rec2 (x2 + 1) else k2 x2
def m_laws_FnMixing_b1 (code : List Int) (more : List Int) (rec1 : ((List Int) × (List Int) × Int × Int × Int) → Bool) (k1 : ((List Int) × (List Int) × Int × Int × Int) → Bool) (x1 : (List Int) × (List Int) × Int × Int × Int) : Bool :=
  bif decide (x1.2.2.2.2 < (IntKind.wrap .i64 (1 + (m_laws_r8At code 0 5)))) then rec1 (x1.1 ++ ([IntKind.wrap .i64 (1 + (m_laws_r8Wide code (IntKind.wrap .i64 (1 + (IntKind.wrap .i64 (4 * x1.2.2.2.2)))) 5000))] : List Int), x1.2.1 ++ ([m_laws_r8Wide code (IntKind.wrap .i64 (3 + (IntKind.wrap .i64 (4 * x1.2.2.2.2)))) 60000] : List Int), if (at' (x1.2.1 ++ ([m_laws_r8Wide code (IntKind.wrap .i64 (3 + (IntKind.wrap .i64 (4 * x1.2.2.2.2)))) 60000] : List Int)) x1.2.2.2.2) < x1.2.2.1 then (at' (x1.2.1 ++ ([m_laws_r8Wide code (IntKind.wrap .i64 (3 + (IntKind.wrap .i64 (4 * x1.2.2.2.2)))) 60000] : List Int)) x1.2.2.2.2) else x1.2.2.1, if x1.2.2.2.1 < (at' (x1.2.1 ++ ([m_laws_r8Wide code (IntKind.wrap .i64 (3 + (IntKind.wrap .i64 (4 * x1.2.2.2.2)))) 60000] : List Int)) x1.2.2.2.2) then (at' (x1.2.1 ++ ([m_laws_r8Wide code (IntKind.wrap .i64 (3 + (IntKind.wrap .i64 (4 * x1.2.2.2.2)))) 60000] : List Int)) x1.2.2.2.2) else x1.2.2.2.1, x1.2.2.2.2 + 1) else k1 (x1.1, x1.2.1, x1.2.2.1, x1.2.2.2.1, x1.2.2.2.2)
def m_laws_FnMixing (code : List Int) (more : List Int) : Bool :=
  bif m_laws_r8Long code more then true else LOOP (m_laws_FnMixing_b1 code more) (fun (x1 : (List Int) × (List Int) × Int × Int × Int) => bif (((m_impl_MixFlows x1.1 x1.2.1).2 != 0) || (decide ((m_impl_MixFlows x1.1 x1.2.1).1 < x1.2.2.1))) || (decide (x1.2.2.2.1 < (m_impl_MixFlows x1.1 x1.2.1).1)) then false else bif (((((m_impl_JunctionShares (m_spec_R8Mine more) (m_spec_R8Flows code (m_spec_R8Mine more)) (m_spec_R8Sources code (m_spec_R8Mine more))).2 != 0) || (((m_impl_JunctionShares (m_spec_R8Mine more) (m_spec_R8Flows code (m_spec_R8Mine more)) (m_spec_R8Sources code (m_spec_R8Mine more))).1.length : Int) != (m_spec_R8Mine more).Junctions)) || ((m_impl_AirwayShares (m_spec_R8Mine more) (m_spec_R8Flows code (m_spec_R8Mine more)) (m_spec_R8Sources code (m_spec_R8Mine more))).2 != 0)) || (((m_impl_AirwayShares (m_spec_R8Mine more) (m_spec_R8Flows code (m_spec_R8Mine more)) (m_spec_R8Sources code (m_spec_R8Mine more))).1.length : Int) != ((m_spec_R8Flows code (m_spec_R8Mine more)).length : Int))) || ((m_impl_OverLimit (m_spec_R8Mine more) (m_spec_R8Flows code (m_spec_R8Mine more)) (m_spec_R8Sources code (m_spec_R8Mine more)) (m_laws_r8Wide more 0 30000)).2 != 0) then false else LOOP (m_laws_FnMixing_b2 code more x1) (fun (x2 : Int) => bif ((m_impl_AirwayShares (m_spec_R8Mine more) (m_spec_R8Flows code (m_spec_R8Mine more)) (m_spec_R8Sources code (m_spec_R8Mine more))).1.length : Int) == 0 then (m_impl_WorstAirway (m_spec_R8Mine more) (m_spec_R8Flows code (m_spec_R8Mine more)) (m_spec_R8Sources code (m_spec_R8Mine more))).2.2 == 3 else bif ((((m_impl_WorstAirway (m_spec_R8Mine more) (m_spec_R8Flows code (m_spec_R8Mine more)) (m_spec_R8Sources code (m_spec_R8Mine more))).2.2 != 0) || (decide ((m_impl_WorstAirway (m_spec_R8Mine more) (m_spec_R8Flows code (m_spec_R8Mine more)) (m_spec_R8Sources code (m_spec_R8Mine more))).1 < 0))) || (decide (((m_impl_AirwayShares (m_spec_R8Mine more) (m_spec_R8Flows code (m_spec_R8Mine more)) (m_spec_R8Sources code (m_spec_R8Mine more))).1.length : Int) ≤ (m_impl_WorstAirway (m_spec_R8Mine more) (m_spec_R8Flows code (m_spec_R8Mine more)) (m_spec_R8Sources code (m_spec_R8Mine more))).1))) || ((at' (m_impl_AirwayShares (m_spec_R8Mine more) (m_spec_R8Flows code (m_spec_R8Mine more)) (m_spec_R8Sources code (m_spec_R8Mine more))).1 (m_impl_WorstAirway (m_spec_R8Mine more) (m_spec_R8Flows code (m_spec_R8Mine more)) (m_spec_R8Sources code (m_spec_R8Mine more))).1) != (m_impl_WorstAirway (m_spec_R8Mine more) (m_spec_R8Flows code (m_spec_R8Mine more)) (m_spec_R8Sources code (m_spec_R8Mine more))).2.1) then false else bif ((m_impl_JunctionShares (m_spec_R8Mine more) (m_spec_R8Flows code (m_spec_R8Mine more)) ((([] : List gSource) ++ (m_spec_R8Sources code (m_spec_R8Mine more))) ++ ([gSource.mk ([122, 122] : List UInt8) (m_laws_r8At more 4 ((m_impl_AirwayShares (m_spec_R8Mine more) (m_spec_R8Flows code (m_spec_R8Mine more)) (m_spec_R8Sources code (m_spec_R8Mine more))).1.length : Int)) 5000] : List gSource))).2 != 0) || (((m_impl_JunctionShares (m_spec_R8Mine more) (m_spec_R8Flows code (m_spec_R8Mine more)) ((([] : List gSource) ++ (m_spec_R8Sources code (m_spec_R8Mine more))) ++ ([gSource.mk ([122, 122] : List UInt8) (m_laws_r8At more 4 ((m_impl_AirwayShares (m_spec_R8Mine more) (m_spec_R8Flows code (m_spec_R8Mine more)) (m_spec_R8Sources code (m_spec_R8Mine more))).1.length : Int)) 5000] : List gSource))).1.length : Int) != ((m_impl_JunctionShares (m_spec_R8Mine more) (m_spec_R8Flows code (m_spec_R8Mine more)) (m_spec_R8Sources code (m_spec_R8Mine more))).1.length : Int)) then false else LOOP (m_laws_FnMixing_b3 code more x1 x2) (fun (x3 : Int) => true) ((((m_impl_JunctionShares (m_spec_R8Mine more) (m_spec_R8Flows code (m_spec_R8Mine more)) (m_spec_R8Sources code (m_spec_R8Mine more))).1.length : Int) - 0 : Int).toNat + 1) 0) ((((m_impl_AirwayShares (m_spec_R8Mine more) (m_spec_R8Flows code (m_spec_R8Mine more)) (m_spec_R8Sources code (m_spec_R8Mine more))).1.length : Int) - 0 : Int).toNat + 1) 0) (((IntKind.wrap .i64 (1 + (m_laws_r8At code 0 5))) - 0 : Int).toNat + 1) (([] : List Int), ([] : List Int), 1000000, 0, 0)

end Go.Proofs.Ytfiedbefaoeoaaa
