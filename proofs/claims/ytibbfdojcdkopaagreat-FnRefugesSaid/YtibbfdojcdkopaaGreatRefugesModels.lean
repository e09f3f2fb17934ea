/-
  PLAIN MODELS of the Go functions that the law reaches, printed by a program of this claim. Conditions: none; nothing is claimed here.
-/
import Derived.Test.YtibbfdojcdkopaaGreatEngN
set_option linter.unusedVariables false
set_option linter.unusedSimpArgs false
set_option linter.unusedSectionVars false
set_option linter.unnecessarySimpa false
namespace Go.Proofs.YtibbfdojcdkopaaGreat
open Go Go.RowKit Go.Proofs Go.Proofs.YtibbfdojcdkopaaGreat.E
abbrev K_0 : List (List UInt8) := ([([97] : List UInt8), ([98] : List UInt8), ([109, 97, 105, 110] : List UInt8), ([100, 114, 105, 102, 116, 49] : List UInt8)] : List (List UInt8))
abbrev K_1 : List (List UInt8) := ([([99, 49] : List UInt8), ([101, 97, 115, 116] : List UInt8), ([110, 105, 103, 104, 116] : List UInt8)] : List (List UInt8))
abbrev K_2 : List (List UInt8) := ([([97] : List UInt8), ([98] : List UInt8), ([99] : List UInt8), ([100] : List UInt8), ([101] : List UInt8), ([102] : List UInt8), ([103] : List UInt8), ([104] : List UInt8)] : List (List UInt8))
abbrev K_3 : List (List UInt8) := ([([114, 49] : List UInt8), ([114, 50] : List UInt8), ([114, 51] : List UInt8)] : List (List UInt8))
abbrev K_4 : List (List UInt8) := ([([99, 49] : List UInt8), ([99, 50] : List UInt8), ([99, 51] : List UInt8), ([99, 52] : List UInt8), ([99, 53] : List UInt8), ([99, 54] : List UInt8), ([99, 55] : List UInt8), ([99, 56] : List UInt8), ([99, 57] : List UInt8)] : List (List UInt8))
abbrev K_5 : List (List UInt8) := ([([] : List UInt8), ([82] : List UInt8)] : List (List UInt8))
abbrev K_6 : List Int := ([] : List Int)
abbrev K_7 : List Int := ([(-1)] : List Int)
abbrev K_8 : List UInt8 := ([110] : List UInt8)
abbrev K_9 : List Int := ([0, 200, 201] : List Int)
structure Aj where
  code : List Int
  at_ : Int
  seed : Int
instance : Inhabited Aj := ⟨Aj.mk default default default⟩
abbrev Aj.v (x : Aj) : V := .st [.sl 1 (x.code.map (V.int .u8)), .int .i64 x.at_, .int .u64 x.seed]
structure Au where
  Id : List UInt8
  From : Int
  To : Int
  Length : Int
  Section : Int
  Friction : Int
  Shock : Int
instance : Inhabited Au := ⟨Au.mk default default default default default default default⟩
abbrev Au.v (x : Au) : V := .st [.str x.Id, .int .i64 x.From, .int .i64 x.To, .int .i64 x.Length, .int .i64 x.Section, .int .i64 x.Friction, .int .i64 x.Shock]
structure AH where
  Junctions : Int
  Airways : List Au
instance : Inhabited AH := ⟨AH.mk default default⟩
abbrev AH.v (x : AH) : V := .st [.int .i64 x.Junctions, .sl 7 (x.Airways.map Au.v)]
structure C8 where
  Airway : Int
  At : Int
  Start : Int
instance : Inhabited C8 := ⟨C8.mk default default default⟩
abbrev C8.v (x : C8) : V := .st [.int .i64 x.Airway, .int .i64 x.At, .int .i64 x.Start]
structure Bi where
  Id : List UInt8
  Junction : Int
  Speed : Int
instance : Inhabited Bi := ⟨Bi.mk default default default⟩
abbrev Bi.v (x : Bi) : V := .st [.str x.Id, .int .i64 x.Junction, .int .i64 x.Speed]
structure AI where
  Id : List UInt8
  Junction : Int
  Places : Int
  Air : Int
instance : Inhabited AI := ⟨AI.mk default default default default⟩
abbrev AI.v (x : AI) : V := .st [.str x.Id, .int .i64 x.Junction, .int .i64 x.Places, .int .i64 x.Air]
structure Cb where
  mine : AH
  arrivals : List Int
  blocked : Int
instance : Inhabited Cb := ⟨Cb.mk default default default⟩
abbrev Cb.v (x : Cb) : V := .st [.int .i64 x.mine.Junctions, .sl 7 (x.mine.Airways.map Au.v), .sl 1 (x.arrivals.map (V.int .i64)), .int .i64 x.blocked]
structure Ar where
  sizes : List Int
  reached : List (List Int)
  free : List Int
  budget : Int
  places : List Int
  best : List Int
  most : Int
instance : Inhabited Ar := ⟨Ar.mk default default default default default default default⟩
abbrev Ar.v (x : Ar) : V := .st [.sl 1 (x.sizes.map (V.int .i64)), .sl 1 (x.reached.map (slv 1 (V.int .i64))), .sl 1 (x.free.map (V.int .i64)), .int .i64 x.budget, .sl 1 (x.places.map (V.int .i64)), .sl 1 (x.best.map (V.int .i64)), .int .i64 x.most]

/-! ### laws_b10Long -/
def C1 (code : List Int) : Bool :=
  decide (1048576 < (code.length : Int))

/-! ### spec_l00From -/
def Ap (code : List Int) : Aj :=
  Aj.mk code 0 0

/-! ### spec_l00Src_next -/
def Be (s_ : Aj) : Int × Aj :=
  JN (fun j3 => bif decide (s_.at_ < (s_.code.length : Int)) then j3 (IntKind.wrap .i64 (at' s_.code s_.at_)) else j3 0) (fun (v2 : Int) => bif decide ((IntKind.wrap .i64 (s_.at_ + 1)) ≤ (s_.code.length : Int)) then (v2, Aj.mk s_.code (IntKind.wrap .i64 (s_.at_ + 1)) (IntKind.wrap .u64 ((IntKind.wrap .u64 ((IntKind.wrap .u64 (s_.seed * 6364136223846793005)) + (IntKind.wrap .u64 v2))) + 1442695040888963407))) else (IntKind.wrap .i64 (IntKind.wrap .u64 ((((BitVec.ofInt (IntKind.bits .u64) (Int.fdiv (IntKind.wrap .u64 ((IntKind.wrap .u64 ((IntKind.wrap .u64 (s_.seed * 6364136223846793005)) + (IntKind.wrap .u64 v2))) + 1442695040888963407)) (2 ^ min (40 : Int).toNat 64))) &&& (BitVec.ofInt (IntKind.bits .u64) 255)).toNat : Nat) : Int)), Aj.mk s_.code (IntKind.wrap .i64 (s_.at_ + 1)) (IntKind.wrap .u64 ((IntKind.wrap .u64 ((IntKind.wrap .u64 (s_.seed * 6364136223846793005)) + (IntKind.wrap .u64 v2))) + 1442695040888963407))))

/-! ### spec_l00Src_pick -/
def Aa (s_ : Aj) (n_ : Int) : Int × Aj :=
  bif decide (n_ ≤ 1) then (0, s_) else bif decide (200 < n_) then (Int.tmod (IntKind.wrap .i64 ((IntKind.wrap .i64 ((Be s_).1 * 256)) + (Be (Be s_).2).1)) n_, (Be (Be s_).2).2) else (Int.tmod (Be s_).1 n_, (Be s_).2)

/-! ### spec_l00Src_among -/
def Ak (s_ : Aj) (list : List Int) : Int × Aj × (List Int) :=
  (at' list (Aa s_ (list.length : Int)).1, (Aa s_ (list.length : Int)).2, list)

/-! ### spec_l00Src_one -/
def Ai (s_ : Aj) (n_ : Int) : Bool × Aj :=
  ((Aa s_ n_).1 == 0, (Aa s_ n_).2)

/-! ### spec_l03DrawOk -/
def Ah (s_ : Aj) (id : List UInt8) (from_ : Int) (to : Int) : Au × Aj :=
  (Au.mk id from_ to (IntKind.wrap .i64 (20 + (Aa s_ 900).1)) (IntKind.wrap .i64 (300 + (Aa (Aa s_ 900).2 1500).1)) (IntKind.wrap .i64 (20 + (Aa (Aa (Aa s_ 900).2 1500).2 200).1)) (Aa (Aa (Aa (Aa s_ 900).2 1500).2 200).2 60).1, (Aa (Aa (Aa (Aa s_ 900).2 1500).2 200).2 60).2)

/-! ### spec_l04DrawOk -/
def Dt (s_ : Aj) (rec1 : ((List Int) × Int × Int × Int × (List Au)) → (AH × Aj)) (k1 : ((List Int) × Int × Int × Int × (List Au)) → (AH × Aj)) (x1 : (List Int) × Int × Int × Int × (List Au)) : AH × Aj :=
  bif decide (x1.2.2.2.1 < (K_2.length : Int)) then bif (Ai (Aj.mk x1.1 x1.2.1 x1.2.2.1) 5).1 then rec1 ((Ai (Aj.mk x1.1 x1.2.1 x1.2.2.1) 5).2.code, (Ai (Aj.mk x1.1 x1.2.1 x1.2.2.1) 5).2.at_, (Ai (Aj.mk x1.1 x1.2.1 x1.2.2.1) 5).2.seed, x1.2.2.2.1 + 1, x1.2.2.2.2) else JN (fun j6 => bif (Ai (Ai (Aj.mk x1.1 x1.2.1 x1.2.2.1) 5).2 2).1 then j6 ((Aa (Ai (Ai (Aj.mk x1.1 x1.2.1 x1.2.2.1) 5).2 2).2 (IntKind.wrap .i64 (2 + (Aa s_ 5).1))).2.code, (Aa (Ai (Ai (Aj.mk x1.1 x1.2.1 x1.2.2.1) 5).2 2).2 (IntKind.wrap .i64 (2 + (Aa s_ 5).1))).2.at_, (Aa (Ai (Ai (Aj.mk x1.1 x1.2.1 x1.2.2.1) 5).2 2).2 (IntKind.wrap .i64 (2 + (Aa s_ 5).1))).2.seed, (Aa (Ai (Ai (Aj.mk x1.1 x1.2.1 x1.2.2.1) 5).2 2).2 (IntKind.wrap .i64 (2 + (Aa s_ 5).1))).1) else j6 ((Ai (Ai (Aj.mk x1.1 x1.2.1 x1.2.2.1) 5).2 2).2.code, (Ai (Ai (Aj.mk x1.1 x1.2.1 x1.2.2.1) 5).2 2).2.at_, (Ai (Ai (Aj.mk x1.1 x1.2.1 x1.2.2.1) 5).2 2).2.seed, Int.tmod x1.2.2.2.1 (IntKind.wrap .i64 (2 + (Aa s_ 5).1)))) (fun (v5 : (List Int) × Int × Int × Int) => JN (fun j10 => bif (decide (x1.2.2.2.1 < (IntKind.wrap .i64 ((IntKind.wrap .i64 (2 + (Aa s_ 5).1)) - 1)))) && (!(Ai (Aa (Aj.mk v5.1 v5.2.1 v5.2.2.1) (IntKind.wrap .i64 ((IntKind.wrap .i64 (2 + (Aa s_ 5).1)) - 1))).2 4).1) then j10 (x1.2.2.2.1, x1.2.2.2.1 + 1) else j10 (v5.2.2.2, Int.tmod (IntKind.wrap .i64 ((IntKind.wrap .i64 (v5.2.2.2 + 1)) + (Aa (Aj.mk v5.1 v5.2.1 v5.2.2.1) (IntKind.wrap .i64 ((IntKind.wrap .i64 (2 + (Aa s_ 5).1)) - 1))).1)) (IntKind.wrap .i64 (2 + (Aa s_ 5).1)))) (fun (v9 : Int × Int) => rec1 ((Ah (bif (decide (x1.2.2.2.1 < (IntKind.wrap .i64 ((IntKind.wrap .i64 (2 + (Aa s_ 5).1)) - 1)))) then (Ai (Aa (Aj.mk v5.1 v5.2.1 v5.2.2.1) (IntKind.wrap .i64 ((IntKind.wrap .i64 (2 + (Aa s_ 5).1)) - 1))).2 4).2 else (Aa (Aj.mk v5.1 v5.2.1 v5.2.2.1) (IntKind.wrap .i64 ((IntKind.wrap .i64 (2 + (Aa s_ 5).1)) - 1))).2) (at' K_2 x1.2.2.2.1) v9.1 v9.2).2.code, (Ah (bif (decide (x1.2.2.2.1 < (IntKind.wrap .i64 ((IntKind.wrap .i64 (2 + (Aa s_ 5).1)) - 1)))) then (Ai (Aa (Aj.mk v5.1 v5.2.1 v5.2.2.1) (IntKind.wrap .i64 ((IntKind.wrap .i64 (2 + (Aa s_ 5).1)) - 1))).2 4).2 else (Aa (Aj.mk v5.1 v5.2.1 v5.2.2.1) (IntKind.wrap .i64 ((IntKind.wrap .i64 (2 + (Aa s_ 5).1)) - 1))).2) (at' K_2 x1.2.2.2.1) v9.1 v9.2).2.at_, (Ah (bif (decide (x1.2.2.2.1 < (IntKind.wrap .i64 ((IntKind.wrap .i64 (2 + (Aa s_ 5).1)) - 1)))) then (Ai (Aa (Aj.mk v5.1 v5.2.1 v5.2.2.1) (IntKind.wrap .i64 ((IntKind.wrap .i64 (2 + (Aa s_ 5).1)) - 1))).2 4).2 else (Aa (Aj.mk v5.1 v5.2.1 v5.2.2.1) (IntKind.wrap .i64 ((IntKind.wrap .i64 (2 + (Aa s_ 5).1)) - 1))).2) (at' K_2 x1.2.2.2.1) v9.1 v9.2).2.seed, x1.2.2.2.1 + 1, x1.2.2.2.2 ++ ([(Ah (bif (decide (x1.2.2.2.1 < (IntKind.wrap .i64 ((IntKind.wrap .i64 (2 + (Aa s_ 5).1)) - 1)))) then (Ai (Aa (Aj.mk v5.1 v5.2.1 v5.2.2.1) (IntKind.wrap .i64 ((IntKind.wrap .i64 (2 + (Aa s_ 5).1)) - 1))).2 4).2 else (Aa (Aj.mk v5.1 v5.2.1 v5.2.2.1) (IntKind.wrap .i64 ((IntKind.wrap .i64 (2 + (Aa s_ 5).1)) - 1))).2) (at' K_2 x1.2.2.2.1) v9.1 v9.2).1] : List Au)))) else k1 (x1.1, x1.2.1, x1.2.2.1, x1.2.2.2.1, x1.2.2.2.2)
def AB (s_ : Aj) : AH × Aj :=
  LOOP (Dt s_) (fun (x1 : (List Int) × Int × Int × Int × (List Au)) => (AH.mk (IntKind.wrap .i64 (2 + (Aa s_ 5).1)) x1.2.2.2.2, Aj.mk x1.1 x1.2.1 x1.2.2.1)) (((K_2.length : Int) - 0 : Int).toNat + 1) ((Aa s_ 5).2.code, (Aa s_ 5).2.at_, (Aa s_ 5).2.seed, 0, ([] : List Au))

/-! ### spec_l00Src_text -/
def Ab (s_ : Aj) (list : List (List UInt8)) : (List UInt8) × Aj × (List (List UInt8)) :=
  (at' list (Aa s_ (list.length : Int)).1, (Aa s_ (list.length : Int)).2, list)

/-! ### spec_l03Bent -/
def Bq (s_ : Aj) : Au × Aj :=
  bif (Aa (Ah (Aa (Aa (Ab s_ K_0).2.1 8).2 7).2 (Ab s_ K_0).1 (Aa (Ab s_ K_0).2.1 8).1 (Int.tmod (IntKind.wrap .i64 ((IntKind.wrap .i64 ((Aa (Ab s_ K_0).2.1 8).1 + 1)) + (Aa (Aa (Ab s_ K_0).2.1 8).2 7).1)) 8)).2 20).1 == 0 then (Au.mk (Ah (Aa (Aa (Ab s_ K_0).2.1 8).2 7).2 (Ab s_ K_0).1 (Aa (Ab s_ K_0).2.1 8).1 (Int.tmod (IntKind.wrap .i64 ((IntKind.wrap .i64 ((Aa (Ab s_ K_0).2.1 8).1 + 1)) + (Aa (Aa (Ab s_ K_0).2.1 8).2 7).1)) 8)).1.Id (Ah (Aa (Aa (Ab s_ K_0).2.1 8).2 7).2 (Ab s_ K_0).1 (Aa (Ab s_ K_0).2.1 8).1 (Int.tmod (IntKind.wrap .i64 ((IntKind.wrap .i64 ((Aa (Ab s_ K_0).2.1 8).1 + 1)) + (Aa (Aa (Ab s_ K_0).2.1 8).2 7).1)) 8)).1.From (Ak (Aa (Ah (Aa (Aa (Ab s_ K_0).2.1 8).2 7).2 (Ab s_ K_0).1 (Aa (Ab s_ K_0).2.1 8).1 (Int.tmod (IntKind.wrap .i64 ((IntKind.wrap .i64 ((Aa (Ab s_ K_0).2.1 8).1 + 1)) + (Aa (Aa (Ab s_ K_0).2.1 8).2 7).1)) 8)).2 20).2 ([(Ah (Aa (Aa (Ab s_ K_0).2.1 8).2 7).2 (Ab s_ K_0).1 (Aa (Ab s_ K_0).2.1 8).1 (Int.tmod (IntKind.wrap .i64 ((IntKind.wrap .i64 ((Aa (Ab s_ K_0).2.1 8).1 + 1)) + (Aa (Aa (Ab s_ K_0).2.1 8).2 7).1)) 8)).1.From, 15, 16, (-1)] : List Int)).1 (Ah (Aa (Aa (Ab s_ K_0).2.1 8).2 7).2 (Ab s_ K_0).1 (Aa (Ab s_ K_0).2.1 8).1 (Int.tmod (IntKind.wrap .i64 ((IntKind.wrap .i64 ((Aa (Ab s_ K_0).2.1 8).1 + 1)) + (Aa (Aa (Ab s_ K_0).2.1 8).2 7).1)) 8)).1.Length (Ah (Aa (Aa (Ab s_ K_0).2.1 8).2 7).2 (Ab s_ K_0).1 (Aa (Ab s_ K_0).2.1 8).1 (Int.tmod (IntKind.wrap .i64 ((IntKind.wrap .i64 ((Aa (Ab s_ K_0).2.1 8).1 + 1)) + (Aa (Aa (Ab s_ K_0).2.1 8).2 7).1)) 8)).1.Section (Ah (Aa (Aa (Ab s_ K_0).2.1 8).2 7).2 (Ab s_ K_0).1 (Aa (Ab s_ K_0).2.1 8).1 (Int.tmod (IntKind.wrap .i64 ((IntKind.wrap .i64 ((Aa (Ab s_ K_0).2.1 8).1 + 1)) + (Aa (Aa (Ab s_ K_0).2.1 8).2 7).1)) 8)).1.Friction (Ah (Aa (Aa (Ab s_ K_0).2.1 8).2 7).2 (Ab s_ K_0).1 (Aa (Ab s_ K_0).2.1 8).1 (Int.tmod (IntKind.wrap .i64 ((IntKind.wrap .i64 ((Aa (Ab s_ K_0).2.1 8).1 + 1)) + (Aa (Aa (Ab s_ K_0).2.1 8).2 7).1)) 8)).1.Shock, (Ak (Aa (Ah (Aa (Aa (Ab s_ K_0).2.1 8).2 7).2 (Ab s_ K_0).1 (Aa (Ab s_ K_0).2.1 8).1 (Int.tmod (IntKind.wrap .i64 ((IntKind.wrap .i64 ((Aa (Ab s_ K_0).2.1 8).1 + 1)) + (Aa (Aa (Ab s_ K_0).2.1 8).2 7).1)) 8)).2 20).2 ([(Ah (Aa (Aa (Ab s_ K_0).2.1 8).2 7).2 (Ab s_ K_0).1 (Aa (Ab s_ K_0).2.1 8).1 (Int.tmod (IntKind.wrap .i64 ((IntKind.wrap .i64 ((Aa (Ab s_ K_0).2.1 8).1 + 1)) + (Aa (Aa (Ab s_ K_0).2.1 8).2 7).1)) 8)).1.From, 15, 16, (-1)] : List Int)).2.1) else bif (Aa (Ah (Aa (Aa (Ab s_ K_0).2.1 8).2 7).2 (Ab s_ K_0).1 (Aa (Ab s_ K_0).2.1 8).1 (Int.tmod (IntKind.wrap .i64 ((IntKind.wrap .i64 ((Aa (Ab s_ K_0).2.1 8).1 + 1)) + (Aa (Aa (Ab s_ K_0).2.1 8).2 7).1)) 8)).2 20).1 == 1 then (Au.mk (Ah (Aa (Aa (Ab s_ K_0).2.1 8).2 7).2 (Ab s_ K_0).1 (Aa (Ab s_ K_0).2.1 8).1 (Int.tmod (IntKind.wrap .i64 ((IntKind.wrap .i64 ((Aa (Ab s_ K_0).2.1 8).1 + 1)) + (Aa (Aa (Ab s_ K_0).2.1 8).2 7).1)) 8)).1.Id (Ah (Aa (Aa (Ab s_ K_0).2.1 8).2 7).2 (Ab s_ K_0).1 (Aa (Ab s_ K_0).2.1 8).1 (Int.tmod (IntKind.wrap .i64 ((IntKind.wrap .i64 ((Aa (Ab s_ K_0).2.1 8).1 + 1)) + (Aa (Aa (Ab s_ K_0).2.1 8).2 7).1)) 8)).1.From (Ah (Aa (Aa (Ab s_ K_0).2.1 8).2 7).2 (Ab s_ K_0).1 (Aa (Ab s_ K_0).2.1 8).1 (Int.tmod (IntKind.wrap .i64 ((IntKind.wrap .i64 ((Aa (Ab s_ K_0).2.1 8).1 + 1)) + (Aa (Aa (Ab s_ K_0).2.1 8).2 7).1)) 8)).1.To (Ak (Aa (Ah (Aa (Aa (Ab s_ K_0).2.1 8).2 7).2 (Ab s_ K_0).1 (Aa (Ab s_ K_0).2.1 8).1 (Int.tmod (IntKind.wrap .i64 ((IntKind.wrap .i64 ((Aa (Ab s_ K_0).2.1 8).1 + 1)) + (Aa (Aa (Ab s_ K_0).2.1 8).2 7).1)) 8)).2 20).2 ([0, 1, 10000, 10001] : List Int)).1 (Ah (Aa (Aa (Ab s_ K_0).2.1 8).2 7).2 (Ab s_ K_0).1 (Aa (Ab s_ K_0).2.1 8).1 (Int.tmod (IntKind.wrap .i64 ((IntKind.wrap .i64 ((Aa (Ab s_ K_0).2.1 8).1 + 1)) + (Aa (Aa (Ab s_ K_0).2.1 8).2 7).1)) 8)).1.Section (Ah (Aa (Aa (Ab s_ K_0).2.1 8).2 7).2 (Ab s_ K_0).1 (Aa (Ab s_ K_0).2.1 8).1 (Int.tmod (IntKind.wrap .i64 ((IntKind.wrap .i64 ((Aa (Ab s_ K_0).2.1 8).1 + 1)) + (Aa (Aa (Ab s_ K_0).2.1 8).2 7).1)) 8)).1.Friction (Ah (Aa (Aa (Ab s_ K_0).2.1 8).2 7).2 (Ab s_ K_0).1 (Aa (Ab s_ K_0).2.1 8).1 (Int.tmod (IntKind.wrap .i64 ((IntKind.wrap .i64 ((Aa (Ab s_ K_0).2.1 8).1 + 1)) + (Aa (Aa (Ab s_ K_0).2.1 8).2 7).1)) 8)).1.Shock, (Ak (Aa (Ah (Aa (Aa (Ab s_ K_0).2.1 8).2 7).2 (Ab s_ K_0).1 (Aa (Ab s_ K_0).2.1 8).1 (Int.tmod (IntKind.wrap .i64 ((IntKind.wrap .i64 ((Aa (Ab s_ K_0).2.1 8).1 + 1)) + (Aa (Aa (Ab s_ K_0).2.1 8).2 7).1)) 8)).2 20).2 ([0, 1, 10000, 10001] : List Int)).2.1) else bif (Aa (Ah (Aa (Aa (Ab s_ K_0).2.1 8).2 7).2 (Ab s_ K_0).1 (Aa (Ab s_ K_0).2.1 8).1 (Int.tmod (IntKind.wrap .i64 ((IntKind.wrap .i64 ((Aa (Ab s_ K_0).2.1 8).1 + 1)) + (Aa (Aa (Ab s_ K_0).2.1 8).2 7).1)) 8)).2 20).1 == 2 then (Au.mk (Ah (Aa (Aa (Ab s_ K_0).2.1 8).2 7).2 (Ab s_ K_0).1 (Aa (Ab s_ K_0).2.1 8).1 (Int.tmod (IntKind.wrap .i64 ((IntKind.wrap .i64 ((Aa (Ab s_ K_0).2.1 8).1 + 1)) + (Aa (Aa (Ab s_ K_0).2.1 8).2 7).1)) 8)).1.Id (Ah (Aa (Aa (Ab s_ K_0).2.1 8).2 7).2 (Ab s_ K_0).1 (Aa (Ab s_ K_0).2.1 8).1 (Int.tmod (IntKind.wrap .i64 ((IntKind.wrap .i64 ((Aa (Ab s_ K_0).2.1 8).1 + 1)) + (Aa (Aa (Ab s_ K_0).2.1 8).2 7).1)) 8)).1.From (Ah (Aa (Aa (Ab s_ K_0).2.1 8).2 7).2 (Ab s_ K_0).1 (Aa (Ab s_ K_0).2.1 8).1 (Int.tmod (IntKind.wrap .i64 ((IntKind.wrap .i64 ((Aa (Ab s_ K_0).2.1 8).1 + 1)) + (Aa (Aa (Ab s_ K_0).2.1 8).2 7).1)) 8)).1.To (Ah (Aa (Aa (Ab s_ K_0).2.1 8).2 7).2 (Ab s_ K_0).1 (Aa (Ab s_ K_0).2.1 8).1 (Int.tmod (IntKind.wrap .i64 ((IntKind.wrap .i64 ((Aa (Ab s_ K_0).2.1 8).1 + 1)) + (Aa (Aa (Ab s_ K_0).2.1 8).2 7).1)) 8)).1.Length (Ak (Aa (Ah (Aa (Aa (Ab s_ K_0).2.1 8).2 7).2 (Ab s_ K_0).1 (Aa (Ab s_ K_0).2.1 8).1 (Int.tmod (IntKind.wrap .i64 ((IntKind.wrap .i64 ((Aa (Ab s_ K_0).2.1 8).1 + 1)) + (Aa (Aa (Ab s_ K_0).2.1 8).2 7).1)) 8)).2 20).2 ([49, 50, 5000, 5001] : List Int)).1 (Ah (Aa (Aa (Ab s_ K_0).2.1 8).2 7).2 (Ab s_ K_0).1 (Aa (Ab s_ K_0).2.1 8).1 (Int.tmod (IntKind.wrap .i64 ((IntKind.wrap .i64 ((Aa (Ab s_ K_0).2.1 8).1 + 1)) + (Aa (Aa (Ab s_ K_0).2.1 8).2 7).1)) 8)).1.Friction (Ah (Aa (Aa (Ab s_ K_0).2.1 8).2 7).2 (Ab s_ K_0).1 (Aa (Ab s_ K_0).2.1 8).1 (Int.tmod (IntKind.wrap .i64 ((IntKind.wrap .i64 ((Aa (Ab s_ K_0).2.1 8).1 + 1)) + (Aa (Aa (Ab s_ K_0).2.1 8).2 7).1)) 8)).1.Shock, (Ak (Aa (Ah (Aa (Aa (Ab s_ K_0).2.1 8).2 7).2 (Ab s_ K_0).1 (Aa (Ab s_ K_0).2.1 8).1 (Int.tmod (IntKind.wrap .i64 ((IntKind.wrap .i64 ((Aa (Ab s_ K_0).2.1 8).1 + 1)) + (Aa (Aa (Ab s_ K_0).2.1 8).2 7).1)) 8)).2 20).2 ([49, 50, 5000, 5001] : List Int)).2.1) else bif (Aa (Ah (Aa (Aa (Ab s_ K_0).2.1 8).2 7).2 (Ab s_ K_0).1 (Aa (Ab s_ K_0).2.1 8).1 (Int.tmod (IntKind.wrap .i64 ((IntKind.wrap .i64 ((Aa (Ab s_ K_0).2.1 8).1 + 1)) + (Aa (Aa (Ab s_ K_0).2.1 8).2 7).1)) 8)).2 20).1 == 3 then (Au.mk (Ah (Aa (Aa (Ab s_ K_0).2.1 8).2 7).2 (Ab s_ K_0).1 (Aa (Ab s_ K_0).2.1 8).1 (Int.tmod (IntKind.wrap .i64 ((IntKind.wrap .i64 ((Aa (Ab s_ K_0).2.1 8).1 + 1)) + (Aa (Aa (Ab s_ K_0).2.1 8).2 7).1)) 8)).1.Id (Ah (Aa (Aa (Ab s_ K_0).2.1 8).2 7).2 (Ab s_ K_0).1 (Aa (Ab s_ K_0).2.1 8).1 (Int.tmod (IntKind.wrap .i64 ((IntKind.wrap .i64 ((Aa (Ab s_ K_0).2.1 8).1 + 1)) + (Aa (Aa (Ab s_ K_0).2.1 8).2 7).1)) 8)).1.From (Ah (Aa (Aa (Ab s_ K_0).2.1 8).2 7).2 (Ab s_ K_0).1 (Aa (Ab s_ K_0).2.1 8).1 (Int.tmod (IntKind.wrap .i64 ((IntKind.wrap .i64 ((Aa (Ab s_ K_0).2.1 8).1 + 1)) + (Aa (Aa (Ab s_ K_0).2.1 8).2 7).1)) 8)).1.To (Ah (Aa (Aa (Ab s_ K_0).2.1 8).2 7).2 (Ab s_ K_0).1 (Aa (Ab s_ K_0).2.1 8).1 (Int.tmod (IntKind.wrap .i64 ((IntKind.wrap .i64 ((Aa (Ab s_ K_0).2.1 8).1 + 1)) + (Aa (Aa (Ab s_ K_0).2.1 8).2 7).1)) 8)).1.Length (Ah (Aa (Aa (Ab s_ K_0).2.1 8).2 7).2 (Ab s_ K_0).1 (Aa (Ab s_ K_0).2.1 8).1 (Int.tmod (IntKind.wrap .i64 ((IntKind.wrap .i64 ((Aa (Ab s_ K_0).2.1 8).1 + 1)) + (Aa (Aa (Ab s_ K_0).2.1 8).2 7).1)) 8)).1.Section (Ak (Aa (Ah (Aa (Aa (Ab s_ K_0).2.1 8).2 7).2 (Ab s_ K_0).1 (Aa (Ab s_ K_0).2.1 8).1 (Int.tmod (IntKind.wrap .i64 ((IntKind.wrap .i64 ((Aa (Ab s_ K_0).2.1 8).1 + 1)) + (Aa (Aa (Ab s_ K_0).2.1 8).2 7).1)) 8)).2 20).2 ([0, 1, 1000, 1001] : List Int)).1 (Ah (Aa (Aa (Ab s_ K_0).2.1 8).2 7).2 (Ab s_ K_0).1 (Aa (Ab s_ K_0).2.1 8).1 (Int.tmod (IntKind.wrap .i64 ((IntKind.wrap .i64 ((Aa (Ab s_ K_0).2.1 8).1 + 1)) + (Aa (Aa (Ab s_ K_0).2.1 8).2 7).1)) 8)).1.Shock, (Ak (Aa (Ah (Aa (Aa (Ab s_ K_0).2.1 8).2 7).2 (Ab s_ K_0).1 (Aa (Ab s_ K_0).2.1 8).1 (Int.tmod (IntKind.wrap .i64 ((IntKind.wrap .i64 ((Aa (Ab s_ K_0).2.1 8).1 + 1)) + (Aa (Aa (Ab s_ K_0).2.1 8).2 7).1)) 8)).2 20).2 ([0, 1, 1000, 1001] : List Int)).2.1) else bif (Aa (Ah (Aa (Aa (Ab s_ K_0).2.1 8).2 7).2 (Ab s_ K_0).1 (Aa (Ab s_ K_0).2.1 8).1 (Int.tmod (IntKind.wrap .i64 ((IntKind.wrap .i64 ((Aa (Ab s_ K_0).2.1 8).1 + 1)) + (Aa (Aa (Ab s_ K_0).2.1 8).2 7).1)) 8)).2 20).1 == 4 then (Au.mk (Ah (Aa (Aa (Ab s_ K_0).2.1 8).2 7).2 (Ab s_ K_0).1 (Aa (Ab s_ K_0).2.1 8).1 (Int.tmod (IntKind.wrap .i64 ((IntKind.wrap .i64 ((Aa (Ab s_ K_0).2.1 8).1 + 1)) + (Aa (Aa (Ab s_ K_0).2.1 8).2 7).1)) 8)).1.Id (Ah (Aa (Aa (Ab s_ K_0).2.1 8).2 7).2 (Ab s_ K_0).1 (Aa (Ab s_ K_0).2.1 8).1 (Int.tmod (IntKind.wrap .i64 ((IntKind.wrap .i64 ((Aa (Ab s_ K_0).2.1 8).1 + 1)) + (Aa (Aa (Ab s_ K_0).2.1 8).2 7).1)) 8)).1.From (Ah (Aa (Aa (Ab s_ K_0).2.1 8).2 7).2 (Ab s_ K_0).1 (Aa (Ab s_ K_0).2.1 8).1 (Int.tmod (IntKind.wrap .i64 ((IntKind.wrap .i64 ((Aa (Ab s_ K_0).2.1 8).1 + 1)) + (Aa (Aa (Ab s_ K_0).2.1 8).2 7).1)) 8)).1.To (Ah (Aa (Aa (Ab s_ K_0).2.1 8).2 7).2 (Ab s_ K_0).1 (Aa (Ab s_ K_0).2.1 8).1 (Int.tmod (IntKind.wrap .i64 ((IntKind.wrap .i64 ((Aa (Ab s_ K_0).2.1 8).1 + 1)) + (Aa (Aa (Ab s_ K_0).2.1 8).2 7).1)) 8)).1.Length (Ah (Aa (Aa (Ab s_ K_0).2.1 8).2 7).2 (Ab s_ K_0).1 (Aa (Ab s_ K_0).2.1 8).1 (Int.tmod (IntKind.wrap .i64 ((IntKind.wrap .i64 ((Aa (Ab s_ K_0).2.1 8).1 + 1)) + (Aa (Aa (Ab s_ K_0).2.1 8).2 7).1)) 8)).1.Section (Ah (Aa (Aa (Ab s_ K_0).2.1 8).2 7).2 (Ab s_ K_0).1 (Aa (Ab s_ K_0).2.1 8).1 (Int.tmod (IntKind.wrap .i64 ((IntKind.wrap .i64 ((Aa (Ab s_ K_0).2.1 8).1 + 1)) + (Aa (Aa (Ab s_ K_0).2.1 8).2 7).1)) 8)).1.Friction (Ak (Aa (Ah (Aa (Aa (Ab s_ K_0).2.1 8).2 7).2 (Ab s_ K_0).1 (Aa (Ab s_ K_0).2.1 8).1 (Int.tmod (IntKind.wrap .i64 ((IntKind.wrap .i64 ((Aa (Ab s_ K_0).2.1 8).1 + 1)) + (Aa (Aa (Ab s_ K_0).2.1 8).2 7).1)) 8)).2 20).2 ([(-1), 1000, 1001] : List Int)).1, (Ak (Aa (Ah (Aa (Aa (Ab s_ K_0).2.1 8).2 7).2 (Ab s_ K_0).1 (Aa (Ab s_ K_0).2.1 8).1 (Int.tmod (IntKind.wrap .i64 ((IntKind.wrap .i64 ((Aa (Ab s_ K_0).2.1 8).1 + 1)) + (Aa (Aa (Ab s_ K_0).2.1 8).2 7).1)) 8)).2 20).2 ([(-1), 1000, 1001] : List Int)).2.1) else ((Ah (Aa (Aa (Ab s_ K_0).2.1 8).2 7).2 (Ab s_ K_0).1 (Aa (Ab s_ K_0).2.1 8).1 (Int.tmod (IntKind.wrap .i64 ((IntKind.wrap .i64 ((Aa (Ab s_ K_0).2.1 8).1 + 1)) + (Aa (Aa (Ab s_ K_0).2.1 8).2 7).1)) 8)).1, (Aa (Ah (Aa (Aa (Ab s_ K_0).2.1 8).2 7).2 (Ab s_ K_0).1 (Aa (Ab s_ K_0).2.1 8).1 (Int.tmod (IntKind.wrap .i64 ((IntKind.wrap .i64 ((Aa (Ab s_ K_0).2.1 8).1 + 1)) + (Aa (Aa (Ab s_ K_0).2.1 8).2 7).1)) 8)).2 20).2)

/-! ### spec_l04Draw -/
def m_spec_l04Draw_b1 (s_ : Aj) (rec1 : ((List Int) × Int × Int × (List Au) × Int) → (AH × Aj)) (k1 : ((List Int) × Int × Int × (List Au) × Int) → (AH × Aj)) (x1 : (List Int) × Int × Int × (List Au) × Int) : AH × Aj :=
  bif decide (x1.2.2.2.2 < (Ak (Aa (AB s_).2 20).2 ([24, 25] : List Int)).1) then rec1 ((Ah (Aj.mk x1.1 x1.2.1 x1.2.2.1) (K_8 ++ (chars ([IntKind.wrap .u8 (IntKind.wrap .i64 (97 + x1.2.2.2.2))] : List Int))) (Int.tmod x1.2.2.2.2 4) (Int.tmod (x1.2.2.2.2 + 1) 4)).2.code, (Ah (Aj.mk x1.1 x1.2.1 x1.2.2.1) (K_8 ++ (chars ([IntKind.wrap .u8 (IntKind.wrap .i64 (97 + x1.2.2.2.2))] : List Int))) (Int.tmod x1.2.2.2.2 4) (Int.tmod (x1.2.2.2.2 + 1) 4)).2.at_, (Ah (Aj.mk x1.1 x1.2.1 x1.2.2.1) (K_8 ++ (chars ([IntKind.wrap .u8 (IntKind.wrap .i64 (97 + x1.2.2.2.2))] : List Int))) (Int.tmod x1.2.2.2.2 4) (Int.tmod (x1.2.2.2.2 + 1) 4)).2.seed, x1.2.2.2.1 ++ ([(Ah (Aj.mk x1.1 x1.2.1 x1.2.2.1) (K_8 ++ (chars ([IntKind.wrap .u8 (IntKind.wrap .i64 (97 + x1.2.2.2.2))] : List Int))) (Int.tmod x1.2.2.2.2 4) (Int.tmod (x1.2.2.2.2 + 1) 4)).1] : List Au), x1.2.2.2.2 + 1) else k1 (x1.1, x1.2.1, x1.2.2.1, x1.2.2.2.1, x1.2.2.2.2)
def Al (s_ : Aj) : AH × Aj :=
  bif (Aa (AB s_).2 20).1 == 0 then (AH.mk (Ak (Aa (AB s_).2 20).2 ([0, 1, 16, 17] : List Int)).1 (AB s_).1.Airways, (Ak (Aa (AB s_).2 20).2 ([0, 1, 16, 17] : List Int)).2.1) else bif (Aa (AB s_).2 20).1 == 1 then (AH.mk (AB s_).1.Junctions ((AB s_).1.Airways ++ ([(Bq (Aa (AB s_).2 20).2).1] : List Au)), (Bq (Aa (AB s_).2 20).2).2) else bif (Aa (AB s_).2 20).1 == 2 then LOOP (m_spec_l04Draw_b1 s_) (fun (x1 : (List Int) × Int × Int × (List Au) × Int) => (AH.mk 4 x1.2.2.2.1, Aj.mk x1.1 x1.2.1 x1.2.2.1)) (((Ak (Aa (AB s_).2 20).2 ([24, 25] : List Int)).1 - 0 : Int).toNat + 1) ((Ak (Aa (AB s_).2 20).2 ([24, 25] : List Int)).2.1.code, (Ak (Aa (AB s_).2 20).2 ([24, 25] : List Int)).2.1.at_, (Ak (Aa (AB s_).2 20).2 ([24, 25] : List Int)).2.1.seed, ([] : List Au), 0) else ((AB s_).1, (Aa (AB s_).2 20).2)

/-! ### spec_l00In -/
def A0 (n_ : Int) (low : Int) (high : Int) : Bool :=
  (decide (low ≤ n_)) && (decide (n_ ≤ high))

/-! ### spec_l04Junction -/
def Cm (m_ : AH) (j : Int) : Bool :=
  A0 j 0 (IntKind.wrap .i64 (m_.Junctions - 1))

/-! ### spec_l01Small -/
def CB (c_ : Int) : Bool :=
  (decide (97 ≤ c_)) && (decide (c_ ≤ 122))

/-! ### spec_l01Digit -/
def C9 (c_ : Int) : Bool :=
  (decide (48 ≤ c_)) && (decide (c_ ≤ 57))

/-! ### spec_l01Name -/
def m_spec_l01Name_b1 (s_ : List UInt8) (rec1 : Int → Bool) (k1 : Int → Bool) (x1 : Int) : Bool :=
  bif decide (x1 < (s_.length : Int)) then bif (!(CB (((s_.getD x1.toNat 0).toNat : Nat) : Int))) && (!(C9 (((s_.getD x1.toNat 0).toNat : Nat) : Int))) then false else rec1 (x1 + 1) else k1 x1
def Cu (s_ : List UInt8) : Bool :=
  bif ((strB .eql s_ ([] : List UInt8)) || (decide (10 < (s_.length : Int)))) || (!(CB (((s_.getD (0 : Int).toNat 0).toNat : Nat) : Int))) then false else LOOP (m_spec_l01Name_b1 s_) (fun (x1 : Int) => true) (((s_.length : Int) - 0 : Int).toNat + 1) 0

/-! ### spec_l03Ok -/
def Da (a : Au) : Bool :=
  bif (((!(Cu a.Id)) || (!(A0 a.From 0 15))) || (!(A0 a.To 0 15))) || (a.From == a.To) then false else (((A0 a.Length 1 10000) && (A0 a.Section 50 5000)) && (A0 a.Friction 1 1000)) && (A0 a.Shock 0 1000)

/-! ### spec_l04Ok -/
def Dx (m_ : AH) (rec1 : Int → Bool) (k1 : Int → Bool) (x1 : Int) : Bool :=
  bif decide (x1 < (m_.Airways.length : Int)) then bif (((!(Da (at' m_.Airways x1))) || (!(Cm m_ (at' m_.Airways x1).From))) || (!(Cm m_ (at' m_.Airways x1).To))) || ((decide (0 < x1)) && (strB .geq (at' m_.Airways (x1 - 1)).Id (at' m_.Airways x1).Id)) then false else rec1 (x1 + 1) else k1 x1
def AO (m_ : AH) : Bool :=
  bif !(A0 m_.Junctions 1 16) then false else LOOP (Dx m_) (fun (x1 : Int) => decide ((m_.Airways.length : Int) ≤ 24)) (((m_.Airways.length : Int) - 0 : Int).toNat + 1) 0

/-! ### spec_l00Max -/
def AF (a : Int) (b : Int) : Int :=
  bif decide (b < a) then a else b

/-! ### spec_l00Min -/
def A5 (a : Int) (b : Int) : Int :=
  bif decide (a < b) then a else b

/-! ### spec_l04Parts -/
def Dy (m_ : AH) (list : List Int) (x1 : (List Int) × Int) (rec2 : ((List Int) × Int) → (List Int)) (k2 : ((List Int) × Int) → (List Int)) (x2 : (List Int) × Int) (rec3 : ((List Int) × Int) → (List Int)) (k3 : ((List Int) × Int) → (List Int)) (x3 : (List Int) × Int) : (List Int) :=
  bif decide (x3.2 < (x3.1.length : Int)) then bif (at' x3.1 x3.2) == (AF (at' x2.1 (at' m_.Airways (at' list x2.2)).From) (at' x2.1 (at' m_.Airways (at' list x2.2)).To)) then rec3 (put' x3.1 x3.2 (A5 (at' x2.1 (at' m_.Airways (at' list x2.2)).From) (at' x2.1 (at' m_.Airways (at' list x2.2)).To)), x3.2 + 1) else rec3 (x3.1, x3.2 + 1) else k3 (x3.1, x3.2)
def Dz (m_ : AH) (list : List Int) (x1 : (List Int) × Int) (rec2 : ((List Int) × Int) → (List Int)) (k2 : ((List Int) × Int) → (List Int)) (x2 : (List Int) × Int) : (List Int) :=
  bif decide (x2.2 < (list.length : Int)) then LOOP (Dy m_ list x1 rec2 k2 x2) (fun (x3 : (List Int) × Int) => rec2 (x3.1, x2.2 + 1)) (((x2.1.length : Int) - 0 : Int).toNat + 1) (x2.1, 0) else k2 (x2.1, x2.2)
def DA (m_ : AH) (list : List Int) (rec1 : ((List Int) × Int) → (List Int)) (k1 : ((List Int) × Int) → (List Int)) (x1 : (List Int) × Int) : (List Int) :=
  bif decide (x1.2 < m_.Junctions) then rec1 (x1.1 ++ ([x1.2] : List Int), x1.2 + 1) else k1 (x1.1, x1.2)
def B4 (m_ : AH) (list : List Int) : (List Int) :=
  LOOP (DA m_ list) (fun (x1 : (List Int) × Int) => LOOP (Dz m_ list x1) (fun (x2 : (List Int) × Int) => x2.1) (((list.length : Int) - 0 : Int).toNat + 1) (x1.1, 0)) ((m_.Junctions - 0 : Int).toNat + 1) (K_6, 0)

/-! ### spec_l04Tree -/
def m_spec_l04Tree_b1 (m_ : AH) (rec1 : ((List Int) × Int) → (List Int)) (k1 : ((List Int) × Int) → (List Int)) (x1 : (List Int) × Int) : (List Int) :=
  bif decide (x1.2 < (m_.Airways.length : Int)) then bif (at' (B4 m_ x1.1) (at' m_.Airways x1.2).From) != (at' (B4 m_ x1.1) (at' m_.Airways x1.2).To) then rec1 (x1.1 ++ ([x1.2] : List Int), x1.2 + 1) else rec1 (x1.1, x1.2 + 1) else k1 (x1.1, x1.2)
def Bu (m_ : AH) : (List Int) :=
  LOOP (m_spec_l04Tree_b1 m_) (fun (x1 : (List Int) × Int) => x1.1) (((m_.Airways.length : Int) - 0 : Int).toNat + 1) (K_6, 0)

/-! ### spec_l00Has -/
def m_spec_l00Has_b1 (list : List Int) (n_ : Int) (rec1 : Int → Bool) (k1 : Int → Bool) (x1 : Int) : Bool :=
  bif decide (x1 < (list.length : Int)) then bif (at' list x1) == n_ then true else rec1 (x1 + 1) else k1 x1
def CS (list : List Int) (n_ : Int) : Bool :=
  LOOP (m_spec_l00Has_b1 list n_) (fun (x1 : Int) => false) (((list.length : Int) - 0 : Int).toNat + 1) 0

/-! ### spec_l04Walk -/
def m_spec_l04Walk_b3 (m_ : AH) (list : List Int) (from_ : Int) (to : Int) (x1 : (List Int) × Int) (rec2 : ((List Int) × Int) → ((List Int) × Bool)) (k2 : ((List Int) × Int) → ((List Int) × Bool)) (x2 : (List Int) × Int) (rec3 : ((List Int) × Int) → ((List Int) × Bool)) (k3 : ((List Int) × Int) → ((List Int) × Bool)) (x3 : (List Int) × Int) : (List Int) × Bool :=
  bif decide (x3.2 < (list.length : Int)) then JN (fun j14 => bif ((at' x3.1 (at' m_.Airways (at' list x3.2)).From) == x2.2) && (decide ((at' x3.1 (at' m_.Airways (at' list x3.2)).To) < 0)) then j14 (put' x3.1 (at' m_.Airways (at' list x3.2)).To (x2.2 + 1)) else j14 x3.1) (fun (v13 : (List Int)) => bif ((at' v13 (at' m_.Airways (at' list x3.2)).To) == x2.2) && (decide ((at' v13 (at' m_.Airways (at' list x3.2)).From) < 0)) then rec3 (put' v13 (at' m_.Airways (at' list x3.2)).From (x2.2 + 1), x3.2 + 1) else rec3 (v13, x3.2 + 1)) else k3 (x3.1, x3.2)
def m_spec_l04Walk_b5 (m_ : AH) (list : List Int) (from_ : Int) (to : Int) (x1 : (List Int) × Int) (x2 : (List Int) × Int) (rec4 : ((List Int) × Int) → ((List Int) × Bool)) (k4 : ((List Int) × Int) → ((List Int) × Bool)) (x4 : (List Int) × Int) (rec5 : (Int × (List Int) × Int) → ((List Int) × Bool)) (k5 : (Int × (List Int) × Int) → ((List Int) × Bool)) (x5 : Int × (List Int) × Int) : (List Int) × Bool :=
  bif decide (x5.1 < (list.length : Int)) then bif ((at' m_.Airways (at' list x5.1)).From == x5.2.2) && ((at' x2.1 (at' m_.Airways (at' list x5.1)).To) == (IntKind.wrap .i64 ((at' x2.1 x5.2.2) - 1))) then k5 (x5.1, x5.2.1 ++ ([IntKind.wrap .i64 ((at' list x5.1) + 1)] : List Int), (at' m_.Airways (at' list x5.1)).To) else bif ((at' m_.Airways (at' list x5.1)).To == x5.2.2) && ((at' x2.1 (at' m_.Airways (at' list x5.1)).From) == (IntKind.wrap .i64 ((at' x2.1 x5.2.2) - 1))) then k5 (x5.1, x5.2.1 ++ ([IntKind.wrap .i64 ((IntKind.wrap .i64 (0 - (at' list x5.1))) - 1)] : List Int), (at' m_.Airways (at' list x5.1)).From) else rec5 (x5.1 + 1, x5.2.1, x5.2.2) else k5 (x5.1, x5.2.1, x5.2.2)
def m_spec_l04Walk_b4 (m_ : AH) (list : List Int) (from_ : Int) (to : Int) (x1 : (List Int) × Int) (x2 : (List Int) × Int) (rec4 : ((List Int) × Int) → ((List Int) × Bool)) (k4 : ((List Int) × Int) → ((List Int) × Bool)) (x4 : (List Int) × Int) : (List Int) × Bool :=
  bif x4.2 != to then LOOP (m_spec_l04Walk_b5 m_ list from_ to x1 x2 rec4 k4 x4) (fun (x5 : Int × (List Int) × Int) => rec4 (x5.2.1, x5.2.2)) (((list.length : Int) - 0 : Int).toNat + 1) (0, x4.1, x4.2) else k4 (x4.1, x4.2)
def m_spec_l04Walk_b2 (m_ : AH) (list : List Int) (from_ : Int) (to : Int) (x1 : (List Int) × Int) (rec2 : ((List Int) × Int) → ((List Int) × Bool)) (k2 : ((List Int) × Int) → ((List Int) × Bool)) (x2 : (List Int) × Int) : (List Int) × Bool :=
  bif decide (x2.2 < m_.Junctions) then LOOP (m_spec_l04Walk_b3 m_ list from_ to x1 rec2 k2 x2) (fun (x3 : (List Int) × Int) => rec2 (x3.1, x2.2 + 1)) (((list.length : Int) - 0 : Int).toNat + 1) (x2.1, 0) else k2 (x2.1, x2.2)
def m_spec_l04Walk_b1 (m_ : AH) (list : List Int) (from_ : Int) (to : Int) (rec1 : ((List Int) × Int) → ((List Int) × Bool)) (k1 : ((List Int) × Int) → ((List Int) × Bool)) (x1 : (List Int) × Int) : (List Int) × Bool :=
  bif decide (x1.2 < m_.Junctions) then rec1 (x1.1 ++ K_7, x1.2 + 1) else k1 (x1.1, x1.2)
def BW (m_ : AH) (list : List Int) (from_ : Int) (to : Int) : (List Int) × Bool :=
  LOOP (m_spec_l04Walk_b1 m_ list from_ to) (fun (x1 : (List Int) × Int) => LOOP (m_spec_l04Walk_b2 m_ list from_ to x1) (fun (x2 : (List Int) × Int) => bif decide ((at' x2.1 from_) < 0) then (K_6, false) else LOOP (m_spec_l04Walk_b4 m_ list from_ to x1 x2) (fun (x4 : (List Int) × Int) => (x4.1, true)) ((at' x2.1 from_).toNat + 1) (K_6, from_)) ((m_.Junctions - 0 : Int).toNat + 1) (put' x1.1 to 0, 0)) ((m_.Junctions - 0 : Int).toNat + 1) (K_6, 0)

/-! ### spec_l04Meshes -/
def Du (m_ : AH) (rec1 : (Int × (List (List Int))) → (List (List Int))) (k1 : (Int × (List (List Int))) → (List (List Int))) (x1 : Int × (List (List Int))) : (List (List Int)) :=
  bif decide (x1.1 < (m_.Airways.length : Int)) then bif CS (Bu m_) x1.1 then rec1 (x1.1 + 1, x1.2) else rec1 (x1.1 + 1, x1.2 ++ ([([x1.1 + 1] : List Int) ++ (BW m_ (Bu m_) (at' m_.Airways x1.1).To (at' m_.Airways x1.1).From).1] : List (List Int))) else k1 (x1.1, x1.2)
def Bg (m_ : AH) : (List (List Int)) :=
  LOOP (Du m_) (fun (x1 : Int × (List (List Int))) => x1.2) (((m_.Airways.length : Int) - 0 : Int).toNat + 1) (0, ([] : List (List Int)))

/-! ### spec_l07Add -/
def m_spec_l07Add_b1 (flows : List Int) (walk : List Int) (amount : Int) (rec1 : ((List Int) × Int) → (List Int)) (k1 : ((List Int) × Int) → (List Int)) (x1 : (List Int) × Int) : (List Int) :=
  bif decide (x1.2 < (walk.length : Int)) then bif decide (0 < (at' walk x1.2)) then rec1 (put' x1.1 (IntKind.wrap .i64 ((at' walk x1.2) - 1)) (IntKind.wrap .i64 ((at' x1.1 (IntKind.wrap .i64 ((at' walk x1.2) - 1))) + amount)), x1.2 + 1) else rec1 (put' x1.1 (IntKind.wrap .i64 ((IntKind.wrap .i64 (0 - (at' walk x1.2))) - 1)) (IntKind.wrap .i64 ((at' x1.1 (IntKind.wrap .i64 ((IntKind.wrap .i64 (0 - (at' walk x1.2))) - 1))) - amount)), x1.2 + 1) else k1 (x1.1, x1.2)
def Di (flows : List Int) (walk : List Int) (amount : Int) : (List Int) :=
  LOOP (m_spec_l07Add_b1 flows walk amount) (fun (x1 : (List Int) × Int) => x1.1) (((walk.length : Int) - 0 : Int).toNat + 1) (flows, 0)

/-! ### spec_l07DrawFlows -/
def C4 (s_ : Aj) (m_ : AH) (j3 : ((List Int) × Int × Int × (List Int)) → ((List Int) × Aj)) (rec1 : ((List Int) × Int × Int × (List Int) × Int) → ((List Int) × Aj)) (k1 : ((List Int) × Int × Int × (List Int) × Int) → ((List Int) × Aj)) (x1 : (List Int) × Int × Int × (List Int) × Int) : (List Int) × Aj :=
  bif decide (x1.2.2.2.2 < ((Bg m_).length : Int)) then rec1 ((Aa (Aj.mk x1.1 x1.2.1 x1.2.2.1) 4000).2.code, (Aa (Aj.mk x1.1 x1.2.1 x1.2.2.1) 4000).2.at_, (Aa (Aj.mk x1.1 x1.2.1 x1.2.2.1) 4000).2.seed, Di x1.2.2.2.1 (at' (Bg m_) x1.2.2.2.2) (IntKind.wrap .i64 ((Aa (Aj.mk x1.1 x1.2.1 x1.2.2.1) 4000).1 - 1500)), x1.2.2.2.2 + 1) else k1 (x1.1, x1.2.1, x1.2.2.1, x1.2.2.2.1, x1.2.2.2.2)
def C5 (s_ : Aj) (m_ : AH) (j3 : ((List Int) × Int × Int × (List Int)) → ((List Int) × Aj)) (rec2 : ((List Int) × Int × Int × (List Int) × Int) → ((List Int) × Aj)) (k2 : ((List Int) × Int × Int × (List Int) × Int) → ((List Int) × Aj)) (x2 : (List Int) × Int × Int × (List Int) × Int) : (List Int) × Aj :=
  bif decide (x2.2.2.2.2 < (x2.2.2.2.1.length : Int)) then rec2 ((Aa (Aj.mk x2.1 x2.2.1 x2.2.2.1) 4000).2.code, (Aa (Aj.mk x2.1 x2.2.1 x2.2.2.1) 4000).2.at_, (Aa (Aj.mk x2.1 x2.2.1 x2.2.2.1) 4000).2.seed, put' x2.2.2.2.1 x2.2.2.2.2 (IntKind.wrap .i64 ((Aa (Aj.mk x2.1 x2.2.1 x2.2.2.1) 4000).1 - 2000)), x2.2.2.2.2 + 1) else k2 (x2.1, x2.2.1, x2.2.2.1, x2.2.2.2.1, x2.2.2.2.2)
def AU (s_ : Aj) (m_ : AH) : (List Int) × Aj :=
  JN (fun j3 => bif (AO m_) && (decide (0 < (Aa s_ 4).1)) then LOOP (C4 s_ m_ j3) (fun (x1 : (List Int) × Int × Int × (List Int) × Int) => j3 (x1.1, x1.2.1, x1.2.2.1, x1.2.2.2.1)) ((((Bg m_).length : Int) - 0 : Int).toNat + 1) ((bif (AO m_) then (Aa s_ 4).2 else s_).code, (bif (AO m_) then (Aa s_ 4).2 else s_).at_, (bif (AO m_) then (Aa s_ 4).2 else s_).seed, List.replicate ((m_.Airways.length : Int) : Int).toNat (0 : Int), 0) else LOOP (C5 s_ m_ j3) (fun (x2 : (List Int) × Int × Int × (List Int) × Int) => j3 (x2.1, x2.2.1, x2.2.2.1, x2.2.2.2.1)) ((((List.replicate ((m_.Airways.length : Int) : Int).toNat (0 : Int)).length : Int) - 0 : Int).toNat + 1) ((bif (AO m_) then (Aa s_ 4).2 else s_).code, (bif (AO m_) then (Aa s_ 4).2 else s_).at_, (bif (AO m_) then (Aa s_ 4).2 else s_).seed, List.replicate ((m_.Airways.length : Int) : Int).toNat (0 : Int), 0)) (fun (v2 : (List Int) × Int × Int × (List Int)) => bif (Aa (Aj.mk v2.1 v2.2.1 v2.2.2.1) 20).1 == 0 then (v2.2.2.2 ++ ([0] : List Int), (Aa (Aj.mk v2.1 v2.2.1 v2.2.2.1) 20).2) else bif (Aa (Aj.mk v2.1 v2.2.1 v2.2.2.1) 20).1 == 1 then bif decide (0 < (v2.2.2.2.length : Int)) then (put' v2.2.2.2 0 (Ak (Aa (Aj.mk v2.1 v2.2.1 v2.2.2.1) 20).2 ([100000, 100001, (-100001)] : List Int)).1, (Ak (Aa (Aj.mk v2.1 v2.2.1 v2.2.2.1) 20).2 ([100000, 100001, (-100001)] : List Int)).2.1) else (v2.2.2.2, (Aa (Aj.mk v2.1 v2.2.1 v2.2.2.1) 20).2) else (v2.2.2.2, (Aa (Aj.mk v2.1 v2.2.1 v2.2.2.1) 20).2))

/-! ### spec_l17DrawFire -/
def A4 (s_ : Aj) (m_ : AH) : C8 × Aj :=
  JN (fun j3 => bif decide (0 < (m_.Airways.length : Int)) then j3 ((Aa (Aa (Aa s_ 10).2 (m_.Airways.length : Int)).2 (AF 1 (at' m_.Airways (Aa (Aa s_ 10).2 (m_.Airways.length : Int)).1).Length)).2.code, (Aa (Aa (Aa s_ 10).2 (m_.Airways.length : Int)).2 (AF 1 (at' m_.Airways (Aa (Aa s_ 10).2 (m_.Airways.length : Int)).1).Length)).2.at_, (Aa (Aa (Aa s_ 10).2 (m_.Airways.length : Int)).2 (AF 1 (at' m_.Airways (Aa (Aa s_ 10).2 (m_.Airways.length : Int)).1).Length)).2.seed, (Aa (Aa s_ 10).2 (m_.Airways.length : Int)).1, (Aa (Aa (Aa s_ 10).2 (m_.Airways.length : Int)).2 (AF 1 (at' m_.Airways (Aa (Aa s_ 10).2 (m_.Airways.length : Int)).1).Length)).1) else j3 ((Aa s_ 10).2.code, (Aa s_ 10).2.at_, (Aa s_ 10).2.seed, 0, 0)) (fun (v2 : (List Int) × Int × Int × Int × Int) => bif (Aa (Aj.mk v2.1 v2.2.1 v2.2.2.1) 20).1 == 0 then (C8.mk (Ak (Aa (Aj.mk v2.1 v2.2.1 v2.2.2.1) 20).2 ([(-1), (m_.Airways.length : Int), 24] : List Int)).1 v2.2.2.2.2 (IntKind.wrap .i64 (60 * (Aa s_ 10).1)), (Ak (Aa (Aj.mk v2.1 v2.2.1 v2.2.2.1) 20).2 ([(-1), (m_.Airways.length : Int), 24] : List Int)).2.1) else bif (Aa (Aj.mk v2.1 v2.2.1 v2.2.2.1) 20).1 == 1 then (C8.mk v2.2.2.2.1 (Ak (Aa (Aj.mk v2.1 v2.2.1 v2.2.2.1) 20).2 ([(-1), 10000, 10001] : List Int)).1 (IntKind.wrap .i64 (60 * (Aa s_ 10).1)), (Ak (Aa (Aj.mk v2.1 v2.2.1 v2.2.2.1) 20).2 ([(-1), 10000, 10001] : List Int)).2.1) else bif (Aa (Aj.mk v2.1 v2.2.1 v2.2.2.1) 20).1 == 2 then (C8.mk v2.2.2.2.1 v2.2.2.2.2 (Ak (Aa (Aj.mk v2.1 v2.2.1 v2.2.2.1) 20).2 ([(-1), 36000, 36001] : List Int)).1, (Ak (Aa (Aj.mk v2.1 v2.2.1 v2.2.2.1) 20).2 ([(-1), 36000, 36001] : List Int)).2.1) else (C8.mk v2.2.2.2.1 v2.2.2.2.2 (IntKind.wrap .i64 (60 * (Aa s_ 10).1)), (Aa (Aj.mk v2.1 v2.2.1 v2.2.2.1) 20).2))

/-! ### spec_l17One -/
def DB (f : C8) : Bool :=
  ((A0 f.Airway 0 23) && (A0 f.At 0 10000)) && (A0 f.Start 0 36000)

/-! ### spec_l17Fire -/
def C2 (m_ : AH) (f : C8) : Bool :=
  ((DB f) && (decide (f.Airway < (m_.Airways.length : Int)))) && (decide (f.At ≤ (at' m_.Airways f.Airway).Length))

/-! ### spec_l03Flow -/
def Dn (q : Int) : Bool :=
  A0 q (-100000) 100000

/-! ### spec_l07Flows -/
def m_spec_l07Flows_b1 (m_ : AH) (flows : List Int) (rec1 : Int → Bool) (k1 : Int → Bool) (x1 : Int) : Bool :=
  bif decide (x1 < (flows.length : Int)) then bif !(Dn (at' flows x1)) then false else rec1 (x1 + 1) else k1 x1
def Db (m_ : AH) (flows : List Int) : Bool :=
  LOOP (m_spec_l07Flows_b1 m_ flows) (fun (x1 : Int) => (flows.length : Int) == (m_.Airways.length : Int)) (((flows.length : Int) - 0 : Int).toNat + 1) 0

/-! ### spec_l17Ask -/
def Ci (m_ : AH) (flows : List Int) (f : C8) : Int :=
  bif (!(AO m_)) || (!(C2 m_ f)) then 1 else bif !(Db m_ flows) then 7 else 0

/-! ### spec_l03Abs -/
def CE (n_ : Int) : Int :=
  AF n_ (IntKind.wrap .i64 (0 - n_))

/-! ### spec_l17Leave -/
def BX (m_ : AH) (flows : List Int) (f : C8) : Int :=
  JN (fun j4 => bif decide (0 < (at' flows f.Airway)) then j4 (IntKind.wrap .i64 ((at' m_.Airways f.Airway).Length - f.At)) else j4 f.At) (fun (v3 : Int) => IntKind.wrap .i64 (f.Start + (IntKind.wrap .i64 (Int.tdiv (IntKind.wrap .i64 ((IntKind.wrap .i64 ((IntKind.wrap .i64 (v3 * (at' m_.Airways f.Airway).Section)) + (CE (at' flows f.Airway)))) - 1)) (CE (at' flows f.Airway))))))

/-! ### spec_l13Start -/
def Bj (a : Au) (flow : Int) : Int :=
  bif decide (0 < flow) then a.From else a.To

/-! ### spec_l03Time -/
def Cv (a : Au) (flow : Int) : Int :=
  IntKind.wrap .i64 (Int.tdiv (IntKind.wrap .i64 ((IntKind.wrap .i64 ((IntKind.wrap .i64 (a.Length * a.Section)) + (CE flow))) - 1)) (CE flow))

/-! ### spec_l17Arrival -/
def Cs (m_ : AH) (flows : List Int) (f : C8) (x1 : (List Int) × Int) (rec2 : ((List Int) × Int) → (List Int)) (k2 : ((List Int) × Int) → (List Int)) (x2 : (List Int) × Int) (rec3 : (Int × (List Int)) → (List Int)) (k3 : (Int × (List Int)) → (List Int)) (x3 : Int × (List Int)) : (List Int) :=
  bif decide (x3.1 < (flows.length : Int)) then bif (at' flows x3.1) == 0 then rec3 (x3.1 + 1, x3.2) else bif decide ((at' x3.2 (Bj (at' m_.Airways x3.1) (at' flows x3.1))) < 0) then rec3 (x3.1 + 1, x3.2) else bif (decide ((at' x3.2 (Bj (at' m_.Airways x3.1) (IntKind.wrap .i64 (0 - (at' flows x3.1))))) < 0)) || (decide ((IntKind.wrap .i64 ((at' x3.2 (Bj (at' m_.Airways x3.1) (at' flows x3.1))) + (Cv (at' m_.Airways x3.1) (at' flows x3.1)))) < (at' x3.2 (Bj (at' m_.Airways x3.1) (IntKind.wrap .i64 (0 - (at' flows x3.1))))))) then rec3 (x3.1 + 1, put' x3.2 (Bj (at' m_.Airways x3.1) (IntKind.wrap .i64 (0 - (at' flows x3.1)))) (IntKind.wrap .i64 ((at' x3.2 (Bj (at' m_.Airways x3.1) (at' flows x3.1))) + (Cv (at' m_.Airways x3.1) (at' flows x3.1))))) else rec3 (x3.1 + 1, x3.2) else k3 (x3.1, x3.2)
def Ca (m_ : AH) (flows : List Int) (f : C8) (x1 : (List Int) × Int) (rec2 : ((List Int) × Int) → (List Int)) (k2 : ((List Int) × Int) → (List Int)) (x2 : (List Int) × Int) : (List Int) :=
  bif decide (x2.2 < m_.Junctions) then LOOP (Cs m_ flows f x1 rec2 k2 x2) (fun (x3 : Int × (List Int)) => rec2 (x3.2, x2.2 + 1)) (((flows.length : Int) - 0 : Int).toNat + 1) (0, x2.1) else k2 (x2.1, x2.2)
def Ct (m_ : AH) (flows : List Int) (f : C8) (rec1 : ((List Int) × Int) → (List Int)) (k1 : ((List Int) × Int) → (List Int)) (x1 : (List Int) × Int) : (List Int) :=
  bif decide (x1.2 < m_.Junctions) then rec1 (x1.1 ++ K_7, x1.2 + 1) else k1 (x1.1, x1.2)
def BR (m_ : AH) (flows : List Int) (f : C8) : (List Int) :=
  LOOP (Ct m_ flows f) (fun (x1 : (List Int) × Int) => bif (at' flows f.Airway) == 0 then x1.1 else LOOP (Ca m_ flows f x1) (fun (x2 : (List Int) × Int) => x2.1) ((m_.Junctions - 0 : Int).toNat + 1) (put' x1.1 (Bj (at' m_.Airways f.Airway) (IntKind.wrap .i64 (0 - (at' flows f.Airway)))) (BX m_ flows f), 0)) ((m_.Junctions - 0 : Int).toNat + 1) (K_6, 0)

/-! ### spec_l19DrawArrivals -/
def Cj (s_ : Aj) (m_ : AH) (v2 : (List Int) × Int × Int) (rec1 : ((List Int) × Int × Int × (List Int) × Int) → ((List Int) × Aj)) (k1 : ((List Int) × Int × Int × (List Int) × Int) → ((List Int) × Aj)) (x1 : (List Int) × Int × Int × (List Int) × Int) : (List Int) × Aj :=
  bif decide (x1.2.2.2.2 < (A5 m_.Junctions 17)) then rec1 ((Ak (Aa (Aj.mk x1.1 x1.2.1 x1.2.2.1) 60).2 ([(-1), (-1), IntKind.wrap .i64 (30 * (Aa (Aj.mk x1.1 x1.2.1 x1.2.2.1) 60).1), IntKind.wrap .i64 (30 * (Aa (Aj.mk x1.1 x1.2.1 x1.2.2.1) 60).1), IntKind.wrap .i64 (30 * (Aa (Aj.mk x1.1 x1.2.1 x1.2.2.1) 60).1)] : List Int)).2.1.code, (Ak (Aa (Aj.mk x1.1 x1.2.1 x1.2.2.1) 60).2 ([(-1), (-1), IntKind.wrap .i64 (30 * (Aa (Aj.mk x1.1 x1.2.1 x1.2.2.1) 60).1), IntKind.wrap .i64 (30 * (Aa (Aj.mk x1.1 x1.2.1 x1.2.2.1) 60).1), IntKind.wrap .i64 (30 * (Aa (Aj.mk x1.1 x1.2.1 x1.2.2.1) 60).1)] : List Int)).2.1.at_, (Ak (Aa (Aj.mk x1.1 x1.2.1 x1.2.2.1) 60).2 ([(-1), (-1), IntKind.wrap .i64 (30 * (Aa (Aj.mk x1.1 x1.2.1 x1.2.2.1) 60).1), IntKind.wrap .i64 (30 * (Aa (Aj.mk x1.1 x1.2.1 x1.2.2.1) 60).1), IntKind.wrap .i64 (30 * (Aa (Aj.mk x1.1 x1.2.1 x1.2.2.1) 60).1)] : List Int)).2.1.seed, x1.2.2.2.1 ++ ([(Ak (Aa (Aj.mk x1.1 x1.2.1 x1.2.2.1) 60).2 ([(-1), (-1), IntKind.wrap .i64 (30 * (Aa (Aj.mk x1.1 x1.2.1 x1.2.2.1) 60).1), IntKind.wrap .i64 (30 * (Aa (Aj.mk x1.1 x1.2.1 x1.2.2.1) 60).1), IntKind.wrap .i64 (30 * (Aa (Aj.mk x1.1 x1.2.1 x1.2.2.1) 60).1)] : List Int)).1] : List Int), x1.2.2.2.2 + 1) else k1 (x1.1, x1.2.1, x1.2.2.1, x1.2.2.2.1, x1.2.2.2.2)
def AD (s_ : Aj) (m_ : AH) : (List Int) × Aj :=
  JN (fun j3 => bif ((AO m_) && (decide (0 < (m_.Airways.length : Int)))) && (decide (0 < (Aa s_ 3).1)) then bif (Ci m_ (AU (bif ((AO m_) && (decide (0 < (m_.Airways.length : Int)))) then (Aa s_ 3).2 else s_) m_).1 (A4 (AU (bif ((AO m_) && (decide (0 < (m_.Airways.length : Int)))) then (Aa s_ 3).2 else s_) m_).2 m_).1) == 0 then (BR m_ (AU (bif ((AO m_) && (decide (0 < (m_.Airways.length : Int)))) then (Aa s_ 3).2 else s_) m_).1 (A4 (AU (bif ((AO m_) && (decide (0 < (m_.Airways.length : Int)))) then (Aa s_ 3).2 else s_) m_).2 m_).1, (A4 (AU (bif ((AO m_) && (decide (0 < (m_.Airways.length : Int)))) then (Aa s_ 3).2 else s_) m_).2 m_).2) else j3 ((A4 (AU (bif ((AO m_) && (decide (0 < (m_.Airways.length : Int)))) then (Aa s_ 3).2 else s_) m_).2 m_).2.code, (A4 (AU (bif ((AO m_) && (decide (0 < (m_.Airways.length : Int)))) then (Aa s_ 3).2 else s_) m_).2 m_).2.at_, (A4 (AU (bif ((AO m_) && (decide (0 < (m_.Airways.length : Int)))) then (Aa s_ 3).2 else s_) m_).2 m_).2.seed) else j3 ((bif ((AO m_) && (decide (0 < (m_.Airways.length : Int)))) then (Aa s_ 3).2 else s_).code, (bif ((AO m_) && (decide (0 < (m_.Airways.length : Int)))) then (Aa s_ 3).2 else s_).at_, (bif ((AO m_) && (decide (0 < (m_.Airways.length : Int)))) then (Aa s_ 3).2 else s_).seed)) (fun (v2 : (List Int) × Int × Int) => LOOP (Cj s_ m_ v2) (fun (x1 : (List Int) × Int × Int × (List Int) × Int) => bif (Aa (Aj.mk x1.1 x1.2.1 x1.2.2.1) 16).1 == 0 then (x1.2.2.2.1 ++ K_7, (Aa (Aj.mk x1.1 x1.2.1 x1.2.2.1) 16).2) else bif (Aa (Aj.mk x1.1 x1.2.1 x1.2.2.1) 16).1 == 1 then bif decide (0 < (x1.2.2.2.1.length : Int)) then (put' x1.2.2.2.1 0 (-2), (Aa (Aj.mk x1.1 x1.2.1 x1.2.2.1) 16).2) else (x1.2.2.2.1, (Aa (Aj.mk x1.1 x1.2.1 x1.2.2.1) 16).2) else (x1.2.2.2.1, (Aa (Aj.mk x1.1 x1.2.1 x1.2.2.1) 16).2)) (((A5 m_.Junctions 17) - 0 : Int).toNat + 1) (v2.1, v2.2.1, v2.2.2, K_6, 0))

/-! ### spec_l19DrawCrew -/
def Av (s_ : Aj) (m_ : AH) : Bi × Aj :=
  bif (Aa (Aa (Aa (Ab s_ K_1).2.1 150).2 (AF 1 (A5 m_.Junctions 16))).2 20).1 == 0 then (Bi.mk (Ab s_ K_1).1 (Ak (Aa (Aa (Aa (Ab s_ K_1).2.1 150).2 (AF 1 (A5 m_.Junctions 16))).2 20).2 ([(-1), m_.Junctions, 15, 16] : List Int)).1 (IntKind.wrap .i64 (30 + (Aa (Ab s_ K_1).2.1 150).1)), (Ak (Aa (Aa (Aa (Ab s_ K_1).2.1 150).2 (AF 1 (A5 m_.Junctions 16))).2 20).2 ([(-1), m_.Junctions, 15, 16] : List Int)).2.1) else bif (Aa (Aa (Aa (Ab s_ K_1).2.1 150).2 (AF 1 (A5 m_.Junctions 16))).2 20).1 == 1 then (Bi.mk (Ab s_ K_1).1 (Aa (Aa (Ab s_ K_1).2.1 150).2 (AF 1 (A5 m_.Junctions 16))).1 (Ak (Aa (Aa (Aa (Ab s_ K_1).2.1 150).2 (AF 1 (A5 m_.Junctions 16))).2 20).2 ([9, 10, 300, 301] : List Int)).1, (Ak (Aa (Aa (Aa (Ab s_ K_1).2.1 150).2 (AF 1 (A5 m_.Junctions 16))).2 20).2 ([9, 10, 300, 301] : List Int)).2.1) else (Bi.mk (Ab s_ K_1).1 (Aa (Aa (Ab s_ K_1).2.1 150).2 (AF 1 (A5 m_.Junctions 16))).1 (IntKind.wrap .i64 (30 + (Aa (Ab s_ K_1).2.1 150).1)), (Aa (Aa (Aa (Ab s_ K_1).2.1 150).2 (AF 1 (A5 m_.Junctions 16))).2 20).2)

/-! ### spec_l19DrawAll -/
def Ao (s_ : Aj) : AH × (List Int) × Int × Bi × Int × Aj :=
  (AH.mk (Al s_).1.Junctions (Al s_).1.Airways, (AD (Al s_).2 (AH.mk (Al s_).1.Junctions (Al s_).1.Airways)).1, IntKind.wrap .i64 ((Aa (AD (Al s_).2 (AH.mk (Al s_).1.Junctions (Al s_).1.Airways)).2 9).1 - 1), (Av (Aa (AD (Al s_).2 (AH.mk (Al s_).1.Junctions (Al s_).1.Airways)).2 9).2 (AH.mk (Al s_).1.Junctions (Al s_).1.Airways)).1, (Ak (Aa (Av (Aa (AD (Al s_).2 (AH.mk (Al s_).1.Junctions (Al s_).1.Airways)).2 9).2 (AH.mk (Al s_).1.Junctions (Al s_).1.Airways)).2 30).2 ([IntKind.wrap .i64 (20 * (Aa (Av (Aa (AD (Al s_).2 (AH.mk (Al s_).1.Junctions (Al s_).1.Airways)).2 9).2 (AH.mk (Al s_).1.Junctions (Al s_).1.Airways)).2 30).1), IntKind.wrap .i64 (20 * (Aa (Av (Aa (AD (Al s_).2 (AH.mk (Al s_).1.Junctions (Al s_).1.Airways)).2 9).2 (AH.mk (Al s_).1.Junctions (Al s_).1.Airways)).2 30).1), IntKind.wrap .i64 (20 * (Aa (Av (Aa (AD (Al s_).2 (AH.mk (Al s_).1.Junctions (Al s_).1.Airways)).2 9).2 (AH.mk (Al s_).1.Junctions (Al s_).1.Airways)).2 30).1), 0, 0, 36000, 36001, (-1)] : List Int)).1, (Ak (Aa (Av (Aa (AD (Al s_).2 (AH.mk (Al s_).1.Junctions (Al s_).1.Airways)).2 9).2 (AH.mk (Al s_).1.Junctions (Al s_).1.Airways)).2 30).2 ([IntKind.wrap .i64 (20 * (Aa (Av (Aa (AD (Al s_).2 (AH.mk (Al s_).1.Junctions (Al s_).1.Airways)).2 9).2 (AH.mk (Al s_).1.Junctions (Al s_).1.Airways)).2 30).1), IntKind.wrap .i64 (20 * (Aa (Av (Aa (AD (Al s_).2 (AH.mk (Al s_).1.Junctions (Al s_).1.Airways)).2 9).2 (AH.mk (Al s_).1.Junctions (Al s_).1.Airways)).2 30).1), IntKind.wrap .i64 (20 * (Aa (Av (Aa (AD (Al s_).2 (AH.mk (Al s_).1.Junctions (Al s_).1.Airways)).2 9).2 (AH.mk (Al s_).1.Junctions (Al s_).1.Airways)).2 30).1), 0, 0, 36000, 36001, (-1)] : List Int)).2.1)

/-! ### spec_l19DrawList -/
def CF (s_ : Aj) (m_ : AH) (v2 : (List Int) × Int × Int × Int) (rec1 : ((List Int) × Int × Int × (List Bi) × Int) → ((List Bi) × Aj)) (k1 : ((List Int) × Int × Int × (List Bi) × Int) → ((List Bi) × Aj)) (x1 : (List Int) × Int × Int × (List Bi) × Int) : (List Bi) × Aj :=
  bif decide (x1.2.2.2.2 < v2.2.2.2) then rec1 ((Av (Aj.mk x1.1 x1.2.1 x1.2.2.1) m_).2.code, (Av (Aj.mk x1.1 x1.2.1 x1.2.2.1) m_).2.at_, (Av (Aj.mk x1.1 x1.2.1 x1.2.2.1) m_).2.seed, x1.2.2.2.1 ++ ([Bi.mk (at' K_4 x1.2.2.2.2) (Av (Aj.mk x1.1 x1.2.1 x1.2.2.1) m_).1.Junction (Av (Aj.mk x1.1 x1.2.1 x1.2.2.1) m_).1.Speed] : List Bi), x1.2.2.2.2 + 1) else k1 (x1.1, x1.2.1, x1.2.2.1, x1.2.2.2.1, x1.2.2.2.2)
def AZ (s_ : Aj) (m_ : AH) : (List Bi) × Aj :=
  JN (fun j3 => bif (Ai (Aa s_ 4).2 12).1 then j3 ((Aa (Ai (Aa s_ 4).2 12).2 3).2.code, (Aa (Ai (Aa s_ 4).2 12).2 3).2.at_, (Aa (Ai (Aa s_ 4).2 12).2 3).2.seed, IntKind.wrap .i64 (7 + (Aa (Ai (Aa s_ 4).2 12).2 3).1)) else j3 ((Ai (Aa s_ 4).2 12).2.code, (Ai (Aa s_ 4).2 12).2.at_, (Ai (Aa s_ 4).2 12).2.seed, (Aa s_ 4).1)) (fun (v2 : (List Int) × Int × Int × Int) => LOOP (CF s_ m_ v2) (fun (x1 : (List Int) × Int × Int × (List Bi) × Int) => bif (Ai (Aj.mk x1.1 x1.2.1 x1.2.2.1) 16).1 then (x1.2.2.2.1 ++ ([(Av (Ai (Aj.mk x1.1 x1.2.1 x1.2.2.1) 16).2 m_).1] : List Bi), (Av (Ai (Aj.mk x1.1 x1.2.1 x1.2.2.1) 16).2 m_).2) else (x1.2.2.2.1, (Ai (Aj.mk x1.1 x1.2.1 x1.2.2.1) 16).2)) ((v2.2.2.2 - 0 : Int).toNat + 1) (v2.1, v2.2.1, v2.2.2.1, ([] : List Bi), 0))

/-! ### spec_l20DrawOne -/
def AN (s_ : Aj) (id : List UInt8) (junction : Int) : AI × Aj :=
  (AI.mk id junction (IntKind.wrap .i64 (1 + (Aa s_ 20).1)) (Ak (Aa s_ 20).2 ([0, 1000, 5000, 40000, 10000000] : List Int)).1, (Ak (Aa s_ 20).2 ([0, 1000, 5000, 40000, 10000000] : List Int)).2.1)

/-! ### spec_l20Bend -/
def BI (s_ : Aj) (x_ : AI) : AI × Aj :=
  bif (Aa s_ 20).1 == 0 then (AI.mk x_.Id (Ak (Aa s_ 20).2 ([(-1), 15, 16] : List Int)).1 x_.Places x_.Air, (Ak (Aa s_ 20).2 ([(-1), 15, 16] : List Int)).2.1) else bif (Aa s_ 20).1 == 1 then (AI.mk x_.Id x_.Junction (Ak (Aa s_ 20).2 K_9).1 x_.Air, (Ak (Aa s_ 20).2 K_9).2.1) else bif (Aa s_ 20).1 == 2 then (AI.mk x_.Id x_.Junction x_.Places (Ak (Aa s_ 20).2 ([(-1), 10000001] : List Int)).1, (Ak (Aa s_ 20).2 ([(-1), 10000001] : List Int)).2.1) else bif (Aa s_ 20).1 == 3 then (AI.mk (Ab (Aa s_ 20).2 K_5).1 x_.Junction x_.Places x_.Air, (Ab (Aa s_ 20).2 K_5).2.1) else (x_, (Aa s_ 20).2)

/-! ### spec_l01Dec -/
def Dr (n_ : Int) (x1 : (List Int) × Int) (v10 : (List Int)) (rec2 : ((List Int) × Int) → (List UInt8)) (k2 : ((List Int) × Int) → (List UInt8)) (x2 : (List Int) × Int) : (List UInt8) :=
  bif decide (0 ≤ x2.2) then rec2 (x2.1 ++ ([at' v10 x2.2] : List Int), x2.2 - 1) else k2 (x2.1, x2.2)
def m_spec_l01Dec_b1 (n_ : Int) (rec1 : ((List Int) × Int) → (List UInt8)) (k1 : ((List Int) × Int) → (List UInt8)) (x1 : (List Int) × Int) : (List UInt8) :=
  bif x1.2 != 0 then JN (fun j6 => bif decide ((Int.tmod x1.2 10) < 0) then j6 (IntKind.wrap .i64 (0 - (Int.tmod x1.2 10))) else j6 (Int.tmod x1.2 10)) (fun (v5 : Int) => rec1 (x1.1 ++ ([IntKind.wrap .u8 (IntKind.wrap .i64 (48 + v5))] : List Int), IntKind.wrap .i64 (Int.tdiv x1.2 10))) else k1 (x1.1, x1.2)
def BE (n_ : Int) : (List UInt8) :=
  bif n_ == 0 then ([48] : List UInt8) else LOOP (m_spec_l01Dec_b1 n_) (fun (x1 : (List Int) × Int) => JN (fun j11 => bif decide (n_ < 0) then j11 (x1.1 ++ ([45] : List Int)) else j11 x1.1) (fun (v10 : (List Int)) => LOOP (Dr n_ x1 v10) (fun (x2 : (List Int) × Int) => chars x2.1) (v10.length + 1) (K_6, IntKind.wrap .i64 ((v10.length : Int) - 1)))) (n_.natAbs + 1) (K_6, n_)

/-! ### spec_l20DrawList -/
def Dc (s_ : Aj) (m_ : AH) (x1 : (List Int) × Int × Int × (List AI) × Int) (rec2 : ((List Int) × Int × Int × (List AI) × Int) → ((List AI) × Aj)) (k2 : ((List Int) × Int × Int × (List AI) × Int) → ((List AI) × Aj)) (x2 : (List Int) × Int × Int × (List AI) × Int) : (List AI) × Aj :=
  bif decide (x2.2.2.2.2 < (Ak (Aa (Aj.mk x1.1 x1.2.1 x1.2.2.1) 20).2 ([8, 9] : List Int)).1) then rec2 ((AN (Aj.mk x2.1 x2.2.1 x2.2.2.1) (K_8 ++ (BE x2.2.2.2.2)) 0).2.code, (AN (Aj.mk x2.1 x2.2.1 x2.2.2.1) (K_8 ++ (BE x2.2.2.2.2)) 0).2.at_, (AN (Aj.mk x2.1 x2.2.1 x2.2.2.1) (K_8 ++ (BE x2.2.2.2.2)) 0).2.seed, x2.2.2.2.1 ++ ([(AN (Aj.mk x2.1 x2.2.1 x2.2.2.1) (K_8 ++ (BE x2.2.2.2.2)) 0).1] : List AI), x2.2.2.2.2 + 1) else k2 (x2.1, x2.2.1, x2.2.2.1, x2.2.2.2.1, x2.2.2.2.2)
def Dd (s_ : Aj) (m_ : AH) (rec1 : ((List Int) × Int × Int × (List AI) × Int) → ((List AI) × Aj)) (k1 : ((List Int) × Int × Int × (List AI) × Int) → ((List AI) × Aj)) (x1 : (List Int) × Int × Int × (List AI) × Int) : (List AI) × Aj :=
  bif decide (x1.2.2.2.2 < (K_3.length : Int)) then bif !(Ai (Aj.mk x1.1 x1.2.1 x1.2.2.1) 3).1 then rec1 ((AN (Aa (Ai (Aj.mk x1.1 x1.2.1 x1.2.2.1) 3).2 (AF 1 m_.Junctions)).2 (at' K_3 x1.2.2.2.2) (Aa (Ai (Aj.mk x1.1 x1.2.1 x1.2.2.1) 3).2 (AF 1 m_.Junctions)).1).2.code, (AN (Aa (Ai (Aj.mk x1.1 x1.2.1 x1.2.2.1) 3).2 (AF 1 m_.Junctions)).2 (at' K_3 x1.2.2.2.2) (Aa (Ai (Aj.mk x1.1 x1.2.1 x1.2.2.1) 3).2 (AF 1 m_.Junctions)).1).2.at_, (AN (Aa (Ai (Aj.mk x1.1 x1.2.1 x1.2.2.1) 3).2 (AF 1 m_.Junctions)).2 (at' K_3 x1.2.2.2.2) (Aa (Ai (Aj.mk x1.1 x1.2.1 x1.2.2.1) 3).2 (AF 1 m_.Junctions)).1).2.seed, x1.2.2.2.1 ++ ([(AN (Aa (Ai (Aj.mk x1.1 x1.2.1 x1.2.2.1) 3).2 (AF 1 m_.Junctions)).2 (at' K_3 x1.2.2.2.2) (Aa (Ai (Aj.mk x1.1 x1.2.1 x1.2.2.1) 3).2 (AF 1 m_.Junctions)).1).1] : List AI), x1.2.2.2.2 + 1) else rec1 ((Ai (Aj.mk x1.1 x1.2.1 x1.2.2.1) 3).2.code, (Ai (Aj.mk x1.1 x1.2.1 x1.2.2.1) 3).2.at_, (Ai (Aj.mk x1.1 x1.2.1 x1.2.2.1) 3).2.seed, x1.2.2.2.1, x1.2.2.2.2 + 1) else k1 (x1.1, x1.2.1, x1.2.2.1, x1.2.2.2.1, x1.2.2.2.2)
def A8 (s_ : Aj) (m_ : AH) : (List AI) × Aj :=
  LOOP (Dd s_ m_) (fun (x1 : (List Int) × Int × Int × (List AI) × Int) => bif (Aa (Aj.mk x1.1 x1.2.1 x1.2.2.1) 20).1 == 0 then (x1.2.2.2.1 ++ ([(BI (AN (Aa (Aj.mk x1.1 x1.2.1 x1.2.2.1) 20).2 ([122, 122] : List UInt8) 0).2 (AN (Aa (Aj.mk x1.1 x1.2.1 x1.2.2.1) 20).2 ([122, 122] : List UInt8) 0).1).1] : List AI), (BI (AN (Aa (Aj.mk x1.1 x1.2.1 x1.2.2.1) 20).2 ([122, 122] : List UInt8) 0).2 (AN (Aa (Aj.mk x1.1 x1.2.1 x1.2.2.1) 20).2 ([122, 122] : List UInt8) 0).1).2) else bif (Aa (Aj.mk x1.1 x1.2.1 x1.2.2.1) 20).1 == 1 then LOOP (Dc s_ m_ x1) (fun (x2 : (List Int) × Int × Int × (List AI) × Int) => (x2.2.2.2.1, Aj.mk x2.1 x2.2.1 x2.2.2.1)) (((Ak (Aa (Aj.mk x1.1 x1.2.1 x1.2.2.1) 20).2 ([8, 9] : List Int)).1 - 0 : Int).toNat + 1) ((Ak (Aa (Aj.mk x1.1 x1.2.1 x1.2.2.1) 20).2 ([8, 9] : List Int)).2.1.code, (Ak (Aa (Aj.mk x1.1 x1.2.1 x1.2.2.1) 20).2 ([8, 9] : List Int)).2.1.at_, (Ak (Aa (Aj.mk x1.1 x1.2.1 x1.2.2.1) 20).2 ([8, 9] : List Int)).2.1.seed, ([] : List AI), 0) else (x1.2.2.2.1, (Aa (Aj.mk x1.1 x1.2.1 x1.2.2.1) 20).2)) (((K_3.length : Int) - 0 : Int).toNat + 1) (s_.code, s_.at_, s_.seed, ([] : List AI), 0)

/-! ### spec_DrawAssignCrews -/
def Dp (code : List Int) (rec1 : ((List Int) × Int × Int × (List Int) × Int) → (AH × (List Int) × Int × (List Bi) × (List Int) × Int × (List AI) × Int)) (k1 : ((List Int) × Int × Int × (List Int) × Int) → (AH × (List Int) × Int × (List Bi) × (List Int) × Int × (List AI) × Int)) (x1 : (List Int) × Int × Int × (List Int) × Int) : AH × (List Int) × Int × (List Bi) × (List Int) × Int × (List AI) × Int :=
  bif decide (x1.2.2.2.2 < ((AZ (Ao (Ap code)).2.2.2.2.2 (Ao (Ap code)).1).1.length : Int)) then rec1 ((Aa (Aj.mk x1.1 x1.2.1 x1.2.2.1) 9).2.code, (Aa (Aj.mk x1.1 x1.2.1 x1.2.2.1) 9).2.at_, (Aa (Aj.mk x1.1 x1.2.1 x1.2.2.1) 9).2.seed, x1.2.2.2.1 ++ ([IntKind.wrap .i64 (1 + (Aa (Aj.mk x1.1 x1.2.1 x1.2.2.1) 9).1)] : List Int), x1.2.2.2.2 + 1) else k1 (x1.1, x1.2.1, x1.2.2.1, x1.2.2.2.1, x1.2.2.2.2)
def Ac (code : List Int) : AH × (List Int) × Int × (List Bi) × (List Int) × Int × (List AI) × Int :=
  LOOP (Dp code) (fun (x1 : (List Int) × Int × Int × (List Int) × Int) => JN (fun j7 => bif (decide (0 < (x1.2.2.2.1.length : Int))) && (Ai (Aj.mk x1.1 x1.2.1 x1.2.2.1) 14).1 then j7 ((Ak (bif (decide (0 < (x1.2.2.2.1.length : Int))) then (Ai (Aj.mk x1.1 x1.2.1 x1.2.2.1) 14).2 else (Aj.mk x1.1 x1.2.1 x1.2.2.1)) K_9).2.1.code, (Ak (bif (decide (0 < (x1.2.2.2.1.length : Int))) then (Ai (Aj.mk x1.1 x1.2.1 x1.2.2.1) 14).2 else (Aj.mk x1.1 x1.2.1 x1.2.2.1)) K_9).2.1.at_, (Ak (bif (decide (0 < (x1.2.2.2.1.length : Int))) then (Ai (Aj.mk x1.1 x1.2.1 x1.2.2.1) 14).2 else (Aj.mk x1.1 x1.2.1 x1.2.2.1)) K_9).2.1.seed, put' x1.2.2.2.1 0 (Ak (bif (decide (0 < (x1.2.2.2.1.length : Int))) then (Ai (Aj.mk x1.1 x1.2.1 x1.2.2.1) 14).2 else (Aj.mk x1.1 x1.2.1 x1.2.2.1)) K_9).1) else j7 ((bif (decide (0 < (x1.2.2.2.1.length : Int))) then (Ai (Aj.mk x1.1 x1.2.1 x1.2.2.1) 14).2 else (Aj.mk x1.1 x1.2.1 x1.2.2.1)).code, (bif (decide (0 < (x1.2.2.2.1.length : Int))) then (Ai (Aj.mk x1.1 x1.2.1 x1.2.2.1) 14).2 else (Aj.mk x1.1 x1.2.1 x1.2.2.1)).at_, (bif (decide (0 < (x1.2.2.2.1.length : Int))) then (Ai (Aj.mk x1.1 x1.2.1 x1.2.2.1) 14).2 else (Aj.mk x1.1 x1.2.1 x1.2.2.1)).seed, x1.2.2.2.1)) (fun (v6 : (List Int) × Int × Int × (List Int)) => JN (fun j11 => bif (Ai (Aa (A8 (Aj.mk v6.1 v6.2.1 v6.2.2.1) (Ao (Ap code)).1).2 400).2 6).1 then j11 (Ak (Ai (Aa (A8 (Aj.mk v6.1 v6.2.1 v6.2.2.1) (Ao (Ap code)).1).2 400).2 6).2 ([0, 1, 4, 20000, 20001] : List Int)).1 else j11 (IntKind.wrap .i64 ((Aa (A8 (Aj.mk v6.1 v6.2.1 v6.2.2.1) (Ao (Ap code)).1).2 400).1 + 1))) (fun (v10 : Int) => ((Ao (Ap code)).1, (Ao (Ap code)).2.1, (Ao (Ap code)).2.2.1, (AZ (Ao (Ap code)).2.2.2.2.2 (Ao (Ap code)).1).1, v6.2.2.2, (Ao (Ap code)).2.2.2.2.1, (A8 (Aj.mk v6.1 v6.2.1 v6.2.2.1) (Ao (Ap code)).1).1, v10)))) ((((AZ (Ao (Ap code)).2.2.2.2.2 (Ao (Ap code)).1).1.length : Int) - 0 : Int).toNat + 1) ((AZ (Ao (Ap code)).2.2.2.2.2 (Ao (Ap code)).1).2.code, (AZ (Ao (Ap code)).2.2.2.2.2 (Ao (Ap code)).1).2.at_, (AZ (Ao (Ap code)).2.2.2.2.2 (Ao (Ap code)).1).2.seed, K_6, 0)

/-! ### slices_IndexFunc_int64 -/
def BH (s_ : List Int) (f : (Int → Bool)) (rec1 : Int → Int) (k1 : Int → Int) (x1 : Int) : Int :=
  bif decide (x1 < (s_.length : Int)) then bif f (at' s_ x1) then x1 else rec1 (x1 + 1) else k1 x1
def CO (s_ : List Int) (f : Int → Bool) : Int :=
  LOOP (BH s_ f) (fun (x1 : Int) => (-1)) (((s_.length : Int) - 0 : Int).toNat + 1) 0

/-! ### slices_ContainsFunc_int64 -/
def BO (s_ : List Int) (f : Int → Bool) : Bool :=
  decide (0 ≤ (CO s_ f))

/-! ### impl_within -/
def Bf (n_ : Int) (low : Int) (high : Int) : Bool :=
  (decide (low ≤ n_)) && (decide (n_ ≤ high))

/-! ### impl_allWithin_1 -/
def CG (n_ : Int) (p1 : Int) (p2 : Int) : Bool :=
  !(Bf n_ p1 p2)

/-! ### impl_allWithin -/
def Bn (list : List Int) (low : Int) (high : Int) : Bool :=
  !(BO list (fun (a0 : Int) => CG a0 low high))

/-! ### impl_onlyNameBytes -/
def CT (s_ : List UInt8) (rec1 : Int → Bool) (k1 : Int → Bool) (x1 : Int) : Bool :=
  bif decide (x1 < (s_.length : Int)) then bif ((decide ((((s_.getD x1.toNat 0).toNat : Nat) : Int) < 97)) || (decide (122 < (((s_.getD x1.toNat 0).toNat : Nat) : Int)))) && ((decide ((((s_.getD x1.toNat 0).toNat : Nat) : Int) < 48)) || (decide (57 < (((s_.getD x1.toNat 0).toNat : Nat) : Int)))) then false else rec1 (x1 + 1) else k1 x1
def CL (s_ : List UInt8) : Bool :=
  LOOP (CT s_) (fun (x1 : Int) => true) (((s_.length : Int) - 0 : Int).toNat + 1) 0

/-! ### impl_IsName -/
def CU (s_ : List UInt8) : Bool :=
  bif (((decide ((s_.length : Int) < 1)) || (decide (10 < (s_.length : Int)))) || (decide ((((s_.getD (0 : Int).toNat 0).toNat : Nat) : Int) < 97))) || (decide (122 < (((s_.getD (0 : Int).toNat 0).toNat : Nat) : Int))) then false else CL s_

/-! ### impl_junctionOk -/
def B1 (n_ : Int) : Bool :=
  Bf n_ 0 15

/-! ### impl_ValidAirway -/
def CH (a : Au) : Bool :=
  (((((((CU a.Id) && (B1 a.From)) && (B1 a.To)) && (a.From != a.To)) && (Bf a.Length 1 10000)) && (Bf a.Section 50 5000)) && (Bf a.Friction 1 1000)) && (Bf a.Shock 0 1000)

/-! ### impl_Mine_hasJunction -/
def A2 (m_ : AH) (n_ : Int) : Bool :=
  Bf n_ 0 (IntKind.wrap .i64 (m_.Junctions - 1))

/-! ### impl_Mine_hasEnds -/
def CV (m_ : AH) (a : Au) : Bool :=
  (A2 m_ a.From) && (A2 m_ a.To)

/-! ### impl_ValidMine -/
def Dv (m_ : AH) (rec1 : Int → Bool) (k1 : Int → Bool) (x1 : Int) : Bool :=
  bif decide (x1 < (m_.Airways.length : Int)) then bif ((!(CH (at' m_.Airways x1))) || (!(CV m_ (at' m_.Airways x1)))) || ((decide (0 < x1)) && (strB .leq (at' m_.Airways x1).Id (at' m_.Airways (x1 - 1)).Id)) then false else rec1 (x1 + 1) else k1 x1
def Bz (m_ : AH) : Bool :=
  bif (!(Bf m_.Junctions 1 16)) || (decide (24 < (m_.Airways.length : Int))) then false else LOOP (Dv m_) (fun (x1 : Int) => true) (((m_.Airways.length : Int) - 0 : Int).toNat + 1) 0

/-! ### impl_Crew_valid -/
def Cd (c_ : Bi) : Bool :=
  ((CU c_.Id) && (B1 c_.Junction)) && (Bf c_.Speed 10 300)

/-! ### impl_ValidCrews -/
def Dl (m_ : AH) (list : List Bi) (rec1 : Int → Bool) (k1 : Int → Bool) (x1 : Int) : Bool :=
  bif decide (x1 < (list.length : Int)) then bif ((!(Cd (at' list x1))) || (!(A2 m_ (at' list x1).Junction))) || ((decide (0 < x1)) && (strB .leq (at' list x1).Id (at' list (x1 - 1)).Id)) then false else rec1 (x1 + 1) else k1 x1
def Ce (m_ : AH) (list : List Bi) : Bool :=
  bif (!(Bz m_)) || (decide (8 < (list.length : Int))) then false else LOOP (Dl m_ list) (fun (x1 : Int) => true) (((list.length : Int) - 0 : Int).toNat + 1) 0

/-! ### impl_increasing -/
def m_impl_increasing_b1 (list : List Int) (rec1 : Int → Bool) (k1 : Int → Bool) (x1 : Int) : Bool :=
  bif decide (x1 < (list.length : Int)) then bif decide ((at' list x1) ≤ (at' list (x1 - 1))) then false else rec1 (x1 + 1) else k1 x1
def m_impl_increasing (list : List Int) : Bool :=
  LOOP (m_impl_increasing_b1 list) (fun (x1 : Int) => true) (((list.length : Int) - 1 : Int).toNat + 1) 1

/-! ### impl_Mine_hasJunctions -/
def Cn (m_ : AH) (list : List Int) : Bool :=
  (m_impl_increasing list) && (Bn list 0 (IntKind.wrap .i64 (m_.Junctions - 1)))

/-! ### impl_escapeOf -/
def AA (m_ : AH) (arrivals : List Int) (blocked : Int) (list : List Bi) (start : Int) (exits : List Int) : Cb × Int :=
  bif !(Ce m_ list) then (Cb.mk (AH.mk 0 ([] : List Au)) K_6 0, 1) else bif (!(Bf blocked (-1) ((m_.Airways.length : Int) - 1))) || (!(Bf start 0 36000)) then (Cb.mk (AH.mk 0 ([] : List Au)) K_6 0, 2) else bif (((arrivals.length : Int) != m_.Junctions) || (!(Bn arrivals (-1) 1000000000000))) || (!(Cn m_ exits)) then (Cb.mk (AH.mk 0 ([] : List Au)) K_6 0, 7) else (Cb.mk m_ arrivals blocked, 0)

/-! ### impl_Refuge_valid -/
def BB (x_ : AI) : Bool :=
  (((CU x_.Id) && (B1 x_.Junction)) && (Bf x_.Places 1 200)) && (Bf x_.Air 0 10000000)

/-! ### impl_ValidRefuges -/
def C6 (m_ : AH) (list : List AI) (rec1 : Int → Bool) (k1 : Int → Bool) (x1 : Int) : Bool :=
  bif decide (x1 < (list.length : Int)) then bif ((!(BB (at' list x1))) || (!(A2 m_ (at' list x1).Junction))) || ((decide (0 < x1)) && (strB .leq (at' list x1).Id (at' list (x1 - 1)).Id)) then false else rec1 (x1 + 1) else k1 x1
def Bk (m_ : AH) (list : List AI) : Bool :=
  bif (!(Bz m_)) || (decide (8 < (list.length : Int))) then false else LOOP (C6 m_ list) (fun (x1 : Int) => true) (((list.length : Int) - 0 : Int).toNat + 1) 0

/-! ### impl_budgetValid -/
def Co (budget : Int) : Bool :=
  Bf budget 1 20000

/-! ### math_bits_Mul32 -/
def CP (x_ : Int) (y : Int) : Int × Int :=
  (IntKind.wrap .u32 (Int.fdiv (IntKind.wrap .u64 ((IntKind.wrap .u64 x_) * (IntKind.wrap .u64 y))) (2 ^ min (32 : Int).toNat 64)), IntKind.wrap .u32 (IntKind.wrap .u64 ((IntKind.wrap .u64 x_) * (IntKind.wrap .u64 y))))

/-! ### math_bits_Mul64 -/
def CQ (x_ : Int) (y : Int) : Int × Int :=
  (IntKind.wrap .u64 ((IntKind.wrap .u64 ((IntKind.wrap .u64 ((Int.fdiv x_ (2 ^ min (32 : Int).toNat 64)) * (Int.fdiv y (2 ^ min (32 : Int).toNat 64)))) + (Int.fdiv (IntKind.wrap .u64 ((IntKind.wrap .u64 ((Int.fdiv x_ (2 ^ min (32 : Int).toNat 64)) * (IntKind.wrap .u64 ((((BitVec.ofInt (IntKind.bits .u64) y) &&& (BitVec.ofInt (IntKind.bits .u64) 4294967295)).toNat : Nat) : Int)))) + (Int.fdiv (IntKind.wrap .u64 ((IntKind.wrap .u64 ((((BitVec.ofInt (IntKind.bits .u64) x_) &&& (BitVec.ofInt (IntKind.bits .u64) 4294967295)).toNat : Nat) : Int)) * (IntKind.wrap .u64 ((((BitVec.ofInt (IntKind.bits .u64) y) &&& (BitVec.ofInt (IntKind.bits .u64) 4294967295)).toNat : Nat) : Int)))) (2 ^ min (32 : Int).toNat 64)))) (2 ^ min (32 : Int).toNat 64)))) + (Int.fdiv (IntKind.wrap .u64 ((IntKind.wrap .u64 ((((BitVec.ofInt (IntKind.bits .u64) (IntKind.wrap .u64 ((IntKind.wrap .u64 ((Int.fdiv x_ (2 ^ min (32 : Int).toNat 64)) * (IntKind.wrap .u64 ((((BitVec.ofInt (IntKind.bits .u64) y) &&& (BitVec.ofInt (IntKind.bits .u64) 4294967295)).toNat : Nat) : Int)))) + (Int.fdiv (IntKind.wrap .u64 ((IntKind.wrap .u64 ((((BitVec.ofInt (IntKind.bits .u64) x_) &&& (BitVec.ofInt (IntKind.bits .u64) 4294967295)).toNat : Nat) : Int)) * (IntKind.wrap .u64 ((((BitVec.ofInt (IntKind.bits .u64) y) &&& (BitVec.ofInt (IntKind.bits .u64) 4294967295)).toNat : Nat) : Int)))) (2 ^ min (32 : Int).toNat 64))))) &&& (BitVec.ofInt (IntKind.bits .u64) 4294967295)).toNat : Nat) : Int)) + (IntKind.wrap .u64 ((IntKind.wrap .u64 ((((BitVec.ofInt (IntKind.bits .u64) x_) &&& (BitVec.ofInt (IntKind.bits .u64) 4294967295)).toNat : Nat) : Int)) * (Int.fdiv y (2 ^ min (32 : Int).toNat 64)))))) (2 ^ min (32 : Int).toNat 64))), IntKind.wrap .u64 (x_ * y))

/-! ### math_bits_Mul -/
def B5 (x_ : Int) (y : Int) : Int × Int :=
  bif false then (IntKind.wrap .u64 (CP (IntKind.wrap .u32 x_) (IntKind.wrap .u32 y)).1, IntKind.wrap .u64 (CP (IntKind.wrap .u32 x_) (IntKind.wrap .u32 y)).2) else ((CQ x_ y).1, (CQ x_ y).2)

/-! ### slices_Repeat_int64 -/
def Cp (x_ : List Int) (count : Int) (rec1 : ((List Int) × Int) → (List Int)) (k1 : ((List Int) × Int) → (List Int)) (x1 : (List Int) × Int) : (List Int) :=
  bif decide (x1.2 < (x1.1.length : Int)) then rec1 (cpy x1.1 (x1.2.toNat) ((pre' x1.1 x1.2).take (min (pre' x1.1 x1.2).length ((x1.1.length : Int).toNat - x1.2.toNat))), IntKind.wrap .i64 (x1.2 + (((min (pre' x1.1 x1.2).length ((x1.1.length : Int).toNat - x1.2.toNat)) : Nat) : Int))) else k1 (x1.1, x1.2)
def Bh (x_ : List Int) (count : Int) : (List Int) :=
  LOOP (Cp x_ count) (fun (x1 : (List Int) × Int) => x1.1) (count.toNat + 1) (cpy (List.replicate (IntKind.wrap .i64 (B5 (IntKind.wrap .u64 (x_.length : Int)) (IntKind.wrap .u64 count)).2 : Int).toNat (0 : Int)) (0) (x_.take (min x_.length (List.replicate (IntKind.wrap .i64 (B5 (IntKind.wrap .u64 (x_.length : Int)) (IntKind.wrap .u64 count)).2 : Int).toNat (0 : Int)).length)), (((min x_.length (List.replicate (IntKind.wrap .i64 (B5 (IntKind.wrap .u64 (x_.length : Int)) (IntKind.wrap .u64 count)).2 : Int).toNat (0 : Int)).length) : Nat) : Int))

/-! ### impl_escape_mayBe -/
def Cf (e : Cb) (junction : Int) (second : Int) : Bool :=
  (decide ((at' e.arrivals junction) < 0)) || (decide (second < (at' e.arrivals junction)))

/-! ### impl_divUp -/
def BP (a : Int) (b : Int) : Int :=
  IntKind.wrap .i64 (Int.tdiv (IntKind.wrap .i64 ((IntKind.wrap .i64 (a + b)) - 1)) b)

/-! ### impl_Airway_walkTime -/
def A7 (a : Au) (speed : Int) : Int :=
  BP (IntKind.wrap .i64 (100 * a.Length)) speed

/-! ### impl_escape_times -/
def BL (e : Cb) (c_ : Bi) (start : Int) (rec1 : ((List Int) × Bool) → (List Int)) (k1 : ((List Int) × Bool) → (List Int)) (x1 : (List Int) × Bool) (rec2 : ((List Int) × Bool × Int) → (List Int)) (k2 : ((List Int) × Bool × Int) → (List Int)) (x2 : (List Int) × Bool × Int) (rec3 : ((List Int) × Bool × Int) → (List Int)) (k3 : ((List Int) × Bool × Int) → (List Int)) (x3 : (List Int) × Bool × Int) : (List Int) :=
  bif decide (x3.2.2 < 2) then bif (((x2.2.2 != e.blocked) && (decide (0 ≤ (at' x3.1 (at' ([(at' e.mine.Airways x2.2.2).From, (at' e.mine.Airways x2.2.2).To] : List Int) x3.2.2))))) && ((decide ((at' x3.1 (at' ([(at' e.mine.Airways x2.2.2).To, (at' e.mine.Airways x2.2.2).From] : List Int) x3.2.2)) < 0)) || (decide ((IntKind.wrap .i64 ((at' x3.1 (at' ([(at' e.mine.Airways x2.2.2).From, (at' e.mine.Airways x2.2.2).To] : List Int) x3.2.2)) + (A7 (at' e.mine.Airways x2.2.2) c_.Speed))) < (at' x3.1 (at' ([(at' e.mine.Airways x2.2.2).To, (at' e.mine.Airways x2.2.2).From] : List Int) x3.2.2)))))) && (Cf e (at' ([(at' e.mine.Airways x2.2.2).To, (at' e.mine.Airways x2.2.2).From] : List Int) x3.2.2) (IntKind.wrap .i64 ((at' x3.1 (at' ([(at' e.mine.Airways x2.2.2).From, (at' e.mine.Airways x2.2.2).To] : List Int) x3.2.2)) + (A7 (at' e.mine.Airways x2.2.2) c_.Speed)))) then rec3 (put' x3.1 (at' ([(at' e.mine.Airways x2.2.2).To, (at' e.mine.Airways x2.2.2).From] : List Int) x3.2.2) (IntKind.wrap .i64 ((at' x3.1 (at' ([(at' e.mine.Airways x2.2.2).From, (at' e.mine.Airways x2.2.2).To] : List Int) x3.2.2)) + (A7 (at' e.mine.Airways x2.2.2) c_.Speed))), true, x3.2.2 + 1) else rec3 (x3.1, x3.2.1, x3.2.2 + 1) else k3 (x3.1, x3.2.1, x3.2.2)
def Cc (e : Cb) (c_ : Bi) (start : Int) (rec1 : ((List Int) × Bool) → (List Int)) (k1 : ((List Int) × Bool) → (List Int)) (x1 : (List Int) × Bool) (rec2 : ((List Int) × Bool × Int) → (List Int)) (k2 : ((List Int) × Bool × Int) → (List Int)) (x2 : (List Int) × Bool × Int) : (List Int) :=
  bif decide (x2.2.2 < (e.mine.Airways.length : Int)) then LOOP (BL e c_ start rec1 k1 x1 rec2 k2 x2) (fun (x3 : (List Int) × Bool × Int) => rec2 (x3.1, x3.2.1, x2.2.2 + 1)) ((2 - 0 : Int).toNat + 1) (x2.1, x2.2.1, 0) else k2 (x2.1, x2.2.1, x2.2.2)
def CC (e : Cb) (c_ : Bi) (start : Int) (rec1 : ((List Int) × Bool) → (List Int)) (k1 : ((List Int) × Bool) → (List Int)) (x1 : (List Int) × Bool) : (List Int) :=
  bif x1.2 then LOOP (Cc e c_ start rec1 k1 x1) (fun (x2 : (List Int) × Bool × Int) => rec1 (x2.1, x2.2.1)) (((e.mine.Airways.length : Int) - 0 : Int).toNat + 1) (x1.1, false, 0) else k1 (x1.1, x1.2)
def Bm (e : Cb) (c_ : Bi) (start : Int) : (List Int) :=
  bif !(Cf e c_.Junction start) then Bh K_7 e.mine.Junctions else LOOP (CC e c_ start) (fun (x1 : (List Int) × Bool) => x1.1) (300000000000) (put' (Bh K_7 e.mine.Junctions) c_.Junction start, true)

/-! ### slices_Clone_int64 -/
def BT (s_ : List Int) : (List Int) :=
  K_6 ++ s_

/-! ### impl_sumOf -/
def DC (list : List Int) (rec1 : (Int × Int) → Int) (k1 : (Int × Int) → Int) (x1 : Int × Int) : Int :=
  bif decide (x1.2 < (list.length : Int)) then rec1 (IntKind.wrap .i64 (x1.1 + (at' list x1.2)), x1.2 + 1) else k1 (x1.1, x1.2)
def Ck (list : List Int) : Int :=
  LOOP (DC list) (fun (x1 : Int × Int) => x1.1) (((list.length : Int) - 0 : Int).toNat + 1) (0, 0)

/-! ### impl_placeSearch_node -/
def Aq (self_ : Ar → Int → Ar) (s_ : Ar) (place : Int) (persons : Int) : Ar :=
  bif decide (s_.budget < 0) then s_ else bif decide ((IntKind.wrap .i64 (s_.budget - 1)) < 0) then Ar.mk s_.sizes s_.reached s_.free (IntKind.wrap .i64 (s_.budget - 1)) s_.places s_.best s_.most else Ar.mk s_.sizes (self_ (Ar.mk s_.sizes s_.reached s_.free (IntKind.wrap .i64 (s_.budget - 1)) (s_.places ++ ([place] : List Int)) s_.best s_.most) persons).reached (self_ (Ar.mk s_.sizes s_.reached s_.free (IntKind.wrap .i64 (s_.budget - 1)) (s_.places ++ ([place] : List Int)) s_.best s_.most) persons).free (self_ (Ar.mk s_.sizes s_.reached s_.free (IntKind.wrap .i64 (s_.budget - 1)) (s_.places ++ ([place] : List Int)) s_.best s_.most) persons).budget (pre' (self_ (Ar.mk s_.sizes s_.reached s_.free (IntKind.wrap .i64 (s_.budget - 1)) (s_.places ++ ([place] : List Int)) s_.best s_.most) persons).places (IntKind.wrap .i64 (((self_ (Ar.mk s_.sizes s_.reached s_.free (IntKind.wrap .i64 (s_.budget - 1)) (s_.places ++ ([place] : List Int)) s_.best s_.most) persons).places.length : Int) - 1))) (self_ (Ar.mk s_.sizes s_.reached s_.free (IntKind.wrap .i64 (s_.budget - 1)) (s_.places ++ ([place] : List Int)) s_.best s_.most) persons).best (self_ (Ar.mk s_.sizes s_.reached s_.free (IntKind.wrap .i64 (s_.budget - 1)) (s_.places ++ ([place] : List Int)) s_.best s_.most) persons).most

/-! ### impl_placeSearch_visit -/
def B6 (self_ : Ar → Int → Ar) (s_ : Ar) (persons : Int) (rec1 : ((List (List Int)) × (List Int) × Int × (List Int) × (List Int) × Int × Int) → Ar) (k1 : ((List (List Int)) × (List Int) × Int × (List Int) × (List Int) × Int × Int) → Ar) (x1 : (List (List Int)) × (List Int) × Int × (List Int) × (List Int) × Int × Int) : Ar :=
  bif decide (x1.2.2.2.2.2.2 < ((at' s_.reached (s_.places.length : Int)).length : Int)) then bif (decide ((at' s_.sizes (s_.places.length : Int)) ≤ (at' x1.2.1 (at' (at' s_.reached (s_.places.length : Int)) x1.2.2.2.2.2.2)))) && (decide (x1.2.2.2.2.2.1 < (IntKind.wrap .i64 ((IntKind.wrap .i64 (persons + (at' s_.sizes (s_.places.length : Int)))) + (Ck (cut' s_.sizes ((s_.places.length : Int) + 1) (s_.sizes.length : Int))))))) then rec1 ((Aq self_ (Ar.mk s_.sizes x1.1 (put' x1.2.1 (at' (at' s_.reached (s_.places.length : Int)) x1.2.2.2.2.2.2) (IntKind.wrap .i64 ((at' x1.2.1 (at' (at' s_.reached (s_.places.length : Int)) x1.2.2.2.2.2.2)) - (at' s_.sizes (s_.places.length : Int))))) x1.2.2.1 x1.2.2.2.1 x1.2.2.2.2.1 x1.2.2.2.2.2.1) (at' (at' s_.reached (s_.places.length : Int)) x1.2.2.2.2.2.2) (IntKind.wrap .i64 (persons + (at' s_.sizes (s_.places.length : Int))))).reached, put' (Aq self_ (Ar.mk s_.sizes x1.1 (put' x1.2.1 (at' (at' s_.reached (s_.places.length : Int)) x1.2.2.2.2.2.2) (IntKind.wrap .i64 ((at' x1.2.1 (at' (at' s_.reached (s_.places.length : Int)) x1.2.2.2.2.2.2)) - (at' s_.sizes (s_.places.length : Int))))) x1.2.2.1 x1.2.2.2.1 x1.2.2.2.2.1 x1.2.2.2.2.2.1) (at' (at' s_.reached (s_.places.length : Int)) x1.2.2.2.2.2.2) (IntKind.wrap .i64 (persons + (at' s_.sizes (s_.places.length : Int))))).free (at' (at' s_.reached (s_.places.length : Int)) x1.2.2.2.2.2.2) (IntKind.wrap .i64 ((at' (Aq self_ (Ar.mk s_.sizes x1.1 (put' x1.2.1 (at' (at' s_.reached (s_.places.length : Int)) x1.2.2.2.2.2.2) (IntKind.wrap .i64 ((at' x1.2.1 (at' (at' s_.reached (s_.places.length : Int)) x1.2.2.2.2.2.2)) - (at' s_.sizes (s_.places.length : Int))))) x1.2.2.1 x1.2.2.2.1 x1.2.2.2.2.1 x1.2.2.2.2.2.1) (at' (at' s_.reached (s_.places.length : Int)) x1.2.2.2.2.2.2) (IntKind.wrap .i64 (persons + (at' s_.sizes (s_.places.length : Int))))).free (at' (at' s_.reached (s_.places.length : Int)) x1.2.2.2.2.2.2)) + (at' s_.sizes (s_.places.length : Int)))), (Aq self_ (Ar.mk s_.sizes x1.1 (put' x1.2.1 (at' (at' s_.reached (s_.places.length : Int)) x1.2.2.2.2.2.2) (IntKind.wrap .i64 ((at' x1.2.1 (at' (at' s_.reached (s_.places.length : Int)) x1.2.2.2.2.2.2)) - (at' s_.sizes (s_.places.length : Int))))) x1.2.2.1 x1.2.2.2.1 x1.2.2.2.2.1 x1.2.2.2.2.2.1) (at' (at' s_.reached (s_.places.length : Int)) x1.2.2.2.2.2.2) (IntKind.wrap .i64 (persons + (at' s_.sizes (s_.places.length : Int))))).budget, (Aq self_ (Ar.mk s_.sizes x1.1 (put' x1.2.1 (at' (at' s_.reached (s_.places.length : Int)) x1.2.2.2.2.2.2) (IntKind.wrap .i64 ((at' x1.2.1 (at' (at' s_.reached (s_.places.length : Int)) x1.2.2.2.2.2.2)) - (at' s_.sizes (s_.places.length : Int))))) x1.2.2.1 x1.2.2.2.1 x1.2.2.2.2.1 x1.2.2.2.2.2.1) (at' (at' s_.reached (s_.places.length : Int)) x1.2.2.2.2.2.2) (IntKind.wrap .i64 (persons + (at' s_.sizes (s_.places.length : Int))))).places, (Aq self_ (Ar.mk s_.sizes x1.1 (put' x1.2.1 (at' (at' s_.reached (s_.places.length : Int)) x1.2.2.2.2.2.2) (IntKind.wrap .i64 ((at' x1.2.1 (at' (at' s_.reached (s_.places.length : Int)) x1.2.2.2.2.2.2)) - (at' s_.sizes (s_.places.length : Int))))) x1.2.2.1 x1.2.2.2.1 x1.2.2.2.2.1 x1.2.2.2.2.2.1) (at' (at' s_.reached (s_.places.length : Int)) x1.2.2.2.2.2.2) (IntKind.wrap .i64 (persons + (at' s_.sizes (s_.places.length : Int))))).best, (Aq self_ (Ar.mk s_.sizes x1.1 (put' x1.2.1 (at' (at' s_.reached (s_.places.length : Int)) x1.2.2.2.2.2.2) (IntKind.wrap .i64 ((at' x1.2.1 (at' (at' s_.reached (s_.places.length : Int)) x1.2.2.2.2.2.2)) - (at' s_.sizes (s_.places.length : Int))))) x1.2.2.1 x1.2.2.2.1 x1.2.2.2.2.1 x1.2.2.2.2.2.1) (at' (at' s_.reached (s_.places.length : Int)) x1.2.2.2.2.2.2) (IntKind.wrap .i64 (persons + (at' s_.sizes (s_.places.length : Int))))).most, x1.2.2.2.2.2.2 + 1) else rec1 (x1.1, x1.2.1, x1.2.2.1, x1.2.2.2.1, x1.2.2.2.2.1, x1.2.2.2.2.2.1, x1.2.2.2.2.2.2 + 1) else k1 (x1.1, x1.2.1, x1.2.2.1, x1.2.2.2.1, x1.2.2.2.2.1, x1.2.2.2.2.2.1, x1.2.2.2.2.2.2)
def m_impl_placeSearch_visit_body (self_ : Ar → Int → Ar) (s_ : Ar) (persons : Int) : Ar :=
  bif (s_.places.length : Int) == (s_.sizes.length : Int) then Ar.mk s_.sizes s_.reached s_.free s_.budget s_.places (BT s_.places) persons else LOOP (B6 self_ s_ persons) (fun (x1 : (List (List Int)) × (List Int) × Int × (List Int) × (List Int) × Int × Int) => bif decide (x1.2.2.2.2.2.1 < (IntKind.wrap .i64 (persons + (Ck (cut' s_.sizes ((s_.places.length : Int) + 1) (s_.sizes.length : Int)))))) then Ar.mk s_.sizes (Aq self_ (Ar.mk s_.sizes x1.1 x1.2.1 x1.2.2.1 x1.2.2.2.1 x1.2.2.2.2.1 x1.2.2.2.2.2.1) (-1) persons).reached (Aq self_ (Ar.mk s_.sizes x1.1 x1.2.1 x1.2.2.1 x1.2.2.2.1 x1.2.2.2.2.1 x1.2.2.2.2.2.1) (-1) persons).free (Aq self_ (Ar.mk s_.sizes x1.1 x1.2.1 x1.2.2.1 x1.2.2.2.1 x1.2.2.2.2.1 x1.2.2.2.2.2.1) (-1) persons).budget (Aq self_ (Ar.mk s_.sizes x1.1 x1.2.1 x1.2.2.1 x1.2.2.2.1 x1.2.2.2.2.1 x1.2.2.2.2.2.1) (-1) persons).places (Aq self_ (Ar.mk s_.sizes x1.1 x1.2.1 x1.2.2.1 x1.2.2.2.1 x1.2.2.2.2.1 x1.2.2.2.2.2.1) (-1) persons).best (Aq self_ (Ar.mk s_.sizes x1.1 x1.2.1 x1.2.2.1 x1.2.2.2.1 x1.2.2.2.2.1 x1.2.2.2.2.2.1) (-1) persons).most else Ar.mk s_.sizes x1.1 x1.2.1 x1.2.2.1 x1.2.2.2.1 x1.2.2.2.2.1 x1.2.2.2.2.2.1) ((((at' s_.reached (s_.places.length : Int)).length : Int) - 0 : Int).toNat + 1) (s_.reached, s_.free, s_.budget, s_.places, s_.best, s_.most, 0)
def m_impl_placeSearch_visit_n : Nat → Ar → Int → Ar
  | 0 => fun _ _ => default
  | fuel + 1 => m_impl_placeSearch_visit_body (m_impl_placeSearch_visit_n fuel)
def A9 (s_ : Ar) (persons : Int) : Ar := m_impl_placeSearch_visit_n (((s_.sizes.length : Int) - s_.places.length).toNat + 1) s_ persons

/-! ### impl_AssignCrews -/
def De (m_ : AH) (arrivals : List Int) (blocked : Int) (crews : List Bi) (sizes : List Int) (start : Int) (list : List AI) (budget : Int) (x1 : (List Int) × Int) (rec2 : ((List (List Int)) × Int) → ((List Int) × Int × Int)) (k2 : ((List (List Int)) × Int) → ((List Int) × Int × Int)) (x2 : (List (List Int)) × Int) (rec3 : ((List Int) × Int) → ((List Int) × Int × Int)) (k3 : ((List Int) × Int) → ((List Int) × Int × Int)) (x3 : (List Int) × Int) : (List Int) × Int × Int :=
  bif decide (x3.2 < (list.length : Int)) then bif decide (0 ≤ (at' (Bm (AA m_ arrivals blocked crews start []).1 (at' crews x2.2) start) (at' list x3.2).Junction)) then rec3 (x3.1 ++ ([x3.2] : List Int), x3.2 + 1) else rec3 (x3.1, x3.2 + 1) else k3 (x3.1, x3.2)
def Df (m_ : AH) (arrivals : List Int) (blocked : Int) (crews : List Bi) (sizes : List Int) (start : Int) (list : List AI) (budget : Int) (x1 : (List Int) × Int) (rec2 : ((List (List Int)) × Int) → ((List Int) × Int × Int)) (k2 : ((List (List Int)) × Int) → ((List Int) × Int × Int)) (x2 : (List (List Int)) × Int) : (List Int) × Int × Int :=
  bif decide (x2.2 < (crews.length : Int)) then LOOP (De m_ arrivals blocked crews sizes start list budget x1 rec2 k2 x2) (fun (x3 : (List Int) × Int) => rec2 (x2.1 ++ ([x3.1] : List (List Int)), x2.2 + 1)) (((list.length : Int) - 0 : Int).toNat + 1) (K_6, 0) else k2 (x2.1, x2.2)
def Dg (m_ : AH) (arrivals : List Int) (blocked : Int) (crews : List Bi) (sizes : List Int) (start : Int) (list : List AI) (budget : Int) (rec1 : ((List Int) × Int) → ((List Int) × Int × Int)) (k1 : ((List Int) × Int) → ((List Int) × Int × Int)) (x1 : (List Int) × Int) : (List Int) × Int × Int :=
  bif decide (x1.2 < (list.length : Int)) then rec1 (x1.1 ++ ([(at' list x1.2).Places] : List Int), x1.2 + 1) else k1 (x1.1, x1.2)
def Ax (m_ : AH) (arrivals : List Int) (blocked : Int) (crews : List Bi) (sizes : List Int) (start : Int) (list : List AI) (budget : Int) : (List Int) × Int × Int :=
  bif ((AA m_ arrivals blocked crews start []).2 == 1) || (!(Bk m_ list)) then (K_6, 0, 1) else bif ((AA m_ arrivals blocked crews start []).2 == 2) || (!(Co budget)) then (K_6, 0, 2) else bif (((AA m_ arrivals blocked crews start []).2 != 0) || ((sizes.length : Int) != (crews.length : Int))) || (!(Bn sizes 1 200)) then (K_6, 0, 7) else LOOP (Dg m_ arrivals blocked crews sizes start list budget) (fun (x1 : (List Int) × Int) => LOOP (Df m_ arrivals blocked crews sizes start list budget x1) (fun (x2 : (List (List Int)) × Int) => bif decide ((A9 (Ar.mk sizes x2.1 x1.1 budget K_6 K_6 (-1)) 0).budget < 0) then (K_6, 0, 5) else ((A9 (Ar.mk sizes x2.1 x1.1 budget K_6 K_6 (-1)) 0).best, (A9 (Ar.mk sizes x2.1 x1.1 budget K_6 K_6 (-1)) 0).most, 0)) (((crews.length : Int) - 0 : Int).toNat + 1) (([] : List (List Int)), 0)) (((list.length : Int) - 0 : Int).toNat + 1) (K_6, 0)

/-! ### spec_l19One -/
def B7 (c_ : Bi) : Bool :=
  ((Cu c_.Id) && (A0 c_.Junction 0 15)) && (A0 c_.Speed 10 300)

/-! ### spec_l17Time -/
def CK (t : Int) : Bool :=
  A0 t 0 36000

/-! ### spec_l19Arrivals -/
def Dh (m_ : AH) (arrivals : List Int) (rec1 : Int → Bool) (k1 : Int → Bool) (x1 : Int) : Bool :=
  bif decide (x1 < (arrivals.length : Int)) then bif !(A0 (at' arrivals x1) (-1) 1000000000000) then false else rec1 (x1 + 1) else k1 x1
def B8 (m_ : AH) (arrivals : List Int) : Bool :=
  LOOP (Dh m_ arrivals) (fun (x1 : Int) => (arrivals.length : Int) == m_.Junctions) (((arrivals.length : Int) - 0 : Int).toNat + 1) 0

/-! ### spec_l19Ask -/
def BZ (m_ : AH) (arrivals : List Int) (blocked : Int) (c_ : Bi) (start : Int) : Int :=
  bif ((!(AO m_)) || (!(B7 c_))) || (decide (m_.Junctions ≤ c_.Junction)) then 1 else bif (!(A0 blocked (-1) ((m_.Airways.length : Int) - 1))) || (!(CK start)) then 2 else bif !(B8 m_ arrivals) then 7 else 0

/-! ### spec_l19Safe -/
def Cw (arrivals : List Int) (j : Int) (time : Int) : Bool :=
  (decide ((at' arrivals j) < 0)) || (decide (time < (at' arrivals j)))

/-! ### spec_l19Walk -/
def B3 (a : Au) (speed : Int) : Int :=
  IntKind.wrap .i64 (Int.tdiv (IntKind.wrap .i64 ((IntKind.wrap .i64 ((IntKind.wrap .i64 (100 * a.Length)) + speed)) - 1)) speed)

/-! ### spec_l19Go -/
def Cl (arrivals : List Int) (times : List Int) (from_ : Int) (to : Int) (n_ : Int) : (List Int) :=
  bif decide ((at' times from_) < 0) then times else bif (Cw arrivals to (IntKind.wrap .i64 ((at' times from_) + n_))) && ((decide ((at' times to) < 0)) || (decide ((IntKind.wrap .i64 ((at' times from_) + n_)) < (at' times to)))) then put' times to (IntKind.wrap .i64 ((at' times from_) + n_)) else times

/-! ### spec_l19Times -/
def CI (m_ : AH) (arrivals : List Int) (blocked : Int) (c_ : Bi) (start : Int) (x1 : (List Int) × Int) (rec2 : ((List Int) × Int) → (List Int)) (k2 : ((List Int) × Int) → (List Int)) (x2 : (List Int) × Int) (rec3 : (Int × (List Int)) → (List Int)) (k3 : (Int × (List Int)) → (List Int)) (x3 : Int × (List Int)) : (List Int) :=
  bif decide (x3.1 < (m_.Airways.length : Int)) then bif x3.1 == blocked then rec3 (x3.1 + 1, x3.2) else rec3 (x3.1 + 1, Cl arrivals (Cl arrivals x3.2 (at' m_.Airways x3.1).From (at' m_.Airways x3.1).To (B3 (at' m_.Airways x3.1) c_.Speed)) (at' m_.Airways x3.1).To (at' m_.Airways x3.1).From (B3 (at' m_.Airways x3.1) c_.Speed)) else k3 (x3.1, x3.2)
def Cq (m_ : AH) (arrivals : List Int) (blocked : Int) (c_ : Bi) (start : Int) (x1 : (List Int) × Int) (rec2 : ((List Int) × Int) → (List Int)) (k2 : ((List Int) × Int) → (List Int)) (x2 : (List Int) × Int) : (List Int) :=
  bif decide (x2.2 < m_.Junctions) then LOOP (CI m_ arrivals blocked c_ start x1 rec2 k2 x2) (fun (x3 : Int × (List Int)) => rec2 (x3.2, x2.2 + 1)) (((m_.Airways.length : Int) - 0 : Int).toNat + 1) (0, x2.1) else k2 (x2.1, x2.2)
def CJ (m_ : AH) (arrivals : List Int) (blocked : Int) (c_ : Bi) (start : Int) (rec1 : ((List Int) × Int) → (List Int)) (k1 : ((List Int) × Int) → (List Int)) (x1 : (List Int) × Int) : (List Int) :=
  bif decide (x1.2 < m_.Junctions) then rec1 (x1.1 ++ K_7, x1.2 + 1) else k1 (x1.1, x1.2)
def Bw (m_ : AH) (arrivals : List Int) (blocked : Int) (c_ : Bi) (start : Int) : (List Int) :=
  LOOP (CJ m_ arrivals blocked c_ start) (fun (x1 : (List Int) × Int) => bif !(Cw arrivals c_.Junction start) then x1.1 else LOOP (Cq m_ arrivals blocked c_ start x1) (fun (x2 : (List Int) × Int) => x2.1) ((m_.Junctions - 0 : Int).toNat + 1) (put' x1.1 c_.Junction start, 0)) ((m_.Junctions - 0 : Int).toNat + 1) (K_6, 0)

/-! ### spec_EscapeTimes -/
def BM (m_ : AH) (arrivals : List Int) (blocked : Int) (c_ : Bi) (start : Int) : (List Int) × Int :=
  bif (BZ m_ arrivals blocked c_ start) != 0 then (K_6, BZ m_ arrivals blocked c_ start) else (Bw m_ arrivals blocked c_ start, 0)

/-! ### slices_IndexFunc_impl_Refuge -/
def BN (s_ : List AI) (f : (AI → Bool)) (rec1 : Int → Int) (k1 : Int → Int) (x1 : Int) : Int :=
  bif decide (x1 < (s_.length : Int)) then bif f (at' s_ x1) then x1 else rec1 (x1 + 1) else k1 x1
def BU (s_ : List AI) (f : AI → Bool) : Int :=
  LOOP (BN s_ f) (fun (x1 : Int) => (-1)) (((s_.length : Int) - 0 : Int).toNat + 1) 0

/-! ### slices_ContainsFunc_impl_Refuge -/
def BA (s_ : List AI) (f : AI → Bool) : Bool :=
  decide (0 ≤ (BU s_ f))

/-! ### impl_ShortestHours_1 -/
def BC (x_ : AI) : Bool :=
  !(BB x_)

/-! ### impl_Refuge_hours -/
def BK (x_ : AI) (persons : Int) (use : Int) : Int :=
  bif persons == 0 then 1000 else if 1000 < (IntKind.wrap .i64 (Int.tdiv x_.Air (IntKind.wrap .i64 (persons * use)))) then 1000 else (IntKind.wrap .i64 (Int.tdiv x_.Air (IntKind.wrap .i64 (persons * use))))

/-! ### impl_ShortestHours -/
def CW (list : List AI) (sizes : List Int) (places : List Int) (use : Int) (x1 : (List Int) × Int) (rec2 : (Int × Int) → (Int × Int)) (k2 : (Int × Int) → (Int × Int)) (x2 : Int × Int) : Int × Int :=
  bif decide (x2.2 < (list.length : Int)) then bif decide ((at' list x2.2).Places < (at' x1.1 x2.2)) then (0, 2) else rec2 (if (BK (at' list x2.2) (at' x1.1 x2.2) use) < x2.1 then (BK (at' list x2.2) (at' x1.1 x2.2) use) else x2.1, x2.2 + 1) else k2 (x2.1, x2.2)
def CX (list : List AI) (sizes : List Int) (places : List Int) (use : Int) (rec1 : ((List Int) × Int) → (Int × Int)) (k1 : ((List Int) × Int) → (Int × Int)) (x1 : (List Int) × Int) : Int × Int :=
  bif decide (x1.2 < (places.length : Int)) then bif decide (0 ≤ (at' places x1.2)) then rec1 (put' x1.1 (at' places x1.2) (IntKind.wrap .i64 ((at' x1.1 (at' places x1.2)) + (at' sizes x1.2))), x1.2 + 1) else rec1 (x1.1, x1.2 + 1) else k1 (x1.1, x1.2)
def Bx (list : List AI) (sizes : List Int) (places : List Int) (use : Int) : Int × Int :=
  bif (decide (8 < (list.length : Int))) || (BA list (fun (a0 : AI) => BC a0)) then (0, 1) else bif (((((sizes.length : Int) != (places.length : Int)) || (decide (8 < (sizes.length : Int)))) || (!(Bn sizes 1 200))) || (!(Bn places (-1) ((list.length : Int) - 1)))) || (!(Bf use 1 10000)) then (0, 2) else LOOP (CX list sizes places use) (fun (x1 : (List Int) × Int) => LOOP (CW list sizes places use x1) (fun (x2 : Int × Int) => (x2.1, 0)) (((list.length : Int) - 0 : Int).toNat + 1) (1000, 0)) (((places.length : Int) - 0 : Int).toNat + 1) (List.replicate ((list.length : Int) : Int).toNat (0 : Int), 0)

/-! ### spec_l04DrawJunction -/
def Bs (s_ : Aj) (m_ : AH) : Int × Aj :=
  bif (Ai s_ 10).1 then ((Ak (Ai s_ 10).2 ([(-1), m_.Junctions] : List Int)).1, (Ak (Ai s_ 10).2 ([(-1), m_.Junctions] : List Int)).2.1) else ((Aa (Ai s_ 10).2 (AF 1 m_.Junctions)).1, (Aa (Ai s_ 10).2 (AF 1 m_.Junctions)).2)

/-! ### spec_l20DrawSpeed -/
def Cg (s_ : Aj) : Int × Aj :=
  ((Ak s_ ([10, 60, 80, 100, 300, 9, 301, 70] : List Int)).1, (Ak s_ ([10, 60, 80, 100, 300, 9, 301, 70] : List Int)).2.1)

/-! ### spec_DrawWalkTimes -/
def Am (code : List Int) : AH × Int × Int :=
  (AH.mk (Al (Ap code)).1.Junctions (Al (Ap code)).1.Airways, (Bs (Al (Ap code)).2 (AH.mk (Al (Ap code)).1.Junctions (Al (Ap code)).1.Airways)).1, (Cg (Bs (Al (Ap code)).2 (AH.mk (Al (Ap code)).1.Junctions (Al (Ap code)).1.Airways)).2).1)

/-! ### impl_Mine_walkTimes -/
def Br (m_ : AH) (junction : Int) (speed : Int) : (List Int) :=
  Bm (Cb.mk m_ (Bh K_7 m_.Junctions) (-1)) (Bi.mk ([] : List UInt8) junction speed) 0

/-! ### impl_WalkTimes -/
def AQ (m_ : AH) (junction : Int) (speed : Int) : (List Int) × Int :=
  bif !(Bz m_) then (K_6, 1) else bif (!(A2 m_ junction)) || (!(Bf speed 10 300)) then (K_6, 2) else (Br m_ junction speed, 0)

/-! ### laws_FnRefuges -/
def CY (code : List Int) (more : List Int) (j5 : Unit → Bool) (rec1 : (Int × Int × (List Int)) → Bool) (k1 : (Int × Int × (List Int)) → Bool) (x1 : Int × Int × (List Int)) : Bool :=
  bif decide (x1.1 < ((Ax (Ac code).1 (Ac code).2.1 (Ac code).2.2.1 (Ac code).2.2.2.1 (Ac code).2.2.2.2.1 (Ac code).2.2.2.2.2.1 (Ac code).2.2.2.2.2.2.1 (Ac code).2.2.2.2.2.2.2).1.length : Int)) then bif (decide ((at' (Ax (Ac code).1 (Ac code).2.1 (Ac code).2.2.1 (Ac code).2.2.2.1 (Ac code).2.2.2.2.1 (Ac code).2.2.2.2.2.1 (Ac code).2.2.2.2.2.2.1 (Ac code).2.2.2.2.2.2.2).1 x1.1) < (-1))) || (decide (((Ac code).2.2.2.2.2.2.1.length : Int) ≤ (at' (Ax (Ac code).1 (Ac code).2.1 (Ac code).2.2.1 (Ac code).2.2.2.1 (Ac code).2.2.2.2.1 (Ac code).2.2.2.2.2.1 (Ac code).2.2.2.2.2.2.1 (Ac code).2.2.2.2.2.2.2).1 x1.1))) then false else bif (BM (Ac code).1 (Ac code).2.1 (Ac code).2.2.1 (at' (Ac code).2.2.2.1 x1.1) (Ac code).2.2.2.2.2.1).2 != 0 then false else bif decide ((at' (Ax (Ac code).1 (Ac code).2.1 (Ac code).2.2.1 (Ac code).2.2.2.1 (Ac code).2.2.2.2.1 (Ac code).2.2.2.2.2.1 (Ac code).2.2.2.2.2.2.1 (Ac code).2.2.2.2.2.2.2).1 x1.1) < 0) then rec1 (x1.1 + 1, x1.2.1, x1.2.2) else bif ((decide ((at' (Ac code).2.2.2.2.2.2.1 (at' (Ax (Ac code).1 (Ac code).2.1 (Ac code).2.2.1 (Ac code).2.2.2.1 (Ac code).2.2.2.2.1 (Ac code).2.2.2.2.2.1 (Ac code).2.2.2.2.2.2.1 (Ac code).2.2.2.2.2.2.2).1 x1.1)).Junction < 0)) || (decide (((BM (Ac code).1 (Ac code).2.1 (Ac code).2.2.1 (at' (Ac code).2.2.2.1 x1.1) (Ac code).2.2.2.2.2.1).1.length : Int) ≤ (at' (Ac code).2.2.2.2.2.2.1 (at' (Ax (Ac code).1 (Ac code).2.1 (Ac code).2.2.1 (Ac code).2.2.2.1 (Ac code).2.2.2.2.1 (Ac code).2.2.2.2.2.1 (Ac code).2.2.2.2.2.2.1 (Ac code).2.2.2.2.2.2.2).1 x1.1)).Junction))) || (decide ((at' (BM (Ac code).1 (Ac code).2.1 (Ac code).2.2.1 (at' (Ac code).2.2.2.1 x1.1) (Ac code).2.2.2.2.2.1).1 (at' (Ac code).2.2.2.2.2.2.1 (at' (Ax (Ac code).1 (Ac code).2.1 (Ac code).2.2.1 (Ac code).2.2.2.1 (Ac code).2.2.2.2.1 (Ac code).2.2.2.2.2.1 (Ac code).2.2.2.2.2.2.1 (Ac code).2.2.2.2.2.2.2).1 x1.1)).Junction) < 0)) then false else bif decide ((at' (Ac code).2.2.2.2.2.2.1 (at' (Ax (Ac code).1 (Ac code).2.1 (Ac code).2.2.1 (Ac code).2.2.2.1 (Ac code).2.2.2.2.1 (Ac code).2.2.2.2.2.1 (Ac code).2.2.2.2.2.2.1 (Ac code).2.2.2.2.2.2.2).1 x1.1)).Places < (at' (put' x1.2.2 (at' (Ax (Ac code).1 (Ac code).2.1 (Ac code).2.2.1 (Ac code).2.2.2.1 (Ac code).2.2.2.2.1 (Ac code).2.2.2.2.2.1 (Ac code).2.2.2.2.2.2.1 (Ac code).2.2.2.2.2.2.2).1 x1.1) (IntKind.wrap .i64 ((at' x1.2.2 (at' (Ax (Ac code).1 (Ac code).2.1 (Ac code).2.2.1 (Ac code).2.2.2.1 (Ac code).2.2.2.2.1 (Ac code).2.2.2.2.2.1 (Ac code).2.2.2.2.2.2.1 (Ac code).2.2.2.2.2.2.2).1 x1.1)) + (at' (Ac code).2.2.2.2.1 x1.1)))) (at' (Ax (Ac code).1 (Ac code).2.1 (Ac code).2.2.1 (Ac code).2.2.2.1 (Ac code).2.2.2.2.1 (Ac code).2.2.2.2.2.1 (Ac code).2.2.2.2.2.2.1 (Ac code).2.2.2.2.2.2.2).1 x1.1))) then false else rec1 (x1.1 + 1, IntKind.wrap .i64 (x1.2.1 + (at' (Ac code).2.2.2.2.1 x1.1)), put' x1.2.2 (at' (Ax (Ac code).1 (Ac code).2.1 (Ac code).2.2.1 (Ac code).2.2.2.1 (Ac code).2.2.2.2.1 (Ac code).2.2.2.2.2.1 (Ac code).2.2.2.2.2.2.1 (Ac code).2.2.2.2.2.2.2).1 x1.1) (IntKind.wrap .i64 ((at' x1.2.2 (at' (Ax (Ac code).1 (Ac code).2.1 (Ac code).2.2.1 (Ac code).2.2.2.1 (Ac code).2.2.2.2.1 (Ac code).2.2.2.2.2.1 (Ac code).2.2.2.2.2.2.1 (Ac code).2.2.2.2.2.2.2).1 x1.1)) + (at' (Ac code).2.2.2.2.1 x1.1)))) else k1 (x1.1, x1.2.1, x1.2.2)
def Ch (code : List Int) (more : List Int) (v4 : Unit) (rec2 : Int → Bool) (k2 : Int → Bool) (x2 : Int) : Bool :=
  bif decide (x2 < (Am more).1.Junctions) then bif ((((AQ (Am more).1 x2 (Am more).2.2).2 != 0) || (((AQ (Am more).1 x2 (Am more).2.2).1.length : Int) != (Am more).1.Junctions)) || ((at' (AQ (Am more).1 x2 (Am more).2.2).1 (Am more).2.1) != (at' (AQ (Am more).1 (Am more).2.1 (Am more).2.2).1 x2))) || ((at' (AQ (Am more).1 x2 (Am more).2.2).1 x2) != 0) then false else rec2 (x2 + 1) else k2 x2
def Ds (code : List Int) (more : List Int) : Bool :=
  bif (C1 code) || (C1 more) then true else JN (fun j5 => bif (Ax (Ac code).1 (Ac code).2.1 (Ac code).2.2.1 (Ac code).2.2.2.1 (Ac code).2.2.2.2.1 (Ac code).2.2.2.2.2.1 (Ac code).2.2.2.2.2.2.1 (Ac code).2.2.2.2.2.2.2).2.2 == 0 then bif (((Ax (Ac code).1 (Ac code).2.1 (Ac code).2.2.1 (Ac code).2.2.2.1 (Ac code).2.2.2.2.1 (Ac code).2.2.2.2.2.1 (Ac code).2.2.2.2.2.2.1 (Ac code).2.2.2.2.2.2.2).1.length : Int) != ((Ac code).2.2.2.1.length : Int)) || (((Ac code).2.2.2.2.1.length : Int) != ((Ac code).2.2.2.1.length : Int)) then false else LOOP (CY code more j5) (fun (x1 : Int × Int × (List Int)) => bif (((x1.2.1 != (Ax (Ac code).1 (Ac code).2.1 (Ac code).2.2.1 (Ac code).2.2.2.1 (Ac code).2.2.2.2.1 (Ac code).2.2.2.2.2.1 (Ac code).2.2.2.2.2.2.1 (Ac code).2.2.2.2.2.2.2).2.1) || ((Bx (Ac code).2.2.2.2.2.2.1 (Ac code).2.2.2.2.1 (Ax (Ac code).1 (Ac code).2.1 (Ac code).2.2.1 (Ac code).2.2.2.1 (Ac code).2.2.2.2.1 (Ac code).2.2.2.2.2.1 (Ac code).2.2.2.2.2.2.1 (Ac code).2.2.2.2.2.2.2).1 30).2 != 0)) || (decide ((Bx (Ac code).2.2.2.2.2.2.1 (Ac code).2.2.2.2.1 (Ax (Ac code).1 (Ac code).2.1 (Ac code).2.2.1 (Ac code).2.2.2.1 (Ac code).2.2.2.2.1 (Ac code).2.2.2.2.2.1 (Ac code).2.2.2.2.2.2.1 (Ac code).2.2.2.2.2.2.2).1 30).1 < 0))) || (decide (1000 < (Bx (Ac code).2.2.2.2.2.2.1 (Ac code).2.2.2.2.1 (Ax (Ac code).1 (Ac code).2.1 (Ac code).2.2.1 (Ac code).2.2.2.1 (Ac code).2.2.2.2.1 (Ac code).2.2.2.2.2.1 (Ac code).2.2.2.2.2.2.1 (Ac code).2.2.2.2.2.2.2).1 30).1)) then false else j5 ()) ((((Ax (Ac code).1 (Ac code).2.1 (Ac code).2.2.1 (Ac code).2.2.2.1 (Ac code).2.2.2.2.1 (Ac code).2.2.2.2.2.1 (Ac code).2.2.2.2.2.2.1 (Ac code).2.2.2.2.2.2.2).1.length : Int) - 0 : Int).toNat + 1) (0, 0, List.replicate (((Ac code).2.2.2.2.2.2.1.length : Int) : Int).toNat (0 : Int)) else j5 ()) (fun (v4 : Unit) => bif (AQ (Am more).1 (Am more).2.1 (Am more).2.2).2 != 0 then ((AQ (Am more).1 (Am more).2.1 (Am more).2.2).1.length : Int) == 0 else bif ((((AQ (Am more).1 (Am more).2.1 (Am more).2.2).1.length : Int) != (Am more).1.Junctions) || (decide ((Am more).2.1 < 0))) || (decide ((Am more).1.Junctions ≤ (Am more).2.1)) then false else LOOP (Ch code more v4) (fun (x2 : Int) => true) (((Am more).1.Junctions - 0 : Int).toNat + 1) 0)

end Go.Proofs.YtibbfdojcdkopaaGreat
