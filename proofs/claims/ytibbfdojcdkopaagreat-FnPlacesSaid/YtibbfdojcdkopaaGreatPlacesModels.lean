/-
  PLAIN MODELS of the Go functions that the law reaches, printed by a program of this claim. Conditions: none; nothing is claimed here.
-/
import Derived.Test.YtibbfdojcdkopaaGreatEngN
set_option linter.unusedVariables false
set_option linter.unusedSimpArgs false
set_option linter.unusedSectionVars false
set_option linter.unnecessarySimpa false
namespace Go.Proofs.YtibbfdojcdkopaaGreat
open Go Go.RowKit Go.Proofs Go.Proofs.YtibbfdojcdkopaaGreat.E
abbrev K_0 : List (List UInt8) := ([([97] : List UInt8), ([98] : List UInt8), ([109, 97, 105, 110] : List UInt8), ([100, 114, 105, 102, 116, 49] : List UInt8)] : List (List UInt8))
abbrev K_1 : List (List UInt8) := ([([99, 49] : List UInt8), ([101, 97, 115, 116] : List UInt8), ([110, 105, 103, 104, 116] : List UInt8)] : List (List UInt8))
abbrev K_2 : List (List UInt8) := ([([97] : List UInt8), ([98] : List UInt8), ([99] : List UInt8), ([100] : List UInt8), ([101] : List UInt8), ([102] : List UInt8), ([103] : List UInt8), ([104] : List UInt8)] : List (List UInt8))
abbrev K_3 : List (List UInt8) := ([([114, 49] : List UInt8), ([114, 50] : List UInt8), ([114, 51] : List UInt8)] : List (List UInt8))
abbrev K_4 : List (List UInt8) := ([([] : List UInt8), ([82] : List UInt8)] : List (List UInt8))
abbrev K_5 : List Int := ([] : List Int)
abbrev K_6 : List Int := ([(-1)] : List Int)
abbrev K_7 : List UInt8 := ([110] : List UInt8)
structure gEnv45 where
  c0 : List (List Int)
  c1 : Int
  c2 : List Int
instance : Inhabited gEnv45 := ⟨gEnv45.mk default default default⟩
structure Ar where
  Id : List UInt8
  From : Int
  To : Int
  Length : Int
  Section : Int
  Friction : Int
  Shock : Int
instance : Inhabited Ar := ⟨Ar.mk default default default default default default default⟩
abbrev Ar.v (x : Ar) : V := .st [.str x.Id, .int .i64 x.From, .int .i64 x.To, .int .i64 x.Length, .int .i64 x.Section, .int .i64 x.Friction, .int .i64 x.Shock]
structure AB where
  Junctions : Int
  Airways : List Ar
instance : Inhabited AB := ⟨AB.mk default default⟩
abbrev AB.v (x : AB) : V := .st [.int .i64 x.Junctions, .sl 7 (x.Airways.map Ar.v)]
structure Bu where
  Id : List UInt8
  Junction : Int
  Speed : Int
instance : Inhabited Bu := ⟨Bu.mk default default default⟩
abbrev Bu.v (x : Bu) : V := .st [.str x.Id, .int .i64 x.Junction, .int .i64 x.Speed]
structure Ak where
  code : List Int
  at_ : Int
  seed : Int
instance : Inhabited Ak := ⟨Ak.mk default default default⟩
abbrev Ak.v (x : Ak) : V := .st [.sl 1 (x.code.map (V.int .u8)), .int .i64 x.at_, .int .u64 x.seed]
structure Co where
  mine : AB
  arrivals : List Int
  blocked : Int
instance : Inhabited Co := ⟨Co.mk default default default⟩
abbrev Co.v (x : Co) : V := .st [.int .i64 x.mine.Junctions, .sl 7 (x.mine.Airways.map Ar.v), .sl 1 (x.arrivals.map (V.int .i64)), .int .i64 x.blocked]
structure AA where
  list : List Int
  right : gEnv45
  budget : Int
  some_ : List Int
instance : Inhabited AA := ⟨AA.mk default default default default⟩
abbrev AA.v (x : AA) : V := .st [.sl 1 (x.list.map (V.int .i64)), .clo 45 [.rp [.sl 1 (x.right.c0.map (slv 1 (V.int .i64)))], .rp [.int .i64 x.right.c1], .rp [.sl 1 (x.right.c2.map (V.int .i64))]], .int .i64 x.budget, .sl 1 (x.some_.map (V.int .i64))]
structure Da where
  Airway : Int
  At : Int
  Start : Int
instance : Inhabited Da := ⟨Da.mk default default default⟩
abbrev Da.v (x : Da) : V := .st [.int .i64 x.Airway, .int .i64 x.At, .int .i64 x.Start]
structure AS where
  Id : List UInt8
  Junction : Int
  Places : Int
  Air : Int
instance : Inhabited AS := ⟨AS.mk default default default default⟩
abbrev AS.v (x : AS) : V := .st [.str x.Id, .int .i64 x.Junction, .int .i64 x.Places, .int .i64 x.Air]

/-! ### laws_b10Long -/
def CY (code : List Int) : Bool :=
  decide (1048576 < (code.length : Int))

/-! ### spec_l00In -/
def AR (n_ : Int) (low : Int) (high : Int) : Bool :=
  (decide (low ≤ n_)) && (decide (n_ ≤ high))

/-! ### spec_l04Junction -/
def Bx (m_ : AB) (j : Int) : Bool :=
  AR j 0 (IntKind.wrap .i64 (m_.Junctions - 1))

/-! ### spec_l01Small -/
def Cy (c_ : Int) : Bool :=
  (decide (97 ≤ c_)) && (decide (c_ ≤ 122))

/-! ### spec_l01Digit -/
def Db (c_ : Int) : Bool :=
  (decide (48 ≤ c_)) && (decide (c_ ≤ 57))

/-! ### spec_l01Name -/
def m_spec_l01Name_b1 (s_ : List UInt8) (rec1 : Int → Bool) (k1 : Int → Bool) (x1 : Int) : Bool :=
  bif decide (x1 < (s_.length : Int)) then bif (!(Cy (((s_.getD x1.toNat 0).toNat : Nat) : Int))) && (!(Db (((s_.getD x1.toNat 0).toNat : Nat) : Int))) then false else rec1 (x1 + 1) else k1 x1
def Cb (s_ : List UInt8) : Bool :=
  bif ((strB .eql s_ ([] : List UInt8)) || (decide (10 < (s_.length : Int)))) || (!(Cy (((s_.getD (0 : Int).toNat 0).toNat : Nat) : Int))) then false else LOOP (m_spec_l01Name_b1 s_) (fun (x1 : Int) => true) (((s_.length : Int) - 0 : Int).toNat + 1) 0

/-! ### spec_l03Ok -/
def Dc (a : Ar) : Bool :=
  bif (((!(Cb a.Id)) || (!(AR a.From 0 15))) || (!(AR a.To 0 15))) || (a.From == a.To) then false else (((AR a.Length 1 10000) && (AR a.Section 50 5000)) && (AR a.Friction 1 1000)) && (AR a.Shock 0 1000)

/-! ### spec_l04Ok -/
def Dx (m_ : AB) (rec1 : Int → Bool) (k1 : Int → Bool) (x1 : Int) : Bool :=
  bif decide (x1 < (m_.Airways.length : Int)) then bif (((!(Dc (at' m_.Airways x1))) || (!(Bx m_ (at' m_.Airways x1).From))) || (!(Bx m_ (at' m_.Airways x1).To))) || ((decide (0 < x1)) && (strB .geq (at' m_.Airways (x1 - 1)).Id (at' m_.Airways x1).Id)) then false else rec1 (x1 + 1) else k1 x1
def AD (m_ : AB) : Bool :=
  bif !(AR m_.Junctions 1 16) then false else LOOP (Dx m_) (fun (x1 : Int) => decide ((m_.Airways.length : Int) ≤ 24)) (((m_.Airways.length : Int) - 0 : Int).toNat + 1) 0

/-! ### spec_l19One -/
def BV (c_ : Bu) : Bool :=
  ((Cb c_.Id) && (AR c_.Junction 0 15)) && (AR c_.Speed 10 300)

/-! ### spec_l17Time -/
def Dl (t : Int) : Bool :=
  AR t 0 36000

/-! ### spec_l19Arrivals -/
def Dd (m_ : AB) (arrivals : List Int) (rec1 : Int → Bool) (k1 : Int → Bool) (x1 : Int) : Bool :=
  bif decide (x1 < (arrivals.length : Int)) then bif !(AR (at' arrivals x1) (-1) 1000000000000) then false else rec1 (x1 + 1) else k1 x1
def CD (m_ : AB) (arrivals : List Int) : Bool :=
  LOOP (Dd m_ arrivals) (fun (x1 : Int) => (arrivals.length : Int) == m_.Junctions) (((arrivals.length : Int) - 0 : Int).toNat + 1) 0

/-! ### spec_l19Ask -/
def Bz (m_ : AB) (arrivals : List Int) (blocked : Int) (c_ : Bu) (start : Int) : Int :=
  bif ((!(AD m_)) || (!(BV c_))) || (decide (m_.Junctions ≤ c_.Junction)) then 1 else bif (!(AR blocked (-1) ((m_.Airways.length : Int) - 1))) || (!(Dl start)) then 2 else bif !(CD m_ arrivals) then 7 else 0

/-! ### spec_l19Safe -/
def Cu (arrivals : List Int) (j : Int) (time : Int) : Bool :=
  (decide ((at' arrivals j) < 0)) || (decide (time < (at' arrivals j)))

/-! ### spec_l19Walk -/
def Bf (a : Ar) (speed : Int) : Int :=
  IntKind.wrap .i64 (Int.tdiv (IntKind.wrap .i64 ((IntKind.wrap .i64 ((IntKind.wrap .i64 (100 * a.Length)) + speed)) - 1)) speed)

/-! ### spec_l19Go -/
def Ci (arrivals : List Int) (times : List Int) (from_ : Int) (to : Int) (n_ : Int) : (List Int) :=
  bif decide ((at' times from_) < 0) then times else bif (Cu arrivals to (IntKind.wrap .i64 ((at' times from_) + n_))) && ((decide ((at' times to) < 0)) || (decide ((IntKind.wrap .i64 ((at' times from_) + n_)) < (at' times to)))) then put' times to (IntKind.wrap .i64 ((at' times from_) + n_)) else times

/-! ### spec_l19Times -/
def CE (m_ : AB) (arrivals : List Int) (blocked : Int) (c_ : Bu) (start : Int) (x1 : (List Int) × Int) (rec2 : ((List Int) × Int) → (List Int)) (k2 : ((List Int) × Int) → (List Int)) (x2 : (List Int) × Int) (rec3 : (Int × (List Int)) → (List Int)) (k3 : (Int × (List Int)) → (List Int)) (x3 : Int × (List Int)) : (List Int) :=
  bif decide (x3.1 < (m_.Airways.length : Int)) then bif x3.1 == blocked then rec3 (x3.1 + 1, x3.2) else rec3 (x3.1 + 1, Ci arrivals (Ci arrivals x3.2 (at' m_.Airways x3.1).From (at' m_.Airways x3.1).To (Bf (at' m_.Airways x3.1) c_.Speed)) (at' m_.Airways x3.1).To (at' m_.Airways x3.1).From (Bf (at' m_.Airways x3.1) c_.Speed)) else k3 (x3.1, x3.2)
def Ck (m_ : AB) (arrivals : List Int) (blocked : Int) (c_ : Bu) (start : Int) (x1 : (List Int) × Int) (rec2 : ((List Int) × Int) → (List Int)) (k2 : ((List Int) × Int) → (List Int)) (x2 : (List Int) × Int) : (List Int) :=
  bif decide (x2.2 < m_.Junctions) then LOOP (CE m_ arrivals blocked c_ start x1 rec2 k2 x2) (fun (x3 : Int × (List Int)) => rec2 (x3.2, x2.2 + 1)) (((m_.Airways.length : Int) - 0 : Int).toNat + 1) (0, x2.1) else k2 (x2.1, x2.2)
def CF (m_ : AB) (arrivals : List Int) (blocked : Int) (c_ : Bu) (start : Int) (rec1 : ((List Int) × Int) → (List Int)) (k1 : ((List Int) × Int) → (List Int)) (x1 : (List Int) × Int) : (List Int) :=
  bif decide (x1.2 < m_.Junctions) then rec1 (x1.1 ++ K_6, x1.2 + 1) else k1 (x1.1, x1.2)
def AX (m_ : AB) (arrivals : List Int) (blocked : Int) (c_ : Bu) (start : Int) : (List Int) :=
  LOOP (CF m_ arrivals blocked c_ start) (fun (x1 : (List Int) × Int) => bif !(Cu arrivals c_.Junction start) then x1.1 else LOOP (Ck m_ arrivals blocked c_ start x1) (fun (x2 : (List Int) × Int) => x2.1) ((m_.Junctions - 0 : Int).toNat + 1) (put' x1.1 c_.Junction start, 0)) ((m_.Junctions - 0 : Int).toNat + 1) (K_5, 0)

/-! ### spec_EscapeTimes -/
def Bh (m_ : AB) (arrivals : List Int) (blocked : Int) (c_ : Bu) (start : Int) : (List Int) × Int :=
  bif (Bz m_ arrivals blocked c_ start) != 0 then (K_5, Bz m_ arrivals blocked c_ start) else (AX m_ arrivals blocked c_ start, 0)

/-! ### spec_l00From -/
def AU (code : List Int) : Ak :=
  Ak.mk code 0 0

/-! ### spec_l00Src_next -/
def Bc (s_ : Ak) : Int × Ak :=
  JN (fun j3 => bif decide (s_.at_ < (s_.code.length : Int)) then j3 (IntKind.wrap .i64 (at' s_.code s_.at_)) else j3 0) (fun (v2 : Int) => bif decide ((IntKind.wrap .i64 (s_.at_ + 1)) ≤ (s_.code.length : Int)) then (v2, Ak.mk s_.code (IntKind.wrap .i64 (s_.at_ + 1)) (IntKind.wrap .u64 ((IntKind.wrap .u64 ((IntKind.wrap .u64 (s_.seed * 6364136223846793005)) + (IntKind.wrap .u64 v2))) + 1442695040888963407))) else (IntKind.wrap .i64 (IntKind.wrap .u64 ((((BitVec.ofInt (IntKind.bits .u64) (Int.fdiv (IntKind.wrap .u64 ((IntKind.wrap .u64 ((IntKind.wrap .u64 (s_.seed * 6364136223846793005)) + (IntKind.wrap .u64 v2))) + 1442695040888963407)) (2 ^ min (40 : Int).toNat 64))) &&& (BitVec.ofInt (IntKind.bits .u64) 255)).toNat : Nat) : Int)), Ak.mk s_.code (IntKind.wrap .i64 (s_.at_ + 1)) (IntKind.wrap .u64 ((IntKind.wrap .u64 ((IntKind.wrap .u64 (s_.seed * 6364136223846793005)) + (IntKind.wrap .u64 v2))) + 1442695040888963407))))

/-! ### spec_l00Src_pick -/
def Aa (s_ : Ak) (n_ : Int) : Int × Ak :=
  bif decide (n_ ≤ 1) then (0, s_) else bif decide (200 < n_) then (Int.tmod (IntKind.wrap .i64 ((IntKind.wrap .i64 ((Bc s_).1 * 256)) + (Bc (Bc s_).2).1)) n_, (Bc (Bc s_).2).2) else (Int.tmod (Bc s_).1 n_, (Bc s_).2)

/-! ### spec_l00Src_among -/
def Aj (s_ : Ak) (list : List Int) : Int × Ak × (List Int) :=
  (at' list (Aa s_ (list.length : Int)).1, (Aa s_ (list.length : Int)).2, list)

/-! ### spec_l00Src_one -/
def Am (s_ : Ak) (n_ : Int) : Bool × Ak :=
  ((Aa s_ n_).1 == 0, (Aa s_ n_).2)

/-! ### spec_l03DrawOk -/
def Ai (s_ : Ak) (id : List UInt8) (from_ : Int) (to : Int) : Ar × Ak :=
  (Ar.mk id from_ to (IntKind.wrap .i64 (20 + (Aa s_ 900).1)) (IntKind.wrap .i64 (300 + (Aa (Aa s_ 900).2 1500).1)) (IntKind.wrap .i64 (20 + (Aa (Aa (Aa s_ 900).2 1500).2 200).1)) (Aa (Aa (Aa (Aa s_ 900).2 1500).2 200).2 60).1, (Aa (Aa (Aa (Aa s_ 900).2 1500).2 200).2 60).2)

/-! ### spec_l04DrawOk -/
def Dq (s_ : Ak) (rec1 : ((List Int) × Int × Int × Int × (List Ar)) → (AB × Ak)) (k1 : ((List Int) × Int × Int × Int × (List Ar)) → (AB × Ak)) (x1 : (List Int) × Int × Int × Int × (List Ar)) : AB × Ak :=
  bif decide (x1.2.2.2.1 < (K_2.length : Int)) then bif (Am (Ak.mk x1.1 x1.2.1 x1.2.2.1) 5).1 then rec1 ((Am (Ak.mk x1.1 x1.2.1 x1.2.2.1) 5).2.code, (Am (Ak.mk x1.1 x1.2.1 x1.2.2.1) 5).2.at_, (Am (Ak.mk x1.1 x1.2.1 x1.2.2.1) 5).2.seed, x1.2.2.2.1 + 1, x1.2.2.2.2) else JN (fun j6 => bif (Am (Am (Ak.mk x1.1 x1.2.1 x1.2.2.1) 5).2 2).1 then j6 ((Aa (Am (Am (Ak.mk x1.1 x1.2.1 x1.2.2.1) 5).2 2).2 (IntKind.wrap .i64 (2 + (Aa s_ 5).1))).2.code, (Aa (Am (Am (Ak.mk x1.1 x1.2.1 x1.2.2.1) 5).2 2).2 (IntKind.wrap .i64 (2 + (Aa s_ 5).1))).2.at_, (Aa (Am (Am (Ak.mk x1.1 x1.2.1 x1.2.2.1) 5).2 2).2 (IntKind.wrap .i64 (2 + (Aa s_ 5).1))).2.seed, (Aa (Am (Am (Ak.mk x1.1 x1.2.1 x1.2.2.1) 5).2 2).2 (IntKind.wrap .i64 (2 + (Aa s_ 5).1))).1) else j6 ((Am (Am (Ak.mk x1.1 x1.2.1 x1.2.2.1) 5).2 2).2.code, (Am (Am (Ak.mk x1.1 x1.2.1 x1.2.2.1) 5).2 2).2.at_, (Am (Am (Ak.mk x1.1 x1.2.1 x1.2.2.1) 5).2 2).2.seed, Int.tmod x1.2.2.2.1 (IntKind.wrap .i64 (2 + (Aa s_ 5).1)))) (fun (v5 : (List Int) × Int × Int × Int) => JN (fun j10 => bif (decide (x1.2.2.2.1 < (IntKind.wrap .i64 ((IntKind.wrap .i64 (2 + (Aa s_ 5).1)) - 1)))) && (!(Am (Aa (Ak.mk v5.1 v5.2.1 v5.2.2.1) (IntKind.wrap .i64 ((IntKind.wrap .i64 (2 + (Aa s_ 5).1)) - 1))).2 4).1) then j10 (x1.2.2.2.1, x1.2.2.2.1 + 1) else j10 (v5.2.2.2, Int.tmod (IntKind.wrap .i64 ((IntKind.wrap .i64 (v5.2.2.2 + 1)) + (Aa (Ak.mk v5.1 v5.2.1 v5.2.2.1) (IntKind.wrap .i64 ((IntKind.wrap .i64 (2 + (Aa s_ 5).1)) - 1))).1)) (IntKind.wrap .i64 (2 + (Aa s_ 5).1)))) (fun (v9 : Int × Int) => rec1 ((Ai (bif (decide (x1.2.2.2.1 < (IntKind.wrap .i64 ((IntKind.wrap .i64 (2 + (Aa s_ 5).1)) - 1)))) then (Am (Aa (Ak.mk v5.1 v5.2.1 v5.2.2.1) (IntKind.wrap .i64 ((IntKind.wrap .i64 (2 + (Aa s_ 5).1)) - 1))).2 4).2 else (Aa (Ak.mk v5.1 v5.2.1 v5.2.2.1) (IntKind.wrap .i64 ((IntKind.wrap .i64 (2 + (Aa s_ 5).1)) - 1))).2) (at' K_2 x1.2.2.2.1) v9.1 v9.2).2.code, (Ai (bif (decide (x1.2.2.2.1 < (IntKind.wrap .i64 ((IntKind.wrap .i64 (2 + (Aa s_ 5).1)) - 1)))) then (Am (Aa (Ak.mk v5.1 v5.2.1 v5.2.2.1) (IntKind.wrap .i64 ((IntKind.wrap .i64 (2 + (Aa s_ 5).1)) - 1))).2 4).2 else (Aa (Ak.mk v5.1 v5.2.1 v5.2.2.1) (IntKind.wrap .i64 ((IntKind.wrap .i64 (2 + (Aa s_ 5).1)) - 1))).2) (at' K_2 x1.2.2.2.1) v9.1 v9.2).2.at_, (Ai (bif (decide (x1.2.2.2.1 < (IntKind.wrap .i64 ((IntKind.wrap .i64 (2 + (Aa s_ 5).1)) - 1)))) then (Am (Aa (Ak.mk v5.1 v5.2.1 v5.2.2.1) (IntKind.wrap .i64 ((IntKind.wrap .i64 (2 + (Aa s_ 5).1)) - 1))).2 4).2 else (Aa (Ak.mk v5.1 v5.2.1 v5.2.2.1) (IntKind.wrap .i64 ((IntKind.wrap .i64 (2 + (Aa s_ 5).1)) - 1))).2) (at' K_2 x1.2.2.2.1) v9.1 v9.2).2.seed, x1.2.2.2.1 + 1, x1.2.2.2.2 ++ ([(Ai (bif (decide (x1.2.2.2.1 < (IntKind.wrap .i64 ((IntKind.wrap .i64 (2 + (Aa s_ 5).1)) - 1)))) then (Am (Aa (Ak.mk v5.1 v5.2.1 v5.2.2.1) (IntKind.wrap .i64 ((IntKind.wrap .i64 (2 + (Aa s_ 5).1)) - 1))).2 4).2 else (Aa (Ak.mk v5.1 v5.2.1 v5.2.2.1) (IntKind.wrap .i64 ((IntKind.wrap .i64 (2 + (Aa s_ 5).1)) - 1))).2) (at' K_2 x1.2.2.2.1) v9.1 v9.2).1] : List Ar)))) else k1 (x1.1, x1.2.1, x1.2.2.1, x1.2.2.2.1, x1.2.2.2.2)
def Ax (s_ : Ak) : AB × Ak :=
  LOOP (Dq s_) (fun (x1 : (List Int) × Int × Int × Int × (List Ar)) => (AB.mk (IntKind.wrap .i64 (2 + (Aa s_ 5).1)) x1.2.2.2.2, Ak.mk x1.1 x1.2.1 x1.2.2.1)) (((K_2.length : Int) - 0 : Int).toNat + 1) ((Aa s_ 5).2.code, (Aa s_ 5).2.at_, (Aa s_ 5).2.seed, 0, ([] : List Ar))

/-! ### spec_l00Src_text -/
def Ab (s_ : Ak) (list : List (List UInt8)) : (List UInt8) × Ak × (List (List UInt8)) :=
  (at' list (Aa s_ (list.length : Int)).1, (Aa s_ (list.length : Int)).2, list)

/-! ### spec_l03Bent -/
def Bq (s_ : Ak) : Ar × Ak :=
  bif (Aa (Ai (Aa (Aa (Ab s_ K_0).2.1 8).2 7).2 (Ab s_ K_0).1 (Aa (Ab s_ K_0).2.1 8).1 (Int.tmod (IntKind.wrap .i64 ((IntKind.wrap .i64 ((Aa (Ab s_ K_0).2.1 8).1 + 1)) + (Aa (Aa (Ab s_ K_0).2.1 8).2 7).1)) 8)).2 20).1 == 0 then (Ar.mk (Ai (Aa (Aa (Ab s_ K_0).2.1 8).2 7).2 (Ab s_ K_0).1 (Aa (Ab s_ K_0).2.1 8).1 (Int.tmod (IntKind.wrap .i64 ((IntKind.wrap .i64 ((Aa (Ab s_ K_0).2.1 8).1 + 1)) + (Aa (Aa (Ab s_ K_0).2.1 8).2 7).1)) 8)).1.Id (Ai (Aa (Aa (Ab s_ K_0).2.1 8).2 7).2 (Ab s_ K_0).1 (Aa (Ab s_ K_0).2.1 8).1 (Int.tmod (IntKind.wrap .i64 ((IntKind.wrap .i64 ((Aa (Ab s_ K_0).2.1 8).1 + 1)) + (Aa (Aa (Ab s_ K_0).2.1 8).2 7).1)) 8)).1.From (Aj (Aa (Ai (Aa (Aa (Ab s_ K_0).2.1 8).2 7).2 (Ab s_ K_0).1 (Aa (Ab s_ K_0).2.1 8).1 (Int.tmod (IntKind.wrap .i64 ((IntKind.wrap .i64 ((Aa (Ab s_ K_0).2.1 8).1 + 1)) + (Aa (Aa (Ab s_ K_0).2.1 8).2 7).1)) 8)).2 20).2 ([(Ai (Aa (Aa (Ab s_ K_0).2.1 8).2 7).2 (Ab s_ K_0).1 (Aa (Ab s_ K_0).2.1 8).1 (Int.tmod (IntKind.wrap .i64 ((IntKind.wrap .i64 ((Aa (Ab s_ K_0).2.1 8).1 + 1)) + (Aa (Aa (Ab s_ K_0).2.1 8).2 7).1)) 8)).1.From, 15, 16, (-1)] : List Int)).1 (Ai (Aa (Aa (Ab s_ K_0).2.1 8).2 7).2 (Ab s_ K_0).1 (Aa (Ab s_ K_0).2.1 8).1 (Int.tmod (IntKind.wrap .i64 ((IntKind.wrap .i64 ((Aa (Ab s_ K_0).2.1 8).1 + 1)) + (Aa (Aa (Ab s_ K_0).2.1 8).2 7).1)) 8)).1.Length (Ai (Aa (Aa (Ab s_ K_0).2.1 8).2 7).2 (Ab s_ K_0).1 (Aa (Ab s_ K_0).2.1 8).1 (Int.tmod (IntKind.wrap .i64 ((IntKind.wrap .i64 ((Aa (Ab s_ K_0).2.1 8).1 + 1)) + (Aa (Aa (Ab s_ K_0).2.1 8).2 7).1)) 8)).1.Section (Ai (Aa (Aa (Ab s_ K_0).2.1 8).2 7).2 (Ab s_ K_0).1 (Aa (Ab s_ K_0).2.1 8).1 (Int.tmod (IntKind.wrap .i64 ((IntKind.wrap .i64 ((Aa (Ab s_ K_0).2.1 8).1 + 1)) + (Aa (Aa (Ab s_ K_0).2.1 8).2 7).1)) 8)).1.Friction (Ai (Aa (Aa (Ab s_ K_0).2.1 8).2 7).2 (Ab s_ K_0).1 (Aa (Ab s_ K_0).2.1 8).1 (Int.tmod (IntKind.wrap .i64 ((IntKind.wrap .i64 ((Aa (Ab s_ K_0).2.1 8).1 + 1)) + (Aa (Aa (Ab s_ K_0).2.1 8).2 7).1)) 8)).1.Shock, (Aj (Aa (Ai (Aa (Aa (Ab s_ K_0).2.1 8).2 7).2 (Ab s_ K_0).1 (Aa (Ab s_ K_0).2.1 8).1 (Int.tmod (IntKind.wrap .i64 ((IntKind.wrap .i64 ((Aa (Ab s_ K_0).2.1 8).1 + 1)) + (Aa (Aa (Ab s_ K_0).2.1 8).2 7).1)) 8)).2 20).2 ([(Ai (Aa (Aa (Ab s_ K_0).2.1 8).2 7).2 (Ab s_ K_0).1 (Aa (Ab s_ K_0).2.1 8).1 (Int.tmod (IntKind.wrap .i64 ((IntKind.wrap .i64 ((Aa (Ab s_ K_0).2.1 8).1 + 1)) + (Aa (Aa (Ab s_ K_0).2.1 8).2 7).1)) 8)).1.From, 15, 16, (-1)] : List Int)).2.1) else bif (Aa (Ai (Aa (Aa (Ab s_ K_0).2.1 8).2 7).2 (Ab s_ K_0).1 (Aa (Ab s_ K_0).2.1 8).1 (Int.tmod (IntKind.wrap .i64 ((IntKind.wrap .i64 ((Aa (Ab s_ K_0).2.1 8).1 + 1)) + (Aa (Aa (Ab s_ K_0).2.1 8).2 7).1)) 8)).2 20).1 == 1 then (Ar.mk (Ai (Aa (Aa (Ab s_ K_0).2.1 8).2 7).2 (Ab s_ K_0).1 (Aa (Ab s_ K_0).2.1 8).1 (Int.tmod (IntKind.wrap .i64 ((IntKind.wrap .i64 ((Aa (Ab s_ K_0).2.1 8).1 + 1)) + (Aa (Aa (Ab s_ K_0).2.1 8).2 7).1)) 8)).1.Id (Ai (Aa (Aa (Ab s_ K_0).2.1 8).2 7).2 (Ab s_ K_0).1 (Aa (Ab s_ K_0).2.1 8).1 (Int.tmod (IntKind.wrap .i64 ((IntKind.wrap .i64 ((Aa (Ab s_ K_0).2.1 8).1 + 1)) + (Aa (Aa (Ab s_ K_0).2.1 8).2 7).1)) 8)).1.From (Ai (Aa (Aa (Ab s_ K_0).2.1 8).2 7).2 (Ab s_ K_0).1 (Aa (Ab s_ K_0).2.1 8).1 (Int.tmod (IntKind.wrap .i64 ((IntKind.wrap .i64 ((Aa (Ab s_ K_0).2.1 8).1 + 1)) + (Aa (Aa (Ab s_ K_0).2.1 8).2 7).1)) 8)).1.To (Aj (Aa (Ai (Aa (Aa (Ab s_ K_0).2.1 8).2 7).2 (Ab s_ K_0).1 (Aa (Ab s_ K_0).2.1 8).1 (Int.tmod (IntKind.wrap .i64 ((IntKind.wrap .i64 ((Aa (Ab s_ K_0).2.1 8).1 + 1)) + (Aa (Aa (Ab s_ K_0).2.1 8).2 7).1)) 8)).2 20).2 ([0, 1, 10000, 10001] : List Int)).1 (Ai (Aa (Aa (Ab s_ K_0).2.1 8).2 7).2 (Ab s_ K_0).1 (Aa (Ab s_ K_0).2.1 8).1 (Int.tmod (IntKind.wrap .i64 ((IntKind.wrap .i64 ((Aa (Ab s_ K_0).2.1 8).1 + 1)) + (Aa (Aa (Ab s_ K_0).2.1 8).2 7).1)) 8)).1.Section (Ai (Aa (Aa (Ab s_ K_0).2.1 8).2 7).2 (Ab s_ K_0).1 (Aa (Ab s_ K_0).2.1 8).1 (Int.tmod (IntKind.wrap .i64 ((IntKind.wrap .i64 ((Aa (Ab s_ K_0).2.1 8).1 + 1)) + (Aa (Aa (Ab s_ K_0).2.1 8).2 7).1)) 8)).1.Friction (Ai (Aa (Aa (Ab s_ K_0).2.1 8).2 7).2 (Ab s_ K_0).1 (Aa (Ab s_ K_0).2.1 8).1 (Int.tmod (IntKind.wrap .i64 ((IntKind.wrap .i64 ((Aa (Ab s_ K_0).2.1 8).1 + 1)) + (Aa (Aa (Ab s_ K_0).2.1 8).2 7).1)) 8)).1.Shock, (Aj (Aa (Ai (Aa (Aa (Ab s_ K_0).2.1 8).2 7).2 (Ab s_ K_0).1 (Aa (Ab s_ K_0).2.1 8).1 (Int.tmod (IntKind.wrap .i64 ((IntKind.wrap .i64 ((Aa (Ab s_ K_0).2.1 8).1 + 1)) + (Aa (Aa (Ab s_ K_0).2.1 8).2 7).1)) 8)).2 20).2 ([0, 1, 10000, 10001] : List Int)).2.1) else bif (Aa (Ai (Aa (Aa (Ab s_ K_0).2.1 8).2 7).2 (Ab s_ K_0).1 (Aa (Ab s_ K_0).2.1 8).1 (Int.tmod (IntKind.wrap .i64 ((IntKind.wrap .i64 ((Aa (Ab s_ K_0).2.1 8).1 + 1)) + (Aa (Aa (Ab s_ K_0).2.1 8).2 7).1)) 8)).2 20).1 == 2 then (Ar.mk (Ai (Aa (Aa (Ab s_ K_0).2.1 8).2 7).2 (Ab s_ K_0).1 (Aa (Ab s_ K_0).2.1 8).1 (Int.tmod (IntKind.wrap .i64 ((IntKind.wrap .i64 ((Aa (Ab s_ K_0).2.1 8).1 + 1)) + (Aa (Aa (Ab s_ K_0).2.1 8).2 7).1)) 8)).1.Id (Ai (Aa (Aa (Ab s_ K_0).2.1 8).2 7).2 (Ab s_ K_0).1 (Aa (Ab s_ K_0).2.1 8).1 (Int.tmod (IntKind.wrap .i64 ((IntKind.wrap .i64 ((Aa (Ab s_ K_0).2.1 8).1 + 1)) + (Aa (Aa (Ab s_ K_0).2.1 8).2 7).1)) 8)).1.From (Ai (Aa (Aa (Ab s_ K_0).2.1 8).2 7).2 (Ab s_ K_0).1 (Aa (Ab s_ K_0).2.1 8).1 (Int.tmod (IntKind.wrap .i64 ((IntKind.wrap .i64 ((Aa (Ab s_ K_0).2.1 8).1 + 1)) + (Aa (Aa (Ab s_ K_0).2.1 8).2 7).1)) 8)).1.To (Ai (Aa (Aa (Ab s_ K_0).2.1 8).2 7).2 (Ab s_ K_0).1 (Aa (Ab s_ K_0).2.1 8).1 (Int.tmod (IntKind.wrap .i64 ((IntKind.wrap .i64 ((Aa (Ab s_ K_0).2.1 8).1 + 1)) + (Aa (Aa (Ab s_ K_0).2.1 8).2 7).1)) 8)).1.Length (Aj (Aa (Ai (Aa (Aa (Ab s_ K_0).2.1 8).2 7).2 (Ab s_ K_0).1 (Aa (Ab s_ K_0).2.1 8).1 (Int.tmod (IntKind.wrap .i64 ((IntKind.wrap .i64 ((Aa (Ab s_ K_0).2.1 8).1 + 1)) + (Aa (Aa (Ab s_ K_0).2.1 8).2 7).1)) 8)).2 20).2 ([49, 50, 5000, 5001] : List Int)).1 (Ai (Aa (Aa (Ab s_ K_0).2.1 8).2 7).2 (Ab s_ K_0).1 (Aa (Ab s_ K_0).2.1 8).1 (Int.tmod (IntKind.wrap .i64 ((IntKind.wrap .i64 ((Aa (Ab s_ K_0).2.1 8).1 + 1)) + (Aa (Aa (Ab s_ K_0).2.1 8).2 7).1)) 8)).1.Friction (Ai (Aa (Aa (Ab s_ K_0).2.1 8).2 7).2 (Ab s_ K_0).1 (Aa (Ab s_ K_0).2.1 8).1 (Int.tmod (IntKind.wrap .i64 ((IntKind.wrap .i64 ((Aa (Ab s_ K_0).2.1 8).1 + 1)) + (Aa (Aa (Ab s_ K_0).2.1 8).2 7).1)) 8)).1.Shock, (Aj (Aa (Ai (Aa (Aa (Ab s_ K_0).2.1 8).2 7).2 (Ab s_ K_0).1 (Aa (Ab s_ K_0).2.1 8).1 (Int.tmod (IntKind.wrap .i64 ((IntKind.wrap .i64 ((Aa (Ab s_ K_0).2.1 8).1 + 1)) + (Aa (Aa (Ab s_ K_0).2.1 8).2 7).1)) 8)).2 20).2 ([49, 50, 5000, 5001] : List Int)).2.1) else bif (Aa (Ai (Aa (Aa (Ab s_ K_0).2.1 8).2 7).2 (Ab s_ K_0).1 (Aa (Ab s_ K_0).2.1 8).1 (Int.tmod (IntKind.wrap .i64 ((IntKind.wrap .i64 ((Aa (Ab s_ K_0).2.1 8).1 + 1)) + (Aa (Aa (Ab s_ K_0).2.1 8).2 7).1)) 8)).2 20).1 == 3 then (Ar.mk (Ai (Aa (Aa (Ab s_ K_0).2.1 8).2 7).2 (Ab s_ K_0).1 (Aa (Ab s_ K_0).2.1 8).1 (Int.tmod (IntKind.wrap .i64 ((IntKind.wrap .i64 ((Aa (Ab s_ K_0).2.1 8).1 + 1)) + (Aa (Aa (Ab s_ K_0).2.1 8).2 7).1)) 8)).1.Id (Ai (Aa (Aa (Ab s_ K_0).2.1 8).2 7).2 (Ab s_ K_0).1 (Aa (Ab s_ K_0).2.1 8).1 (Int.tmod (IntKind.wrap .i64 ((IntKind.wrap .i64 ((Aa (Ab s_ K_0).2.1 8).1 + 1)) + (Aa (Aa (Ab s_ K_0).2.1 8).2 7).1)) 8)).1.From (Ai (Aa (Aa (Ab s_ K_0).2.1 8).2 7).2 (Ab s_ K_0).1 (Aa (Ab s_ K_0).2.1 8).1 (Int.tmod (IntKind.wrap .i64 ((IntKind.wrap .i64 ((Aa (Ab s_ K_0).2.1 8).1 + 1)) + (Aa (Aa (Ab s_ K_0).2.1 8).2 7).1)) 8)).1.To (Ai (Aa (Aa (Ab s_ K_0).2.1 8).2 7).2 (Ab s_ K_0).1 (Aa (Ab s_ K_0).2.1 8).1 (Int.tmod (IntKind.wrap .i64 ((IntKind.wrap .i64 ((Aa (Ab s_ K_0).2.1 8).1 + 1)) + (Aa (Aa (Ab s_ K_0).2.1 8).2 7).1)) 8)).1.Length (Ai (Aa (Aa (Ab s_ K_0).2.1 8).2 7).2 (Ab s_ K_0).1 (Aa (Ab s_ K_0).2.1 8).1 (Int.tmod (IntKind.wrap .i64 ((IntKind.wrap .i64 ((Aa (Ab s_ K_0).2.1 8).1 + 1)) + (Aa (Aa (Ab s_ K_0).2.1 8).2 7).1)) 8)).1.Section (Aj (Aa (Ai (Aa (Aa (Ab s_ K_0).2.1 8).2 7).2 (Ab s_ K_0).1 (Aa (Ab s_ K_0).2.1 8).1 (Int.tmod (IntKind.wrap .i64 ((IntKind.wrap .i64 ((Aa (Ab s_ K_0).2.1 8).1 + 1)) + (Aa (Aa (Ab s_ K_0).2.1 8).2 7).1)) 8)).2 20).2 ([0, 1, 1000, 1001] : List Int)).1 (Ai (Aa (Aa (Ab s_ K_0).2.1 8).2 7).2 (Ab s_ K_0).1 (Aa (Ab s_ K_0).2.1 8).1 (Int.tmod (IntKind.wrap .i64 ((IntKind.wrap .i64 ((Aa (Ab s_ K_0).2.1 8).1 + 1)) + (Aa (Aa (Ab s_ K_0).2.1 8).2 7).1)) 8)).1.Shock, (Aj (Aa (Ai (Aa (Aa (Ab s_ K_0).2.1 8).2 7).2 (Ab s_ K_0).1 (Aa (Ab s_ K_0).2.1 8).1 (Int.tmod (IntKind.wrap .i64 ((IntKind.wrap .i64 ((Aa (Ab s_ K_0).2.1 8).1 + 1)) + (Aa (Aa (Ab s_ K_0).2.1 8).2 7).1)) 8)).2 20).2 ([0, 1, 1000, 1001] : List Int)).2.1) else bif (Aa (Ai (Aa (Aa (Ab s_ K_0).2.1 8).2 7).2 (Ab s_ K_0).1 (Aa (Ab s_ K_0).2.1 8).1 (Int.tmod (IntKind.wrap .i64 ((IntKind.wrap .i64 ((Aa (Ab s_ K_0).2.1 8).1 + 1)) + (Aa (Aa (Ab s_ K_0).2.1 8).2 7).1)) 8)).2 20).1 == 4 then (Ar.mk (Ai (Aa (Aa (Ab s_ K_0).2.1 8).2 7).2 (Ab s_ K_0).1 (Aa (Ab s_ K_0).2.1 8).1 (Int.tmod (IntKind.wrap .i64 ((IntKind.wrap .i64 ((Aa (Ab s_ K_0).2.1 8).1 + 1)) + (Aa (Aa (Ab s_ K_0).2.1 8).2 7).1)) 8)).1.Id (Ai (Aa (Aa (Ab s_ K_0).2.1 8).2 7).2 (Ab s_ K_0).1 (Aa (Ab s_ K_0).2.1 8).1 (Int.tmod (IntKind.wrap .i64 ((IntKind.wrap .i64 ((Aa (Ab s_ K_0).2.1 8).1 + 1)) + (Aa (Aa (Ab s_ K_0).2.1 8).2 7).1)) 8)).1.From (Ai (Aa (Aa (Ab s_ K_0).2.1 8).2 7).2 (Ab s_ K_0).1 (Aa (Ab s_ K_0).2.1 8).1 (Int.tmod (IntKind.wrap .i64 ((IntKind.wrap .i64 ((Aa (Ab s_ K_0).2.1 8).1 + 1)) + (Aa (Aa (Ab s_ K_0).2.1 8).2 7).1)) 8)).1.To (Ai (Aa (Aa (Ab s_ K_0).2.1 8).2 7).2 (Ab s_ K_0).1 (Aa (Ab s_ K_0).2.1 8).1 (Int.tmod (IntKind.wrap .i64 ((IntKind.wrap .i64 ((Aa (Ab s_ K_0).2.1 8).1 + 1)) + (Aa (Aa (Ab s_ K_0).2.1 8).2 7).1)) 8)).1.Length (Ai (Aa (Aa (Ab s_ K_0).2.1 8).2 7).2 (Ab s_ K_0).1 (Aa (Ab s_ K_0).2.1 8).1 (Int.tmod (IntKind.wrap .i64 ((IntKind.wrap .i64 ((Aa (Ab s_ K_0).2.1 8).1 + 1)) + (Aa (Aa (Ab s_ K_0).2.1 8).2 7).1)) 8)).1.Section (Ai (Aa (Aa (Ab s_ K_0).2.1 8).2 7).2 (Ab s_ K_0).1 (Aa (Ab s_ K_0).2.1 8).1 (Int.tmod (IntKind.wrap .i64 ((IntKind.wrap .i64 ((Aa (Ab s_ K_0).2.1 8).1 + 1)) + (Aa (Aa (Ab s_ K_0).2.1 8).2 7).1)) 8)).1.Friction (Aj (Aa (Ai (Aa (Aa (Ab s_ K_0).2.1 8).2 7).2 (Ab s_ K_0).1 (Aa (Ab s_ K_0).2.1 8).1 (Int.tmod (IntKind.wrap .i64 ((IntKind.wrap .i64 ((Aa (Ab s_ K_0).2.1 8).1 + 1)) + (Aa (Aa (Ab s_ K_0).2.1 8).2 7).1)) 8)).2 20).2 ([(-1), 1000, 1001] : List Int)).1, (Aj (Aa (Ai (Aa (Aa (Ab s_ K_0).2.1 8).2 7).2 (Ab s_ K_0).1 (Aa (Ab s_ K_0).2.1 8).1 (Int.tmod (IntKind.wrap .i64 ((IntKind.wrap .i64 ((Aa (Ab s_ K_0).2.1 8).1 + 1)) + (Aa (Aa (Ab s_ K_0).2.1 8).2 7).1)) 8)).2 20).2 ([(-1), 1000, 1001] : List Int)).2.1) else ((Ai (Aa (Aa (Ab s_ K_0).2.1 8).2 7).2 (Ab s_ K_0).1 (Aa (Ab s_ K_0).2.1 8).1 (Int.tmod (IntKind.wrap .i64 ((IntKind.wrap .i64 ((Aa (Ab s_ K_0).2.1 8).1 + 1)) + (Aa (Aa (Ab s_ K_0).2.1 8).2 7).1)) 8)).1, (Aa (Ai (Aa (Aa (Ab s_ K_0).2.1 8).2 7).2 (Ab s_ K_0).1 (Aa (Ab s_ K_0).2.1 8).1 (Int.tmod (IntKind.wrap .i64 ((IntKind.wrap .i64 ((Aa (Ab s_ K_0).2.1 8).1 + 1)) + (Aa (Aa (Ab s_ K_0).2.1 8).2 7).1)) 8)).2 20).2)

/-! ### spec_l04Draw -/
def m_spec_l04Draw_b1 (s_ : Ak) (rec1 : ((List Int) × Int × Int × (List Ar) × Int) → (AB × Ak)) (k1 : ((List Int) × Int × Int × (List Ar) × Int) → (AB × Ak)) (x1 : (List Int) × Int × Int × (List Ar) × Int) : AB × Ak :=
  bif decide (x1.2.2.2.2 < (Aj (Aa (Ax s_).2 20).2 ([24, 25] : List Int)).1) then rec1 ((Ai (Ak.mk x1.1 x1.2.1 x1.2.2.1) (K_7 ++ (chars ([IntKind.wrap .u8 (IntKind.wrap .i64 (97 + x1.2.2.2.2))] : List Int))) (Int.tmod x1.2.2.2.2 4) (Int.tmod (x1.2.2.2.2 + 1) 4)).2.code, (Ai (Ak.mk x1.1 x1.2.1 x1.2.2.1) (K_7 ++ (chars ([IntKind.wrap .u8 (IntKind.wrap .i64 (97 + x1.2.2.2.2))] : List Int))) (Int.tmod x1.2.2.2.2 4) (Int.tmod (x1.2.2.2.2 + 1) 4)).2.at_, (Ai (Ak.mk x1.1 x1.2.1 x1.2.2.1) (K_7 ++ (chars ([IntKind.wrap .u8 (IntKind.wrap .i64 (97 + x1.2.2.2.2))] : List Int))) (Int.tmod x1.2.2.2.2 4) (Int.tmod (x1.2.2.2.2 + 1) 4)).2.seed, x1.2.2.2.1 ++ ([(Ai (Ak.mk x1.1 x1.2.1 x1.2.2.1) (K_7 ++ (chars ([IntKind.wrap .u8 (IntKind.wrap .i64 (97 + x1.2.2.2.2))] : List Int))) (Int.tmod x1.2.2.2.2 4) (Int.tmod (x1.2.2.2.2 + 1) 4)).1] : List Ar), x1.2.2.2.2 + 1) else k1 (x1.1, x1.2.1, x1.2.2.1, x1.2.2.2.1, x1.2.2.2.2)
def Al (s_ : Ak) : AB × Ak :=
  bif (Aa (Ax s_).2 20).1 == 0 then (AB.mk (Aj (Aa (Ax s_).2 20).2 ([0, 1, 16, 17] : List Int)).1 (Ax s_).1.Airways, (Aj (Aa (Ax s_).2 20).2 ([0, 1, 16, 17] : List Int)).2.1) else bif (Aa (Ax s_).2 20).1 == 1 then (AB.mk (Ax s_).1.Junctions ((Ax s_).1.Airways ++ ([(Bq (Aa (Ax s_).2 20).2).1] : List Ar)), (Bq (Aa (Ax s_).2 20).2).2) else bif (Aa (Ax s_).2 20).1 == 2 then LOOP (m_spec_l04Draw_b1 s_) (fun (x1 : (List Int) × Int × Int × (List Ar) × Int) => (AB.mk 4 x1.2.2.2.1, Ak.mk x1.1 x1.2.1 x1.2.2.1)) (((Aj (Aa (Ax s_).2 20).2 ([24, 25] : List Int)).1 - 0 : Int).toNat + 1) ((Aj (Aa (Ax s_).2 20).2 ([24, 25] : List Int)).2.1.code, (Aj (Aa (Ax s_).2 20).2 ([24, 25] : List Int)).2.1.at_, (Aj (Aa (Ax s_).2 20).2 ([24, 25] : List Int)).2.1.seed, ([] : List Ar), 0) else ((Ax s_).1, (Aa (Ax s_).2 20).2)

/-! ### spec_l20DrawSpeed -/
def Bw (s_ : Ak) : Int × Ak :=
  ((Aj s_ ([10, 60, 80, 100, 300, 9, 301, 70] : List Int)).1, (Aj s_ ([10, 60, 80, 100, 300, 9, 301, 70] : List Int)).2.1)

/-! ### spec_DrawFewestRefuges -/
def Ac (code : List Int) : AB × Int × Int × Int :=
  ((Al (AU code)).1, (Bw (Al (AU code)).2).1, (Aj (Bw (Al (AU code)).2).2 ([0, 300, 600, 1200, 9000, (-1)] : List Int)).1, (Aj (Aj (Bw (Al (AU code)).2).2 ([0, 300, 600, 1200, 9000, (-1)] : List Int)).2.1 ([1, 5, 60, 300, 20000, 0] : List Int)).1)

/-! ### impl_within -/
def Bl (n_ : Int) (low : Int) (high : Int) : Bool :=
  (decide (low ≤ n_)) && (decide (n_ ≤ high))

/-! ### impl_budgetValid -/
def C5 (budget : Int) : Bool :=
  Bl budget 1 20000

/-! ### impl_onlyNameBytes -/
def CT (s_ : List UInt8) (rec1 : Int → Bool) (k1 : Int → Bool) (x1 : Int) : Bool :=
  bif decide (x1 < (s_.length : Int)) then bif ((decide ((((s_.getD x1.toNat 0).toNat : Nat) : Int) < 97)) || (decide (122 < (((s_.getD x1.toNat 0).toNat : Nat) : Int)))) && ((decide ((((s_.getD x1.toNat 0).toNat : Nat) : Int) < 48)) || (decide (57 < (((s_.getD x1.toNat 0).toNat : Nat) : Int)))) then false else rec1 (x1 + 1) else k1 x1
def CN (s_ : List UInt8) : Bool :=
  LOOP (CT s_) (fun (x1 : Int) => true) (((s_.length : Int) - 0 : Int).toNat + 1) 0

/-! ### impl_IsName -/
def CU (s_ : List UInt8) : Bool :=
  bif (((decide ((s_.length : Int) < 1)) || (decide (10 < (s_.length : Int)))) || (decide ((((s_.getD (0 : Int).toNat 0).toNat : Nat) : Int) < 97))) || (decide (122 < (((s_.getD (0 : Int).toNat 0).toNat : Nat) : Int))) then false else CN s_

/-! ### impl_junctionOk -/
def BP (n_ : Int) : Bool :=
  Bl n_ 0 15

/-! ### impl_ValidAirway -/
def CG (a : Ar) : Bool :=
  (((((((CU a.Id) && (BP a.From)) && (BP a.To)) && (a.From != a.To)) && (Bl a.Length 1 10000)) && (Bl a.Section 50 5000)) && (Bl a.Friction 1 1000)) && (Bl a.Shock 0 1000)

/-! ### impl_Mine_hasJunction -/
def Bm (m_ : AB) (n_ : Int) : Bool :=
  Bl n_ 0 (IntKind.wrap .i64 (m_.Junctions - 1))

/-! ### impl_Mine_hasEnds -/
def CV (m_ : AB) (a : Ar) : Bool :=
  (Bm m_ a.From) && (Bm m_ a.To)

/-! ### impl_ValidMine -/
def Dr (m_ : AB) (rec1 : Int → Bool) (k1 : Int → Bool) (x1 : Int) : Bool :=
  bif decide (x1 < (m_.Airways.length : Int)) then bif ((!(CG (at' m_.Airways x1))) || (!(CV m_ (at' m_.Airways x1)))) || ((decide (0 < x1)) && (strB .leq (at' m_.Airways x1).Id (at' m_.Airways (x1 - 1)).Id)) then false else rec1 (x1 + 1) else k1 x1
def BO (m_ : AB) : Bool :=
  bif (!(Bl m_.Junctions 1 16)) || (decide (24 < (m_.Airways.length : Int))) then false else LOOP (Dr m_) (fun (x1 : Int) => true) (((m_.Airways.length : Int) - 0 : Int).toNat + 1) 0

/-! ### math_bits_Mul32 -/
def CP (x_ : Int) (y : Int) : Int × Int :=
  (IntKind.wrap .u32 (Int.fdiv (IntKind.wrap .u64 ((IntKind.wrap .u64 x_) * (IntKind.wrap .u64 y))) (2 ^ min (32 : Int).toNat 64)), IntKind.wrap .u32 (IntKind.wrap .u64 ((IntKind.wrap .u64 x_) * (IntKind.wrap .u64 y))))

/-! ### math_bits_Mul64 -/
def CQ (x_ : Int) (y : Int) : Int × Int :=
  (IntKind.wrap .u64 ((IntKind.wrap .u64 ((IntKind.wrap .u64 ((Int.fdiv x_ (2 ^ min (32 : Int).toNat 64)) * (Int.fdiv y (2 ^ min (32 : Int).toNat 64)))) + (Int.fdiv (IntKind.wrap .u64 ((IntKind.wrap .u64 ((Int.fdiv x_ (2 ^ min (32 : Int).toNat 64)) * (IntKind.wrap .u64 ((((BitVec.ofInt (IntKind.bits .u64) y) &&& (BitVec.ofInt (IntKind.bits .u64) 4294967295)).toNat : Nat) : Int)))) + (Int.fdiv (IntKind.wrap .u64 ((IntKind.wrap .u64 ((((BitVec.ofInt (IntKind.bits .u64) x_) &&& (BitVec.ofInt (IntKind.bits .u64) 4294967295)).toNat : Nat) : Int)) * (IntKind.wrap .u64 ((((BitVec.ofInt (IntKind.bits .u64) y) &&& (BitVec.ofInt (IntKind.bits .u64) 4294967295)).toNat : Nat) : Int)))) (2 ^ min (32 : Int).toNat 64)))) (2 ^ min (32 : Int).toNat 64)))) + (Int.fdiv (IntKind.wrap .u64 ((IntKind.wrap .u64 ((((BitVec.ofInt (IntKind.bits .u64) (IntKind.wrap .u64 ((IntKind.wrap .u64 ((Int.fdiv x_ (2 ^ min (32 : Int).toNat 64)) * (IntKind.wrap .u64 ((((BitVec.ofInt (IntKind.bits .u64) y) &&& (BitVec.ofInt (IntKind.bits .u64) 4294967295)).toNat : Nat) : Int)))) + (Int.fdiv (IntKind.wrap .u64 ((IntKind.wrap .u64 ((((BitVec.ofInt (IntKind.bits .u64) x_) &&& (BitVec.ofInt (IntKind.bits .u64) 4294967295)).toNat : Nat) : Int)) * (IntKind.wrap .u64 ((((BitVec.ofInt (IntKind.bits .u64) y) &&& (BitVec.ofInt (IntKind.bits .u64) 4294967295)).toNat : Nat) : Int)))) (2 ^ min (32 : Int).toNat 64))))) &&& (BitVec.ofInt (IntKind.bits .u64) 4294967295)).toNat : Nat) : Int)) + (IntKind.wrap .u64 ((IntKind.wrap .u64 ((((BitVec.ofInt (IntKind.bits .u64) x_) &&& (BitVec.ofInt (IntKind.bits .u64) 4294967295)).toNat : Nat) : Int)) * (Int.fdiv y (2 ^ min (32 : Int).toNat 64)))))) (2 ^ min (32 : Int).toNat 64))), IntKind.wrap .u64 (x_ * y))

/-! ### math_bits_Mul -/
def B1 (x_ : Int) (y : Int) : Int × Int :=
  bif false then (IntKind.wrap .u64 (CP (IntKind.wrap .u32 x_) (IntKind.wrap .u32 y)).1, IntKind.wrap .u64 (CP (IntKind.wrap .u32 x_) (IntKind.wrap .u32 y)).2) else ((CQ x_ y).1, (CQ x_ y).2)

/-! ### slices_Repeat_int64 -/
def Cl (x_ : List Int) (count : Int) (rec1 : ((List Int) × Int) → (List Int)) (k1 : ((List Int) × Int) → (List Int)) (x1 : (List Int) × Int) : (List Int) :=
  bif decide (x1.2 < (x1.1.length : Int)) then rec1 (cpy x1.1 (x1.2.toNat) ((pre' x1.1 x1.2).take (min (pre' x1.1 x1.2).length ((x1.1.length : Int).toNat - x1.2.toNat))), IntKind.wrap .i64 (x1.2 + (((min (pre' x1.1 x1.2).length ((x1.1.length : Int).toNat - x1.2.toNat)) : Nat) : Int))) else k1 (x1.1, x1.2)
def Bg (x_ : List Int) (count : Int) : (List Int) :=
  LOOP (Cl x_ count) (fun (x1 : (List Int) × Int) => x1.1) (count.toNat + 1) (cpy (List.replicate (IntKind.wrap .i64 (B1 (IntKind.wrap .u64 (x_.length : Int)) (IntKind.wrap .u64 count)).2 : Int).toNat (0 : Int)) (0) (x_.take (min x_.length (List.replicate (IntKind.wrap .i64 (B1 (IntKind.wrap .u64 (x_.length : Int)) (IntKind.wrap .u64 count)).2 : Int).toNat (0 : Int)).length)), (((min x_.length (List.replicate (IntKind.wrap .i64 (B1 (IntKind.wrap .u64 (x_.length : Int)) (IntKind.wrap .u64 count)).2 : Int).toNat (0 : Int)).length) : Nat) : Int))

/-! ### impl_escape_mayBe -/
def B8 (e : Co) (junction : Int) (second : Int) : Bool :=
  (decide ((at' e.arrivals junction) < 0)) || (decide (second < (at' e.arrivals junction)))

/-! ### impl_divUp -/
def BN (a : Int) (b : Int) : Int :=
  IntKind.wrap .i64 (Int.tdiv (IntKind.wrap .i64 ((IntKind.wrap .i64 (a + b)) - 1)) b)

/-! ### impl_Airway_walkTime -/
def A7 (a : Ar) (speed : Int) : Int :=
  BN (IntKind.wrap .i64 (100 * a.Length)) speed

/-! ### impl_escape_times -/
def BJ (e : Co) (c_ : Bu) (start : Int) (rec1 : ((List Int) × Bool) → (List Int)) (k1 : ((List Int) × Bool) → (List Int)) (x1 : (List Int) × Bool) (rec2 : ((List Int) × Bool × Int) → (List Int)) (k2 : ((List Int) × Bool × Int) → (List Int)) (x2 : (List Int) × Bool × Int) (rec3 : ((List Int) × Bool × Int) → (List Int)) (k3 : ((List Int) × Bool × Int) → (List Int)) (x3 : (List Int) × Bool × Int) : (List Int) :=
  bif decide (x3.2.2 < 2) then bif (((x2.2.2 != e.blocked) && (decide (0 ≤ (at' x3.1 (at' ([(at' e.mine.Airways x2.2.2).From, (at' e.mine.Airways x2.2.2).To] : List Int) x3.2.2))))) && ((decide ((at' x3.1 (at' ([(at' e.mine.Airways x2.2.2).To, (at' e.mine.Airways x2.2.2).From] : List Int) x3.2.2)) < 0)) || (decide ((IntKind.wrap .i64 ((at' x3.1 (at' ([(at' e.mine.Airways x2.2.2).From, (at' e.mine.Airways x2.2.2).To] : List Int) x3.2.2)) + (A7 (at' e.mine.Airways x2.2.2) c_.Speed))) < (at' x3.1 (at' ([(at' e.mine.Airways x2.2.2).To, (at' e.mine.Airways x2.2.2).From] : List Int) x3.2.2)))))) && (B8 e (at' ([(at' e.mine.Airways x2.2.2).To, (at' e.mine.Airways x2.2.2).From] : List Int) x3.2.2) (IntKind.wrap .i64 ((at' x3.1 (at' ([(at' e.mine.Airways x2.2.2).From, (at' e.mine.Airways x2.2.2).To] : List Int) x3.2.2)) + (A7 (at' e.mine.Airways x2.2.2) c_.Speed)))) then rec3 (put' x3.1 (at' ([(at' e.mine.Airways x2.2.2).To, (at' e.mine.Airways x2.2.2).From] : List Int) x3.2.2) (IntKind.wrap .i64 ((at' x3.1 (at' ([(at' e.mine.Airways x2.2.2).From, (at' e.mine.Airways x2.2.2).To] : List Int) x3.2.2)) + (A7 (at' e.mine.Airways x2.2.2) c_.Speed))), true, x3.2.2 + 1) else rec3 (x3.1, x3.2.1, x3.2.2 + 1) else k3 (x3.1, x3.2.1, x3.2.2)
def B6 (e : Co) (c_ : Bu) (start : Int) (rec1 : ((List Int) × Bool) → (List Int)) (k1 : ((List Int) × Bool) → (List Int)) (x1 : (List Int) × Bool) (rec2 : ((List Int) × Bool × Int) → (List Int)) (k2 : ((List Int) × Bool × Int) → (List Int)) (x2 : (List Int) × Bool × Int) : (List Int) :=
  bif decide (x2.2.2 < (e.mine.Airways.length : Int)) then LOOP (BJ e c_ start rec1 k1 x1 rec2 k2 x2) (fun (x3 : (List Int) × Bool × Int) => rec2 (x3.1, x3.2.1, x2.2.2 + 1)) ((2 - 0 : Int).toNat + 1) (x2.1, x2.2.1, 0) else k2 (x2.1, x2.2.1, x2.2.2)
def CB (e : Co) (c_ : Bu) (start : Int) (rec1 : ((List Int) × Bool) → (List Int)) (k1 : ((List Int) × Bool) → (List Int)) (x1 : (List Int) × Bool) : (List Int) :=
  bif x1.2 then LOOP (B6 e c_ start rec1 k1 x1) (fun (x2 : (List Int) × Bool × Int) => rec1 (x2.1, x2.2.1)) (((e.mine.Airways.length : Int) - 0 : Int).toNat + 1) (x1.1, false, 0) else k1 (x1.1, x1.2)
def Bj (e : Co) (c_ : Bu) (start : Int) : (List Int) :=
  bif !(B8 e c_.Junction start) then Bg K_6 e.mine.Junctions else LOOP (CB e c_ start) (fun (x1 : (List Int) × Bool) => x1.1) (300000000000) (put' (Bg K_6 e.mine.Junctions) c_.Junction start, true)

/-! ### impl_Mine_walkTimes -/
def A9 (m_ : AB) (junction : Int) (speed : Int) : (List Int) :=
  Bj (Co.mk m_ (Bg K_6 m_.Junctions) (-1)) (Bu.mk ([] : List UInt8) junction speed) 0

/-! ### slices_IndexFunc_int64 -/
def Bn (s_ : List Int) (f : (Int → Bool)) (rec1 : Int → Int) (k1 : Int → Int) (x1 : Int) : Int :=
  bif decide (x1 < (s_.length : Int)) then bif f (at' s_ x1) then x1 else rec1 (x1 + 1) else k1 x1
def Cm (s_ : List Int) (f : Int → Bool) : Int :=
  LOOP (Bn s_ f) (fun (x1 : Int) => (-1)) (((s_.length : Int) - 0 : Int).toNat + 1) 0

/-! ### slices_ContainsFunc_int64 -/
def Bo (s_ : List Int) (f : Int → Bool) : Bool :=
  decide (0 ≤ (Cm s_ f))

/-! ### impl_FewestRefuges_1_1_1 -/
def BR (to : Int) (p1 : List (List Int)) (p2 : Int) (p3 : Int) : Bool :=
  Bl (at' (at' p1 p2) to) 0 p3

/-! ### impl_FewestRefuges_1_1 -/
def BK (from_ : Int) (p1 : List Int) (p2 : List (List Int)) (p3 : Int) : Bool :=
  !(Bo p1 (fun (a0 : Int) => BR a0 p2 from_ p3))

/-! ### impl_FewestRefuges_1 -/
def B7 (some_ : List Int) (p1 : List (List Int)) (p2 : Int) (p3 : List Int) : Bool :=
  !(Bo p3 (fun (a0 : Int) => BK a0 some_ p1 p2))

/-! ### impl_setSearch_extend -/
def B5 (self_ : AA → Int → Int → (Bool × AA)) (s_ : AA) (from_ : Int) (more : Int) (rec1 : (Int × (List Int) × Int) → (Bool × AA)) (k1 : (Int × (List Int) × Int) → (Bool × AA)) (x1 : Int × (List Int) × Int) : Bool × AA :=
  bif decide ((IntKind.wrap .i64 (x1.2.2 + more)) ≤ (s_.list.length : Int)) then bif (self_ (AA.mk s_.list s_.right x1.1 (x1.2.1 ++ ([at' s_.list x1.2.2] : List Int))) (x1.2.2 + 1) (IntKind.wrap .i64 (more - 1))).1 then (true, AA.mk s_.list s_.right (self_ (AA.mk s_.list s_.right x1.1 (x1.2.1 ++ ([at' s_.list x1.2.2] : List Int))) (x1.2.2 + 1) (IntKind.wrap .i64 (more - 1))).2.budget (self_ (AA.mk s_.list s_.right x1.1 (x1.2.1 ++ ([at' s_.list x1.2.2] : List Int))) (x1.2.2 + 1) (IntKind.wrap .i64 (more - 1))).2.some_) else bif decide ((self_ (AA.mk s_.list s_.right x1.1 (x1.2.1 ++ ([at' s_.list x1.2.2] : List Int))) (x1.2.2 + 1) (IntKind.wrap .i64 (more - 1))).2.budget < 0) then (false, AA.mk s_.list s_.right (self_ (AA.mk s_.list s_.right x1.1 (x1.2.1 ++ ([at' s_.list x1.2.2] : List Int))) (x1.2.2 + 1) (IntKind.wrap .i64 (more - 1))).2.budget (pre' (self_ (AA.mk s_.list s_.right x1.1 (x1.2.1 ++ ([at' s_.list x1.2.2] : List Int))) (x1.2.2 + 1) (IntKind.wrap .i64 (more - 1))).2.some_ (IntKind.wrap .i64 (((self_ (AA.mk s_.list s_.right x1.1 (x1.2.1 ++ ([at' s_.list x1.2.2] : List Int))) (x1.2.2 + 1) (IntKind.wrap .i64 (more - 1))).2.some_.length : Int) - 1)))) else rec1 ((self_ (AA.mk s_.list s_.right x1.1 (x1.2.1 ++ ([at' s_.list x1.2.2] : List Int))) (x1.2.2 + 1) (IntKind.wrap .i64 (more - 1))).2.budget, pre' (self_ (AA.mk s_.list s_.right x1.1 (x1.2.1 ++ ([at' s_.list x1.2.2] : List Int))) (x1.2.2 + 1) (IntKind.wrap .i64 (more - 1))).2.some_ (IntKind.wrap .i64 (((self_ (AA.mk s_.list s_.right x1.1 (x1.2.1 ++ ([at' s_.list x1.2.2] : List Int))) (x1.2.2 + 1) (IntKind.wrap .i64 (more - 1))).2.some_.length : Int) - 1)), x1.2.2 + 1) else k1 (x1.1, x1.2.1, x1.2.2)
def m_impl_setSearch_extend_body (self_ : AA → Int → Int → (Bool × AA)) (s_ : AA) (from_ : Int) (more : Int) : Bool × AA :=
  bif more == 0 then ((decide (0 ≤ (IntKind.wrap .i64 (s_.budget - 1)))) && (B7 s_.some_ s_.right.c0 s_.right.c1 s_.right.c2), AA.mk s_.list s_.right (IntKind.wrap .i64 (s_.budget - 1)) s_.some_) else LOOP (B5 self_ s_ from_ more) (fun (x1 : Int × (List Int) × Int) => (false, AA.mk s_.list s_.right x1.1 x1.2.1)) (((s_.list.length : Int) - from_).toNat + 1) (s_.budget, s_.some_, from_)
def m_impl_setSearch_extend_n : Nat → AA → Int → Int → (Bool × AA)
  | 0 => fun _ _ _ => default
  | fuel + 1 => m_impl_setSearch_extend_body (m_impl_setSearch_extend_n fuel)
def A3 (s_ : AA) (from_ : Int) (more : Int) : Bool × AA := m_impl_setSearch_extend_n (more.toNat + 1) s_ from_ more

/-! ### impl_setSearch_first -/
def Cc (s_ : AA) (rec1 : (Int × (List Int) × Int) → ((List Int) × Int)) (k1 : (Int × (List Int) × Int) → ((List Int) × Int)) (x1 : Int × (List Int) × Int) : (List Int) × Int :=
  bif decide (x1.2.2 < ((s_.list.length : Int) + 1)) then bif (A3 (AA.mk s_.list s_.right x1.1 x1.2.1) 0 x1.2.2).1 then ((A3 (AA.mk s_.list s_.right x1.1 x1.2.1) 0 x1.2.2).2.some_, 0) else bif decide ((A3 (AA.mk s_.list s_.right x1.1 x1.2.1) 0 x1.2.2).2.budget < 0) then (K_5, 5) else rec1 ((A3 (AA.mk s_.list s_.right x1.1 x1.2.1) 0 x1.2.2).2.budget, (A3 (AA.mk s_.list s_.right x1.1 x1.2.1) 0 x1.2.2).2.some_, x1.2.2 + 1) else k1 (x1.1, x1.2.1, x1.2.2)
def BA (s_ : AA) : (List Int) × Int :=
  LOOP (Cc s_) (fun (x1 : Int × (List Int) × Int) => (K_5, 3)) ((((s_.list.length : Int) + 1) - 0 : Int).toNat + 1) (s_.budget, s_.some_, 0)

/-! ### impl_FewestRefuges -/
def Cr (m_ : AB) (speed : Int) (limit : Int) (budget : Int) (rec1 : ((List Int) × (List (List Int)) × Int) → ((List Int) × Int)) (k1 : ((List Int) × (List (List Int)) × Int) → ((List Int) × Int)) (x1 : (List Int) × (List (List Int)) × Int) : (List Int) × Int :=
  bif decide (x1.2.2 < m_.Junctions) then rec1 (x1.1 ++ ([x1.2.2] : List Int), x1.2.1 ++ ([A9 m_ x1.2.2 speed] : List (List Int)), x1.2.2 + 1) else k1 (x1.1, x1.2.1, x1.2.2)
def Ao (m_ : AB) (speed : Int) (limit : Int) (budget : Int) : (List Int) × Int :=
  bif !(BO m_) then (K_5, 1) else bif ((!(Bl speed 10 300)) || (decide (limit < 0))) || (!(C5 budget)) then (K_5, 2) else LOOP (Cr m_ speed limit budget) (fun (x1 : (List Int) × (List (List Int)) × Int) => ((BA (AA.mk x1.1 (gEnv45.mk x1.2.1 limit x1.1) budget K_5)).1, (BA (AA.mk x1.1 (gEnv45.mk x1.2.1 limit x1.1) budget K_5)).2)) ((m_.Junctions - 0 : Int).toNat + 1) (K_5, ([] : List (List Int)), 0)

/-! ### laws_b10Rises -/
def C6 (list : List Int) (n_ : Int) (rec1 : Int → Bool) (k1 : Int → Bool) (x1 : Int) : Bool :=
  bif decide (x1 < (list.length : Int)) then bif ((decide ((at' list x1) < 0)) || (decide (n_ ≤ (at' list x1)))) || ((decide (0 < x1)) && (decide ((at' list x1) ≤ (at' list (x1 - 1))))) then false else rec1 (x1 + 1) else k1 x1
def CR (list : List Int) (n_ : Int) : Bool :=
  LOOP (C6 list n_) (fun (x1 : Int) => true) (((list.length : Int) - 0 : Int).toNat + 1) 0

/-! ### spec_l20Speed -/
def Cz (speed : Int) : Bool :=
  AR speed 10 300

/-! ### spec_l20Walks -/
def CH (m_ : AB) (junction : Int) (speed : Int) (x1 : (List Int) × Int) (rec2 : ((List Int) × Int) → (List Int)) (k2 : ((List Int) × Int) → (List Int)) (x2 : (List Int) × Int) (rec3 : ((List Int) × Int) → (List Int)) (k3 : ((List Int) × Int) → (List Int)) (x3 : (List Int) × Int) : (List Int) :=
  bif decide (x3.2 < (m_.Airways.length : Int)) then JN (fun j13 => bif (decide (0 ≤ (at' x3.1 (at' m_.Airways x3.2).From))) && ((decide ((at' x3.1 (at' m_.Airways x3.2).To) < 0)) || (decide ((IntKind.wrap .i64 ((at' x3.1 (at' m_.Airways x3.2).From) + (Bf (at' m_.Airways x3.2) speed))) < (at' x3.1 (at' m_.Airways x3.2).To)))) then j13 (put' x3.1 (at' m_.Airways x3.2).To (IntKind.wrap .i64 ((at' x3.1 (at' m_.Airways x3.2).From) + (Bf (at' m_.Airways x3.2) speed)))) else j13 x3.1) (fun (v12 : (List Int)) => bif (decide (0 ≤ (at' v12 (at' m_.Airways x3.2).To))) && ((decide ((at' v12 (at' m_.Airways x3.2).From) < 0)) || (decide ((IntKind.wrap .i64 ((at' v12 (at' m_.Airways x3.2).To) + (Bf (at' m_.Airways x3.2) speed))) < (at' v12 (at' m_.Airways x3.2).From)))) then rec3 (put' v12 (at' m_.Airways x3.2).From (IntKind.wrap .i64 ((at' v12 (at' m_.Airways x3.2).To) + (Bf (at' m_.Airways x3.2) speed))), x3.2 + 1) else rec3 (v12, x3.2 + 1)) else k3 (x3.1, x3.2)
def Cn (m_ : AB) (junction : Int) (speed : Int) (x1 : (List Int) × Int) (rec2 : ((List Int) × Int) → (List Int)) (k2 : ((List Int) × Int) → (List Int)) (x2 : (List Int) × Int) : (List Int) :=
  bif decide (x2.2 < m_.Junctions) then LOOP (CH m_ junction speed x1 rec2 k2 x2) (fun (x3 : (List Int) × Int) => rec2 (x3.1, x2.2 + 1)) (((m_.Airways.length : Int) - 0 : Int).toNat + 1) (x2.1, 0) else k2 (x2.1, x2.2)
def CI (m_ : AB) (junction : Int) (speed : Int) (rec1 : ((List Int) × Int) → (List Int)) (k1 : ((List Int) × Int) → (List Int)) (x1 : (List Int) × Int) : (List Int) :=
  bif decide (x1.2 < m_.Junctions) then rec1 (x1.1 ++ K_6, x1.2 + 1) else k1 (x1.1, x1.2)
def Cj (m_ : AB) (junction : Int) (speed : Int) : (List Int) :=
  LOOP (CI m_ junction speed) (fun (x1 : (List Int) × Int) => LOOP (Cn m_ junction speed x1) (fun (x2 : (List Int) × Int) => x2.1) ((m_.Junctions - 0 : Int).toNat + 1) (put' x1.1 junction 0, 0)) ((m_.Junctions - 0 : Int).toNat + 1) (K_5, 0)

/-! ### spec_WalkTimes -/
def A6 (m_ : AB) (junction : Int) (speed : Int) : (List Int) × Int :=
  bif !(AD m_) then (K_5, 1) else bif (!(Bx m_ junction)) || (!(Cz speed)) then (K_5, 2) else (Cj m_ junction speed, 0)

/-! ### spec_l00Max -/
def AC (a : Int) (b : Int) : Int :=
  bif decide (b < a) then a else b

/-! ### spec_l00Min -/
def A4 (a : Int) (b : Int) : Int :=
  bif decide (a < b) then a else b

/-! ### spec_l04Parts -/
def Dy (m_ : AB) (list : List Int) (x1 : (List Int) × Int) (rec2 : ((List Int) × Int) → (List Int)) (k2 : ((List Int) × Int) → (List Int)) (x2 : (List Int) × Int) (rec3 : ((List Int) × Int) → (List Int)) (k3 : ((List Int) × Int) → (List Int)) (x3 : (List Int) × Int) : (List Int) :=
  bif decide (x3.2 < (x3.1.length : Int)) then bif (at' x3.1 x3.2) == (AC (at' x2.1 (at' m_.Airways (at' list x2.2)).From) (at' x2.1 (at' m_.Airways (at' list x2.2)).To)) then rec3 (put' x3.1 x3.2 (A4 (at' x2.1 (at' m_.Airways (at' list x2.2)).From) (at' x2.1 (at' m_.Airways (at' list x2.2)).To)), x3.2 + 1) else rec3 (x3.1, x3.2 + 1) else k3 (x3.1, x3.2)
def Dz (m_ : AB) (list : List Int) (x1 : (List Int) × Int) (rec2 : ((List Int) × Int) → (List Int)) (k2 : ((List Int) × Int) → (List Int)) (x2 : (List Int) × Int) : (List Int) :=
  bif decide (x2.2 < (list.length : Int)) then LOOP (Dy m_ list x1 rec2 k2 x2) (fun (x3 : (List Int) × Int) => rec2 (x3.1, x2.2 + 1)) (((x2.1.length : Int) - 0 : Int).toNat + 1) (x2.1, 0) else k2 (x2.1, x2.2)
def DA (m_ : AB) (list : List Int) (rec1 : ((List Int) × Int) → (List Int)) (k1 : ((List Int) × Int) → (List Int)) (x1 : (List Int) × Int) : (List Int) :=
  bif decide (x1.2 < m_.Junctions) then rec1 (x1.1 ++ ([x1.2] : List Int), x1.2 + 1) else k1 (x1.1, x1.2)
def B2 (m_ : AB) (list : List Int) : (List Int) :=
  LOOP (DA m_ list) (fun (x1 : (List Int) × Int) => LOOP (Dz m_ list x1) (fun (x2 : (List Int) × Int) => x2.1) (((list.length : Int) - 0 : Int).toNat + 1) (x1.1, 0)) ((m_.Junctions - 0 : Int).toNat + 1) (K_5, 0)

/-! ### spec_l04Tree -/
def m_spec_l04Tree_b1 (m_ : AB) (rec1 : ((List Int) × Int) → (List Int)) (k1 : ((List Int) × Int) → (List Int)) (x1 : (List Int) × Int) : (List Int) :=
  bif decide (x1.2 < (m_.Airways.length : Int)) then bif (at' (B2 m_ x1.1) (at' m_.Airways x1.2).From) != (at' (B2 m_ x1.1) (at' m_.Airways x1.2).To) then rec1 (x1.1 ++ ([x1.2] : List Int), x1.2 + 1) else rec1 (x1.1, x1.2 + 1) else k1 (x1.1, x1.2)
def Bs (m_ : AB) : (List Int) :=
  LOOP (m_spec_l04Tree_b1 m_) (fun (x1 : (List Int) × Int) => x1.1) (((m_.Airways.length : Int) - 0 : Int).toNat + 1) (K_5, 0)

/-! ### spec_l00Has -/
def m_spec_l00Has_b1 (list : List Int) (n_ : Int) (rec1 : Int → Bool) (k1 : Int → Bool) (x1 : Int) : Bool :=
  bif decide (x1 < (list.length : Int)) then bif (at' list x1) == n_ then true else rec1 (x1 + 1) else k1 x1
def CW (list : List Int) (n_ : Int) : Bool :=
  LOOP (m_spec_l00Has_b1 list n_) (fun (x1 : Int) => false) (((list.length : Int) - 0 : Int).toNat + 1) 0

/-! ### spec_l04Walk -/
def m_spec_l04Walk_b3 (m_ : AB) (list : List Int) (from_ : Int) (to : Int) (x1 : (List Int) × Int) (rec2 : ((List Int) × Int) → ((List Int) × Bool)) (k2 : ((List Int) × Int) → ((List Int) × Bool)) (x2 : (List Int) × Int) (rec3 : ((List Int) × Int) → ((List Int) × Bool)) (k3 : ((List Int) × Int) → ((List Int) × Bool)) (x3 : (List Int) × Int) : (List Int) × Bool :=
  bif decide (x3.2 < (list.length : Int)) then JN (fun j14 => bif ((at' x3.1 (at' m_.Airways (at' list x3.2)).From) == x2.2) && (decide ((at' x3.1 (at' m_.Airways (at' list x3.2)).To) < 0)) then j14 (put' x3.1 (at' m_.Airways (at' list x3.2)).To (x2.2 + 1)) else j14 x3.1) (fun (v13 : (List Int)) => bif ((at' v13 (at' m_.Airways (at' list x3.2)).To) == x2.2) && (decide ((at' v13 (at' m_.Airways (at' list x3.2)).From) < 0)) then rec3 (put' v13 (at' m_.Airways (at' list x3.2)).From (x2.2 + 1), x3.2 + 1) else rec3 (v13, x3.2 + 1)) else k3 (x3.1, x3.2)
def m_spec_l04Walk_b5 (m_ : AB) (list : List Int) (from_ : Int) (to : Int) (x1 : (List Int) × Int) (x2 : (List Int) × Int) (rec4 : ((List Int) × Int) → ((List Int) × Bool)) (k4 : ((List Int) × Int) → ((List Int) × Bool)) (x4 : (List Int) × Int) (rec5 : (Int × (List Int) × Int) → ((List Int) × Bool)) (k5 : (Int × (List Int) × Int) → ((List Int) × Bool)) (x5 : Int × (List Int) × Int) : (List Int) × Bool :=
  bif decide (x5.1 < (list.length : Int)) then bif ((at' m_.Airways (at' list x5.1)).From == x5.2.2) && ((at' x2.1 (at' m_.Airways (at' list x5.1)).To) == (IntKind.wrap .i64 ((at' x2.1 x5.2.2) - 1))) then k5 (x5.1, x5.2.1 ++ ([IntKind.wrap .i64 ((at' list x5.1) + 1)] : List Int), (at' m_.Airways (at' list x5.1)).To) else bif ((at' m_.Airways (at' list x5.1)).To == x5.2.2) && ((at' x2.1 (at' m_.Airways (at' list x5.1)).From) == (IntKind.wrap .i64 ((at' x2.1 x5.2.2) - 1))) then k5 (x5.1, x5.2.1 ++ ([IntKind.wrap .i64 ((IntKind.wrap .i64 (0 - (at' list x5.1))) - 1)] : List Int), (at' m_.Airways (at' list x5.1)).From) else rec5 (x5.1 + 1, x5.2.1, x5.2.2) else k5 (x5.1, x5.2.1, x5.2.2)
def m_spec_l04Walk_b4 (m_ : AB) (list : List Int) (from_ : Int) (to : Int) (x1 : (List Int) × Int) (x2 : (List Int) × Int) (rec4 : ((List Int) × Int) → ((List Int) × Bool)) (k4 : ((List Int) × Int) → ((List Int) × Bool)) (x4 : (List Int) × Int) : (List Int) × Bool :=
  bif x4.2 != to then LOOP (m_spec_l04Walk_b5 m_ list from_ to x1 x2 rec4 k4 x4) (fun (x5 : Int × (List Int) × Int) => rec4 (x5.2.1, x5.2.2)) (((list.length : Int) - 0 : Int).toNat + 1) (0, x4.1, x4.2) else k4 (x4.1, x4.2)
def m_spec_l04Walk_b2 (m_ : AB) (list : List Int) (from_ : Int) (to : Int) (x1 : (List Int) × Int) (rec2 : ((List Int) × Int) → ((List Int) × Bool)) (k2 : ((List Int) × Int) → ((List Int) × Bool)) (x2 : (List Int) × Int) : (List Int) × Bool :=
  bif decide (x2.2 < m_.Junctions) then LOOP (m_spec_l04Walk_b3 m_ list from_ to x1 rec2 k2 x2) (fun (x3 : (List Int) × Int) => rec2 (x3.1, x2.2 + 1)) (((list.length : Int) - 0 : Int).toNat + 1) (x2.1, 0) else k2 (x2.1, x2.2)
def m_spec_l04Walk_b1 (m_ : AB) (list : List Int) (from_ : Int) (to : Int) (rec1 : ((List Int) × Int) → ((List Int) × Bool)) (k1 : ((List Int) × Int) → ((List Int) × Bool)) (x1 : (List Int) × Int) : (List Int) × Bool :=
  bif decide (x1.2 < m_.Junctions) then rec1 (x1.1 ++ K_6, x1.2 + 1) else k1 (x1.1, x1.2)
def BT (m_ : AB) (list : List Int) (from_ : Int) (to : Int) : (List Int) × Bool :=
  LOOP (m_spec_l04Walk_b1 m_ list from_ to) (fun (x1 : (List Int) × Int) => LOOP (m_spec_l04Walk_b2 m_ list from_ to x1) (fun (x2 : (List Int) × Int) => bif decide ((at' x2.1 from_) < 0) then (K_5, false) else LOOP (m_spec_l04Walk_b4 m_ list from_ to x1 x2) (fun (x4 : (List Int) × Int) => (x4.1, true)) ((at' x2.1 from_).toNat + 1) (K_5, from_)) ((m_.Junctions - 0 : Int).toNat + 1) (put' x1.1 to 0, 0)) ((m_.Junctions - 0 : Int).toNat + 1) (K_5, 0)

/-! ### spec_l04Meshes -/
def Ds (m_ : AB) (rec1 : (Int × (List (List Int))) → (List (List Int))) (k1 : (Int × (List (List Int))) → (List (List Int))) (x1 : Int × (List (List Int))) : (List (List Int)) :=
  bif decide (x1.1 < (m_.Airways.length : Int)) then bif CW (Bs m_) x1.1 then rec1 (x1.1 + 1, x1.2) else rec1 (x1.1 + 1, x1.2 ++ ([([x1.1 + 1] : List Int) ++ (BT m_ (Bs m_) (at' m_.Airways x1.1).To (at' m_.Airways x1.1).From).1] : List (List Int))) else k1 (x1.1, x1.2)
def Be (m_ : AB) : (List (List Int)) :=
  LOOP (Ds m_) (fun (x1 : Int × (List (List Int))) => x1.2) (((m_.Airways.length : Int) - 0 : Int).toNat + 1) (0, ([] : List (List Int)))

/-! ### spec_l07Add -/
def m_spec_l07Add_b1 (flows : List Int) (walk : List Int) (amount : Int) (rec1 : ((List Int) × Int) → (List Int)) (k1 : ((List Int) × Int) → (List Int)) (x1 : (List Int) × Int) : (List Int) :=
  bif decide (x1.2 < (walk.length : Int)) then bif decide (0 < (at' walk x1.2)) then rec1 (put' x1.1 (IntKind.wrap .i64 ((at' walk x1.2) - 1)) (IntKind.wrap .i64 ((at' x1.1 (IntKind.wrap .i64 ((at' walk x1.2) - 1))) + amount)), x1.2 + 1) else rec1 (put' x1.1 (IntKind.wrap .i64 ((IntKind.wrap .i64 (0 - (at' walk x1.2))) - 1)) (IntKind.wrap .i64 ((at' x1.1 (IntKind.wrap .i64 ((IntKind.wrap .i64 (0 - (at' walk x1.2))) - 1))) - amount)), x1.2 + 1) else k1 (x1.1, x1.2)
def Dh (flows : List Int) (walk : List Int) (amount : Int) : (List Int) :=
  LOOP (m_spec_l07Add_b1 flows walk amount) (fun (x1 : (List Int) × Int) => x1.1) (((walk.length : Int) - 0 : Int).toNat + 1) (flows, 0)

/-! ### spec_l07DrawFlows -/
def C2 (s_ : Ak) (m_ : AB) (j3 : ((List Int) × Int × Int × (List Int)) → ((List Int) × Ak)) (rec1 : ((List Int) × Int × Int × (List Int) × Int) → ((List Int) × Ak)) (k1 : ((List Int) × Int × Int × (List Int) × Int) → ((List Int) × Ak)) (x1 : (List Int) × Int × Int × (List Int) × Int) : (List Int) × Ak :=
  bif decide (x1.2.2.2.2 < ((Be m_).length : Int)) then rec1 ((Aa (Ak.mk x1.1 x1.2.1 x1.2.2.1) 4000).2.code, (Aa (Ak.mk x1.1 x1.2.1 x1.2.2.1) 4000).2.at_, (Aa (Ak.mk x1.1 x1.2.1 x1.2.2.1) 4000).2.seed, Dh x1.2.2.2.1 (at' (Be m_) x1.2.2.2.2) (IntKind.wrap .i64 ((Aa (Ak.mk x1.1 x1.2.1 x1.2.2.1) 4000).1 - 1500)), x1.2.2.2.2 + 1) else k1 (x1.1, x1.2.1, x1.2.2.1, x1.2.2.2.1, x1.2.2.2.2)
def C3 (s_ : Ak) (m_ : AB) (j3 : ((List Int) × Int × Int × (List Int)) → ((List Int) × Ak)) (rec2 : ((List Int) × Int × Int × (List Int) × Int) → ((List Int) × Ak)) (k2 : ((List Int) × Int × Int × (List Int) × Int) → ((List Int) × Ak)) (x2 : (List Int) × Int × Int × (List Int) × Int) : (List Int) × Ak :=
  bif decide (x2.2.2.2.2 < (x2.2.2.2.1.length : Int)) then rec2 ((Aa (Ak.mk x2.1 x2.2.1 x2.2.2.1) 4000).2.code, (Aa (Ak.mk x2.1 x2.2.1 x2.2.2.1) 4000).2.at_, (Aa (Ak.mk x2.1 x2.2.1 x2.2.2.1) 4000).2.seed, put' x2.2.2.2.1 x2.2.2.2.2 (IntKind.wrap .i64 ((Aa (Ak.mk x2.1 x2.2.1 x2.2.2.1) 4000).1 - 2000)), x2.2.2.2.2 + 1) else k2 (x2.1, x2.2.1, x2.2.2.1, x2.2.2.2.1, x2.2.2.2.2)
def AM (s_ : Ak) (m_ : AB) : (List Int) × Ak :=
  JN (fun j3 => bif (AD m_) && (decide (0 < (Aa s_ 4).1)) then LOOP (C2 s_ m_ j3) (fun (x1 : (List Int) × Int × Int × (List Int) × Int) => j3 (x1.1, x1.2.1, x1.2.2.1, x1.2.2.2.1)) ((((Be m_).length : Int) - 0 : Int).toNat + 1) ((bif (AD m_) then (Aa s_ 4).2 else s_).code, (bif (AD m_) then (Aa s_ 4).2 else s_).at_, (bif (AD m_) then (Aa s_ 4).2 else s_).seed, List.replicate ((m_.Airways.length : Int) : Int).toNat (0 : Int), 0) else LOOP (C3 s_ m_ j3) (fun (x2 : (List Int) × Int × Int × (List Int) × Int) => j3 (x2.1, x2.2.1, x2.2.2.1, x2.2.2.2.1)) ((((List.replicate ((m_.Airways.length : Int) : Int).toNat (0 : Int)).length : Int) - 0 : Int).toNat + 1) ((bif (AD m_) then (Aa s_ 4).2 else s_).code, (bif (AD m_) then (Aa s_ 4).2 else s_).at_, (bif (AD m_) then (Aa s_ 4).2 else s_).seed, List.replicate ((m_.Airways.length : Int) : Int).toNat (0 : Int), 0)) (fun (v2 : (List Int) × Int × Int × (List Int)) => bif (Aa (Ak.mk v2.1 v2.2.1 v2.2.2.1) 20).1 == 0 then (v2.2.2.2 ++ ([0] : List Int), (Aa (Ak.mk v2.1 v2.2.1 v2.2.2.1) 20).2) else bif (Aa (Ak.mk v2.1 v2.2.1 v2.2.2.1) 20).1 == 1 then bif decide (0 < (v2.2.2.2.length : Int)) then (put' v2.2.2.2 0 (Aj (Aa (Ak.mk v2.1 v2.2.1 v2.2.2.1) 20).2 ([100000, 100001, (-100001)] : List Int)).1, (Aj (Aa (Ak.mk v2.1 v2.2.1 v2.2.2.1) 20).2 ([100000, 100001, (-100001)] : List Int)).2.1) else (v2.2.2.2, (Aa (Ak.mk v2.1 v2.2.1 v2.2.2.1) 20).2) else (v2.2.2.2, (Aa (Ak.mk v2.1 v2.2.1 v2.2.2.1) 20).2))

/-! ### spec_l17DrawFire -/
def A1 (s_ : Ak) (m_ : AB) : Da × Ak :=
  JN (fun j3 => bif decide (0 < (m_.Airways.length : Int)) then j3 ((Aa (Aa (Aa s_ 10).2 (m_.Airways.length : Int)).2 (AC 1 (at' m_.Airways (Aa (Aa s_ 10).2 (m_.Airways.length : Int)).1).Length)).2.code, (Aa (Aa (Aa s_ 10).2 (m_.Airways.length : Int)).2 (AC 1 (at' m_.Airways (Aa (Aa s_ 10).2 (m_.Airways.length : Int)).1).Length)).2.at_, (Aa (Aa (Aa s_ 10).2 (m_.Airways.length : Int)).2 (AC 1 (at' m_.Airways (Aa (Aa s_ 10).2 (m_.Airways.length : Int)).1).Length)).2.seed, (Aa (Aa s_ 10).2 (m_.Airways.length : Int)).1, (Aa (Aa (Aa s_ 10).2 (m_.Airways.length : Int)).2 (AC 1 (at' m_.Airways (Aa (Aa s_ 10).2 (m_.Airways.length : Int)).1).Length)).1) else j3 ((Aa s_ 10).2.code, (Aa s_ 10).2.at_, (Aa s_ 10).2.seed, 0, 0)) (fun (v2 : (List Int) × Int × Int × Int × Int) => bif (Aa (Ak.mk v2.1 v2.2.1 v2.2.2.1) 20).1 == 0 then (Da.mk (Aj (Aa (Ak.mk v2.1 v2.2.1 v2.2.2.1) 20).2 ([(-1), (m_.Airways.length : Int), 24] : List Int)).1 v2.2.2.2.2 (IntKind.wrap .i64 (60 * (Aa s_ 10).1)), (Aj (Aa (Ak.mk v2.1 v2.2.1 v2.2.2.1) 20).2 ([(-1), (m_.Airways.length : Int), 24] : List Int)).2.1) else bif (Aa (Ak.mk v2.1 v2.2.1 v2.2.2.1) 20).1 == 1 then (Da.mk v2.2.2.2.1 (Aj (Aa (Ak.mk v2.1 v2.2.1 v2.2.2.1) 20).2 ([(-1), 10000, 10001] : List Int)).1 (IntKind.wrap .i64 (60 * (Aa s_ 10).1)), (Aj (Aa (Ak.mk v2.1 v2.2.1 v2.2.2.1) 20).2 ([(-1), 10000, 10001] : List Int)).2.1) else bif (Aa (Ak.mk v2.1 v2.2.1 v2.2.2.1) 20).1 == 2 then (Da.mk v2.2.2.2.1 v2.2.2.2.2 (Aj (Aa (Ak.mk v2.1 v2.2.1 v2.2.2.1) 20).2 ([(-1), 36000, 36001] : List Int)).1, (Aj (Aa (Ak.mk v2.1 v2.2.1 v2.2.2.1) 20).2 ([(-1), 36000, 36001] : List Int)).2.1) else (Da.mk v2.2.2.2.1 v2.2.2.2.2 (IntKind.wrap .i64 (60 * (Aa s_ 10).1)), (Aa (Ak.mk v2.1 v2.2.1 v2.2.2.1) 20).2))

/-! ### spec_l17One -/
def DB (f : Da) : Bool :=
  ((AR f.Airway 0 23) && (AR f.At 0 10000)) && (AR f.Start 0 36000)

/-! ### spec_l17Fire -/
def CZ (m_ : AB) (f : Da) : Bool :=
  ((DB f) && (decide (f.Airway < (m_.Airways.length : Int)))) && (decide (f.At ≤ (at' m_.Airways f.Airway).Length))

/-! ### spec_l03Flow -/
def Dm (q : Int) : Bool :=
  AR q (-100000) 100000

/-! ### spec_l07Flows -/
def m_spec_l07Flows_b1 (m_ : AB) (flows : List Int) (rec1 : Int → Bool) (k1 : Int → Bool) (x1 : Int) : Bool :=
  bif decide (x1 < (flows.length : Int)) then bif !(Dm (at' flows x1)) then false else rec1 (x1 + 1) else k1 x1
def De (m_ : AB) (flows : List Int) : Bool :=
  LOOP (m_spec_l07Flows_b1 m_ flows) (fun (x1 : Int) => (flows.length : Int) == (m_.Airways.length : Int)) (((flows.length : Int) - 0 : Int).toNat + 1) 0

/-! ### spec_l17Ask -/
def Cd (m_ : AB) (flows : List Int) (f : Da) : Int :=
  bif (!(AD m_)) || (!(CZ m_ f)) then 1 else bif !(De m_ flows) then 7 else 0

/-! ### spec_l03Abs -/
def CJ (n_ : Int) : Int :=
  AC n_ (IntKind.wrap .i64 (0 - n_))

/-! ### spec_l17Leave -/
def BU (m_ : AB) (flows : List Int) (f : Da) : Int :=
  JN (fun j4 => bif decide (0 < (at' flows f.Airway)) then j4 (IntKind.wrap .i64 ((at' m_.Airways f.Airway).Length - f.At)) else j4 f.At) (fun (v3 : Int) => IntKind.wrap .i64 (f.Start + (IntKind.wrap .i64 (Int.tdiv (IntKind.wrap .i64 ((IntKind.wrap .i64 ((IntKind.wrap .i64 (v3 * (at' m_.Airways f.Airway).Section)) + (CJ (at' flows f.Airway)))) - 1)) (CJ (at' flows f.Airway))))))

/-! ### spec_l13Start -/
def Bi (a : Ar) (flow : Int) : Int :=
  bif decide (0 < flow) then a.From else a.To

/-! ### spec_l03Time -/
def Cv (a : Ar) (flow : Int) : Int :=
  IntKind.wrap .i64 (Int.tdiv (IntKind.wrap .i64 ((IntKind.wrap .i64 ((IntKind.wrap .i64 (a.Length * a.Section)) + (CJ flow))) - 1)) (CJ flow))

/-! ### spec_l17Arrival -/
def Cp (m_ : AB) (flows : List Int) (f : Da) (x1 : (List Int) × Int) (rec2 : ((List Int) × Int) → (List Int)) (k2 : ((List Int) × Int) → (List Int)) (x2 : (List Int) × Int) (rec3 : (Int × (List Int)) → (List Int)) (k3 : (Int × (List Int)) → (List Int)) (x3 : Int × (List Int)) : (List Int) :=
  bif decide (x3.1 < (flows.length : Int)) then bif (at' flows x3.1) == 0 then rec3 (x3.1 + 1, x3.2) else bif decide ((at' x3.2 (Bi (at' m_.Airways x3.1) (at' flows x3.1))) < 0) then rec3 (x3.1 + 1, x3.2) else bif (decide ((at' x3.2 (Bi (at' m_.Airways x3.1) (IntKind.wrap .i64 (0 - (at' flows x3.1))))) < 0)) || (decide ((IntKind.wrap .i64 ((at' x3.2 (Bi (at' m_.Airways x3.1) (at' flows x3.1))) + (Cv (at' m_.Airways x3.1) (at' flows x3.1)))) < (at' x3.2 (Bi (at' m_.Airways x3.1) (IntKind.wrap .i64 (0 - (at' flows x3.1))))))) then rec3 (x3.1 + 1, put' x3.2 (Bi (at' m_.Airways x3.1) (IntKind.wrap .i64 (0 - (at' flows x3.1)))) (IntKind.wrap .i64 ((at' x3.2 (Bi (at' m_.Airways x3.1) (at' flows x3.1))) + (Cv (at' m_.Airways x3.1) (at' flows x3.1))))) else rec3 (x3.1 + 1, x3.2) else k3 (x3.1, x3.2)
def B3 (m_ : AB) (flows : List Int) (f : Da) (x1 : (List Int) × Int) (rec2 : ((List Int) × Int) → (List Int)) (k2 : ((List Int) × Int) → (List Int)) (x2 : (List Int) × Int) : (List Int) :=
  bif decide (x2.2 < m_.Junctions) then LOOP (Cp m_ flows f x1 rec2 k2 x2) (fun (x3 : Int × (List Int)) => rec2 (x3.2, x2.2 + 1)) (((flows.length : Int) - 0 : Int).toNat + 1) (0, x2.1) else k2 (x2.1, x2.2)
def Cq (m_ : AB) (flows : List Int) (f : Da) (rec1 : ((List Int) × Int) → (List Int)) (k1 : ((List Int) × Int) → (List Int)) (x1 : (List Int) × Int) : (List Int) :=
  bif decide (x1.2 < m_.Junctions) then rec1 (x1.1 ++ K_6, x1.2 + 1) else k1 (x1.1, x1.2)
def BQ (m_ : AB) (flows : List Int) (f : Da) : (List Int) :=
  LOOP (Cq m_ flows f) (fun (x1 : (List Int) × Int) => bif (at' flows f.Airway) == 0 then x1.1 else LOOP (B3 m_ flows f x1) (fun (x2 : (List Int) × Int) => x2.1) ((m_.Junctions - 0 : Int).toNat + 1) (put' x1.1 (Bi (at' m_.Airways f.Airway) (IntKind.wrap .i64 (0 - (at' flows f.Airway)))) (BU m_ flows f), 0)) ((m_.Junctions - 0 : Int).toNat + 1) (K_5, 0)

/-! ### spec_l19DrawArrivals -/
def Ce (s_ : Ak) (m_ : AB) (v2 : (List Int) × Int × Int) (rec1 : ((List Int) × Int × Int × (List Int) × Int) → ((List Int) × Ak)) (k1 : ((List Int) × Int × Int × (List Int) × Int) → ((List Int) × Ak)) (x1 : (List Int) × Int × Int × (List Int) × Int) : (List Int) × Ak :=
  bif decide (x1.2.2.2.2 < (A4 m_.Junctions 17)) then rec1 ((Aj (Aa (Ak.mk x1.1 x1.2.1 x1.2.2.1) 60).2 ([(-1), (-1), IntKind.wrap .i64 (30 * (Aa (Ak.mk x1.1 x1.2.1 x1.2.2.1) 60).1), IntKind.wrap .i64 (30 * (Aa (Ak.mk x1.1 x1.2.1 x1.2.2.1) 60).1), IntKind.wrap .i64 (30 * (Aa (Ak.mk x1.1 x1.2.1 x1.2.2.1) 60).1)] : List Int)).2.1.code, (Aj (Aa (Ak.mk x1.1 x1.2.1 x1.2.2.1) 60).2 ([(-1), (-1), IntKind.wrap .i64 (30 * (Aa (Ak.mk x1.1 x1.2.1 x1.2.2.1) 60).1), IntKind.wrap .i64 (30 * (Aa (Ak.mk x1.1 x1.2.1 x1.2.2.1) 60).1), IntKind.wrap .i64 (30 * (Aa (Ak.mk x1.1 x1.2.1 x1.2.2.1) 60).1)] : List Int)).2.1.at_, (Aj (Aa (Ak.mk x1.1 x1.2.1 x1.2.2.1) 60).2 ([(-1), (-1), IntKind.wrap .i64 (30 * (Aa (Ak.mk x1.1 x1.2.1 x1.2.2.1) 60).1), IntKind.wrap .i64 (30 * (Aa (Ak.mk x1.1 x1.2.1 x1.2.2.1) 60).1), IntKind.wrap .i64 (30 * (Aa (Ak.mk x1.1 x1.2.1 x1.2.2.1) 60).1)] : List Int)).2.1.seed, x1.2.2.2.1 ++ ([(Aj (Aa (Ak.mk x1.1 x1.2.1 x1.2.2.1) 60).2 ([(-1), (-1), IntKind.wrap .i64 (30 * (Aa (Ak.mk x1.1 x1.2.1 x1.2.2.1) 60).1), IntKind.wrap .i64 (30 * (Aa (Ak.mk x1.1 x1.2.1 x1.2.2.1) 60).1), IntKind.wrap .i64 (30 * (Aa (Ak.mk x1.1 x1.2.1 x1.2.2.1) 60).1)] : List Int)).1] : List Int), x1.2.2.2.2 + 1) else k1 (x1.1, x1.2.1, x1.2.2.1, x1.2.2.2.1, x1.2.2.2.2)
def Ay (s_ : Ak) (m_ : AB) : (List Int) × Ak :=
  JN (fun j3 => bif ((AD m_) && (decide (0 < (m_.Airways.length : Int)))) && (decide (0 < (Aa s_ 3).1)) then bif (Cd m_ (AM (bif ((AD m_) && (decide (0 < (m_.Airways.length : Int)))) then (Aa s_ 3).2 else s_) m_).1 (A1 (AM (bif ((AD m_) && (decide (0 < (m_.Airways.length : Int)))) then (Aa s_ 3).2 else s_) m_).2 m_).1) == 0 then (BQ m_ (AM (bif ((AD m_) && (decide (0 < (m_.Airways.length : Int)))) then (Aa s_ 3).2 else s_) m_).1 (A1 (AM (bif ((AD m_) && (decide (0 < (m_.Airways.length : Int)))) then (Aa s_ 3).2 else s_) m_).2 m_).1, (A1 (AM (bif ((AD m_) && (decide (0 < (m_.Airways.length : Int)))) then (Aa s_ 3).2 else s_) m_).2 m_).2) else j3 ((A1 (AM (bif ((AD m_) && (decide (0 < (m_.Airways.length : Int)))) then (Aa s_ 3).2 else s_) m_).2 m_).2.code, (A1 (AM (bif ((AD m_) && (decide (0 < (m_.Airways.length : Int)))) then (Aa s_ 3).2 else s_) m_).2 m_).2.at_, (A1 (AM (bif ((AD m_) && (decide (0 < (m_.Airways.length : Int)))) then (Aa s_ 3).2 else s_) m_).2 m_).2.seed) else j3 ((bif ((AD m_) && (decide (0 < (m_.Airways.length : Int)))) then (Aa s_ 3).2 else s_).code, (bif ((AD m_) && (decide (0 < (m_.Airways.length : Int)))) then (Aa s_ 3).2 else s_).at_, (bif ((AD m_) && (decide (0 < (m_.Airways.length : Int)))) then (Aa s_ 3).2 else s_).seed)) (fun (v2 : (List Int) × Int × Int) => LOOP (Ce s_ m_ v2) (fun (x1 : (List Int) × Int × Int × (List Int) × Int) => bif (Aa (Ak.mk x1.1 x1.2.1 x1.2.2.1) 16).1 == 0 then (x1.2.2.2.1 ++ K_6, (Aa (Ak.mk x1.1 x1.2.1 x1.2.2.1) 16).2) else bif (Aa (Ak.mk x1.1 x1.2.1 x1.2.2.1) 16).1 == 1 then bif decide (0 < (x1.2.2.2.1.length : Int)) then (put' x1.2.2.2.1 0 (-2), (Aa (Ak.mk x1.1 x1.2.1 x1.2.2.1) 16).2) else (x1.2.2.2.1, (Aa (Ak.mk x1.1 x1.2.1 x1.2.2.1) 16).2) else (x1.2.2.2.1, (Aa (Ak.mk x1.1 x1.2.1 x1.2.2.1) 16).2)) (((A4 m_.Junctions 17) - 0 : Int).toNat + 1) (v2.1, v2.2.1, v2.2.2, K_5, 0))

/-! ### spec_l19DrawCrew -/
def AN (s_ : Ak) (m_ : AB) : Bu × Ak :=
  bif (Aa (Aa (Aa (Ab s_ K_1).2.1 150).2 (AC 1 (A4 m_.Junctions 16))).2 20).1 == 0 then (Bu.mk (Ab s_ K_1).1 (Aj (Aa (Aa (Aa (Ab s_ K_1).2.1 150).2 (AC 1 (A4 m_.Junctions 16))).2 20).2 ([(-1), m_.Junctions, 15, 16] : List Int)).1 (IntKind.wrap .i64 (30 + (Aa (Ab s_ K_1).2.1 150).1)), (Aj (Aa (Aa (Aa (Ab s_ K_1).2.1 150).2 (AC 1 (A4 m_.Junctions 16))).2 20).2 ([(-1), m_.Junctions, 15, 16] : List Int)).2.1) else bif (Aa (Aa (Aa (Ab s_ K_1).2.1 150).2 (AC 1 (A4 m_.Junctions 16))).2 20).1 == 1 then (Bu.mk (Ab s_ K_1).1 (Aa (Aa (Ab s_ K_1).2.1 150).2 (AC 1 (A4 m_.Junctions 16))).1 (Aj (Aa (Aa (Aa (Ab s_ K_1).2.1 150).2 (AC 1 (A4 m_.Junctions 16))).2 20).2 ([9, 10, 300, 301] : List Int)).1, (Aj (Aa (Aa (Aa (Ab s_ K_1).2.1 150).2 (AC 1 (A4 m_.Junctions 16))).2 20).2 ([9, 10, 300, 301] : List Int)).2.1) else (Bu.mk (Ab s_ K_1).1 (Aa (Aa (Ab s_ K_1).2.1 150).2 (AC 1 (A4 m_.Junctions 16))).1 (IntKind.wrap .i64 (30 + (Aa (Ab s_ K_1).2.1 150).1)), (Aa (Aa (Aa (Ab s_ K_1).2.1 150).2 (AC 1 (A4 m_.Junctions 16))).2 20).2)

/-! ### spec_l19DrawAll -/
def AL (s_ : Ak) : AB × (List Int) × Int × Bu × Int × Ak :=
  (AB.mk (Al s_).1.Junctions (Al s_).1.Airways, (Ay (Al s_).2 (AB.mk (Al s_).1.Junctions (Al s_).1.Airways)).1, IntKind.wrap .i64 ((Aa (Ay (Al s_).2 (AB.mk (Al s_).1.Junctions (Al s_).1.Airways)).2 9).1 - 1), (AN (Aa (Ay (Al s_).2 (AB.mk (Al s_).1.Junctions (Al s_).1.Airways)).2 9).2 (AB.mk (Al s_).1.Junctions (Al s_).1.Airways)).1, (Aj (Aa (AN (Aa (Ay (Al s_).2 (AB.mk (Al s_).1.Junctions (Al s_).1.Airways)).2 9).2 (AB.mk (Al s_).1.Junctions (Al s_).1.Airways)).2 30).2 ([IntKind.wrap .i64 (20 * (Aa (AN (Aa (Ay (Al s_).2 (AB.mk (Al s_).1.Junctions (Al s_).1.Airways)).2 9).2 (AB.mk (Al s_).1.Junctions (Al s_).1.Airways)).2 30).1), IntKind.wrap .i64 (20 * (Aa (AN (Aa (Ay (Al s_).2 (AB.mk (Al s_).1.Junctions (Al s_).1.Airways)).2 9).2 (AB.mk (Al s_).1.Junctions (Al s_).1.Airways)).2 30).1), IntKind.wrap .i64 (20 * (Aa (AN (Aa (Ay (Al s_).2 (AB.mk (Al s_).1.Junctions (Al s_).1.Airways)).2 9).2 (AB.mk (Al s_).1.Junctions (Al s_).1.Airways)).2 30).1), 0, 0, 36000, 36001, (-1)] : List Int)).1, (Aj (Aa (AN (Aa (Ay (Al s_).2 (AB.mk (Al s_).1.Junctions (Al s_).1.Airways)).2 9).2 (AB.mk (Al s_).1.Junctions (Al s_).1.Airways)).2 30).2 ([IntKind.wrap .i64 (20 * (Aa (AN (Aa (Ay (Al s_).2 (AB.mk (Al s_).1.Junctions (Al s_).1.Airways)).2 9).2 (AB.mk (Al s_).1.Junctions (Al s_).1.Airways)).2 30).1), IntKind.wrap .i64 (20 * (Aa (AN (Aa (Ay (Al s_).2 (AB.mk (Al s_).1.Junctions (Al s_).1.Airways)).2 9).2 (AB.mk (Al s_).1.Junctions (Al s_).1.Airways)).2 30).1), IntKind.wrap .i64 (20 * (Aa (AN (Aa (Ay (Al s_).2 (AB.mk (Al s_).1.Junctions (Al s_).1.Airways)).2 9).2 (AB.mk (Al s_).1.Junctions (Al s_).1.Airways)).2 30).1), 0, 0, 36000, 36001, (-1)] : List Int)).2.1)

/-! ### spec_l20DrawOne -/
def AH (s_ : Ak) (id : List UInt8) (junction : Int) : AS × Ak :=
  (AS.mk id junction (IntKind.wrap .i64 (1 + (Aa s_ 20).1)) (Aj (Aa s_ 20).2 ([0, 1000, 5000, 40000, 10000000] : List Int)).1, (Aj (Aa s_ 20).2 ([0, 1000, 5000, 40000, 10000000] : List Int)).2.1)

/-! ### spec_l20Bend -/
def BF (s_ : Ak) (x_ : AS) : AS × Ak :=
  bif (Aa s_ 20).1 == 0 then (AS.mk x_.Id (Aj (Aa s_ 20).2 ([(-1), 15, 16] : List Int)).1 x_.Places x_.Air, (Aj (Aa s_ 20).2 ([(-1), 15, 16] : List Int)).2.1) else bif (Aa s_ 20).1 == 1 then (AS.mk x_.Id x_.Junction (Aj (Aa s_ 20).2 ([0, 200, 201] : List Int)).1 x_.Air, (Aj (Aa s_ 20).2 ([0, 200, 201] : List Int)).2.1) else bif (Aa s_ 20).1 == 2 then (AS.mk x_.Id x_.Junction x_.Places (Aj (Aa s_ 20).2 ([(-1), 10000001] : List Int)).1, (Aj (Aa s_ 20).2 ([(-1), 10000001] : List Int)).2.1) else bif (Aa s_ 20).1 == 3 then (AS.mk (Ab (Aa s_ 20).2 K_4).1 x_.Junction x_.Places x_.Air, (Ab (Aa s_ 20).2 K_4).2.1) else (x_, (Aa s_ 20).2)

/-! ### spec_l01Dec -/
def Dp (n_ : Int) (x1 : (List Int) × Int) (v10 : (List Int)) (rec2 : ((List Int) × Int) → (List UInt8)) (k2 : ((List Int) × Int) → (List UInt8)) (x2 : (List Int) × Int) : (List UInt8) :=
  bif decide (0 ≤ x2.2) then rec2 (x2.1 ++ ([at' v10 x2.2] : List Int), x2.2 - 1) else k2 (x2.1, x2.2)
def m_spec_l01Dec_b1 (n_ : Int) (rec1 : ((List Int) × Int) → (List UInt8)) (k1 : ((List Int) × Int) → (List UInt8)) (x1 : (List Int) × Int) : (List UInt8) :=
  bif x1.2 != 0 then JN (fun j6 => bif decide ((Int.tmod x1.2 10) < 0) then j6 (IntKind.wrap .i64 (0 - (Int.tmod x1.2 10))) else j6 (Int.tmod x1.2 10)) (fun (v5 : Int) => rec1 (x1.1 ++ ([IntKind.wrap .u8 (IntKind.wrap .i64 (48 + v5))] : List Int), IntKind.wrap .i64 (Int.tdiv x1.2 10))) else k1 (x1.1, x1.2)
def BB (n_ : Int) : (List UInt8) :=
  bif n_ == 0 then ([48] : List UInt8) else LOOP (m_spec_l01Dec_b1 n_) (fun (x1 : (List Int) × Int) => JN (fun j11 => bif decide (n_ < 0) then j11 (x1.1 ++ ([45] : List Int)) else j11 x1.1) (fun (v10 : (List Int)) => LOOP (Dp n_ x1 v10) (fun (x2 : (List Int) × Int) => chars x2.1) (v10.length + 1) (K_5, IntKind.wrap .i64 ((v10.length : Int) - 1)))) (n_.natAbs + 1) (K_5, n_)

/-! ### spec_l20DrawList -/
def Df (s_ : Ak) (m_ : AB) (x1 : (List Int) × Int × Int × (List AS) × Int) (rec2 : ((List Int) × Int × Int × (List AS) × Int) → ((List AS) × Ak)) (k2 : ((List Int) × Int × Int × (List AS) × Int) → ((List AS) × Ak)) (x2 : (List Int) × Int × Int × (List AS) × Int) : (List AS) × Ak :=
  bif decide (x2.2.2.2.2 < (Aj (Aa (Ak.mk x1.1 x1.2.1 x1.2.2.1) 20).2 ([8, 9] : List Int)).1) then rec2 ((AH (Ak.mk x2.1 x2.2.1 x2.2.2.1) (K_7 ++ (BB x2.2.2.2.2)) 0).2.code, (AH (Ak.mk x2.1 x2.2.1 x2.2.2.1) (K_7 ++ (BB x2.2.2.2.2)) 0).2.at_, (AH (Ak.mk x2.1 x2.2.1 x2.2.2.1) (K_7 ++ (BB x2.2.2.2.2)) 0).2.seed, x2.2.2.2.1 ++ ([(AH (Ak.mk x2.1 x2.2.1 x2.2.2.1) (K_7 ++ (BB x2.2.2.2.2)) 0).1] : List AS), x2.2.2.2.2 + 1) else k2 (x2.1, x2.2.1, x2.2.2.1, x2.2.2.2.1, x2.2.2.2.2)
def Dg (s_ : Ak) (m_ : AB) (rec1 : ((List Int) × Int × Int × (List AS) × Int) → ((List AS) × Ak)) (k1 : ((List Int) × Int × Int × (List AS) × Int) → ((List AS) × Ak)) (x1 : (List Int) × Int × Int × (List AS) × Int) : (List AS) × Ak :=
  bif decide (x1.2.2.2.2 < (K_3.length : Int)) then bif !(Am (Ak.mk x1.1 x1.2.1 x1.2.2.1) 3).1 then rec1 ((AH (Aa (Am (Ak.mk x1.1 x1.2.1 x1.2.2.1) 3).2 (AC 1 m_.Junctions)).2 (at' K_3 x1.2.2.2.2) (Aa (Am (Ak.mk x1.1 x1.2.1 x1.2.2.1) 3).2 (AC 1 m_.Junctions)).1).2.code, (AH (Aa (Am (Ak.mk x1.1 x1.2.1 x1.2.2.1) 3).2 (AC 1 m_.Junctions)).2 (at' K_3 x1.2.2.2.2) (Aa (Am (Ak.mk x1.1 x1.2.1 x1.2.2.1) 3).2 (AC 1 m_.Junctions)).1).2.at_, (AH (Aa (Am (Ak.mk x1.1 x1.2.1 x1.2.2.1) 3).2 (AC 1 m_.Junctions)).2 (at' K_3 x1.2.2.2.2) (Aa (Am (Ak.mk x1.1 x1.2.1 x1.2.2.1) 3).2 (AC 1 m_.Junctions)).1).2.seed, x1.2.2.2.1 ++ ([(AH (Aa (Am (Ak.mk x1.1 x1.2.1 x1.2.2.1) 3).2 (AC 1 m_.Junctions)).2 (at' K_3 x1.2.2.2.2) (Aa (Am (Ak.mk x1.1 x1.2.1 x1.2.2.1) 3).2 (AC 1 m_.Junctions)).1).1] : List AS), x1.2.2.2.2 + 1) else rec1 ((Am (Ak.mk x1.1 x1.2.1 x1.2.2.1) 3).2.code, (Am (Ak.mk x1.1 x1.2.1 x1.2.2.1) 3).2.at_, (Am (Ak.mk x1.1 x1.2.1 x1.2.2.1) 3).2.seed, x1.2.2.2.1, x1.2.2.2.2 + 1) else k1 (x1.1, x1.2.1, x1.2.2.1, x1.2.2.2.1, x1.2.2.2.2)
def BG (s_ : Ak) (m_ : AB) : (List AS) × Ak :=
  LOOP (Dg s_ m_) (fun (x1 : (List Int) × Int × Int × (List AS) × Int) => bif (Aa (Ak.mk x1.1 x1.2.1 x1.2.2.1) 20).1 == 0 then (x1.2.2.2.1 ++ ([(BF (AH (Aa (Ak.mk x1.1 x1.2.1 x1.2.2.1) 20).2 ([122, 122] : List UInt8) 0).2 (AH (Aa (Ak.mk x1.1 x1.2.1 x1.2.2.1) 20).2 ([122, 122] : List UInt8) 0).1).1] : List AS), (BF (AH (Aa (Ak.mk x1.1 x1.2.1 x1.2.2.1) 20).2 ([122, 122] : List UInt8) 0).2 (AH (Aa (Ak.mk x1.1 x1.2.1 x1.2.2.1) 20).2 ([122, 122] : List UInt8) 0).1).2) else bif (Aa (Ak.mk x1.1 x1.2.1 x1.2.2.1) 20).1 == 1 then LOOP (Df s_ m_ x1) (fun (x2 : (List Int) × Int × Int × (List AS) × Int) => (x2.2.2.2.1, Ak.mk x2.1 x2.2.1 x2.2.2.1)) (((Aj (Aa (Ak.mk x1.1 x1.2.1 x1.2.2.1) 20).2 ([8, 9] : List Int)).1 - 0 : Int).toNat + 1) ((Aj (Aa (Ak.mk x1.1 x1.2.1 x1.2.2.1) 20).2 ([8, 9] : List Int)).2.1.code, (Aj (Aa (Ak.mk x1.1 x1.2.1 x1.2.2.1) 20).2 ([8, 9] : List Int)).2.1.at_, (Aj (Aa (Ak.mk x1.1 x1.2.1 x1.2.2.1) 20).2 ([8, 9] : List Int)).2.1.seed, ([] : List AS), 0) else (x1.2.2.2.1, (Aa (Ak.mk x1.1 x1.2.1 x1.2.2.1) 20).2)) (((K_3.length : Int) - 0 : Int).toNat + 1) (s_.code, s_.at_, s_.seed, ([] : List AS), 0)

/-! ### spec_DrawNearestRefuge -/
def Ae (code : List Int) : AB × (List Int) × Int × Bu × Int × (List AS) :=
  ((AL (AU code)).1, (AL (AU code)).2.1, (AL (AU code)).2.2.1, (AL (AU code)).2.2.2.1, (AL (AU code)).2.2.2.2.1, (BG (AL (AU code)).2.2.2.2.2 (AL (AU code)).1).1)

/-! ### impl_allWithin_1 -/
def CK (n_ : Int) (p1 : Int) (p2 : Int) : Bool :=
  !(Bl n_ p1 p2)

/-! ### impl_allWithin -/
def BI (list : List Int) (low : Int) (high : Int) : Bool :=
  !(Bo list (fun (a0 : Int) => CK a0 low high))

/-! ### impl_Crew_valid -/
def Cw (c_ : Bu) : Bool :=
  ((CU c_.Id) && (BP c_.Junction)) && (Bl c_.Speed 10 300)

/-! ### impl_ValidCrews -/
def Dk (m_ : AB) (list : List Bu) (rec1 : Int → Bool) (k1 : Int → Bool) (x1 : Int) : Bool :=
  bif decide (x1 < (list.length : Int)) then bif ((!(Cw (at' list x1))) || (!(Bm m_ (at' list x1).Junction))) || ((decide (0 < x1)) && (strB .leq (at' list x1).Id (at' list (x1 - 1)).Id)) then false else rec1 (x1 + 1) else k1 x1
def BX (m_ : AB) (list : List Bu) : Bool :=
  bif (!(BO m_)) || (decide (8 < (list.length : Int))) then false else LOOP (Dk m_ list) (fun (x1 : Int) => true) (((list.length : Int) - 0 : Int).toNat + 1) 0

/-! ### impl_increasing -/
def m_impl_increasing_b1 (list : List Int) (rec1 : Int → Bool) (k1 : Int → Bool) (x1 : Int) : Bool :=
  bif decide (x1 < (list.length : Int)) then bif decide ((at' list x1) ≤ (at' list (x1 - 1))) then false else rec1 (x1 + 1) else k1 x1
def m_impl_increasing (list : List Int) : Bool :=
  LOOP (m_impl_increasing_b1 list) (fun (x1 : Int) => true) (((list.length : Int) - 1 : Int).toNat + 1) 1

/-! ### impl_Mine_hasJunctions -/
def BL (m_ : AB) (list : List Int) : Bool :=
  (m_impl_increasing list) && (BI list 0 (IntKind.wrap .i64 (m_.Junctions - 1)))

/-! ### impl_escapeOf -/
def AO (m_ : AB) (arrivals : List Int) (blocked : Int) (list : List Bu) (start : Int) (exits : List Int) : Co × Int × (List Bu) :=
  bif !(BX m_ list) then (Co.mk (AB.mk 0 ([] : List Ar)) K_5 0, 1, list) else bif (!(Bl blocked (-1) ((m_.Airways.length : Int) - 1))) || (!(Bl start 0 36000)) then (Co.mk (AB.mk 0 ([] : List Ar)) K_5 0, 2, list) else bif (((arrivals.length : Int) != m_.Junctions) || (!(BI arrivals (-1) 1000000000000))) || (!(BL m_ exits)) then (Co.mk (AB.mk 0 ([] : List Ar)) K_5 0, 7, list) else (Co.mk m_ arrivals blocked, 0, list)

/-! ### impl_Refuge_valid -/
def B9 (x_ : AS) : Bool :=
  (((CU x_.Id) && (BP x_.Junction)) && (Bl x_.Places 1 200)) && (Bl x_.Air 0 10000000)

/-! ### impl_ValidRefuges -/
def C4 (m_ : AB) (list : List AS) (rec1 : Int → Bool) (k1 : Int → Bool) (x1 : Int) : Bool :=
  bif decide (x1 < (list.length : Int)) then bif ((!(B9 (at' list x1))) || (!(Bm m_ (at' list x1).Junction))) || ((decide (0 < x1)) && (strB .leq (at' list x1).Id (at' list (x1 - 1)).Id)) then false else rec1 (x1 + 1) else k1 x1
def Ca (m_ : AB) (list : List AS) : Bool :=
  bif (!(BO m_)) || (decide (8 < (list.length : Int))) then false else LOOP (C4 m_ list) (fun (x1 : Int) => true) (((list.length : Int) - 0 : Int).toNat + 1) 0

/-! ### impl_NearestRefuge -/
def Cs (m_ : AB) (arrivals : List Int) (blocked : Int) (c_ : Bu) (start : Int) (list : List AS) (rec1 : (Int × Int) → (Int × Int × Int)) (k1 : (Int × Int) → (Int × Int × Int)) (x1 : Int × Int) : Int × Int × Int :=
  bif decide (x1.2 < (list.length : Int)) then bif (decide (0 ≤ (at' (Bj (AO m_ arrivals blocked ([c_] : List Bu) start []).1 c_ start) (at' list x1.2).Junction))) && ((decide (x1.1 < 0)) || (decide ((at' (Bj (AO m_ arrivals blocked ([c_] : List Bu) start []).1 c_ start) (at' list x1.2).Junction) < (at' (Bj (AO m_ arrivals blocked ([c_] : List Bu) start []).1 c_ start) (at' list x1.1).Junction)))) then rec1 (x1.2, x1.2 + 1) else rec1 (x1.1, x1.2 + 1) else k1 (x1.1, x1.2)
def AQ (m_ : AB) (arrivals : List Int) (blocked : Int) (c_ : Bu) (start : Int) (list : List AS) : Int × Int × Int :=
  bif !(Ca m_ list) then (0, 0, 1) else bif (AO m_ arrivals blocked ([c_] : List Bu) start []).2.1 != 0 then (0, 0, (AO m_ arrivals blocked ([c_] : List Bu) start []).2.1) else LOOP (Cs m_ arrivals blocked c_ start list) (fun (x1 : Int × Int) => bif decide (x1.1 < 0) then (0, 0, 3) else (x1.1, at' (Bj (AO m_ arrivals blocked ([c_] : List Bu) start []).1 c_ start) (at' list x1.1).Junction, 0)) (((list.length : Int) - 0 : Int).toNat + 1) ((-1), 0)

/-! ### spec_l20One -/
def Cf (x_ : AS) : Bool :=
  (((Cb x_.Id) && (AR x_.Junction 0 15)) && (AR x_.Places 1 200)) && (AR x_.Air 0 10000000)

/-! ### spec_l20Ok -/
def DC (m_ : AB) (list : List AS) (rec1 : Int → Bool) (k1 : Int → Bool) (x1 : Int) : Bool :=
  bif decide (x1 < (list.length : Int)) then bif ((!(Cf (at' list x1))) || (decide (m_.Junctions ≤ (at' list x1).Junction))) || ((decide (0 < x1)) && (strB .geq (at' list (x1 - 1)).Id (at' list x1).Id)) then false else rec1 (x1 + 1) else k1 x1
def CS (m_ : AB) (list : List AS) : Bool :=
  bif (!(AD m_)) || (decide (8 < (list.length : Int))) then false else LOOP (DC m_ list) (fun (x1 : Int) => true) (((list.length : Int) - 0 : Int).toNat + 1) 0

/-! ### spec_ValidRefuges -/
def BW (m_ : AB) (list : List AS) : Bool :=
  CS m_ list

/-! ### laws_FnPlaces -/
def C7 (code : List Int) (more : List Int) (j5 : Unit → Bool) (rec1 : ((List Int) × Int) → Bool) (k1 : ((List Int) × Int) → Bool) (x1 : (List Int) × Int) (rec2 : (Int × Int × Int) → Bool) (k2 : (Int × Int × Int) → Bool) (x2 : Int × Int × Int) : Bool :=
  bif decide (x2.2.1 < ((Ao (Ac code).1 (Ac code).2.1 (Ac code).2.2.1 (Ac code).2.2.2).1.length : Int)) then bif (decide (0 ≤ (at' (A6 (Ac code).1 x1.2 (Ac code).2.1).1 (at' (Ao (Ac code).1 (Ac code).2.1 (Ac code).2.2.1 (Ac code).2.2.2).1 x2.2.1)))) && (decide ((at' (A6 (Ac code).1 x1.2 (Ac code).2.1).1 (at' (Ao (Ac code).1 (Ac code).2.1 (Ac code).2.2.1 (Ac code).2.2.2).1 x2.2.1)) ≤ (Ac code).2.2.1)) then rec2 (IntKind.wrap .i64 (x2.1 + 1), x2.2.1 + 1, x2.2.1) else rec2 (x2.1, x2.2.1 + 1, x2.2.2) else k2 (x2.1, x2.2.1, x2.2.2)
def CL (code : List Int) (more : List Int) (j5 : Unit → Bool) (x1 : (List Int) × Int) (rec3 : Int → Bool) (k3 : Int → Bool) (x3 : Int) : Bool :=
  bif decide (x3 < (x1.1.length : Int)) then bif (at' x1.1 x3) == 0 then false else rec3 (x3 + 1) else k3 x3
def CM (code : List Int) (more : List Int) (j5 : Unit → Bool) (rec1 : ((List Int) × Int) → Bool) (k1 : ((List Int) × Int) → Bool) (x1 : (List Int) × Int) : Bool :=
  bif decide (x1.2 < (Ac code).1.Junctions) then bif (A6 (Ac code).1 x1.2 (Ac code).2.1).2 != 0 then false else LOOP (C7 code more j5 rec1 k1 x1) (fun (x2 : Int × Int × Int) => bif x2.1 == 0 then false else bif x2.1 == 1 then rec1 (put' x1.1 x2.2.2 (IntKind.wrap .i64 ((at' x1.1 x2.2.2) + 1)), x1.2 + 1) else rec1 (x1.1, x1.2 + 1)) ((((Ao (Ac code).1 (Ac code).2.1 (Ac code).2.2.1 (Ac code).2.2.2).1.length : Int) - 0 : Int).toNat + 1) (0, 0, 0) else k1 (x1.1, x1.2)
def C8 (code : List Int) (more : List Int) (v4 : Unit) (rec4 : Int → Bool) (k4 : Int → Bool) (x4 : Int) : Bool :=
  bif decide (x4 < ((Ae more).2.2.2.2.2.length : Int)) then bif (decide (0 ≤ (at' (Bh (Ae more).1 (Ae more).2.1 (Ae more).2.2.1 (Ae more).2.2.2.1 (Ae more).2.2.2.2.1).1 (at' (Ae more).2.2.2.2.2 x4).Junction))) && (decide ((at' (Bh (Ae more).1 (Ae more).2.1 (Ae more).2.2.1 (Ae more).2.2.2.1 (Ae more).2.2.2.2.1).1 (at' (Ae more).2.2.2.2.2 x4).Junction) < (AQ (Ae more).1 (Ae more).2.1 (Ae more).2.2.1 (Ae more).2.2.2.1 (Ae more).2.2.2.2.1 (Ae more).2.2.2.2.2).2.1)) then false else rec4 (x4 + 1) else k4 x4
def DD (code : List Int) (more : List Int) : Bool :=
  bif (CY code) || (CY more) then true else JN (fun j5 => bif (Ao (Ac code).1 (Ac code).2.1 (Ac code).2.2.1 (Ac code).2.2.2).2 == 0 then bif !(CR (Ao (Ac code).1 (Ac code).2.1 (Ac code).2.2.1 (Ac code).2.2.2).1 (Ac code).1.Junctions) then false else LOOP (CM code more j5) (fun (x1 : (List Int) × Int) => LOOP (CL code more j5 x1) (fun (x3 : Int) => j5 ()) (((x1.1.length : Int) - 0 : Int).toNat + 1) 0) (((Ac code).1.Junctions - 0 : Int).toNat + 1) (List.replicate (((Ao (Ac code).1 (Ac code).2.1 (Ac code).2.2.1 (Ac code).2.2.2).1.length : Int) : Int).toNat (0 : Int), 0) else j5 ()) (fun (v4 : Unit) => bif (AQ (Ae more).1 (Ae more).2.1 (Ae more).2.2.1 (Ae more).2.2.2.1 (Ae more).2.2.2.2.1 (Ae more).2.2.2.2.2).2.2 != 0 then ((AQ (Ae more).1 (Ae more).2.1 (Ae more).2.2.1 (Ae more).2.2.2.1 (Ae more).2.2.2.2.1 (Ae more).2.2.2.2.2).1 == 0) && ((AQ (Ae more).1 (Ae more).2.1 (Ae more).2.2.1 (Ae more).2.2.2.1 (Ae more).2.2.2.2.1 (Ae more).2.2.2.2.2).2.1 == 0) else bif ((((((Bh (Ae more).1 (Ae more).2.1 (Ae more).2.2.1 (Ae more).2.2.2.1 (Ae more).2.2.2.2.1).2 != 0) || (decide ((AQ (Ae more).1 (Ae more).2.1 (Ae more).2.2.1 (Ae more).2.2.2.1 (Ae more).2.2.2.2.1 (Ae more).2.2.2.2.2).1 < 0))) || (decide (((Ae more).2.2.2.2.2.length : Int) ≤ (AQ (Ae more).1 (Ae more).2.1 (Ae more).2.2.1 (Ae more).2.2.2.1 (Ae more).2.2.2.2.1 (Ae more).2.2.2.2.2).1))) || (!(BW (Ae more).1 (Ae more).2.2.2.2.2))) || ((at' (Bh (Ae more).1 (Ae more).2.1 (Ae more).2.2.1 (Ae more).2.2.2.1 (Ae more).2.2.2.2.1).1 (at' (Ae more).2.2.2.2.2 (AQ (Ae more).1 (Ae more).2.1 (Ae more).2.2.1 (Ae more).2.2.2.1 (Ae more).2.2.2.2.1 (Ae more).2.2.2.2.2).1).Junction) != (AQ (Ae more).1 (Ae more).2.1 (Ae more).2.2.1 (Ae more).2.2.2.1 (Ae more).2.2.2.2.1 (Ae more).2.2.2.2.2).2.1)) || (decide ((AQ (Ae more).1 (Ae more).2.1 (Ae more).2.2.1 (Ae more).2.2.2.1 (Ae more).2.2.2.2.1 (Ae more).2.2.2.2.2).2.1 < (Ae more).2.2.2.2.1)) then false else LOOP (C8 code more v4) (fun (x4 : Int) => true) ((((Ae more).2.2.2.2.2.length : Int) - 0 : Int).toNat + 1) 0)

end Go.Proofs.YtibbfdojcdkopaaGreat
