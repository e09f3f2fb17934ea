/-
  PLAIN MODELS of the Go functions that the law reaches, printed by a program of this claim. Conditions: none; nothing is claimed here.
-/
import Derived.Test.YtjieemgagalkjaaEngN
set_option linter.unusedVariables false
set_option linter.unusedSimpArgs false
set_option linter.unusedSectionVars false
set_option linter.unnecessarySimpa false
namespace Go.Proofs.Ytjieemgagalkjaa
open Go Go.RowKit Go.Proofs Go.Proofs.Ytjieemgagalkjaa.E
structure gAirway where
  Id : List UInt8
  From : Int
  To : Int
  Length : Int
  Section : Int
  Friction : Int
  Shock : Int
instance : Inhabited gAirway := ⟨gAirway.mk default default default default default default default⟩
abbrev gAirway.v (x : gAirway) : V := .st [.str x.Id, .int .i64 x.From, .int .i64 x.To, .int .i64 x.Length, .int .i64 x.Section, .int .i64 x.Friction, .int .i64 x.Shock]
structure gMine where
  Junctions : Int
  Airways : List gAirway
instance : Inhabited gMine := ⟨gMine.mk default default⟩
abbrev gMine.v (x : gMine) : V := .st [.int .i64 x.Junctions, .sl 7 (x.Airways.map gAirway.v)]
structure gCrew where
  Id : List UInt8
  Junction : Int
  Speed : Int
instance : Inhabited gCrew := ⟨gCrew.mk default default default⟩
abbrev gCrew.v (x : gCrew) : V := .st [.str x.Id, .int .i64 x.Junction, .int .i64 x.Speed]
structure gescape where
  mine : gMine
  arrivals : List Int
  blocked : Int
instance : Inhabited gescape := ⟨gescape.mk default default default⟩
abbrev gescape.v (x : gescape) : V := .st [.int .i64 x.mine.Junctions, .sl 7 (x.mine.Airways.map gAirway.v), .sl 1 (x.arrivals.map (V.int .i64)), .int .i64 x.blocked]

/-! ### laws_szAirway -/
def m_laws_szAirway (a : gAirway) (left : Int) : Int :=
  bif decide ((IntKind.wrap .i64 (left - (a.Id.length : Int))) < 0) then (-1) else IntKind.wrap .i64 (left - (a.Id.length : Int))

/-! ### laws_szAirwayS -/
def m_laws_szAirwayS_b1 (a : List gAirway) (left : Int) (rec1 : (Int × Int) → Int) (k1 : (Int × Int) → Int) (x1 : Int × Int) : Int :=
  bif decide (x1.2 < (a.length : Int)) then bif decide ((m_laws_szAirway (at' a x1.2) x1.1) < 0) then (-1) else rec1 (m_laws_szAirway (at' a x1.2) x1.1, x1.2 + 1) else k1 (x1.1, x1.2)
def m_laws_szAirwayS (a : List gAirway) (left : Int) : Int :=
  bif decide ((IntKind.wrap .i64 (left - (a.length : Int))) < 0) then (-1) else LOOP (m_laws_szAirwayS_b1 a left) (fun (x1 : Int × Int) => x1.1) (((a.length : Int) - 0 : Int).toNat + 1) (IntKind.wrap .i64 (left - (a.length : Int)), 0)

/-! ### laws_szMine -/
def m_laws_szMine (a : gMine) (left : Int) : Int :=
  bif decide ((m_laws_szAirwayS a.Airways left) < 0) then (-1) else m_laws_szAirwayS a.Airways left

/-! ### laws_szCrew -/
def m_laws_szCrew (a : gCrew) (left : Int) : Int :=
  bif decide ((IntKind.wrap .i64 (left - (a.Id.length : Int))) < 0) then (-1) else IntKind.wrap .i64 (left - (a.Id.length : Int))

/-! ### spec_l00In -/
def m_spec_l00In (n_ : Int) (low : Int) (high : Int) : Bool :=
  (decide (low ≤ n_)) && (decide (n_ ≤ high))

/-! ### spec_l01Small -/
def m_spec_l01Small (c_ : Int) : Bool :=
  (decide (97 ≤ c_)) && (decide (c_ ≤ 122))

/-! ### spec_l01Digit -/
def m_spec_l01Digit (c_ : Int) : Bool :=
  (decide (48 ≤ c_)) && (decide (c_ ≤ 57))

/-! ### spec_l01Name -/
def m_spec_l01Name_b1 (s_ : List UInt8) (rec1 : Int → Bool) (k1 : Int → Bool) (x1 : Int) : Bool :=
  bif decide (x1 < (s_.length : Int)) then bif (!(m_spec_l01Small (((s_.getD x1.toNat 0).toNat : Nat) : Int))) && (!(m_spec_l01Digit (((s_.getD x1.toNat 0).toNat : Nat) : Int))) then false else rec1 (x1 + 1) else k1 x1
def m_spec_l01Name (s_ : List UInt8) : Bool :=
  bif ((strB .eql s_ ([] : List UInt8)) || (decide (10 < (s_.length : Int)))) || (!(m_spec_l01Small (((s_.getD (0 : Int).toNat 0).toNat : Nat) : Int))) then false else LOOP (m_spec_l01Name_b1 s_) (fun (x1 : Int) => true) (((s_.length : Int) - 0 : Int).toNat + 1) 0

/-! ### spec_l03Ok -/
def m_spec_l03Ok (a : gAirway) : Bool :=
  bif (((!(m_spec_l01Name a.Id)) || (!(m_spec_l00In a.From 0 15))) || (!(m_spec_l00In a.To 0 15))) || (a.From == a.To) then false else (((m_spec_l00In a.Length 1 10000) && (m_spec_l00In a.Section 50 5000)) && (m_spec_l00In a.Friction 1 1000)) && (m_spec_l00In a.Shock 0 1000)

/-! ### spec_l04Junction -/
def m_spec_l04Junction (m_ : gMine) (j : Int) : Bool :=
  m_spec_l00In j 0 (IntKind.wrap .i64 (m_.Junctions - 1))

/-! ### spec_l04Ok -/
def m_spec_l04Ok_b1 (m_ : gMine) (rec1 : Int → Bool) (k1 : Int → Bool) (x1 : Int) : Bool :=
  bif decide (x1 < (m_.Airways.length : Int)) then bif (((!(m_spec_l03Ok (at' m_.Airways x1))) || (!(m_spec_l04Junction m_ (at' m_.Airways x1).From))) || (!(m_spec_l04Junction m_ (at' m_.Airways x1).To))) || ((decide (0 < x1)) && (strB .geq (at' m_.Airways (x1 - 1)).Id (at' m_.Airways x1).Id)) then false else rec1 (x1 + 1) else k1 x1
def m_spec_l04Ok (m_ : gMine) : Bool :=
  bif !(m_spec_l00In m_.Junctions 1 16) then false else LOOP (m_spec_l04Ok_b1 m_) (fun (x1 : Int) => decide ((m_.Airways.length : Int) ≤ 24)) (((m_.Airways.length : Int) - 0 : Int).toNat + 1) 0

/-! ### spec_l19One -/
def m_spec_l19One (c_ : gCrew) : Bool :=
  ((m_spec_l01Name c_.Id) && (m_spec_l00In c_.Junction 0 15)) && (m_spec_l00In c_.Speed 10 300)

/-! ### spec_l17Time -/
def m_spec_l17Time (t : Int) : Bool :=
  m_spec_l00In t 0 36000

/-! ### spec_l19Arrivals -/
def m_spec_l19Arrivals_b1 (m_ : gMine) (arrivals : List Int) (rec1 : Int → Bool) (k1 : Int → Bool) (x1 : Int) : Bool :=
  bif decide (x1 < (arrivals.length : Int)) then bif !(m_spec_l00In (at' arrivals x1) (-1) 1000000000000) then false else rec1 (x1 + 1) else k1 x1
def m_spec_l19Arrivals (m_ : gMine) (arrivals : List Int) : Bool :=
  LOOP (m_spec_l19Arrivals_b1 m_ arrivals) (fun (x1 : Int) => (arrivals.length : Int) == m_.Junctions) (((arrivals.length : Int) - 0 : Int).toNat + 1) 0

/-! ### spec_l19Ask -/
def m_spec_l19Ask (m_ : gMine) (arrivals : List Int) (blocked : Int) (c_ : gCrew) (start : Int) : Int :=
  bif ((!(m_spec_l04Ok m_)) || (!(m_spec_l19One c_))) || (decide (m_.Junctions ≤ c_.Junction)) then 1 else bif (!(m_spec_l00In blocked (-1) ((m_.Airways.length : Int) - 1))) || (!(m_spec_l17Time start)) then 2 else bif !(m_spec_l19Arrivals m_ arrivals) then 7 else 0

/-! ### spec_l00Rises -/
def m_spec_l00Rises_b1 (list : List Int) (low : Int) (high : Int) (rec1 : Int → Bool) (k1 : Int → Bool) (x1 : Int) : Bool :=
  bif decide (x1 < (list.length : Int)) then bif (!(m_spec_l00In (at' list x1) low high)) || ((decide (0 < x1)) && (decide ((at' list x1) ≤ (at' list (x1 - 1))))) then false else rec1 (x1 + 1) else k1 x1
def m_spec_l00Rises (list : List Int) (low : Int) (high : Int) : Bool :=
  LOOP (m_spec_l00Rises_b1 list low high) (fun (x1 : Int) => true) (((list.length : Int) - 0 : Int).toNat + 1) 0

/-! ### spec_l19Exit -/
def m_spec_l19Exit_b1 (times : List Int) (exits : List Int) (rec1 : (Int × Int) → Int) (k1 : (Int × Int) → Int) (x1 : Int × Int) : Int :=
  bif decide (x1.2 < (exits.length : Int)) then bif (decide (0 ≤ (at' times (at' exits x1.2)))) && ((decide (x1.1 < 0)) || (decide ((at' times (at' exits x1.2)) < (at' times x1.1)))) then rec1 (at' exits x1.2, x1.2 + 1) else rec1 (x1.1, x1.2 + 1) else k1 (x1.1, x1.2)
def m_spec_l19Exit (times : List Int) (exits : List Int) : Int :=
  LOOP (m_spec_l19Exit_b1 times exits) (fun (x1 : Int × Int) => x1.1) (((exits.length : Int) - 0 : Int).toNat + 1) ((-1), 0)

/-! ### spec_l19Safe -/
def m_spec_l19Safe (arrivals : List Int) (j : Int) (time : Int) : Bool :=
  (decide ((at' arrivals j) < 0)) || (decide (time < (at' arrivals j)))

/-! ### spec_l19Walk -/
def m_spec_l19Walk (a : gAirway) (speed : Int) : Int :=
  IntKind.wrap .i64 (Int.tdiv (IntKind.wrap .i64 ((IntKind.wrap .i64 ((IntKind.wrap .i64 (100 * a.Length)) + speed)) - 1)) speed)

/-! ### spec_l19Go -/
def m_spec_l19Go (arrivals : List Int) (times : List Int) (from_ : Int) (to : Int) (n_ : Int) : (List Int) :=
  bif decide ((at' times from_) < 0) then times else bif (m_spec_l19Safe arrivals to (IntKind.wrap .i64 ((at' times from_) + n_))) && ((decide ((at' times to) < 0)) || (decide ((IntKind.wrap .i64 ((at' times from_) + n_)) < (at' times to)))) then put' times to (IntKind.wrap .i64 ((at' times from_) + n_)) else times

/-! ### spec_l19Times -/
def m_spec_l19Times_b3 (m_ : gMine) (arrivals : List Int) (blocked : Int) (c_ : gCrew) (start : Int) (x1 : (List Int) × Int) (rec2 : ((List Int) × Int) → (List Int)) (k2 : ((List Int) × Int) → (List Int)) (x2 : (List Int) × Int) (rec3 : (Int × (List Int)) → (List Int)) (k3 : (Int × (List Int)) → (List Int)) (x3 : Int × (List Int)) : (List Int) :=
  bif decide (x3.1 < (m_.Airways.length : Int)) then bif x3.1 == blocked then rec3 (x3.1 + 1, x3.2) else rec3 (x3.1 + 1, m_spec_l19Go arrivals (m_spec_l19Go arrivals x3.2 (at' m_.Airways x3.1).From (at' m_.Airways x3.1).To (m_spec_l19Walk (at' m_.Airways x3.1) c_.Speed)) (at' m_.Airways x3.1).To (at' m_.Airways x3.1).From (m_spec_l19Walk (at' m_.Airways x3.1) c_.Speed)) else k3 (x3.1, x3.2)
def m_spec_l19Times_b2 (m_ : gMine) (arrivals : List Int) (blocked : Int) (c_ : gCrew) (start : Int) (x1 : (List Int) × Int) (rec2 : ((List Int) × Int) → (List Int)) (k2 : ((List Int) × Int) → (List Int)) (x2 : (List Int) × Int) : (List Int) :=
  bif decide (x2.2 < m_.Junctions) then LOOP (m_spec_l19Times_b3 m_ arrivals blocked c_ start x1 rec2 k2 x2) (fun (x3 : Int × (List Int)) => rec2 (x3.2, x2.2 + 1)) (((m_.Airways.length : Int) - 0 : Int).toNat + 1) (0, x2.1) else k2 (x2.1, x2.2)
def m_spec_l19Times_b1 (m_ : gMine) (arrivals : List Int) (blocked : Int) (c_ : gCrew) (start : Int) (rec1 : ((List Int) × Int) → (List Int)) (k1 : ((List Int) × Int) → (List Int)) (x1 : (List Int) × Int) : (List Int) :=
  bif decide (x1.2 < m_.Junctions) then rec1 (x1.1 ++ ([(-1)] : List Int), x1.2 + 1) else k1 (x1.1, x1.2)
def m_spec_l19Times (m_ : gMine) (arrivals : List Int) (blocked : Int) (c_ : gCrew) (start : Int) : (List Int) :=
  LOOP (m_spec_l19Times_b1 m_ arrivals blocked c_ start) (fun (x1 : (List Int) × Int) => bif !(m_spec_l19Safe arrivals c_.Junction start) then x1.1 else LOOP (m_spec_l19Times_b2 m_ arrivals blocked c_ start x1) (fun (x2 : (List Int) × Int) => x2.1) ((m_.Junctions - 0 : Int).toNat + 1) (put' x1.1 c_.Junction start, 0)) ((m_.Junctions - 0 : Int).toNat + 1) (([] : List Int), 0)

/-! ### spec_LastStart -/
def m_spec_LastStart_b1 (m_ : gMine) (arrivals : List Int) (blocked : Int) (c_ : gCrew) (exits : List Int) (rec1 : (Int × Int) → (Int × Int)) (k1 : (Int × Int) → (Int × Int)) (x1 : Int × Int) : Int × Int :=
  bif decide (x1.1 < x1.2) then bif decide (0 ≤ (m_spec_l19Exit (m_spec_l19Times m_ arrivals blocked c_ (IntKind.wrap .i64 (Int.tdiv (IntKind.wrap .i64 ((IntKind.wrap .i64 (x1.1 + x1.2)) + 1)) 2))) exits)) then rec1 (IntKind.wrap .i64 (Int.tdiv (IntKind.wrap .i64 ((IntKind.wrap .i64 (x1.1 + x1.2)) + 1)) 2), x1.2) else rec1 (x1.1, IntKind.wrap .i64 ((IntKind.wrap .i64 (Int.tdiv (IntKind.wrap .i64 ((IntKind.wrap .i64 (x1.1 + x1.2)) + 1)) 2)) - 1)) else k1 (x1.1, x1.2)
def m_spec_LastStart (m_ : gMine) (arrivals : List Int) (blocked : Int) (c_ : gCrew) (exits : List Int) : Int × Int :=
  bif (m_spec_l19Ask m_ arrivals blocked c_ 0) != 0 then (0, m_spec_l19Ask m_ arrivals blocked c_ 0) else bif !(m_spec_l00Rises exits 0 (IntKind.wrap .i64 (m_.Junctions - 1))) then (0, 7) else bif decide ((m_spec_l19Exit (m_spec_l19Times m_ arrivals blocked c_ 0) exits) < 0) then (0, 3) else LOOP (m_spec_LastStart_b1 m_ arrivals blocked c_ exits) (fun (x1 : Int × Int) => (x1.1, 0)) (36001) (0, 36000)

/-! ### laws_toAirway -/
def m_laws_toAirway (a : gAirway) : gAirway :=
  a

/-! ### laws_toAirwayS -/
def m_laws_toAirwayS_b1 (a : List gAirway) (rec1 : ((List gAirway) × Int) → (List gAirway)) (k1 : ((List gAirway) × Int) → (List gAirway)) (x1 : (List gAirway) × Int) : (List gAirway) :=
  bif decide (x1.2 < (a.length : Int)) then rec1 (put' x1.1 x1.2 (m_laws_toAirway (at' a x1.2)), x1.2 + 1) else k1 (x1.1, x1.2)
def m_laws_toAirwayS (a : List gAirway) : (List gAirway) :=
  LOOP (m_laws_toAirwayS_b1 a) (fun (x1 : (List gAirway) × Int) => x1.1) (((a.length : Int) - 0 : Int).toNat + 1) (List.replicate ((a.length : Int) : Int).toNat (gAirway.mk ([] : List UInt8) 0 0 0 0 0 0 : gAirway), 0)

/-! ### laws_toMine -/
def m_laws_toMine (a : gMine) : gMine :=
  gMine.mk a.Junctions (m_laws_toAirwayS a.Airways)

/-! ### laws_toInt64S -/
def m_laws_toInt64S_b1 (a : List Int) (rec1 : ((List Int) × Int) → (List Int)) (k1 : ((List Int) × Int) → (List Int)) (x1 : (List Int) × Int) : (List Int) :=
  bif decide (x1.2 < (a.length : Int)) then rec1 (put' x1.1 x1.2 (at' a x1.2), x1.2 + 1) else k1 (x1.1, x1.2)
def m_laws_toInt64S (a : List Int) : (List Int) :=
  LOOP (m_laws_toInt64S_b1 a) (fun (x1 : (List Int) × Int) => x1.1) (((a.length : Int) - 0 : Int).toNat + 1) (List.replicate ((a.length : Int) : Int).toNat (0 : Int), 0)

/-! ### laws_toCrew -/
def m_laws_toCrew (a : gCrew) : gCrew :=
  a

/-! ### impl_within -/
def m_impl_within (n_ : Int) (low : Int) (high : Int) : Bool :=
  (decide (low ≤ n_)) && (decide (n_ ≤ high))

/-! ### impl_onlyNameBytes -/
def m_impl_onlyNameBytes_b1 (s_ : List UInt8) (rec1 : Int → Bool) (k1 : Int → Bool) (x1 : Int) : Bool :=
  bif decide (x1 < (s_.length : Int)) then bif ((decide ((((s_.getD x1.toNat 0).toNat : Nat) : Int) < 97)) || (decide (122 < (((s_.getD x1.toNat 0).toNat : Nat) : Int)))) && ((decide ((((s_.getD x1.toNat 0).toNat : Nat) : Int) < 48)) || (decide (57 < (((s_.getD x1.toNat 0).toNat : Nat) : Int)))) then false else rec1 (x1 + 1) else k1 x1
def m_impl_onlyNameBytes (s_ : List UInt8) : Bool :=
  LOOP (m_impl_onlyNameBytes_b1 s_) (fun (x1 : Int) => true) (((s_.length : Int) - 0 : Int).toNat + 1) 0

/-! ### impl_IsName -/
def m_impl_IsName (s_ : List UInt8) : Bool :=
  bif (((decide ((s_.length : Int) < 1)) || (decide (10 < (s_.length : Int)))) || (decide ((((s_.getD (0 : Int).toNat 0).toNat : Nat) : Int) < 97))) || (decide (122 < (((s_.getD (0 : Int).toNat 0).toNat : Nat) : Int))) then false else m_impl_onlyNameBytes s_

/-! ### impl_junctionOk -/
def m_impl_junctionOk (n_ : Int) : Bool :=
  m_impl_within n_ 0 15

/-! ### impl_ValidAirway -/
def m_impl_ValidAirway (a : gAirway) : Bool :=
  (((((((m_impl_IsName a.Id) && (m_impl_junctionOk a.From)) && (m_impl_junctionOk a.To)) && (a.From != a.To)) && (m_impl_within a.Length 1 10000)) && (m_impl_within a.Section 50 5000)) && (m_impl_within a.Friction 1 1000)) && (m_impl_within a.Shock 0 1000)

/-! ### impl_Mine_hasJunction -/
def m_impl_Mine_hasJunction (m_ : gMine) (n_ : Int) : Bool :=
  m_impl_within n_ 0 (IntKind.wrap .i64 (m_.Junctions - 1))

/-! ### impl_Mine_hasEnds -/
def m_impl_Mine_hasEnds (m_ : gMine) (a : gAirway) : Bool :=
  (m_impl_Mine_hasJunction m_ a.From) && (m_impl_Mine_hasJunction m_ a.To)

/-! ### impl_ValidMine -/
def m_impl_ValidMine_b1 (m_ : gMine) (rec1 : Int → Bool) (k1 : Int → Bool) (x1 : Int) : Bool :=
  bif decide (x1 < (m_.Airways.length : Int)) then bif ((!(m_impl_ValidAirway (at' m_.Airways x1))) || (!(m_impl_Mine_hasEnds m_ (at' m_.Airways x1)))) || ((decide (0 < x1)) && (strB .leq (at' m_.Airways x1).Id (at' m_.Airways (x1 - 1)).Id)) then false else rec1 (x1 + 1) else k1 x1
def m_impl_ValidMine (m_ : gMine) : Bool :=
  bif (!(m_impl_within m_.Junctions 1 16)) || (decide (24 < (m_.Airways.length : Int))) then false else LOOP (m_impl_ValidMine_b1 m_) (fun (x1 : Int) => true) (((m_.Airways.length : Int) - 0 : Int).toNat + 1) 0

/-! ### impl_Crew_valid -/
def m_impl_Crew_valid (c_ : gCrew) : Bool :=
  ((m_impl_IsName c_.Id) && (m_impl_junctionOk c_.Junction)) && (m_impl_within c_.Speed 10 300)

/-! ### impl_ValidCrews -/
def m_impl_ValidCrews_b1 (m_ : gMine) (list : List gCrew) (rec1 : Int → Bool) (k1 : Int → Bool) (x1 : Int) : Bool :=
  bif decide (x1 < (list.length : Int)) then bif ((!(m_impl_Crew_valid (at' list x1))) || (!(m_impl_Mine_hasJunction m_ (at' list x1).Junction))) || ((decide (0 < x1)) && (strB .leq (at' list x1).Id (at' list (x1 - 1)).Id)) then false else rec1 (x1 + 1) else k1 x1
def m_impl_ValidCrews (m_ : gMine) (list : List gCrew) : Bool :=
  bif (!(m_impl_ValidMine m_)) || (decide (8 < (list.length : Int))) then false else LOOP (m_impl_ValidCrews_b1 m_ list) (fun (x1 : Int) => true) (((list.length : Int) - 0 : Int).toNat + 1) 0

/-! ### slices_IndexFunc_int64 -/
def m_slices_IndexFunc_int64_b1 (s_ : List Int) (f : (Int → Bool)) (rec1 : Int → Int) (k1 : Int → Int) (x1 : Int) : Int :=
  bif decide (x1 < (s_.length : Int)) then bif f (at' s_ x1) then x1 else rec1 (x1 + 1) else k1 x1
def m_slices_IndexFunc_int64 (s_ : List Int) (f : Int → Bool) : Int :=
  LOOP (m_slices_IndexFunc_int64_b1 s_ f) (fun (x1 : Int) => (-1)) (((s_.length : Int) - 0 : Int).toNat + 1) 0

/-! ### slices_ContainsFunc_int64 -/
def m_slices_ContainsFunc_int64 (s_ : List Int) (f : Int → Bool) : Bool :=
  decide (0 ≤ (m_slices_IndexFunc_int64 s_ f))

/-! ### impl_allWithin_1 -/
def m_impl_allWithin_1 (n_ : Int) (p1 : Int) (p2 : Int) : Bool :=
  !(m_impl_within n_ p1 p2)

/-! ### impl_allWithin -/
def m_impl_allWithin (list : List Int) (low : Int) (high : Int) : Bool :=
  !(m_slices_ContainsFunc_int64 list (fun (a0 : Int) => m_impl_allWithin_1 a0 low high))

/-! ### impl_increasing -/
def m_impl_increasing_b1 (list : List Int) (rec1 : Int → Bool) (k1 : Int → Bool) (x1 : Int) : Bool :=
  bif decide (x1 < (list.length : Int)) then bif decide ((at' list x1) ≤ (at' list (x1 - 1))) then false else rec1 (x1 + 1) else k1 x1
def m_impl_increasing (list : List Int) : Bool :=
  LOOP (m_impl_increasing_b1 list) (fun (x1 : Int) => true) (((list.length : Int) - 1 : Int).toNat + 1) 1

/-! ### impl_Mine_hasJunctions -/
def m_impl_Mine_hasJunctions (m_ : gMine) (list : List Int) : Bool :=
  (m_impl_increasing list) && (m_impl_allWithin list 0 (IntKind.wrap .i64 (m_.Junctions - 1)))

/-! ### impl_escapeOf -/
def m_impl_escapeOf (m_ : gMine) (arrivals : List Int) (blocked : Int) (list : List gCrew) (start : Int) (exits : List Int) : gescape × Int × (List gCrew) :=
  bif !(m_impl_ValidCrews m_ list) then (gescape.mk (gMine.mk 0 ([] : List gAirway)) ([] : List Int) 0, 1, list) else bif (!(m_impl_within blocked (-1) ((m_.Airways.length : Int) - 1))) || (!(m_impl_within start 0 36000)) then (gescape.mk (gMine.mk 0 ([] : List gAirway)) ([] : List Int) 0, 2, list) else bif (((arrivals.length : Int) != m_.Junctions) || (!(m_impl_allWithin arrivals (-1) 1000000000000))) || (!(m_impl_Mine_hasJunctions m_ exits)) then (gescape.mk (gMine.mk 0 ([] : List gAirway)) ([] : List Int) 0, 7, list) else (gescape.mk m_ arrivals blocked, 0, list)

/-! ### sort_Search -/
def m_sort_Search_b1 (n_ : Int) (f : (Int → Bool)) (rec1 : (Int × Int) → Int) (k1 : (Int × Int) → Int) (x1 : Int × Int) : Int :=
  bif decide (x1.1 < x1.2) then bif !(f (IntKind.wrap .i64 (Int.fdiv (IntKind.wrap .u64 (IntKind.wrap .i64 (x1.1 + x1.2))) (2 ^ min (1 : Int).toNat 64)))) then rec1 (IntKind.wrap .i64 ((IntKind.wrap .i64 (Int.fdiv (IntKind.wrap .u64 (IntKind.wrap .i64 (x1.1 + x1.2))) (2 ^ min (1 : Int).toNat 64))) + 1), x1.2) else rec1 (x1.1, IntKind.wrap .i64 (Int.fdiv (IntKind.wrap .u64 (IntKind.wrap .i64 (x1.1 + x1.2))) (2 ^ min (1 : Int).toNat 64))) else k1 (x1.1, x1.2)
def m_sort_Search (n_ : Int) (f : Int → Bool) : Int :=
  LOOP (m_sort_Search_b1 n_ f) (fun (x1 : Int × Int) => x1.1) (n_.toNat + 1) (0, n_)

/-! ### impl_firstIn_1 -/
def m_impl_firstIn_1 (i : Int) (p1 : Int → Bool) (p2 : Int) : Bool :=
  p1 (IntKind.wrap .i64 (p2 + i))

/-! ### impl_firstIn -/
def m_impl_firstIn (low : Int) (high : Int) (has : Int → Bool) : Int × Bool :=
  (IntKind.wrap .i64 (low + (m_sort_Search (IntKind.wrap .i64 ((IntKind.wrap .i64 (high - low)) + 1)) (fun (a0 : Int) => m_impl_firstIn_1 a0 has low))), decide ((m_sort_Search (IntKind.wrap .i64 ((IntKind.wrap .i64 (high - low)) + 1)) (fun (a0 : Int) => m_impl_firstIn_1 a0 has low)) < (IntKind.wrap .i64 ((IntKind.wrap .i64 (high - low)) + 1))))

/-! ### impl_firstReached -/
def m_impl_firstReached_b1 (times : List Int) (junctions : List Int) (rec1 : (Int × Int) → Int) (k1 : (Int × Int) → Int) (x1 : Int × Int) : Int :=
  bif decide (x1.2 < (junctions.length : Int)) then bif (decide (0 ≤ (at' times (at' junctions x1.2)))) && ((decide (x1.1 < 0)) || (decide ((at' times (at' junctions x1.2)) < (at' times x1.1)))) then rec1 (at' junctions x1.2, x1.2 + 1) else rec1 (x1.1, x1.2 + 1) else k1 (x1.1, x1.2)
def m_impl_firstReached (times : List Int) (junctions : List Int) : Int :=
  LOOP (m_impl_firstReached_b1 times junctions) (fun (x1 : Int × Int) => x1.1) (((junctions.length : Int) - 0 : Int).toNat + 1) ((-1), 0)

/-! ### math_bits_Mul32 -/
def m_math_bits_Mul32 (x_ : Int) (y : Int) : Int × Int :=
  (IntKind.wrap .u32 (Int.fdiv (IntKind.wrap .u64 ((IntKind.wrap .u64 x_) * (IntKind.wrap .u64 y))) (2 ^ min (32 : Int).toNat 64)), IntKind.wrap .u32 (IntKind.wrap .u64 ((IntKind.wrap .u64 x_) * (IntKind.wrap .u64 y))))

/-! ### math_bits_Mul64 -/
def m_math_bits_Mul64 (x_ : Int) (y : Int) : Int × Int :=
  (IntKind.wrap .u64 ((IntKind.wrap .u64 ((IntKind.wrap .u64 ((Int.fdiv x_ (2 ^ min (32 : Int).toNat 64)) * (Int.fdiv y (2 ^ min (32 : Int).toNat 64)))) + (Int.fdiv (IntKind.wrap .u64 ((IntKind.wrap .u64 ((Int.fdiv x_ (2 ^ min (32 : Int).toNat 64)) * (IntKind.wrap .u64 ((((BitVec.ofInt (IntKind.bits .u64) y) &&& (BitVec.ofInt (IntKind.bits .u64) 4294967295)).toNat : Nat) : Int)))) + (Int.fdiv (IntKind.wrap .u64 ((IntKind.wrap .u64 ((((BitVec.ofInt (IntKind.bits .u64) x_) &&& (BitVec.ofInt (IntKind.bits .u64) 4294967295)).toNat : Nat) : Int)) * (IntKind.wrap .u64 ((((BitVec.ofInt (IntKind.bits .u64) y) &&& (BitVec.ofInt (IntKind.bits .u64) 4294967295)).toNat : Nat) : Int)))) (2 ^ min (32 : Int).toNat 64)))) (2 ^ min (32 : Int).toNat 64)))) + (Int.fdiv (IntKind.wrap .u64 ((IntKind.wrap .u64 ((((BitVec.ofInt (IntKind.bits .u64) (IntKind.wrap .u64 ((IntKind.wrap .u64 ((Int.fdiv x_ (2 ^ min (32 : Int).toNat 64)) * (IntKind.wrap .u64 ((((BitVec.ofInt (IntKind.bits .u64) y) &&& (BitVec.ofInt (IntKind.bits .u64) 4294967295)).toNat : Nat) : Int)))) + (Int.fdiv (IntKind.wrap .u64 ((IntKind.wrap .u64 ((((BitVec.ofInt (IntKind.bits .u64) x_) &&& (BitVec.ofInt (IntKind.bits .u64) 4294967295)).toNat : Nat) : Int)) * (IntKind.wrap .u64 ((((BitVec.ofInt (IntKind.bits .u64) y) &&& (BitVec.ofInt (IntKind.bits .u64) 4294967295)).toNat : Nat) : Int)))) (2 ^ min (32 : Int).toNat 64))))) &&& (BitVec.ofInt (IntKind.bits .u64) 4294967295)).toNat : Nat) : Int)) + (IntKind.wrap .u64 ((IntKind.wrap .u64 ((((BitVec.ofInt (IntKind.bits .u64) x_) &&& (BitVec.ofInt (IntKind.bits .u64) 4294967295)).toNat : Nat) : Int)) * (Int.fdiv y (2 ^ min (32 : Int).toNat 64)))))) (2 ^ min (32 : Int).toNat 64))), IntKind.wrap .u64 (x_ * y))

/-! ### math_bits_Mul -/
def m_math_bits_Mul (x_ : Int) (y : Int) : Int × Int :=
  bif false then (IntKind.wrap .u64 (m_math_bits_Mul32 (IntKind.wrap .u32 x_) (IntKind.wrap .u32 y)).1, IntKind.wrap .u64 (m_math_bits_Mul32 (IntKind.wrap .u32 x_) (IntKind.wrap .u32 y)).2) else ((m_math_bits_Mul64 x_ y).1, (m_math_bits_Mul64 x_ y).2)

/-! ### slices_Repeat_int64 -/
def m_slices_Repeat_int64_b1 (x_ : List Int) (count : Int) (rec1 : ((List Int) × Int) → (List Int)) (k1 : ((List Int) × Int) → (List Int)) (x1 : (List Int) × Int) : (List Int) :=
  bif decide (x1.2 < (x1.1.length : Int)) then rec1 (cpy x1.1 (x1.2.toNat) ((pre' x1.1 x1.2).take (min (pre' x1.1 x1.2).length ((x1.1.length : Int).toNat - x1.2.toNat))), IntKind.wrap .i64 (x1.2 + (((min (pre' x1.1 x1.2).length ((x1.1.length : Int).toNat - x1.2.toNat)) : Nat) : Int))) else k1 (x1.1, x1.2)
def m_slices_Repeat_int64 (x_ : List Int) (count : Int) : (List Int) :=
  LOOP (m_slices_Repeat_int64_b1 x_ count) (fun (x1 : (List Int) × Int) => x1.1) (count.toNat + 1) (cpy (List.replicate (IntKind.wrap .i64 (m_math_bits_Mul (IntKind.wrap .u64 (x_.length : Int)) (IntKind.wrap .u64 count)).2 : Int).toNat (0 : Int)) (0) (x_.take (min x_.length (List.replicate (IntKind.wrap .i64 (m_math_bits_Mul (IntKind.wrap .u64 (x_.length : Int)) (IntKind.wrap .u64 count)).2 : Int).toNat (0 : Int)).length)), (((min x_.length (List.replicate (IntKind.wrap .i64 (m_math_bits_Mul (IntKind.wrap .u64 (x_.length : Int)) (IntKind.wrap .u64 count)).2 : Int).toNat (0 : Int)).length) : Nat) : Int))

/-! ### impl_escape_mayBe -/
def m_impl_escape_mayBe (e : gescape) (junction : Int) (second : Int) : Bool :=
  (decide ((at' e.arrivals junction) < 0)) || (decide (second < (at' e.arrivals junction)))

/-! ### impl_divUp -/
def m_impl_divUp (a : Int) (b : Int) : Int :=
  IntKind.wrap .i64 (Int.tdiv (IntKind.wrap .i64 ((IntKind.wrap .i64 (a + b)) - 1)) b)

/-! ### impl_Airway_walkTime -/
def m_impl_Airway_walkTime (a : gAirway) (speed : Int) : Int :=
  m_impl_divUp (IntKind.wrap .i64 (100 * a.Length)) speed

/-! ### impl_escape_times -/
def m_impl_escape_times_b3 (e : gescape) (c_ : gCrew) (start : Int) (rec1 : ((List Int) × Bool) → (List Int)) (k1 : ((List Int) × Bool) → (List Int)) (x1 : (List Int) × Bool) (rec2 : ((List Int) × Bool × Int) → (List Int)) (k2 : ((List Int) × Bool × Int) → (List Int)) (x2 : (List Int) × Bool × Int) (rec3 : ((List Int) × Bool × Int) → (List Int)) (k3 : ((List Int) × Bool × Int) → (List Int)) (x3 : (List Int) × Bool × Int) : (List Int) :=
  bif decide (x3.2.2 < 2) then bif (((x2.2.2 != e.blocked) && (decide (0 ≤ (at' x3.1 (at' ([(at' e.mine.Airways x2.2.2).From, (at' e.mine.Airways x2.2.2).To] : List Int) x3.2.2))))) && ((decide ((at' x3.1 (at' ([(at' e.mine.Airways x2.2.2).To, (at' e.mine.Airways x2.2.2).From] : List Int) x3.2.2)) < 0)) || (decide ((IntKind.wrap .i64 ((at' x3.1 (at' ([(at' e.mine.Airways x2.2.2).From, (at' e.mine.Airways x2.2.2).To] : List Int) x3.2.2)) + (m_impl_Airway_walkTime (at' e.mine.Airways x2.2.2) c_.Speed))) < (at' x3.1 (at' ([(at' e.mine.Airways x2.2.2).To, (at' e.mine.Airways x2.2.2).From] : List Int) x3.2.2)))))) && (m_impl_escape_mayBe e (at' ([(at' e.mine.Airways x2.2.2).To, (at' e.mine.Airways x2.2.2).From] : List Int) x3.2.2) (IntKind.wrap .i64 ((at' x3.1 (at' ([(at' e.mine.Airways x2.2.2).From, (at' e.mine.Airways x2.2.2).To] : List Int) x3.2.2)) + (m_impl_Airway_walkTime (at' e.mine.Airways x2.2.2) c_.Speed)))) then rec3 (put' x3.1 (at' ([(at' e.mine.Airways x2.2.2).To, (at' e.mine.Airways x2.2.2).From] : List Int) x3.2.2) (IntKind.wrap .i64 ((at' x3.1 (at' ([(at' e.mine.Airways x2.2.2).From, (at' e.mine.Airways x2.2.2).To] : List Int) x3.2.2)) + (m_impl_Airway_walkTime (at' e.mine.Airways x2.2.2) c_.Speed))), true, x3.2.2 + 1) else rec3 (x3.1, x3.2.1, x3.2.2 + 1) else k3 (x3.1, x3.2.1, x3.2.2)
def m_impl_escape_times_b2 (e : gescape) (c_ : gCrew) (start : Int) (rec1 : ((List Int) × Bool) → (List Int)) (k1 : ((List Int) × Bool) → (List Int)) (x1 : (List Int) × Bool) (rec2 : ((List Int) × Bool × Int) → (List Int)) (k2 : ((List Int) × Bool × Int) → (List Int)) (x2 : (List Int) × Bool × Int) : (List Int) :=
  bif decide (x2.2.2 < (e.mine.Airways.length : Int)) then LOOP (m_impl_escape_times_b3 e c_ start rec1 k1 x1 rec2 k2 x2) (fun (x3 : (List Int) × Bool × Int) => rec2 (x3.1, x3.2.1, x2.2.2 + 1)) ((2 - 0 : Int).toNat + 1) (x2.1, x2.2.1, 0) else k2 (x2.1, x2.2.1, x2.2.2)
def m_impl_escape_times_b1 (e : gescape) (c_ : gCrew) (start : Int) (rec1 : ((List Int) × Bool) → (List Int)) (k1 : ((List Int) × Bool) → (List Int)) (x1 : (List Int) × Bool) : (List Int) :=
  bif x1.2 then LOOP (m_impl_escape_times_b2 e c_ start rec1 k1 x1) (fun (x2 : (List Int) × Bool × Int) => rec1 (x2.1, x2.2.1)) (((e.mine.Airways.length : Int) - 0 : Int).toNat + 1) (x1.1, false, 0) else k1 (x1.1, x1.2)
def m_impl_escape_times (e : gescape) (c_ : gCrew) (start : Int) : (List Int) :=
  bif !(m_impl_escape_mayBe e c_.Junction start) then m_slices_Repeat_int64 ([(-1)] : List Int) e.mine.Junctions else LOOP (m_impl_escape_times_b1 e c_ start) (fun (x1 : (List Int) × Bool) => x1.1) (300000000000) (put' (m_slices_Repeat_int64 ([(-1)] : List Int) e.mine.Junctions) c_.Junction start, true)

/-! ### impl_LastStart_1 -/
def m_impl_LastStart_1 (start : Int) (p1 : gescape) (p2 : gCrew) (p3 : List Int) : Bool :=
  decide ((m_impl_firstReached (m_impl_escape_times p1 p2 start) p3) < 0)

/-! ### impl_orNotFound -/
def m_impl_orNotFound (n_ : Int) (ok : Bool) : Int × Int :=
  bif !ok then (0, 3) else (n_, 0)

/-! ### impl_LastStart -/
def m_impl_LastStart (m_ : gMine) (arrivals : List Int) (blocked : Int) (c_ : gCrew) (exits : List Int) : Int × Int :=
  bif (m_impl_escapeOf m_ arrivals blocked ([c_] : List gCrew) 0 exits).2.1 != 0 then (0, (m_impl_escapeOf m_ arrivals blocked ([c_] : List gCrew) 0 exits).2.1) else bif !(m_impl_firstIn 0 36000 (fun (a0 : Int) => m_impl_LastStart_1 a0 (m_impl_escapeOf m_ arrivals blocked ([c_] : List gCrew) 0 exits).1 c_ exits)).2 then (36000, 0) else ((m_impl_orNotFound (IntKind.wrap .i64 ((m_impl_firstIn 0 36000 (fun (a0 : Int) => m_impl_LastStart_1 a0 (m_impl_escapeOf m_ arrivals blocked ([c_] : List gCrew) 0 exits).1 c_ exits)).1 - 1)) (decide (0 < (m_impl_firstIn 0 36000 (fun (a0 : Int) => m_impl_LastStart_1 a0 (m_impl_escapeOf m_ arrivals blocked ([c_] : List gCrew) 0 exits).1 c_ exits)).1))).1, (m_impl_orNotFound (IntKind.wrap .i64 ((m_impl_firstIn 0 36000 (fun (a0 : Int) => m_impl_LastStart_1 a0 (m_impl_escapeOf m_ arrivals blocked ([c_] : List gCrew) 0 exits).1 c_ exits)).1 - 1)) (decide (0 < (m_impl_firstIn 0 36000 (fun (a0 : Int) => m_impl_LastStart_1 a0 (m_impl_escapeOf m_ arrivals blocked ([c_] : List gCrew) 0 exits).1 c_ exits)).1))).2)

/-! ### laws_eqAirway -/
def m_laws_eqAirway (a : gAirway) (b : gAirway) : Bool :=
  bif strB .neq a.Id b.Id then false else bif a.From != b.From then false else bif a.To != b.To then false else bif a.Length != b.Length then false else bif a.Section != b.Section then false else bif a.Friction != b.Friction then false else bif a.Shock != b.Shock then false else true

/-! ### laws_eqAirwayS -/
def m_laws_eqAirwayS_b1 (a : List gAirway) (b : List gAirway) (rec1 : Int → Bool) (k1 : Int → Bool) (x1 : Int) : Bool :=
  bif decide (x1 < (a.length : Int)) then bif !(m_laws_eqAirway (at' a x1) (at' b x1)) then false else rec1 (x1 + 1) else k1 x1
def m_laws_eqAirwayS (a : List gAirway) (b : List gAirway) : Bool :=
  bif (a.length : Int) != (b.length : Int) then false else LOOP (m_laws_eqAirwayS_b1 a b) (fun (x1 : Int) => true) (((a.length : Int) - 0 : Int).toNat + 1) 0

/-! ### laws_eqMine -/
def m_laws_eqMine (a : gMine) (b : gMine) : Bool :=
  bif a.Junctions != b.Junctions then false else bif !(m_laws_eqAirwayS a.Airways b.Airways) then false else true

/-! ### laws_eqInt64S -/
def m_laws_eqInt64S_b1 (a : List Int) (b : List Int) (rec1 : Int → Bool) (k1 : Int → Bool) (x1 : Int) : Bool :=
  bif decide (x1 < (a.length : Int)) then bif (at' a x1) != (at' b x1) then false else rec1 (x1 + 1) else k1 x1
def m_laws_eqInt64S (a : List Int) (b : List Int) : Bool :=
  bif (a.length : Int) != (b.length : Int) then false else LOOP (m_laws_eqInt64S_b1 a b) (fun (x1 : Int) => true) (((a.length : Int) - 0 : Int).toNat + 1) 0

/-! ### laws_FnExactLastStart -/
def m_laws_FnExactLastStart (aM : gMine) (aArrivals : List Int) (aBlocked : Int) (aC : gCrew) (aExits : List Int) : Bool :=
  bif decide (1048576 < (aArrivals.length : Int)) then true else bif decide (1048576 < (aExits.length : Int)) then true else bif decide ((m_laws_szMine aM 1048576) < 0) then true else bif decide ((m_laws_szCrew aC (m_laws_szMine aM 1048576)) < 0) then true else bif ((m_impl_LastStart (m_laws_toMine aM) (m_laws_toInt64S aArrivals) aBlocked (m_laws_toCrew aC) (m_laws_toInt64S aExits)).1 != (m_spec_LastStart (m_laws_toMine aM) (m_laws_toInt64S aArrivals) aBlocked (m_laws_toCrew aC) (m_laws_toInt64S aExits)).1) || ((m_impl_LastStart (m_laws_toMine aM) (m_laws_toInt64S aArrivals) aBlocked (m_laws_toCrew aC) (m_laws_toInt64S aExits)).2 != (m_spec_LastStart (m_laws_toMine aM) (m_laws_toInt64S aArrivals) aBlocked (m_laws_toCrew aC) (m_laws_toInt64S aExits)).2) then false else bif !(m_laws_eqMine (m_laws_toMine aM) (m_laws_toMine aM)) then false else bif !(m_laws_eqInt64S (m_laws_toInt64S aArrivals) (m_laws_toInt64S aArrivals)) then false else bif !(m_laws_eqInt64S (m_laws_toInt64S aExits) (m_laws_toInt64S aExits)) then false else true

end Go.Proofs.Ytjieemgagalkjaa
