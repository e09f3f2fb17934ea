/-
  PLAIN MODELS of the Go functions that the law reaches, printed by a program of this claim. Conditions: none; nothing is claimed here.
-/
import Derived.Test.YthcboapohklfnaaEngN
set_option linter.unusedVariables false
set_option linter.unusedSimpArgs false
set_option linter.unusedSectionVars false
set_option linter.unnecessarySimpa false
namespace Go.Proofs.Ythcboapohklfnaa
open Go Go.RowKit Go.Proofs Go.Proofs.Ythcboapohklfnaa.E
structure gAirway where
  Id : List UInt8
  From : Int
  To : Int
  Length : Int
  Section : Int
  Friction : Int
  Shock : Int
instance : Inhabited gAirway := ⟨gAirway.mk default default default default default default default⟩
abbrev gAirway.v (x : gAirway) : V := .st [.str x.Id, .int .i64 x.From, .int .i64 x.To, .int .i64 x.Length, .int .i64 x.Section, .int .i64 x.Friction, .int .i64 x.Shock]
structure gMine where
  Junctions : Int
  Airways : List gAirway
instance : Inhabited gMine := ⟨gMine.mk default default⟩
abbrev gMine.v (x : gMine) : V := .st [.int .i64 x.Junctions, .sl 7 (x.Airways.map gAirway.v)]
structure gWant where
  Airway : Int
  Least : Int
  Most : Int
instance : Inhabited gWant := ⟨gWant.mk default default default⟩
abbrev gWant.v (x : gWant) : V := .st [.int .i64 x.Airway, .int .i64 x.Least, .int .i64 x.Most]

/-! ### laws_szAirway -/
def m_laws_szAirway (a : gAirway) (left : Int) : Int :=
  bif decide ((IntKind.wrap .i64 (left - (a.Id.length : Int))) < 0) then (-1) else IntKind.wrap .i64 (left - (a.Id.length : Int))

/-! ### laws_szAirwayS -/
def m_laws_szAirwayS_b1 (a : List gAirway) (left : Int) (rec1 : (Int × Int) → Int) (k1 : (Int × Int) → Int) (x1 : Int × Int) : Int :=
  bif decide (x1.2 < (a.length : Int)) then bif decide ((m_laws_szAirway (at' a x1.2) x1.1) < 0) then (-1) else rec1 (m_laws_szAirway (at' a x1.2) x1.1, x1.2 + 1) else k1 (x1.1, x1.2)
def m_laws_szAirwayS (a : List gAirway) (left : Int) : Int :=
  bif decide ((IntKind.wrap .i64 (left - (a.length : Int))) < 0) then (-1) else LOOP (m_laws_szAirwayS_b1 a left) (fun (x1 : Int × Int) => x1.1) (((a.length : Int) - 0 : Int).toNat + 1) (IntKind.wrap .i64 (left - (a.length : Int)), 0)

/-! ### laws_szMine -/
def m_laws_szMine (a : gMine) (left : Int) : Int :=
  bif decide ((m_laws_szAirwayS a.Airways left) < 0) then (-1) else m_laws_szAirwayS a.Airways left

/-! ### laws_toAirway -/
def m_laws_toAirway (a : gAirway) : gAirway :=
  a

/-! ### laws_toAirwayS -/
def m_laws_toAirwayS_b1 (a : List gAirway) (rec1 : ((List gAirway) × Int) → (List gAirway)) (k1 : ((List gAirway) × Int) → (List gAirway)) (x1 : (List gAirway) × Int) : (List gAirway) :=
  bif decide (x1.2 < (a.length : Int)) then rec1 (put' x1.1 x1.2 (m_laws_toAirway (at' a x1.2)), x1.2 + 1) else k1 (x1.1, x1.2)
def m_laws_toAirwayS (a : List gAirway) : (List gAirway) :=
  LOOP (m_laws_toAirwayS_b1 a) (fun (x1 : (List gAirway) × Int) => x1.1) (((a.length : Int) - 0 : Int).toNat + 1) (List.replicate ((a.length : Int) : Int).toNat (gAirway.mk ([] : List UInt8) 0 0 0 0 0 0 : gAirway), 0)

/-! ### laws_toMine -/
def m_laws_toMine (a : gMine) : gMine :=
  gMine.mk a.Junctions (m_laws_toAirwayS a.Airways)

/-! ### laws_toInt64S -/
def m_laws_toInt64S_b1 (a : List Int) (rec1 : ((List Int) × Int) → (List Int)) (k1 : ((List Int) × Int) → (List Int)) (x1 : (List Int) × Int) : (List Int) :=
  bif decide (x1.2 < (a.length : Int)) then rec1 (put' x1.1 x1.2 (at' a x1.2), x1.2 + 1) else k1 (x1.1, x1.2)
def m_laws_toInt64S (a : List Int) : (List Int) :=
  LOOP (m_laws_toInt64S_b1 a) (fun (x1 : (List Int) × Int) => x1.1) (((a.length : Int) - 0 : Int).toNat + 1) (List.replicate ((a.length : Int) : Int).toNat (0 : Int), 0)

/-! ### laws_eqInt64S -/
def m_laws_eqInt64S_b1 (a : List Int) (b : List Int) (rec1 : Int → Bool) (k1 : Int → Bool) (x1 : Int) : Bool :=
  bif decide (x1 < (a.length : Int)) then bif (at' a x1) != (at' b x1) then false else rec1 (x1 + 1) else k1 x1
def m_laws_eqInt64S (a : List Int) (b : List Int) : Bool :=
  bif (a.length : Int) != (b.length : Int) then false else LOOP (m_laws_eqInt64S_b1 a b) (fun (x1 : Int) => true) (((a.length : Int) - 0 : Int).toNat + 1) 0

/-! ### laws_eqAirway -/
def m_laws_eqAirway (a : gAirway) (b : gAirway) : Bool :=
  bif strB .neq a.Id b.Id then false else bif a.From != b.From then false else bif a.To != b.To then false else bif a.Length != b.Length then false else bif a.Section != b.Section then false else bif a.Friction != b.Friction then false else bif a.Shock != b.Shock then false else true

/-! ### laws_eqAirwayS -/
def m_laws_eqAirwayS_b1 (a : List gAirway) (b : List gAirway) (rec1 : Int → Bool) (k1 : Int → Bool) (x1 : Int) : Bool :=
  bif decide (x1 < (a.length : Int)) then bif !(m_laws_eqAirway (at' a x1) (at' b x1)) then false else rec1 (x1 + 1) else k1 x1
def m_laws_eqAirwayS (a : List gAirway) (b : List gAirway) : Bool :=
  bif (a.length : Int) != (b.length : Int) then false else LOOP (m_laws_eqAirwayS_b1 a b) (fun (x1 : Int) => true) (((a.length : Int) - 0 : Int).toNat + 1) 0

/-! ### laws_eqMine -/
def m_laws_eqMine (a : gMine) (b : gMine) : Bool :=
  bif a.Junctions != b.Junctions then false else bif !(m_laws_eqAirwayS a.Airways b.Airways) then false else true

/-! ### laws_markText -/
def m_laws_markText_b1 (k_ : Int) (rec1 : (Int × (List UInt8)) → (List UInt8)) (k1 : (Int × (List UInt8)) → (List UInt8)) (x1 : Int × (List UInt8)) : (List UInt8) :=
  bif decide (0 < x1.1) then rec1 (IntKind.wrap .i64 (Int.tdiv x1.1 10), (chars ([IntKind.wrap .u8 (IntKind.wrap .i64 (48 + (Int.tmod x1.1 10)))] : List Int)) ++ x1.2) else k1 (x1.1, x1.2)
def m_laws_markText (k_ : Int) : (List UInt8) :=
  bif decide (k_ ≤ 0) then ([109, 48] : List UInt8) else LOOP (m_laws_markText_b1 k_) (fun (x1 : Int × (List UInt8)) => ([109] : List UInt8) ++ x1.2) (k_.toNat + 1) (k_, ([] : List UInt8))

/-! ### laws_markAirwayS -/
def m_laws_markAirwayS_b1 (a : List gAirway) (k_ : Int) (rec1 : ((List gAirway) × Int × Int) → (Int × (List gAirway))) (k1 : ((List gAirway) × Int × Int) → (Int × (List gAirway))) (x1 : (List gAirway) × Int × Int) : Int × (List gAirway) :=
  bif decide (x1.2.2 < (x1.1.length : Int)) then rec1 (put' x1.1 x1.2.2 (gAirway.mk (m_laws_markText x1.2.1) (IntKind.wrap .i64 (x1.2.1 + 1)) (IntKind.wrap .i64 ((IntKind.wrap .i64 (x1.2.1 + 1)) + 1)) (IntKind.wrap .i64 ((IntKind.wrap .i64 ((IntKind.wrap .i64 (x1.2.1 + 1)) + 1)) + 1)) (IntKind.wrap .i64 ((IntKind.wrap .i64 ((IntKind.wrap .i64 ((IntKind.wrap .i64 (x1.2.1 + 1)) + 1)) + 1)) + 1)) (IntKind.wrap .i64 ((IntKind.wrap .i64 ((IntKind.wrap .i64 ((IntKind.wrap .i64 ((IntKind.wrap .i64 (x1.2.1 + 1)) + 1)) + 1)) + 1)) + 1)) (IntKind.wrap .i64 ((IntKind.wrap .i64 ((IntKind.wrap .i64 ((IntKind.wrap .i64 ((IntKind.wrap .i64 ((IntKind.wrap .i64 (x1.2.1 + 1)) + 1)) + 1)) + 1)) + 1)) + 1))), IntKind.wrap .i64 ((IntKind.wrap .i64 ((IntKind.wrap .i64 ((IntKind.wrap .i64 ((IntKind.wrap .i64 ((IntKind.wrap .i64 ((IntKind.wrap .i64 (x1.2.1 + 1)) + 1)) + 1)) + 1)) + 1)) + 1)) + 1), x1.2.2 + 1) else k1 (x1.1, x1.2.1, x1.2.2)
def m_laws_markAirwayS (a : List gAirway) (k_ : Int) : Int × (List gAirway) :=
  LOOP (m_laws_markAirwayS_b1 a k_) (fun (x1 : (List gAirway) × Int × Int) => (x1.2.1, x1.1)) (((a.length : Int) - 0 : Int).toNat + 1) (a, k_, 0)

/-! ### laws_markMine -/
def m_laws_markMine (a : gMine) (k_ : Int) : Int × (List gAirway) :=
  ((m_laws_markAirwayS a.Airways k_).1, (m_laws_markAirwayS a.Airways k_).2)

/-! ### laws_markInt64S -/
def m_laws_markInt64S_b1 (a : List Int) (k_ : Int) (rec1 : ((List Int) × Int × Int) → (Int × (List Int))) (k1 : ((List Int) × Int × Int) → (Int × (List Int))) (x1 : (List Int) × Int × Int) : Int × (List Int) :=
  bif decide (x1.2.2 < (x1.1.length : Int)) then rec1 (put' x1.1 x1.2.2 x1.2.1, IntKind.wrap .i64 (x1.2.1 + 1), x1.2.2 + 1) else k1 (x1.1, x1.2.1, x1.2.2)
def m_laws_markInt64S (a : List Int) (k_ : Int) : Int × (List Int) :=
  LOOP (m_laws_markInt64S_b1 a k_) (fun (x1 : (List Int) × Int × Int) => (x1.2.1, x1.1)) (((a.length : Int) - 0 : Int).toNat + 1) (a, k_, 0)

/-! ### laws_heldInt64S -/
def m_laws_heldInt64S_b1 (a : List Int) (k_ : Int) (rec1 : (Int × Int) → Int) (k1 : (Int × Int) → Int) (x1 : Int × Int) : Int :=
  bif decide (x1.2 < (a.length : Int)) then bif (at' a x1.2) != x1.1 then (-1) else rec1 (IntKind.wrap .i64 (x1.1 + 1), x1.2 + 1) else k1 (x1.1, x1.2)
def m_laws_heldInt64S (a : List Int) (k_ : Int) : Int :=
  LOOP (m_laws_heldInt64S_b1 a k_) (fun (x1 : Int × Int) => x1.1) (((a.length : Int) - 0 : Int).toNat + 1) (k_, 0)

/-! ### laws_szWantS -/
def m_laws_szWantS (a : List gWant) (left : Int) : Int :=
  bif decide ((IntKind.wrap .i64 (left - (a.length : Int))) < 0) then (-1) else IntKind.wrap .i64 (left - (a.length : Int))

/-! ### spec_l00In -/
def m_spec_l00In (n_ : Int) (low : Int) (high : Int) : Bool :=
  (decide (low ≤ n_)) && (decide (n_ ≤ high))

/-! ### spec_l01Small -/
def m_spec_l01Small (c_ : Int) : Bool :=
  (decide (97 ≤ c_)) && (decide (c_ ≤ 122))

/-! ### spec_l01Digit -/
def m_spec_l01Digit (c_ : Int) : Bool :=
  (decide (48 ≤ c_)) && (decide (c_ ≤ 57))

/-! ### spec_l01Name -/
def m_spec_l01Name_b1 (s_ : List UInt8) (rec1 : Int → Bool) (k1 : Int → Bool) (x1 : Int) : Bool :=
  bif decide (x1 < (s_.length : Int)) then bif (!(m_spec_l01Small (((s_.getD x1.toNat 0).toNat : Nat) : Int))) && (!(m_spec_l01Digit (((s_.getD x1.toNat 0).toNat : Nat) : Int))) then false else rec1 (x1 + 1) else k1 x1
def m_spec_l01Name (s_ : List UInt8) : Bool :=
  bif ((strB .eql s_ ([] : List UInt8)) || (decide (10 < (s_.length : Int)))) || (!(m_spec_l01Small (((s_.getD (0 : Int).toNat 0).toNat : Nat) : Int))) then false else LOOP (m_spec_l01Name_b1 s_) (fun (x1 : Int) => true) (((s_.length : Int) - 0 : Int).toNat + 1) 0

/-! ### spec_l03Ok -/
def m_spec_l03Ok (a : gAirway) : Bool :=
  bif (((!(m_spec_l01Name a.Id)) || (!(m_spec_l00In a.From 0 15))) || (!(m_spec_l00In a.To 0 15))) || (a.From == a.To) then false else (((m_spec_l00In a.Length 1 10000) && (m_spec_l00In a.Section 50 5000)) && (m_spec_l00In a.Friction 1 1000)) && (m_spec_l00In a.Shock 0 1000)

/-! ### spec_l04Junction -/
def m_spec_l04Junction (m_ : gMine) (j : Int) : Bool :=
  m_spec_l00In j 0 (IntKind.wrap .i64 (m_.Junctions - 1))

/-! ### spec_l04Ok -/
def m_spec_l04Ok_b1 (m_ : gMine) (rec1 : Int → Bool) (k1 : Int → Bool) (x1 : Int) : Bool :=
  bif decide (x1 < (m_.Airways.length : Int)) then bif (((!(m_spec_l03Ok (at' m_.Airways x1))) || (!(m_spec_l04Junction m_ (at' m_.Airways x1).From))) || (!(m_spec_l04Junction m_ (at' m_.Airways x1).To))) || ((decide (0 < x1)) && (strB .geq (at' m_.Airways (x1 - 1)).Id (at' m_.Airways x1).Id)) then false else rec1 (x1 + 1) else k1 x1
def m_spec_l04Ok (m_ : gMine) : Bool :=
  bif !(m_spec_l00In m_.Junctions 1 16) then false else LOOP (m_spec_l04Ok_b1 m_) (fun (x1 : Int) => decide ((m_.Airways.length : Int) ≤ 24)) (((m_.Airways.length : Int) - 0 : Int).toNat + 1) 0

/-! ### spec_l03Flow -/
def m_spec_l03Flow (q : Int) : Bool :=
  m_spec_l00In q (-100000) 100000

/-! ### spec_l21One -/
def m_spec_l21One (x_ : gWant) : Bool :=
  ((m_spec_l00In x_.Airway 0 23) && (m_spec_l03Flow x_.Least)) && (m_spec_l00In x_.Most x_.Least 100000)

/-! ### spec_l21Wants -/
def m_spec_l21Wants_b1 (m_ : gMine) (list : List gWant) (rec1 : Int → Bool) (k1 : Int → Bool) (x1 : Int) : Bool :=
  bif decide (x1 < (list.length : Int)) then bif (!(m_spec_l21One (at' list x1))) || (decide ((m_.Airways.length : Int) ≤ (at' list x1).Airway)) then false else rec1 (x1 + 1) else k1 x1
def m_spec_l21Wants (m_ : gMine) (list : List gWant) : Bool :=
  LOOP (m_spec_l21Wants_b1 m_ list) (fun (x1 : Int) => decide ((list.length : Int) ≤ 12)) (((list.length : Int) - 0 : Int).toNat + 1) 0

/-! ### spec_l07Flows -/
def m_spec_l07Flows_b1 (m_ : gMine) (flows : List Int) (rec1 : Int → Bool) (k1 : Int → Bool) (x1 : Int) : Bool :=
  bif decide (x1 < (flows.length : Int)) then bif !(m_spec_l03Flow (at' flows x1)) then false else rec1 (x1 + 1) else k1 x1
def m_spec_l07Flows (m_ : gMine) (flows : List Int) : Bool :=
  LOOP (m_spec_l07Flows_b1 m_ flows) (fun (x1 : Int) => (flows.length : Int) == (m_.Airways.length : Int)) (((flows.length : Int) - 0 : Int).toNat + 1) 0

/-! ### spec_l21Ask -/
def m_spec_l21Ask (m_ : gMine) (flows : List Int) (list : List gWant) : Int :=
  bif (!(m_spec_l04Ok m_)) || (!(m_spec_l21Wants m_ list)) then 1 else bif !(m_spec_l07Flows m_ flows) then 7 else 0

/-! ### spec_l00Max -/
def m_spec_l00Max (a : Int) (b : Int) : Int :=
  bif decide (b < a) then a else b

/-! ### spec_l21Miss -/
def m_spec_l21Miss (flows : List Int) (x_ : gWant) : Int :=
  m_spec_l00Max 0 (m_spec_l00Max (IntKind.wrap .i64 (x_.Least - (at' flows x_.Airway))) (IntKind.wrap .i64 ((at' flows x_.Airway) - x_.Most)))

/-! ### spec_l21Misses -/
def m_spec_l21Misses_b1 (flows : List Int) (list : List gWant) (rec1 : ((List Int) × Int) → (List Int)) (k1 : ((List Int) × Int) → (List Int)) (x1 : (List Int) × Int) : (List Int) :=
  bif decide (x1.2 < (list.length : Int)) then bif decide (0 < (m_spec_l21Miss flows (at' list x1.2))) then rec1 (x1.1 ++ ([x1.2] : List Int), x1.2 + 1) else rec1 (x1.1, x1.2 + 1) else k1 (x1.1, x1.2)
def m_spec_l21Misses (flows : List Int) (list : List gWant) : (List Int) :=
  LOOP (m_spec_l21Misses_b1 flows list) (fun (x1 : (List Int) × Int) => x1.1) (((list.length : Int) - 0 : Int).toNat + 1) (([] : List Int), 0)

/-! ### spec_MissesOf -/
def m_spec_MissesOf (m_ : gMine) (flows : List Int) (list : List gWant) : (List Int) × Int :=
  bif (m_spec_l21Ask m_ flows list) != 0 then (([] : List Int), m_spec_l21Ask m_ flows list) else (m_spec_l21Misses flows list, 0)

/-! ### laws_toWant -/
def m_laws_toWant (a : gWant) : gWant :=
  a

/-! ### laws_toWantS -/
def m_laws_toWantS_b1 (a : List gWant) (rec1 : ((List gWant) × Int) → (List gWant)) (k1 : ((List gWant) × Int) → (List gWant)) (x1 : (List gWant) × Int) : (List gWant) :=
  bif decide (x1.2 < (a.length : Int)) then rec1 (put' x1.1 x1.2 (m_laws_toWant (at' a x1.2)), x1.2 + 1) else k1 (x1.1, x1.2)
def m_laws_toWantS (a : List gWant) : (List gWant) :=
  LOOP (m_laws_toWantS_b1 a) (fun (x1 : (List gWant) × Int) => x1.1) (((a.length : Int) - 0 : Int).toNat + 1) (List.replicate ((a.length : Int) : Int).toNat (gWant.mk 0 0 0 : gWant), 0)

/-! ### impl_within -/
def m_impl_within (n_ : Int) (low : Int) (high : Int) : Bool :=
  (decide (low ≤ n_)) && (decide (n_ ≤ high))

/-! ### impl_onlyNameBytes -/
def m_impl_onlyNameBytes_b1 (s_ : List UInt8) (rec1 : Int → Bool) (k1 : Int → Bool) (x1 : Int) : Bool :=
  bif decide (x1 < (s_.length : Int)) then bif ((decide ((((s_.getD x1.toNat 0).toNat : Nat) : Int) < 97)) || (decide (122 < (((s_.getD x1.toNat 0).toNat : Nat) : Int)))) && ((decide ((((s_.getD x1.toNat 0).toNat : Nat) : Int) < 48)) || (decide (57 < (((s_.getD x1.toNat 0).toNat : Nat) : Int)))) then false else rec1 (x1 + 1) else k1 x1
def m_impl_onlyNameBytes (s_ : List UInt8) : Bool :=
  LOOP (m_impl_onlyNameBytes_b1 s_) (fun (x1 : Int) => true) (((s_.length : Int) - 0 : Int).toNat + 1) 0

/-! ### impl_IsName -/
def m_impl_IsName (s_ : List UInt8) : Bool :=
  bif (((decide ((s_.length : Int) < 1)) || (decide (10 < (s_.length : Int)))) || (decide ((((s_.getD (0 : Int).toNat 0).toNat : Nat) : Int) < 97))) || (decide (122 < (((s_.getD (0 : Int).toNat 0).toNat : Nat) : Int))) then false else m_impl_onlyNameBytes s_

/-! ### impl_junctionOk -/
def m_impl_junctionOk (n_ : Int) : Bool :=
  m_impl_within n_ 0 15

/-! ### impl_ValidAirway -/
def m_impl_ValidAirway (a : gAirway) : Bool :=
  (((((((m_impl_IsName a.Id) && (m_impl_junctionOk a.From)) && (m_impl_junctionOk a.To)) && (a.From != a.To)) && (m_impl_within a.Length 1 10000)) && (m_impl_within a.Section 50 5000)) && (m_impl_within a.Friction 1 1000)) && (m_impl_within a.Shock 0 1000)

/-! ### impl_Mine_hasJunction -/
def m_impl_Mine_hasJunction (m_ : gMine) (n_ : Int) : Bool :=
  m_impl_within n_ 0 (IntKind.wrap .i64 (m_.Junctions - 1))

/-! ### impl_Mine_hasEnds -/
def m_impl_Mine_hasEnds (m_ : gMine) (a : gAirway) : Bool :=
  (m_impl_Mine_hasJunction m_ a.From) && (m_impl_Mine_hasJunction m_ a.To)

/-! ### impl_ValidMine -/
def m_impl_ValidMine_b1 (m_ : gMine) (rec1 : Int → Bool) (k1 : Int → Bool) (x1 : Int) : Bool :=
  bif decide (x1 < (m_.Airways.length : Int)) then bif ((!(m_impl_ValidAirway (at' m_.Airways x1))) || (!(m_impl_Mine_hasEnds m_ (at' m_.Airways x1)))) || ((decide (0 < x1)) && (strB .leq (at' m_.Airways x1).Id (at' m_.Airways (x1 - 1)).Id)) then false else rec1 (x1 + 1) else k1 x1
def m_impl_ValidMine (m_ : gMine) : Bool :=
  bif (!(m_impl_within m_.Junctions 1 16)) || (decide (24 < (m_.Airways.length : Int))) then false else LOOP (m_impl_ValidMine_b1 m_) (fun (x1 : Int) => true) (((m_.Airways.length : Int) - 0 : Int).toNat + 1) 0

/-! ### slices_IndexFunc_impl_Want -/
def m_slices_IndexFunc_impl_Want_b1 (s_ : List gWant) (f : (gWant → Bool)) (rec1 : Int → Int) (k1 : Int → Int) (x1 : Int) : Int :=
  bif decide (x1 < (s_.length : Int)) then bif f (at' s_ x1) then x1 else rec1 (x1 + 1) else k1 x1
def m_slices_IndexFunc_impl_Want (s_ : List gWant) (f : gWant → Bool) : Int :=
  LOOP (m_slices_IndexFunc_impl_Want_b1 s_ f) (fun (x1 : Int) => (-1)) (((s_.length : Int) - 0 : Int).toNat + 1) 0

/-! ### slices_ContainsFunc_impl_Want -/
def m_slices_ContainsFunc_impl_Want (s_ : List gWant) (f : gWant → Bool) : Bool :=
  decide (0 ≤ (m_slices_IndexFunc_impl_Want s_ f))

/-! ### impl_flowOk -/
def m_impl_flowOk (n_ : Int) : Bool :=
  m_impl_within n_ (-100000) 100000

/-! ### impl_Want_valid -/
def m_impl_Want_valid (x_ : gWant) : Bool :=
  ((m_impl_within x_.Airway 0 23) && (m_impl_flowOk x_.Least)) && (m_impl_within x_.Most x_.Least 100000)

/-! ### impl_indexValid_impl_Airway -/
def m_impl_indexValid_impl_Airway (list : List gAirway) (k_ : Int) : Bool :=
  m_impl_within k_ 0 ((list.length : Int) - 1)

/-! ### impl_ValidWants_1 -/
def m_impl_ValidWants_1 (x_ : gWant) (p1 : gMine) : Bool :=
  (!(m_impl_Want_valid x_)) || (!(m_impl_indexValid_impl_Airway p1.Airways x_.Airway))

/-! ### impl_ValidWants -/
def m_impl_ValidWants (m_ : gMine) (list : List gWant) : Bool :=
  ((m_impl_ValidMine m_) && (decide ((list.length : Int) ≤ 12))) && (!(m_slices_ContainsFunc_impl_Want list (fun (a0 : gWant) => m_impl_ValidWants_1 a0 m_)))

/-! ### slices_IndexFunc_int64 -/
def m_slices_IndexFunc_int64_b1 (s_ : List Int) (f : (Int → Bool)) (rec1 : Int → Int) (k1 : Int → Int) (x1 : Int) : Int :=
  bif decide (x1 < (s_.length : Int)) then bif f (at' s_ x1) then x1 else rec1 (x1 + 1) else k1 x1
def m_slices_IndexFunc_int64 (s_ : List Int) (f : Int → Bool) : Int :=
  LOOP (m_slices_IndexFunc_int64_b1 s_ f) (fun (x1 : Int) => (-1)) (((s_.length : Int) - 0 : Int).toNat + 1) 0

/-! ### slices_ContainsFunc_int64 -/
def m_slices_ContainsFunc_int64 (s_ : List Int) (f : Int → Bool) : Bool :=
  decide (0 ≤ (m_slices_IndexFunc_int64 s_ f))

/-! ### impl_allWithin_1 -/
def m_impl_allWithin_1 (n_ : Int) (p1 : Int) (p2 : Int) : Bool :=
  !(m_impl_within n_ p1 p2)

/-! ### impl_allWithin -/
def m_impl_allWithin (list : List Int) (low : Int) (high : Int) : Bool :=
  !(m_slices_ContainsFunc_int64 list (fun (a0 : Int) => m_impl_allWithin_1 a0 low high))

/-! ### impl_Mine_hasList -/
def m_impl_Mine_hasList (m_ : gMine) (list : List Int) (low : Int) (high : Int) : Bool :=
  ((list.length : Int) == (m_.Airways.length : Int)) && (m_impl_allWithin list low high)

/-! ### impl_Mine_hasFlows -/
def m_impl_Mine_hasFlows (m_ : gMine) (flows : List Int) : Bool :=
  m_impl_Mine_hasList m_ flows (-100000) 100000

/-! ### impl_wantsCode -/
def m_impl_wantsCode (m_ : gMine) (flows : List Int) (list : List gWant) : Int :=
  bif !(m_impl_ValidWants m_ list) then 1 else bif !(m_impl_Mine_hasFlows m_ flows) then 7 else 0

/-! ### impl_Want_miss -/
def m_impl_Want_miss (x_ : gWant) (flows : List Int) : Int :=
  if (if (IntKind.wrap .i64 (x_.Least - (at' flows x_.Airway))) < (IntKind.wrap .i64 ((at' flows x_.Airway) - x_.Most)) then (IntKind.wrap .i64 ((at' flows x_.Airway) - x_.Most)) else (IntKind.wrap .i64 (x_.Least - (at' flows x_.Airway)))) < 0 then 0 else (if (IntKind.wrap .i64 (x_.Least - (at' flows x_.Airway))) < (IntKind.wrap .i64 ((at' flows x_.Airway) - x_.Most)) then (IntKind.wrap .i64 ((at' flows x_.Airway) - x_.Most)) else (IntKind.wrap .i64 (x_.Least - (at' flows x_.Airway))))

/-! ### impl_MissesOf -/
def m_impl_MissesOf_b1 (m_ : gMine) (flows : List Int) (list : List gWant) (rec1 : ((List Int) × Int) → ((List Int) × Int)) (k1 : ((List Int) × Int) → ((List Int) × Int)) (x1 : (List Int) × Int) : (List Int) × Int :=
  bif decide (x1.2 < (list.length : Int)) then bif decide (0 < (m_impl_Want_miss (at' list x1.2) flows)) then rec1 (x1.1 ++ ([x1.2] : List Int), x1.2 + 1) else rec1 (x1.1, x1.2 + 1) else k1 (x1.1, x1.2)
def m_impl_MissesOf (m_ : gMine) (flows : List Int) (list : List gWant) : (List Int) × Int :=
  bif (m_impl_wantsCode m_ flows list) != 0 then (([] : List Int), m_impl_wantsCode m_ flows list) else LOOP (m_impl_MissesOf_b1 m_ flows list) (fun (x1 : (List Int) × Int) => (x1.1, 0)) (((list.length : Int) - 0 : Int).toNat + 1) (([] : List Int), 0)

/-! ### laws_eqWant -/
def m_laws_eqWant (a : gWant) (b : gWant) : Bool :=
  bif a.Airway != b.Airway then false else bif a.Least != b.Least then false else bif a.Most != b.Most then false else true

/-! ### laws_eqWantS -/
def m_laws_eqWantS_b1 (a : List gWant) (b : List gWant) (rec1 : Int → Bool) (k1 : Int → Bool) (x1 : Int) : Bool :=
  bif decide (x1 < (a.length : Int)) then bif !(m_laws_eqWant (at' a x1) (at' b x1)) then false else rec1 (x1 + 1) else k1 x1
def m_laws_eqWantS (a : List gWant) (b : List gWant) : Bool :=
  bif (a.length : Int) != (b.length : Int) then false else LOOP (m_laws_eqWantS_b1 a b) (fun (x1 : Int) => true) (((a.length : Int) - 0 : Int).toNat + 1) 0

/-! ### laws_markWantS -/
def m_laws_markWantS_b1 (a : List gWant) (k_ : Int) (rec1 : ((List gWant) × Int × Int) → (Int × (List gWant))) (k1 : ((List gWant) × Int × Int) → (Int × (List gWant))) (x1 : (List gWant) × Int × Int) : Int × (List gWant) :=
  bif decide (x1.2.2 < (x1.1.length : Int)) then rec1 (put' x1.1 x1.2.2 (gWant.mk x1.2.1 (IntKind.wrap .i64 (x1.2.1 + 1)) (IntKind.wrap .i64 ((IntKind.wrap .i64 (x1.2.1 + 1)) + 1))), IntKind.wrap .i64 ((IntKind.wrap .i64 ((IntKind.wrap .i64 (x1.2.1 + 1)) + 1)) + 1), x1.2.2 + 1) else k1 (x1.1, x1.2.1, x1.2.2)
def m_laws_markWantS (a : List gWant) (k_ : Int) : Int × (List gWant) :=
  LOOP (m_laws_markWantS_b1 a k_) (fun (x1 : (List gWant) × Int × Int) => (x1.2.1, x1.1)) (((a.length : Int) - 0 : Int).toNat + 1) (a, k_, 0)

/-! ### laws_FnExactMissesOf -/
def m_laws_FnExactMissesOf (aM : gMine) (aFlows : List Int) (aList : List gWant) : Bool :=
  bif decide (1048576 < (aFlows.length : Int)) then true else bif decide ((m_laws_szMine aM 1048576) < 0) then true else bif decide ((m_laws_szWantS aList (m_laws_szMine aM 1048576)) < 0) then true else bif (!(m_laws_eqInt64S (m_impl_MissesOf (m_laws_toMine aM) (m_laws_toInt64S aFlows) (m_laws_toWantS aList)).1 (m_spec_MissesOf (m_laws_toMine aM) (m_laws_toInt64S aFlows) (m_laws_toWantS aList)).1)) || ((m_impl_MissesOf (m_laws_toMine aM) (m_laws_toInt64S aFlows) (m_laws_toWantS aList)).2 != (m_spec_MissesOf (m_laws_toMine aM) (m_laws_toInt64S aFlows) (m_laws_toWantS aList)).2) then false else bif !(m_laws_eqMine (m_laws_toMine aM) (m_laws_toMine aM)) then false else bif !(m_laws_eqInt64S (m_laws_toInt64S aFlows) (m_laws_toInt64S aFlows)) then false else bif !(m_laws_eqWantS (m_laws_toWantS aList) (m_laws_toWantS aList)) then false else bif ((decide ((m_laws_markWantS (m_laws_toWantS aList) (m_laws_markInt64S (m_laws_toInt64S aFlows) (m_laws_markMine (m_laws_toMine aM) 1).1).1).1 < 0)) || (!(m_laws_eqInt64S (m_impl_MissesOf (m_laws_toMine aM) (m_laws_toInt64S aFlows) (m_laws_toWantS aList)).1 (m_spec_MissesOf (m_laws_toMine aM) (m_laws_toInt64S aFlows) (m_laws_toWantS aList)).1))) || ((m_impl_MissesOf (m_laws_toMine aM) (m_laws_toInt64S aFlows) (m_laws_toWantS aList)).2 != (m_spec_MissesOf (m_laws_toMine aM) (m_laws_toInt64S aFlows) (m_laws_toWantS aList)).2) then false else bif decide ((m_laws_heldInt64S (m_laws_markInt64S (m_impl_MissesOf (m_laws_toMine aM) (m_laws_toInt64S aFlows) (m_laws_toWantS aList)).1 1).2 1) < 0) then false else bif (m_laws_heldInt64S (m_laws_markInt64S (m_impl_MissesOf (m_laws_toMine aM) (m_laws_toInt64S aFlows) (m_laws_toWantS aList)).1 1).2 1) != (m_laws_markInt64S (m_impl_MissesOf (m_laws_toMine aM) (m_laws_toInt64S aFlows) (m_laws_toWantS aList)).1 1).1 then false else bif (!(m_laws_eqInt64S (m_impl_MissesOf (m_laws_toMine aM) (m_laws_toInt64S aFlows) (m_laws_toWantS aList)).1 (m_spec_MissesOf (m_laws_toMine aM) (m_laws_toInt64S aFlows) (m_laws_toWantS aList)).1)) || ((m_impl_MissesOf (m_laws_toMine aM) (m_laws_toInt64S aFlows) (m_laws_toWantS aList)).2 != (m_spec_MissesOf (m_laws_toMine aM) (m_laws_toInt64S aFlows) (m_laws_toWantS aList)).2) then false else bif decide ((m_laws_heldInt64S (m_laws_markInt64S (m_impl_MissesOf (m_laws_toMine aM) (m_laws_toInt64S aFlows) (m_laws_toWantS aList)).1 1).2 1) < 0) then false else bif (m_laws_heldInt64S (m_laws_markInt64S (m_impl_MissesOf (m_laws_toMine aM) (m_laws_toInt64S aFlows) (m_laws_toWantS aList)).1 1).2 1) != (m_laws_markInt64S (m_impl_MissesOf (m_laws_toMine aM) (m_laws_toInt64S aFlows) (m_laws_toWantS aList)).1 1).1 then false else true

end Go.Proofs.Ythcboapohklfnaa
