/-
  PLAIN MODELS of the Go functions that the law reaches, printed by a program of this claim. Conditions: none; nothing is claimed here.
-/
import Derived.Test.YtbflomopgofkgaaEngN
set_option linter.unusedVariables false
set_option linter.unusedSimpArgs false
set_option linter.unusedSectionVars false
set_option linter.unnecessarySimpa false
namespace Go.Proofs.Ytbflomopgofkgaa
open Go Go.RowKit Go.Proofs Go.Proofs.Ytbflomopgofkgaa.E
structure gAirway where
  Id : List UInt8
  From : Int
  To : Int
  Length : Int
  Section : Int
  Friction : Int
  Shock : Int
instance : Inhabited gAirway := ⟨gAirway.mk default default default default default default default⟩
abbrev gAirway.v (x : gAirway) : V := .st [.str x.Id, .int .i64 x.From, .int .i64 x.To, .int .i64 x.Length, .int .i64 x.Section, .int .i64 x.Friction, .int .i64 x.Shock]
structure gMine where
  Junctions : Int
  Airways : List gAirway
instance : Inhabited gMine := ⟨gMine.mk default default⟩
abbrev gMine.v (x : gMine) : V := .st [.int .i64 x.Junctions, .sl 7 (x.Airways.map gAirway.v)]
structure gPermit where
  Id : List UInt8
  Kind : Int
  Airway : Int
  From : Int
  Until : Int
instance : Inhabited gPermit := ⟨gPermit.mk default default default default default⟩
abbrev gPermit.v (x : gPermit) : V := .st [.str x.Id, .int .i64 x.Kind, .int .i64 x.Airway, .int .i64 x.From, .int .i64 x.Until]

/-! ### laws_szAirway -/
def m_laws_szAirway (a : gAirway) (left : Int) : Int :=
  bif decide ((IntKind.wrap .i64 (left - (a.Id.length : Int))) < 0) then (-1) else IntKind.wrap .i64 (left - (a.Id.length : Int))

/-! ### laws_szAirwayS -/
def m_laws_szAirwayS_b1 (a : List gAirway) (left : Int) (rec1 : (Int × Int) → Int) (k1 : (Int × Int) → Int) (x1 : Int × Int) : Int :=
  bif decide (x1.2 < (a.length : Int)) then bif decide ((m_laws_szAirway (at' a x1.2) x1.1) < 0) then (-1) else rec1 (m_laws_szAirway (at' a x1.2) x1.1, x1.2 + 1) else k1 (x1.1, x1.2)
def m_laws_szAirwayS (a : List gAirway) (left : Int) : Int :=
  bif decide ((IntKind.wrap .i64 (left - (a.length : Int))) < 0) then (-1) else LOOP (m_laws_szAirwayS_b1 a left) (fun (x1 : Int × Int) => x1.1) (((a.length : Int) - 0 : Int).toNat + 1) (IntKind.wrap .i64 (left - (a.length : Int)), 0)

/-! ### laws_szMine -/
def m_laws_szMine (a : gMine) (left : Int) : Int :=
  bif decide ((m_laws_szAirwayS a.Airways left) < 0) then (-1) else m_laws_szAirwayS a.Airways left

/-! ### laws_szPermit -/
def m_laws_szPermit (a : gPermit) (left : Int) : Int :=
  bif decide ((IntKind.wrap .i64 (left - (a.Id.length : Int))) < 0) then (-1) else IntKind.wrap .i64 (left - (a.Id.length : Int))

/-! ### laws_szPermitS -/
def m_laws_szPermitS_b1 (a : List gPermit) (left : Int) (rec1 : (Int × Int) → Int) (k1 : (Int × Int) → Int) (x1 : Int × Int) : Int :=
  bif decide (x1.2 < (a.length : Int)) then bif decide ((m_laws_szPermit (at' a x1.2) x1.1) < 0) then (-1) else rec1 (m_laws_szPermit (at' a x1.2) x1.1, x1.2 + 1) else k1 (x1.1, x1.2)
def m_laws_szPermitS (a : List gPermit) (left : Int) : Int :=
  bif decide ((IntKind.wrap .i64 (left - (a.length : Int))) < 0) then (-1) else LOOP (m_laws_szPermitS_b1 a left) (fun (x1 : Int × Int) => x1.1) (((a.length : Int) - 0 : Int).toNat + 1) (IntKind.wrap .i64 (left - (a.length : Int)), 0)

/-! ### laws_toAirway -/
def m_laws_toAirway (a : gAirway) : gAirway :=
  a

/-! ### laws_toAirwayS -/
def m_laws_toAirwayS_b1 (a : List gAirway) (rec1 : ((List gAirway) × Int) → (List gAirway)) (k1 : ((List gAirway) × Int) → (List gAirway)) (x1 : (List gAirway) × Int) : (List gAirway) :=
  bif decide (x1.2 < (a.length : Int)) then rec1 (put' x1.1 x1.2 (m_laws_toAirway (at' a x1.2)), x1.2 + 1) else k1 (x1.1, x1.2)
def m_laws_toAirwayS (a : List gAirway) : (List gAirway) :=
  LOOP (m_laws_toAirwayS_b1 a) (fun (x1 : (List gAirway) × Int) => x1.1) (((a.length : Int) - 0 : Int).toNat + 1) (List.replicate ((a.length : Int) : Int).toNat (gAirway.mk ([] : List UInt8) 0 0 0 0 0 0 : gAirway), 0)

/-! ### laws_toMine -/
def m_laws_toMine (a : gMine) : gMine :=
  gMine.mk a.Junctions (m_laws_toAirwayS a.Airways)

/-! ### laws_toPermit -/
def m_laws_toPermit (a : gPermit) : gPermit :=
  a

/-! ### laws_toPermitS -/
def m_laws_toPermitS_b1 (a : List gPermit) (rec1 : ((List gPermit) × Int) → (List gPermit)) (k1 : ((List gPermit) × Int) → (List gPermit)) (x1 : (List gPermit) × Int) : (List gPermit) :=
  bif decide (x1.2 < (a.length : Int)) then rec1 (put' x1.1 x1.2 (m_laws_toPermit (at' a x1.2)), x1.2 + 1) else k1 (x1.1, x1.2)
def m_laws_toPermitS (a : List gPermit) : (List gPermit) :=
  LOOP (m_laws_toPermitS_b1 a) (fun (x1 : (List gPermit) × Int) => x1.1) (((a.length : Int) - 0 : Int).toNat + 1) (List.replicate ((a.length : Int) : Int).toNat (gPermit.mk ([] : List UInt8) 0 0 0 0 : gPermit), 0)

/-! ### laws_eqPermit -/
def m_laws_eqPermit (a : gPermit) (b : gPermit) : Bool :=
  bif strB .neq a.Id b.Id then false else bif a.Kind != b.Kind then false else bif a.Airway != b.Airway then false else bif a.From != b.From then false else bif a.Until != b.Until then false else true

/-! ### laws_eqPermitS -/
def m_laws_eqPermitS_b1 (a : List gPermit) (b : List gPermit) (rec1 : Int → Bool) (k1 : Int → Bool) (x1 : Int) : Bool :=
  bif decide (x1 < (a.length : Int)) then bif !(m_laws_eqPermit (at' a x1) (at' b x1)) then false else rec1 (x1 + 1) else k1 x1
def m_laws_eqPermitS (a : List gPermit) (b : List gPermit) : Bool :=
  bif (a.length : Int) != (b.length : Int) then false else LOOP (m_laws_eqPermitS_b1 a b) (fun (x1 : Int) => true) (((a.length : Int) - 0 : Int).toNat + 1) 0

/-! ### laws_eqAirway -/
def m_laws_eqAirway (a : gAirway) (b : gAirway) : Bool :=
  bif strB .neq a.Id b.Id then false else bif a.From != b.From then false else bif a.To != b.To then false else bif a.Length != b.Length then false else bif a.Section != b.Section then false else bif a.Friction != b.Friction then false else bif a.Shock != b.Shock then false else true

/-! ### laws_eqAirwayS -/
def m_laws_eqAirwayS_b1 (a : List gAirway) (b : List gAirway) (rec1 : Int → Bool) (k1 : Int → Bool) (x1 : Int) : Bool :=
  bif decide (x1 < (a.length : Int)) then bif !(m_laws_eqAirway (at' a x1) (at' b x1)) then false else rec1 (x1 + 1) else k1 x1
def m_laws_eqAirwayS (a : List gAirway) (b : List gAirway) : Bool :=
  bif (a.length : Int) != (b.length : Int) then false else LOOP (m_laws_eqAirwayS_b1 a b) (fun (x1 : Int) => true) (((a.length : Int) - 0 : Int).toNat + 1) 0

/-! ### laws_eqMine -/
def m_laws_eqMine (a : gMine) (b : gMine) : Bool :=
  bif a.Junctions != b.Junctions then false else bif !(m_laws_eqAirwayS a.Airways b.Airways) then false else true

/-! ### laws_markText -/
def m_laws_markText_b1 (k_ : Int) (rec1 : (Int × (List UInt8)) → (List UInt8)) (k1 : (Int × (List UInt8)) → (List UInt8)) (x1 : Int × (List UInt8)) : (List UInt8) :=
  bif decide (0 < x1.1) then rec1 (IntKind.wrap .i64 (Int.tdiv x1.1 10), (chars ([IntKind.wrap .u8 (IntKind.wrap .i64 (48 + (Int.tmod x1.1 10)))] : List Int)) ++ x1.2) else k1 (x1.1, x1.2)
def m_laws_markText (k_ : Int) : (List UInt8) :=
  bif decide (k_ ≤ 0) then ([109, 48] : List UInt8) else LOOP (m_laws_markText_b1 k_) (fun (x1 : Int × (List UInt8)) => ([109] : List UInt8) ++ x1.2) (k_.toNat + 1) (k_, ([] : List UInt8))

/-! ### laws_markAirwayS -/
def m_laws_markAirwayS_b1 (a : List gAirway) (k_ : Int) (rec1 : ((List gAirway) × Int × Int) → (Int × (List gAirway))) (k1 : ((List gAirway) × Int × Int) → (Int × (List gAirway))) (x1 : (List gAirway) × Int × Int) : Int × (List gAirway) :=
  bif decide (x1.2.2 < (x1.1.length : Int)) then rec1 (put' x1.1 x1.2.2 (gAirway.mk (m_laws_markText x1.2.1) (IntKind.wrap .i64 (x1.2.1 + 1)) (IntKind.wrap .i64 ((IntKind.wrap .i64 (x1.2.1 + 1)) + 1)) (IntKind.wrap .i64 ((IntKind.wrap .i64 ((IntKind.wrap .i64 (x1.2.1 + 1)) + 1)) + 1)) (IntKind.wrap .i64 ((IntKind.wrap .i64 ((IntKind.wrap .i64 ((IntKind.wrap .i64 (x1.2.1 + 1)) + 1)) + 1)) + 1)) (IntKind.wrap .i64 ((IntKind.wrap .i64 ((IntKind.wrap .i64 ((IntKind.wrap .i64 ((IntKind.wrap .i64 (x1.2.1 + 1)) + 1)) + 1)) + 1)) + 1)) (IntKind.wrap .i64 ((IntKind.wrap .i64 ((IntKind.wrap .i64 ((IntKind.wrap .i64 ((IntKind.wrap .i64 ((IntKind.wrap .i64 (x1.2.1 + 1)) + 1)) + 1)) + 1)) + 1)) + 1))), IntKind.wrap .i64 ((IntKind.wrap .i64 ((IntKind.wrap .i64 ((IntKind.wrap .i64 ((IntKind.wrap .i64 ((IntKind.wrap .i64 ((IntKind.wrap .i64 (x1.2.1 + 1)) + 1)) + 1)) + 1)) + 1)) + 1)) + 1), x1.2.2 + 1) else k1 (x1.1, x1.2.1, x1.2.2)
def m_laws_markAirwayS (a : List gAirway) (k_ : Int) : Int × (List gAirway) :=
  LOOP (m_laws_markAirwayS_b1 a k_) (fun (x1 : (List gAirway) × Int × Int) => (x1.2.1, x1.1)) (((a.length : Int) - 0 : Int).toNat + 1) (a, k_, 0)

/-! ### laws_markMine -/
def m_laws_markMine (a : gMine) (k_ : Int) : Int × (List gAirway) :=
  ((m_laws_markAirwayS a.Airways k_).1, (m_laws_markAirwayS a.Airways k_).2)

/-! ### laws_markPermitS -/
def m_laws_markPermitS_b1 (a : List gPermit) (k_ : Int) (rec1 : ((List gPermit) × Int × Int) → (Int × (List gPermit))) (k1 : ((List gPermit) × Int × Int) → (Int × (List gPermit))) (x1 : (List gPermit) × Int × Int) : Int × (List gPermit) :=
  bif decide (x1.2.2 < (x1.1.length : Int)) then rec1 (put' x1.1 x1.2.2 (gPermit.mk (m_laws_markText x1.2.1) (IntKind.wrap .i64 (x1.2.1 + 1)) (IntKind.wrap .i64 ((IntKind.wrap .i64 (x1.2.1 + 1)) + 1)) (IntKind.wrap .i64 ((IntKind.wrap .i64 ((IntKind.wrap .i64 (x1.2.1 + 1)) + 1)) + 1)) (IntKind.wrap .i64 ((IntKind.wrap .i64 ((IntKind.wrap .i64 ((IntKind.wrap .i64 (x1.2.1 + 1)) + 1)) + 1)) + 1))), IntKind.wrap .i64 ((IntKind.wrap .i64 ((IntKind.wrap .i64 ((IntKind.wrap .i64 ((IntKind.wrap .i64 (x1.2.1 + 1)) + 1)) + 1)) + 1)) + 1), x1.2.2 + 1) else k1 (x1.1, x1.2.1, x1.2.2)
def m_laws_markPermitS (a : List gPermit) (k_ : Int) : Int × (List gPermit) :=
  LOOP (m_laws_markPermitS_b1 a k_) (fun (x1 : (List gPermit) × Int × Int) => (x1.2.1, x1.1)) (((a.length : Int) - 0 : Int).toNat + 1) (a, k_, 0)

/-! ### spec_l01Small -/
def m_spec_l01Small (c_ : Int) : Bool :=
  (decide (97 ≤ c_)) && (decide (c_ ≤ 122))

/-! ### spec_l01Digit -/
def m_spec_l01Digit (c_ : Int) : Bool :=
  (decide (48 ≤ c_)) && (decide (c_ ≤ 57))

/-! ### spec_l01Name -/
def m_spec_l01Name_b1 (s_ : List UInt8) (rec1 : Int → Bool) (k1 : Int → Bool) (x1 : Int) : Bool :=
  bif decide (x1 < (s_.length : Int)) then bif (!(m_spec_l01Small (((s_.getD x1.toNat 0).toNat : Nat) : Int))) && (!(m_spec_l01Digit (((s_.getD x1.toNat 0).toNat : Nat) : Int))) then false else rec1 (x1 + 1) else k1 x1
def m_spec_l01Name (s_ : List UInt8) : Bool :=
  bif ((strB .eql s_ ([] : List UInt8)) || (decide (10 < (s_.length : Int)))) || (!(m_spec_l01Small (((s_.getD (0 : Int).toNat 0).toNat : Nat) : Int))) then false else LOOP (m_spec_l01Name_b1 s_) (fun (x1 : Int) => true) (((s_.length : Int) - 0 : Int).toNat + 1) 0

/-! ### spec_l00In -/
def m_spec_l00In (n_ : Int) (low : Int) (high : Int) : Bool :=
  (decide (low ≤ n_)) && (decide (n_ ≤ high))

/-! ### spec_l26Kind -/
def m_spec_l26Kind (kind : Int) : Bool :=
  m_spec_l00In kind 1 4

/-! ### spec_l14Airway -/
def m_spec_l14Airway (a : Int) : Bool :=
  m_spec_l00In a 0 23

/-! ### spec_l26One -/
def m_spec_l26One (x_ : gPermit) : Bool :=
  ((((m_spec_l01Name x_.Id) && (m_spec_l26Kind x_.Kind)) && (m_spec_l14Airway x_.Airway)) && (m_spec_l00In x_.From 0 99999)) && (m_spec_l00In x_.Until (IntKind.wrap .i64 (x_.From + 1)) 100000)

/-! ### spec_l03Ok -/
def m_spec_l03Ok (a : gAirway) : Bool :=
  bif (((!(m_spec_l01Name a.Id)) || (!(m_spec_l00In a.From 0 15))) || (!(m_spec_l00In a.To 0 15))) || (a.From == a.To) then false else (((m_spec_l00In a.Length 1 10000) && (m_spec_l00In a.Section 50 5000)) && (m_spec_l00In a.Friction 1 1000)) && (m_spec_l00In a.Shock 0 1000)

/-! ### spec_l04Junction -/
def m_spec_l04Junction (m_ : gMine) (j : Int) : Bool :=
  m_spec_l00In j 0 (IntKind.wrap .i64 (m_.Junctions - 1))

/-! ### spec_l04Ok -/
def m_spec_l04Ok_b1 (m_ : gMine) (rec1 : Int → Bool) (k1 : Int → Bool) (x1 : Int) : Bool :=
  bif decide (x1 < (m_.Airways.length : Int)) then bif (((!(m_spec_l03Ok (at' m_.Airways x1))) || (!(m_spec_l04Junction m_ (at' m_.Airways x1).From))) || (!(m_spec_l04Junction m_ (at' m_.Airways x1).To))) || ((decide (0 < x1)) && (strB .geq (at' m_.Airways (x1 - 1)).Id (at' m_.Airways x1).Id)) then false else rec1 (x1 + 1) else k1 x1
def m_spec_l04Ok (m_ : gMine) : Bool :=
  bif !(m_spec_l00In m_.Junctions 1 16) then false else LOOP (m_spec_l04Ok_b1 m_) (fun (x1 : Int) => decide ((m_.Airways.length : Int) ≤ 24)) (((m_.Airways.length : Int) - 0 : Int).toNat + 1) 0

/-! ### spec_l26Ok -/
def m_spec_l26Ok_b1 (m_ : gMine) (list : List gPermit) (rec1 : Int → Bool) (k1 : Int → Bool) (x1 : Int) : Bool :=
  bif decide (x1 < (list.length : Int)) then bif ((!(m_spec_l26One (at' list x1))) || (decide ((m_.Airways.length : Int) ≤ (at' list x1).Airway))) || ((decide (0 < x1)) && (strB .geq (at' list (x1 - 1)).Id (at' list x1).Id)) then false else rec1 (x1 + 1) else k1 x1
def m_spec_l26Ok (m_ : gMine) (list : List gPermit) : Bool :=
  bif (!(m_spec_l04Ok m_)) || (decide (16 < (list.length : Int))) then false else LOOP (m_spec_l26Ok_b1 m_ list) (fun (x1 : Int) => true) (((list.length : Int) - 0 : Int).toNat + 1) 0

/-! ### spec_l26Kinds -/
def m_spec_l26Kinds (a : Int) (b : Int) (same : Bool) : Bool :=
  bif b == 4 then true else bif b == 3 then (a != 1) || same else ((a == 2) && (b == 2)) && same

/-! ### spec_l00Min -/
def m_spec_l00Min (a : Int) (b : Int) : Int :=
  bif decide (a < b) then a else b

/-! ### spec_l00Max -/
def m_spec_l00Max (a : Int) (b : Int) : Int :=
  bif decide (b < a) then a else b

/-! ### spec_l26Clash -/
def m_spec_l26Clash (m_ : gMine) (x_ : gPermit) (y : gPermit) : Bool :=
  bif (decide (y.Until ≤ x_.From)) || (decide (x_.Until ≤ y.From)) then false else (((((at' m_.Airways x_.Airway).From == (at' m_.Airways y.Airway).From) || ((at' m_.Airways x_.Airway).From == (at' m_.Airways y.Airway).To)) || ((at' m_.Airways x_.Airway).To == (at' m_.Airways y.Airway).From)) || ((at' m_.Airways x_.Airway).To == (at' m_.Airways y.Airway).To)) && (m_spec_l26Kinds (m_spec_l00Min x_.Kind y.Kind) (m_spec_l00Max x_.Kind y.Kind) (x_.Airway == y.Airway))

/-! ### spec_PermitClashes -/
def m_spec_PermitClashes_b2 (m_ : gMine) (list : List gPermit) (rec1 : ((List (List Int)) × Int) → ((List (List Int)) × Int)) (k1 : ((List (List Int)) × Int) → ((List (List Int)) × Int)) (x1 : (List (List Int)) × Int) (rec2 : ((List (List Int)) × Int) → ((List (List Int)) × Int)) (k2 : ((List (List Int)) × Int) → ((List (List Int)) × Int)) (x2 : (List (List Int)) × Int) : (List (List Int)) × Int :=
  bif decide (x2.2 < (list.length : Int)) then bif m_spec_l26Clash m_ (at' list x1.2) (at' list x2.2) then rec2 (x2.1 ++ [([x1.2, x2.2] : List Int)], x2.2 + 1) else rec2 (x2.1, x2.2 + 1) else k2 (x2.1, x2.2)
def m_spec_PermitClashes_b1 (m_ : gMine) (list : List gPermit) (rec1 : ((List (List Int)) × Int) → ((List (List Int)) × Int)) (k1 : ((List (List Int)) × Int) → ((List (List Int)) × Int)) (x1 : (List (List Int)) × Int) : (List (List Int)) × Int :=
  bif decide (x1.2 < (list.length : Int)) then LOOP (m_spec_PermitClashes_b2 m_ list rec1 k1 x1) (fun (x2 : (List (List Int)) × Int) => rec1 (x2.1, x1.2 + 1)) (((list.length : Int) - (x1.2 + 1) : Int).toNat + 1) (x1.1, x1.2 + 1) else k1 (x1.1, x1.2)
def m_spec_PermitClashes (m_ : gMine) (list : List gPermit) : (List (List Int)) × Int :=
  bif !(m_spec_l26Ok m_ list) then (([] : List (List Int)), 1) else LOOP (m_spec_PermitClashes_b1 m_ list) (fun (x1 : (List (List Int)) × Int) => (x1.1, 0)) (((list.length : Int) - 0 : Int).toNat + 1) (([] : List (List Int)), 0)

/-! ### impl_onlyNameBytes -/
def m_impl_onlyNameBytes_b1 (s_ : List UInt8) (rec1 : Int → Bool) (k1 : Int → Bool) (x1 : Int) : Bool :=
  bif decide (x1 < (s_.length : Int)) then bif ((decide ((((s_.getD x1.toNat 0).toNat : Nat) : Int) < 97)) || (decide (122 < (((s_.getD x1.toNat 0).toNat : Nat) : Int)))) && ((decide ((((s_.getD x1.toNat 0).toNat : Nat) : Int) < 48)) || (decide (57 < (((s_.getD x1.toNat 0).toNat : Nat) : Int)))) then false else rec1 (x1 + 1) else k1 x1
def m_impl_onlyNameBytes (s_ : List UInt8) : Bool :=
  LOOP (m_impl_onlyNameBytes_b1 s_) (fun (x1 : Int) => true) (((s_.length : Int) - 0 : Int).toNat + 1) 0

/-! ### impl_IsName -/
def m_impl_IsName (s_ : List UInt8) : Bool :=
  bif (((decide ((s_.length : Int) < 1)) || (decide (10 < (s_.length : Int)))) || (decide ((((s_.getD (0 : Int).toNat 0).toNat : Nat) : Int) < 97))) || (decide (122 < (((s_.getD (0 : Int).toNat 0).toNat : Nat) : Int))) then false else m_impl_onlyNameBytes s_

/-! ### impl_within -/
def m_impl_within (n_ : Int) (low : Int) (high : Int) : Bool :=
  (decide (low ≤ n_)) && (decide (n_ ≤ high))

/-! ### impl_kindOk -/
def m_impl_kindOk (n_ : Int) : Bool :=
  m_impl_within n_ 1 4

/-! ### impl_Permit_valid -/
def m_impl_Permit_valid (x_ : gPermit) : Bool :=
  ((((m_impl_IsName x_.Id) && (m_impl_kindOk x_.Kind)) && (m_impl_within x_.Airway 0 23)) && (m_impl_within x_.Until 0 100000)) && (m_impl_within x_.From 0 (IntKind.wrap .i64 (x_.Until - 1)))

/-! ### impl_indexValid_impl_Airway -/
def m_impl_indexValid_impl_Airway (list : List gAirway) (k_ : Int) : Bool :=
  m_impl_within k_ 0 ((list.length : Int) - 1)

/-! ### impl_junctionOk -/
def m_impl_junctionOk (n_ : Int) : Bool :=
  m_impl_within n_ 0 15

/-! ### impl_ValidAirway -/
def m_impl_ValidAirway (a : gAirway) : Bool :=
  (((((((m_impl_IsName a.Id) && (m_impl_junctionOk a.From)) && (m_impl_junctionOk a.To)) && (a.From != a.To)) && (m_impl_within a.Length 1 10000)) && (m_impl_within a.Section 50 5000)) && (m_impl_within a.Friction 1 1000)) && (m_impl_within a.Shock 0 1000)

/-! ### impl_Mine_hasJunction -/
def m_impl_Mine_hasJunction (m_ : gMine) (n_ : Int) : Bool :=
  m_impl_within n_ 0 (IntKind.wrap .i64 (m_.Junctions - 1))

/-! ### impl_Mine_hasEnds -/
def m_impl_Mine_hasEnds (m_ : gMine) (a : gAirway) : Bool :=
  (m_impl_Mine_hasJunction m_ a.From) && (m_impl_Mine_hasJunction m_ a.To)

/-! ### impl_ValidMine -/
def m_impl_ValidMine_b1 (m_ : gMine) (rec1 : Int → Bool) (k1 : Int → Bool) (x1 : Int) : Bool :=
  bif decide (x1 < (m_.Airways.length : Int)) then bif ((!(m_impl_ValidAirway (at' m_.Airways x1))) || (!(m_impl_Mine_hasEnds m_ (at' m_.Airways x1)))) || ((decide (0 < x1)) && (strB .leq (at' m_.Airways x1).Id (at' m_.Airways (x1 - 1)).Id)) then false else rec1 (x1 + 1) else k1 x1
def m_impl_ValidMine (m_ : gMine) : Bool :=
  bif (!(m_impl_within m_.Junctions 1 16)) || (decide (24 < (m_.Airways.length : Int))) then false else LOOP (m_impl_ValidMine_b1 m_) (fun (x1 : Int) => true) (((m_.Airways.length : Int) - 0 : Int).toNat + 1) 0

/-! ### impl_ValidPermits -/
def m_impl_ValidPermits_b1 (m_ : gMine) (list : List gPermit) (rec1 : Int → Bool) (k1 : Int → Bool) (x1 : Int) : Bool :=
  bif decide (x1 < (list.length : Int)) then bif ((!(m_impl_Permit_valid (at' list x1))) || (!(m_impl_indexValid_impl_Airway m_.Airways (at' list x1).Airway))) || ((decide (0 < x1)) && (strB .leq (at' list x1).Id (at' list (x1 - 1)).Id)) then false else rec1 (x1 + 1) else k1 x1
def m_impl_ValidPermits (m_ : gMine) (list : List gPermit) : Bool :=
  bif (!(m_impl_ValidMine m_)) || (decide (16 < (list.length : Int))) then false else LOOP (m_impl_ValidPermits_b1 m_ list) (fun (x1 : Int) => true) (((list.length : Int) - 0 : Int).toNat + 1) 0

/-! ### impl_Airway_other -/
def m_impl_Airway_other (a : gAirway) (junction : Int) : Int × Bool :=
  bif junction == a.From then (a.To, true) else bif junction == a.To then (a.From, true) else (0, false)

/-! ### impl_KindsClash -/
def m_impl_KindsClash (a : Int) (b : Int) (same : Bool) : Bool :=
  bif (!(m_impl_kindOk a)) || (!(m_impl_kindOk b)) then false else bif (if a < b then b else a) == 4 then true else bif (if a < b then b else a) == 3 then ((if b < a then b else a) != 1) || same else bif (if b < a then b else a) == 2 then same else false

/-! ### impl_Mine_clash -/
def m_impl_Mine_clash (m_ : gMine) (x_ : gPermit) (y : gPermit) : Bool :=
  bif (decide (y.Until ≤ x_.From)) || (decide (x_.Until ≤ y.From)) then false else ((m_impl_Airway_other (at' m_.Airways y.Airway) (at' m_.Airways x_.Airway).From).2 || (m_impl_Airway_other (at' m_.Airways y.Airway) (at' m_.Airways x_.Airway).To).2) && (m_impl_KindsClash x_.Kind y.Kind (x_.Airway == y.Airway))

/-! ### impl_PermitClashes -/
def m_impl_PermitClashes_b2 (m_ : gMine) (list : List gPermit) (rec1 : ((List (List Int)) × Int) → ((List (List Int)) × Int)) (k1 : ((List (List Int)) × Int) → ((List (List Int)) × Int)) (x1 : (List (List Int)) × Int) (rec2 : ((List (List Int)) × Int) → ((List (List Int)) × Int)) (k2 : ((List (List Int)) × Int) → ((List (List Int)) × Int)) (x2 : (List (List Int)) × Int) : (List (List Int)) × Int :=
  bif decide (x2.2 < (list.length : Int)) then bif m_impl_Mine_clash m_ (at' list x1.2) (at' list x2.2) then rec2 (x2.1 ++ [([x1.2, x2.2] : List Int)], x2.2 + 1) else rec2 (x2.1, x2.2 + 1) else k2 (x2.1, x2.2)
def m_impl_PermitClashes_b1 (m_ : gMine) (list : List gPermit) (rec1 : ((List (List Int)) × Int) → ((List (List Int)) × Int)) (k1 : ((List (List Int)) × Int) → ((List (List Int)) × Int)) (x1 : (List (List Int)) × Int) : (List (List Int)) × Int :=
  bif decide (x1.2 < (list.length : Int)) then LOOP (m_impl_PermitClashes_b2 m_ list rec1 k1 x1) (fun (x2 : (List (List Int)) × Int) => rec1 (x2.1, x1.2 + 1)) (((list.length : Int) - (x1.2 + 1) : Int).toNat + 1) (x1.1, x1.2 + 1) else k1 (x1.1, x1.2)
def m_impl_PermitClashes (m_ : gMine) (list : List gPermit) : (List (List Int)) × Int :=
  bif !(m_impl_ValidPermits m_ list) then (([] : List (List Int)), 1) else LOOP (m_impl_PermitClashes_b1 m_ list) (fun (x1 : (List (List Int)) × Int) => (x1.1, 0)) (((list.length : Int) - 0 : Int).toNat + 1) (([] : List (List Int)), 0)

/-! ### laws_eqInt64S -/
def m_laws_eqInt64S_b1 (a : List Int) (b : List Int) (rec1 : Int → Bool) (k1 : Int → Bool) (x1 : Int) : Bool :=
  bif decide (x1 < (a.length : Int)) then bif (at' a x1) != (at' b x1) then false else rec1 (x1 + 1) else k1 x1
def m_laws_eqInt64S (a : List Int) (b : List Int) : Bool :=
  bif (a.length : Int) != (b.length : Int) then false else LOOP (m_laws_eqInt64S_b1 a b) (fun (x1 : Int) => true) (((a.length : Int) - 0 : Int).toNat + 1) 0

/-! ### laws_eqInt64SS -/
def m_laws_eqInt64SS_b1 (a : List (List Int)) (b : List (List Int)) (rec1 : Int → Bool) (k1 : Int → Bool) (x1 : Int) : Bool :=
  bif decide (x1 < (a.length : Int)) then bif !(m_laws_eqInt64S (at' a x1) (at' b x1)) then false else rec1 (x1 + 1) else k1 x1
def m_laws_eqInt64SS (a : List (List Int)) (b : List (List Int)) : Bool :=
  bif (a.length : Int) != (b.length : Int) then false else LOOP (m_laws_eqInt64SS_b1 a b) (fun (x1 : Int) => true) (((a.length : Int) - 0 : Int).toNat + 1) 0

/-! ### laws_markInt64S -/
def m_laws_markInt64S_b1 (a : List Int) (k_ : Int) (rec1 : ((List Int) × Int × Int) → (Int × (List Int))) (k1 : ((List Int) × Int × Int) → (Int × (List Int))) (x1 : (List Int) × Int × Int) : Int × (List Int) :=
  bif decide (x1.2.2 < (x1.1.length : Int)) then rec1 (put' x1.1 x1.2.2 x1.2.1, IntKind.wrap .i64 (x1.2.1 + 1), x1.2.2 + 1) else k1 (x1.1, x1.2.1, x1.2.2)
def m_laws_markInt64S (a : List Int) (k_ : Int) : Int × (List Int) :=
  LOOP (m_laws_markInt64S_b1 a k_) (fun (x1 : (List Int) × Int × Int) => (x1.2.1, x1.1)) (((a.length : Int) - 0 : Int).toNat + 1) (a, k_, 0)

/-! ### laws_markInt64SS -/
def m_laws_markInt64SS_b1 (a : List (List Int)) (k_ : Int) (rec1 : ((List (List Int)) × Int × Int) → (Int × (List (List Int)))) (k1 : ((List (List Int)) × Int × Int) → (Int × (List (List Int)))) (x1 : (List (List Int)) × Int × Int) : Int × (List (List Int)) :=
  bif decide (x1.2.2 < (x1.1.length : Int)) then rec1 (put' x1.1 x1.2.2 (m_laws_markInt64S (at' x1.1 x1.2.2) x1.2.1).2, (m_laws_markInt64S (at' x1.1 x1.2.2) x1.2.1).1, x1.2.2 + 1) else k1 (x1.1, x1.2.1, x1.2.2)
def m_laws_markInt64SS (a : List (List Int)) (k_ : Int) : Int × (List (List Int)) :=
  LOOP (m_laws_markInt64SS_b1 a k_) (fun (x1 : (List (List Int)) × Int × Int) => (x1.2.1, x1.1)) (((a.length : Int) - 0 : Int).toNat + 1) (a, k_, 0)

/-! ### laws_heldInt64S -/
def m_laws_heldInt64S_b1 (a : List Int) (k_ : Int) (rec1 : (Int × Int) → Int) (k1 : (Int × Int) → Int) (x1 : Int × Int) : Int :=
  bif decide (x1.2 < (a.length : Int)) then bif (at' a x1.2) != x1.1 then (-1) else rec1 (IntKind.wrap .i64 (x1.1 + 1), x1.2 + 1) else k1 (x1.1, x1.2)
def m_laws_heldInt64S (a : List Int) (k_ : Int) : Int :=
  LOOP (m_laws_heldInt64S_b1 a k_) (fun (x1 : Int × Int) => x1.1) (((a.length : Int) - 0 : Int).toNat + 1) (k_, 0)

/-! ### laws_heldInt64SS -/
def m_laws_heldInt64SS_b1 (a : List (List Int)) (k_ : Int) (rec1 : (Int × Int) → Int) (k1 : (Int × Int) → Int) (x1 : Int × Int) : Int :=
  bif decide (x1.2 < (a.length : Int)) then bif decide ((m_laws_heldInt64S (at' a x1.2) x1.1) < 0) then (-1) else rec1 (m_laws_heldInt64S (at' a x1.2) x1.1, x1.2 + 1) else k1 (x1.1, x1.2)
def m_laws_heldInt64SS (a : List (List Int)) (k_ : Int) : Int :=
  LOOP (m_laws_heldInt64SS_b1 a k_) (fun (x1 : Int × Int) => x1.1) (((a.length : Int) - 0 : Int).toNat + 1) (k_, 0)

/-! ### laws_FnExactPermitClashes -/
def m_laws_FnExactPermitClashes (aM : gMine) (aList : List gPermit) : Bool :=
  bif decide ((m_laws_szMine aM 1048576) < 0) then true else bif decide ((m_laws_szPermitS aList (m_laws_szMine aM 1048576)) < 0) then true else bif (!(m_laws_eqInt64SS (m_impl_PermitClashes (m_laws_toMine aM) (m_laws_toPermitS aList)).1 (m_spec_PermitClashes (m_laws_toMine aM) (m_laws_toPermitS aList)).1)) || ((m_impl_PermitClashes (m_laws_toMine aM) (m_laws_toPermitS aList)).2 != (m_spec_PermitClashes (m_laws_toMine aM) (m_laws_toPermitS aList)).2) then false else bif !(m_laws_eqMine (m_laws_toMine aM) (m_laws_toMine aM)) then false else bif !(m_laws_eqPermitS (m_laws_toPermitS aList) (m_laws_toPermitS aList)) then false else bif ((decide ((m_laws_markPermitS (m_laws_toPermitS aList) (m_laws_markMine (m_laws_toMine aM) 1).1).1 < 0)) || (!(m_laws_eqInt64SS (m_impl_PermitClashes (m_laws_toMine aM) (m_laws_toPermitS aList)).1 (m_spec_PermitClashes (m_laws_toMine aM) (m_laws_toPermitS aList)).1))) || ((m_impl_PermitClashes (m_laws_toMine aM) (m_laws_toPermitS aList)).2 != (m_spec_PermitClashes (m_laws_toMine aM) (m_laws_toPermitS aList)).2) then false else bif decide ((m_laws_heldInt64SS (m_laws_markInt64SS (m_impl_PermitClashes (m_laws_toMine aM) (m_laws_toPermitS aList)).1 1).2 1) < 0) then false else bif (m_laws_heldInt64SS (m_laws_markInt64SS (m_impl_PermitClashes (m_laws_toMine aM) (m_laws_toPermitS aList)).1 1).2 1) != (m_laws_markInt64SS (m_impl_PermitClashes (m_laws_toMine aM) (m_laws_toPermitS aList)).1 1).1 then false else bif (!(m_laws_eqInt64SS (m_impl_PermitClashes (m_laws_toMine aM) (m_laws_toPermitS aList)).1 (m_spec_PermitClashes (m_laws_toMine aM) (m_laws_toPermitS aList)).1)) || ((m_impl_PermitClashes (m_laws_toMine aM) (m_laws_toPermitS aList)).2 != (m_spec_PermitClashes (m_laws_toMine aM) (m_laws_toPermitS aList)).2) then false else bif decide ((m_laws_heldInt64SS (m_laws_markInt64SS (m_impl_PermitClashes (m_laws_toMine aM) (m_laws_toPermitS aList)).1 1).2 1) < 0) then false else bif (m_laws_heldInt64SS (m_laws_markInt64SS (m_impl_PermitClashes (m_laws_toMine aM) (m_laws_toPermitS aList)).1 1).2 1) != (m_laws_markInt64SS (m_impl_PermitClashes (m_laws_toMine aM) (m_laws_toPermitS aList)).1 1).1 then false else true

end Go.Proofs.Ytbflomopgofkgaa
