/-
  PLAIN MODELS of the Go functions that the law reaches, printed by a program of this claim. Conditions: none; nothing is claimed here.
-/
import Derived.Test.YtchjibndocnnhaaEngN
set_option linter.unusedVariables false
set_option linter.unusedSimpArgs false
set_option linter.unusedSectionVars false
set_option linter.unnecessarySimpa false
namespace Go.Proofs.Ytchjibndocnnhaa
open Go Go.RowKit Go.Proofs Go.Proofs.Ytchjibndocnnhaa.E
structure gAirway where
  Id : List UInt8
  From : Int
  To : Int
  Length : Int
  Section : Int
  Friction : Int
  Shock : Int
instance : Inhabited gAirway := ⟨gAirway.mk default default default default default default default⟩
abbrev gAirway.v (x : gAirway) : V := .st [.str x.Id, .int .i64 x.From, .int .i64 x.To, .int .i64 x.Length, .int .i64 x.Section, .int .i64 x.Friction, .int .i64 x.Shock]
structure gMine where
  Junctions : Int
  Airways : List gAirway
instance : Inhabited gMine := ⟨gMine.mk default default⟩
abbrev gMine.v (x : gMine) : V := .st [.int .i64 x.Junctions, .sl 7 (x.Airways.map gAirway.v)]
structure gPermit where
  Id : List UInt8
  Kind : Int
  Airway : Int
  From : Int
  Until : Int
instance : Inhabited gPermit := ⟨gPermit.mk default default default default default⟩
abbrev gPermit.v (x : gPermit) : V := .st [.str x.Id, .int .i64 x.Kind, .int .i64 x.Airway, .int .i64 x.From, .int .i64 x.Until]
structure gl26Search where
  m_ : gMine
  list : List gPermit
  set : List Int
  best : List Int
  most : Int
  nodes : Int
  budget : Int
  full : Bool
instance : Inhabited gl26Search := ⟨gl26Search.mk default default default default default default default default⟩
abbrev gl26Search.v (x : gl26Search) : V := .st [.rp [.int .i64 x.m_.Junctions, .sl 7 (x.m_.Airways.map gAirway.v)], .sl 5 (x.list.map gPermit.v), .sl 1 (x.set.map (V.int .i64)), .sl 1 (x.best.map (V.int .i64)), .int .i64 x.most, .int .i64 x.nodes, .int .i64 x.budget, .bool x.full]
structure gpermitSearch where
  mine : gMine
  list : List gPermit
  budget : Int
  some_ : List Int
  best : List Int
  most : Int
instance : Inhabited gpermitSearch := ⟨gpermitSearch.mk default default default default default default⟩
abbrev gpermitSearch.v (x : gpermitSearch) : V := .st [.int .i64 x.mine.Junctions, .sl 7 (x.mine.Airways.map gAirway.v), .sl 5 (x.list.map gPermit.v), .int .i64 x.budget, .sl 1 (x.some_.map (V.int .i64)), .sl 1 (x.best.map (V.int .i64)), .int .i64 x.most]

/-! ### laws_szAirway -/
def m_laws_szAirway (a : gAirway) (left : Int) : Int :=
  bif decide ((IntKind.wrap .i64 (left - (a.Id.length : Int))) < 0) then (-1) else IntKind.wrap .i64 (left - (a.Id.length : Int))

/-! ### laws_szAirwayS -/
def m_laws_szAirwayS_b1 (a : List gAirway) (left : Int) (rec1 : (Int × Int) → Int) (k1 : (Int × Int) → Int) (x1 : Int × Int) : Int :=
  bif decide (x1.2 < (a.length : Int)) then bif decide ((m_laws_szAirway (at' a x1.2) x1.1) < 0) then (-1) else rec1 (m_laws_szAirway (at' a x1.2) x1.1, x1.2 + 1) else k1 (x1.1, x1.2)
def m_laws_szAirwayS (a : List gAirway) (left : Int) : Int :=
  bif decide ((IntKind.wrap .i64 (left - (a.length : Int))) < 0) then (-1) else LOOP (m_laws_szAirwayS_b1 a left) (fun (x1 : Int × Int) => x1.1) (((a.length : Int) - 0 : Int).toNat + 1) (IntKind.wrap .i64 (left - (a.length : Int)), 0)

/-! ### laws_szMine -/
def m_laws_szMine (a : gMine) (left : Int) : Int :=
  bif decide ((m_laws_szAirwayS a.Airways left) < 0) then (-1) else m_laws_szAirwayS a.Airways left

/-! ### laws_toAirway -/
def m_laws_toAirway (a : gAirway) : gAirway :=
  a

/-! ### laws_toAirwayS -/
def m_laws_toAirwayS_b1 (a : List gAirway) (rec1 : ((List gAirway) × Int) → (List gAirway)) (k1 : ((List gAirway) × Int) → (List gAirway)) (x1 : (List gAirway) × Int) : (List gAirway) :=
  bif decide (x1.2 < (a.length : Int)) then rec1 (put' x1.1 x1.2 (m_laws_toAirway (at' a x1.2)), x1.2 + 1) else k1 (x1.1, x1.2)
def m_laws_toAirwayS (a : List gAirway) : (List gAirway) :=
  LOOP (m_laws_toAirwayS_b1 a) (fun (x1 : (List gAirway) × Int) => x1.1) (((a.length : Int) - 0 : Int).toNat + 1) (List.replicate ((a.length : Int) : Int).toNat (gAirway.mk ([] : List UInt8) 0 0 0 0 0 0 : gAirway), 0)

/-! ### laws_toMine -/
def m_laws_toMine (a : gMine) : gMine :=
  gMine.mk a.Junctions (m_laws_toAirwayS a.Airways)

/-! ### laws_eqInt64S -/
def m_laws_eqInt64S_b1 (a : List Int) (b : List Int) (rec1 : Int → Bool) (k1 : Int → Bool) (x1 : Int) : Bool :=
  bif decide (x1 < (a.length : Int)) then bif (at' a x1) != (at' b x1) then false else rec1 (x1 + 1) else k1 x1
def m_laws_eqInt64S (a : List Int) (b : List Int) : Bool :=
  bif (a.length : Int) != (b.length : Int) then false else LOOP (m_laws_eqInt64S_b1 a b) (fun (x1 : Int) => true) (((a.length : Int) - 0 : Int).toNat + 1) 0

/-! ### laws_eqAirway -/
def m_laws_eqAirway (a : gAirway) (b : gAirway) : Bool :=
  bif strB .neq a.Id b.Id then false else bif a.From != b.From then false else bif a.To != b.To then false else bif a.Length != b.Length then false else bif a.Section != b.Section then false else bif a.Friction != b.Friction then false else bif a.Shock != b.Shock then false else true

/-! ### laws_eqAirwayS -/
def m_laws_eqAirwayS_b1 (a : List gAirway) (b : List gAirway) (rec1 : Int → Bool) (k1 : Int → Bool) (x1 : Int) : Bool :=
  bif decide (x1 < (a.length : Int)) then bif !(m_laws_eqAirway (at' a x1) (at' b x1)) then false else rec1 (x1 + 1) else k1 x1
def m_laws_eqAirwayS (a : List gAirway) (b : List gAirway) : Bool :=
  bif (a.length : Int) != (b.length : Int) then false else LOOP (m_laws_eqAirwayS_b1 a b) (fun (x1 : Int) => true) (((a.length : Int) - 0 : Int).toNat + 1) 0

/-! ### laws_eqMine -/
def m_laws_eqMine (a : gMine) (b : gMine) : Bool :=
  bif a.Junctions != b.Junctions then false else bif !(m_laws_eqAirwayS a.Airways b.Airways) then false else true

/-! ### laws_markText -/
def m_laws_markText_b1 (k_ : Int) (rec1 : (Int × (List UInt8)) → (List UInt8)) (k1 : (Int × (List UInt8)) → (List UInt8)) (x1 : Int × (List UInt8)) : (List UInt8) :=
  bif decide (0 < x1.1) then rec1 (IntKind.wrap .i64 (Int.tdiv x1.1 10), (chars ([IntKind.wrap .u8 (IntKind.wrap .i64 (48 + (Int.tmod x1.1 10)))] : List Int)) ++ x1.2) else k1 (x1.1, x1.2)
def m_laws_markText (k_ : Int) : (List UInt8) :=
  bif decide (k_ ≤ 0) then ([109, 48] : List UInt8) else LOOP (m_laws_markText_b1 k_) (fun (x1 : Int × (List UInt8)) => ([109] : List UInt8) ++ x1.2) (k_.toNat + 1) (k_, ([] : List UInt8))

/-! ### laws_markAirwayS -/
def m_laws_markAirwayS_b1 (a : List gAirway) (k_ : Int) (rec1 : ((List gAirway) × Int × Int) → (Int × (List gAirway))) (k1 : ((List gAirway) × Int × Int) → (Int × (List gAirway))) (x1 : (List gAirway) × Int × Int) : Int × (List gAirway) :=
  bif decide (x1.2.2 < (x1.1.length : Int)) then rec1 (put' x1.1 x1.2.2 (gAirway.mk (m_laws_markText x1.2.1) (IntKind.wrap .i64 (x1.2.1 + 1)) (IntKind.wrap .i64 ((IntKind.wrap .i64 (x1.2.1 + 1)) + 1)) (IntKind.wrap .i64 ((IntKind.wrap .i64 ((IntKind.wrap .i64 (x1.2.1 + 1)) + 1)) + 1)) (IntKind.wrap .i64 ((IntKind.wrap .i64 ((IntKind.wrap .i64 ((IntKind.wrap .i64 (x1.2.1 + 1)) + 1)) + 1)) + 1)) (IntKind.wrap .i64 ((IntKind.wrap .i64 ((IntKind.wrap .i64 ((IntKind.wrap .i64 ((IntKind.wrap .i64 (x1.2.1 + 1)) + 1)) + 1)) + 1)) + 1)) (IntKind.wrap .i64 ((IntKind.wrap .i64 ((IntKind.wrap .i64 ((IntKind.wrap .i64 ((IntKind.wrap .i64 ((IntKind.wrap .i64 (x1.2.1 + 1)) + 1)) + 1)) + 1)) + 1)) + 1))), IntKind.wrap .i64 ((IntKind.wrap .i64 ((IntKind.wrap .i64 ((IntKind.wrap .i64 ((IntKind.wrap .i64 ((IntKind.wrap .i64 ((IntKind.wrap .i64 (x1.2.1 + 1)) + 1)) + 1)) + 1)) + 1)) + 1)) + 1), x1.2.2 + 1) else k1 (x1.1, x1.2.1, x1.2.2)
def m_laws_markAirwayS (a : List gAirway) (k_ : Int) : Int × (List gAirway) :=
  LOOP (m_laws_markAirwayS_b1 a k_) (fun (x1 : (List gAirway) × Int × Int) => (x1.2.1, x1.1)) (((a.length : Int) - 0 : Int).toNat + 1) (a, k_, 0)

/-! ### laws_markMine -/
def m_laws_markMine (a : gMine) (k_ : Int) : Int × (List gAirway) :=
  ((m_laws_markAirwayS a.Airways k_).1, (m_laws_markAirwayS a.Airways k_).2)

/-! ### laws_markInt64S -/
def m_laws_markInt64S_b1 (a : List Int) (k_ : Int) (rec1 : ((List Int) × Int × Int) → (Int × (List Int))) (k1 : ((List Int) × Int × Int) → (Int × (List Int))) (x1 : (List Int) × Int × Int) : Int × (List Int) :=
  bif decide (x1.2.2 < (x1.1.length : Int)) then rec1 (put' x1.1 x1.2.2 x1.2.1, IntKind.wrap .i64 (x1.2.1 + 1), x1.2.2 + 1) else k1 (x1.1, x1.2.1, x1.2.2)
def m_laws_markInt64S (a : List Int) (k_ : Int) : Int × (List Int) :=
  LOOP (m_laws_markInt64S_b1 a k_) (fun (x1 : (List Int) × Int × Int) => (x1.2.1, x1.1)) (((a.length : Int) - 0 : Int).toNat + 1) (a, k_, 0)

/-! ### laws_heldInt64S -/
def m_laws_heldInt64S_b1 (a : List Int) (k_ : Int) (rec1 : (Int × Int) → Int) (k1 : (Int × Int) → Int) (x1 : Int × Int) : Int :=
  bif decide (x1.2 < (a.length : Int)) then bif (at' a x1.2) != x1.1 then (-1) else rec1 (IntKind.wrap .i64 (x1.1 + 1), x1.2 + 1) else k1 (x1.1, x1.2)
def m_laws_heldInt64S (a : List Int) (k_ : Int) : Int :=
  LOOP (m_laws_heldInt64S_b1 a k_) (fun (x1 : Int × Int) => x1.1) (((a.length : Int) - 0 : Int).toNat + 1) (k_, 0)

/-! ### laws_szPermit -/
def m_laws_szPermit (a : gPermit) (left : Int) : Int :=
  bif decide ((IntKind.wrap .i64 (left - (a.Id.length : Int))) < 0) then (-1) else IntKind.wrap .i64 (left - (a.Id.length : Int))

/-! ### laws_szPermitS -/
def m_laws_szPermitS_b1 (a : List gPermit) (left : Int) (rec1 : (Int × Int) → Int) (k1 : (Int × Int) → Int) (x1 : Int × Int) : Int :=
  bif decide (x1.2 < (a.length : Int)) then bif decide ((m_laws_szPermit (at' a x1.2) x1.1) < 0) then (-1) else rec1 (m_laws_szPermit (at' a x1.2) x1.1, x1.2 + 1) else k1 (x1.1, x1.2)
def m_laws_szPermitS (a : List gPermit) (left : Int) : Int :=
  bif decide ((IntKind.wrap .i64 (left - (a.length : Int))) < 0) then (-1) else LOOP (m_laws_szPermitS_b1 a left) (fun (x1 : Int × Int) => x1.1) (((a.length : Int) - 0 : Int).toNat + 1) (IntKind.wrap .i64 (left - (a.length : Int)), 0)

/-! ### spec_l00In -/
def m_spec_l00In (n_ : Int) (low : Int) (high : Int) : Bool :=
  (decide (low ≤ n_)) && (decide (n_ ≤ high))

/-! ### spec_l01Small -/
def m_spec_l01Small (c_ : Int) : Bool :=
  (decide (97 ≤ c_)) && (decide (c_ ≤ 122))

/-! ### spec_l01Digit -/
def m_spec_l01Digit (c_ : Int) : Bool :=
  (decide (48 ≤ c_)) && (decide (c_ ≤ 57))

/-! ### spec_l01Name -/
def m_spec_l01Name_b1 (s_ : List UInt8) (rec1 : Int → Bool) (k1 : Int → Bool) (x1 : Int) : Bool :=
  bif decide (x1 < (s_.length : Int)) then bif (!(m_spec_l01Small (((s_.getD x1.toNat 0).toNat : Nat) : Int))) && (!(m_spec_l01Digit (((s_.getD x1.toNat 0).toNat : Nat) : Int))) then false else rec1 (x1 + 1) else k1 x1
def m_spec_l01Name (s_ : List UInt8) : Bool :=
  bif ((strB .eql s_ ([] : List UInt8)) || (decide (10 < (s_.length : Int)))) || (!(m_spec_l01Small (((s_.getD (0 : Int).toNat 0).toNat : Nat) : Int))) then false else LOOP (m_spec_l01Name_b1 s_) (fun (x1 : Int) => true) (((s_.length : Int) - 0 : Int).toNat + 1) 0

/-! ### spec_l03Ok -/
def m_spec_l03Ok (a : gAirway) : Bool :=
  bif (((!(m_spec_l01Name a.Id)) || (!(m_spec_l00In a.From 0 15))) || (!(m_spec_l00In a.To 0 15))) || (a.From == a.To) then false else (((m_spec_l00In a.Length 1 10000) && (m_spec_l00In a.Section 50 5000)) && (m_spec_l00In a.Friction 1 1000)) && (m_spec_l00In a.Shock 0 1000)

/-! ### spec_l04Junction -/
def m_spec_l04Junction (m_ : gMine) (j : Int) : Bool :=
  m_spec_l00In j 0 (IntKind.wrap .i64 (m_.Junctions - 1))

/-! ### spec_l04Ok -/
def m_spec_l04Ok_b1 (m_ : gMine) (rec1 : Int → Bool) (k1 : Int → Bool) (x1 : Int) : Bool :=
  bif decide (x1 < (m_.Airways.length : Int)) then bif (((!(m_spec_l03Ok (at' m_.Airways x1))) || (!(m_spec_l04Junction m_ (at' m_.Airways x1).From))) || (!(m_spec_l04Junction m_ (at' m_.Airways x1).To))) || ((decide (0 < x1)) && (strB .geq (at' m_.Airways (x1 - 1)).Id (at' m_.Airways x1).Id)) then false else rec1 (x1 + 1) else k1 x1
def m_spec_l04Ok (m_ : gMine) : Bool :=
  bif !(m_spec_l00In m_.Junctions 1 16) then false else LOOP (m_spec_l04Ok_b1 m_) (fun (x1 : Int) => decide ((m_.Airways.length : Int) ≤ 24)) (((m_.Airways.length : Int) - 0 : Int).toNat + 1) 0

/-! ### spec_l26Kind -/
def m_spec_l26Kind (kind : Int) : Bool :=
  m_spec_l00In kind 1 4

/-! ### spec_l14Airway -/
def m_spec_l14Airway (a : Int) : Bool :=
  m_spec_l00In a 0 23

/-! ### spec_l26One -/
def m_spec_l26One (x_ : gPermit) : Bool :=
  ((((m_spec_l01Name x_.Id) && (m_spec_l26Kind x_.Kind)) && (m_spec_l14Airway x_.Airway)) && (m_spec_l00In x_.From 0 99999)) && (m_spec_l00In x_.Until (IntKind.wrap .i64 (x_.From + 1)) 100000)

/-! ### spec_l26Ok -/
def m_spec_l26Ok_b1 (m_ : gMine) (list : List gPermit) (rec1 : Int → Bool) (k1 : Int → Bool) (x1 : Int) : Bool :=
  bif decide (x1 < (list.length : Int)) then bif ((!(m_spec_l26One (at' list x1))) || (decide ((m_.Airways.length : Int) ≤ (at' list x1).Airway))) || ((decide (0 < x1)) && (strB .geq (at' list (x1 - 1)).Id (at' list x1).Id)) then false else rec1 (x1 + 1) else k1 x1
def m_spec_l26Ok (m_ : gMine) (list : List gPermit) : Bool :=
  bif (!(m_spec_l04Ok m_)) || (decide (16 < (list.length : Int))) then false else LOOP (m_spec_l26Ok_b1 m_ list) (fun (x1 : Int) => true) (((list.length : Int) - 0 : Int).toNat + 1) 0

/-! ### spec_l00Own -/
def m_spec_l00Own (list : List Int) : (List Int) :=
  ([] : List Int) ++ list

/-! ### spec_l00Max -/
def m_spec_l00Max (a : Int) (b : Int) : Int :=
  bif decide (b < a) then a else b

/-! ### spec_l26Kinds -/
def m_spec_l26Kinds (a : Int) (b : Int) (same : Bool) : Bool :=
  bif b == 4 then true else bif b == 3 then (a != 1) || same else ((a == 2) && (b == 2)) && same

/-! ### spec_l00Min -/
def m_spec_l00Min (a : Int) (b : Int) : Int :=
  bif decide (a < b) then a else b

/-! ### spec_l26Clash -/
def m_spec_l26Clash (m_ : gMine) (x_ : gPermit) (y : gPermit) : Bool :=
  bif (decide (y.Until ≤ x_.From)) || (decide (x_.Until ≤ y.From)) then false else (((((at' m_.Airways x_.Airway).From == (at' m_.Airways y.Airway).From) || ((at' m_.Airways x_.Airway).From == (at' m_.Airways y.Airway).To)) || ((at' m_.Airways x_.Airway).To == (at' m_.Airways y.Airway).From)) || ((at' m_.Airways x_.Airway).To == (at' m_.Airways y.Airway).To)) && (m_spec_l26Kinds (m_spec_l00Min x_.Kind y.Kind) (m_spec_l00Max x_.Kind y.Kind) (x_.Airway == y.Airway))

/-! ### spec_l26Search_node -/
def m_spec_l26Search_node (x_ : gl26Search) (bound : Int) : Bool × gl26Search :=
  bif decide (bound ≤ x_.most) then (false, x_) else JN (fun j5 => bif x_.nodes == x_.budget then j5 true else j5 x_.full) (fun (v4 : Bool) => bif v4 then (false, gl26Search.mk x_.m_ x_.list x_.set x_.best x_.most x_.nodes x_.budget v4) else (true, gl26Search.mk x_.m_ x_.list x_.set x_.best x_.most (IntKind.wrap .i64 (x_.nodes + 1)) x_.budget v4))

/-! ### spec_l26Search_run -/
def m_spec_l26Search_run_b1 (self_ : gl26Search → Int → gl26Search) (x_ : gl26Search) (at_ : Int) (rec1 : (Bool × Int) → gl26Search) (k1 : (Bool × Int) → gl26Search) (x1 : Bool × Int) : gl26Search :=
  bif decide (x1.2 < (x_.set.length : Int)) then rec1 (x1.1 && (!(m_spec_l26Clash x_.m_ (at' x_.list (at' x_.set x1.2)) (at' x_.list at_))), x1.2 + 1) else k1 (x1.1, x1.2)
def m_spec_l26Search_run_body (self_ : gl26Search → Int → gl26Search) (x_ : gl26Search) (at_ : Int) : gl26Search :=
  bif at_ == (x_.list.length : Int) then bif decide (x_.most < (x_.set.length : Int)) then gl26Search.mk x_.m_ x_.list x_.set (m_spec_l00Own x_.set) (x_.set.length : Int) x_.nodes x_.budget x_.full else x_ else LOOP (m_spec_l26Search_run_b1 self_ x_ at_) (fun (x1 : Bool × Int) => JN (fun j11 => j11 (x1.1 && (m_spec_l26Search_node x_ (IntKind.wrap .i64 ((IntKind.wrap .i64 ((x_.set.length : Int) + (x_.list.length : Int))) - at_))).1, (bif x1.1 then (gl26Search.mk x_.m_ x_.list x_.set x_.best x_.most (m_spec_l26Search_node x_ (IntKind.wrap .i64 ((IntKind.wrap .i64 ((x_.set.length : Int) + (x_.list.length : Int))) - at_))).2.nodes x_.budget (m_spec_l26Search_node x_ (IntKind.wrap .i64 ((IntKind.wrap .i64 ((x_.set.length : Int) + (x_.list.length : Int))) - at_))).2.full) else x_).nodes, (bif x1.1 then (gl26Search.mk x_.m_ x_.list x_.set x_.best x_.most (m_spec_l26Search_node x_ (IntKind.wrap .i64 ((IntKind.wrap .i64 ((x_.set.length : Int) + (x_.list.length : Int))) - at_))).2.nodes x_.budget (m_spec_l26Search_node x_ (IntKind.wrap .i64 ((IntKind.wrap .i64 ((x_.set.length : Int) + (x_.list.length : Int))) - at_))).2.full) else x_).full)) (fun (v10 : Bool × Int × Bool) => JN (fun j14 => bif v10.1 then JN (fun j18 => j18 ((self_ (gl26Search.mk x_.m_ x_.list (x_.set ++ ([at_] : List Int)) x_.best x_.most v10.2.1 x_.budget v10.2.2) (IntKind.wrap .i64 (at_ + 1))).most, (self_ (gl26Search.mk x_.m_ x_.list (x_.set ++ ([at_] : List Int)) x_.best x_.most v10.2.1 x_.budget v10.2.2) (IntKind.wrap .i64 (at_ + 1))).nodes, (self_ (gl26Search.mk x_.m_ x_.list (x_.set ++ ([at_] : List Int)) x_.best x_.most v10.2.1 x_.budget v10.2.2) (IntKind.wrap .i64 (at_ + 1))).full, (self_ (gl26Search.mk x_.m_ x_.list (x_.set ++ ([at_] : List Int)) x_.best x_.most v10.2.1 x_.budget v10.2.2) (IntKind.wrap .i64 (at_ + 1))).set, (self_ (gl26Search.mk x_.m_ x_.list (x_.set ++ ([at_] : List Int)) x_.best x_.most v10.2.1 x_.budget v10.2.2) (IntKind.wrap .i64 (at_ + 1))).best)) (fun (v17 : Int × Int × Bool × (List Int) × (List Int)) => j14 (pre' v17.2.2.2.1 (IntKind.wrap .i64 ((v17.2.2.2.1.length : Int) - 1)), v17.2.2.2.2, v17.1, v17.2.1, v17.2.2.1)) else j14 (x_.set, x_.best, x_.most, v10.2.1, v10.2.2)) (fun (v13 : (List Int) × (List Int) × Int × Int × Bool) => JN (fun j23 => j23 ((m_spec_l26Search_node (gl26Search.mk x_.m_ x_.list v13.1 v13.2.1 v13.2.2.1 v13.2.2.2.1 x_.budget v13.2.2.2.2) (IntKind.wrap .i64 ((IntKind.wrap .i64 ((IntKind.wrap .i64 ((v13.1.length : Int) + (x_.list.length : Int))) - at_)) - 1))).1, (m_spec_l26Search_node (gl26Search.mk x_.m_ x_.list v13.1 v13.2.1 v13.2.2.1 v13.2.2.2.1 x_.budget v13.2.2.2.2) (IntKind.wrap .i64 ((IntKind.wrap .i64 ((IntKind.wrap .i64 ((v13.1.length : Int) + (x_.list.length : Int))) - at_)) - 1))).2.nodes, (m_spec_l26Search_node (gl26Search.mk x_.m_ x_.list v13.1 v13.2.1 v13.2.2.1 v13.2.2.2.1 x_.budget v13.2.2.2.2) (IntKind.wrap .i64 ((IntKind.wrap .i64 ((IntKind.wrap .i64 ((v13.1.length : Int) + (x_.list.length : Int))) - at_)) - 1))).2.full)) (fun (v22 : Bool × Int × Bool) => bif v22.1 then JN (fun j27 => j27 ((self_ (gl26Search.mk x_.m_ x_.list v13.1 v13.2.1 v13.2.2.1 v22.2.1 x_.budget v22.2.2) (IntKind.wrap .i64 (at_ + 1))).most, (self_ (gl26Search.mk x_.m_ x_.list v13.1 v13.2.1 v13.2.2.1 v22.2.1 x_.budget v22.2.2) (IntKind.wrap .i64 (at_ + 1))).nodes, (self_ (gl26Search.mk x_.m_ x_.list v13.1 v13.2.1 v13.2.2.1 v22.2.1 x_.budget v22.2.2) (IntKind.wrap .i64 (at_ + 1))).full, (self_ (gl26Search.mk x_.m_ x_.list v13.1 v13.2.1 v13.2.2.1 v22.2.1 x_.budget v22.2.2) (IntKind.wrap .i64 (at_ + 1))).set, (self_ (gl26Search.mk x_.m_ x_.list v13.1 v13.2.1 v13.2.2.1 v22.2.1 x_.budget v22.2.2) (IntKind.wrap .i64 (at_ + 1))).best)) (fun (v26 : Int × Int × Bool × (List Int) × (List Int)) => gl26Search.mk x_.m_ x_.list v26.2.2.2.1 v26.2.2.2.2 v26.1 v26.2.1 x_.budget v26.2.2.1) else gl26Search.mk x_.m_ x_.list v13.1 v13.2.1 v13.2.2.1 v22.2.1 x_.budget v22.2.2)))) (((x_.set.length : Int) - 0 : Int).toNat + 1) (true, 0)
def m_spec_l26Search_run_n : Nat → gl26Search → Int → gl26Search
  | 0 => fun _ _ => default
  | fuel + 1 => m_spec_l26Search_run_body (m_spec_l26Search_run_n fuel)
def m_spec_l26Search_run (x_ : gl26Search) (at_ : Int) : gl26Search := m_spec_l26Search_run_n (((x_.list.length : Int) - at_).toNat + 1) x_ at_

/-! ### spec_MostPermits -/
def m_spec_MostPermits (m_ : gMine) (list : List gPermit) (budget : Int) : (List Int) × Int :=
  bif !(m_spec_l26Ok m_ list) then (([] : List Int), 1) else bif !(m_spec_l00In budget 1 20000) then (([] : List Int), 2) else bif (m_spec_l26Search_run (gl26Search.mk m_ list ([] : List Int) ([] : List Int) (-1) 0 budget false) 0).full then (([] : List Int), 5) else ((m_spec_l26Search_run (gl26Search.mk m_ list ([] : List Int) ([] : List Int) (-1) 0 budget false) 0).best, 0)

/-! ### laws_toPermit -/
def m_laws_toPermit (a : gPermit) : gPermit :=
  a

/-! ### laws_toPermitS -/
def m_laws_toPermitS_b1 (a : List gPermit) (rec1 : ((List gPermit) × Int) → (List gPermit)) (k1 : ((List gPermit) × Int) → (List gPermit)) (x1 : (List gPermit) × Int) : (List gPermit) :=
  bif decide (x1.2 < (a.length : Int)) then rec1 (put' x1.1 x1.2 (m_laws_toPermit (at' a x1.2)), x1.2 + 1) else k1 (x1.1, x1.2)
def m_laws_toPermitS (a : List gPermit) : (List gPermit) :=
  LOOP (m_laws_toPermitS_b1 a) (fun (x1 : (List gPermit) × Int) => x1.1) (((a.length : Int) - 0 : Int).toNat + 1) (List.replicate ((a.length : Int) : Int).toNat (gPermit.mk ([] : List UInt8) 0 0 0 0 : gPermit), 0)

/-! ### impl_within -/
def m_impl_within (n_ : Int) (low : Int) (high : Int) : Bool :=
  (decide (low ≤ n_)) && (decide (n_ ≤ high))

/-! ### impl_budgetValid -/
def m_impl_budgetValid (budget : Int) : Bool :=
  m_impl_within budget 1 20000

/-! ### impl_onlyNameBytes -/
def m_impl_onlyNameBytes_b1 (s_ : List UInt8) (rec1 : Int → Bool) (k1 : Int → Bool) (x1 : Int) : Bool :=
  bif decide (x1 < (s_.length : Int)) then bif ((decide ((((s_.getD x1.toNat 0).toNat : Nat) : Int) < 97)) || (decide (122 < (((s_.getD x1.toNat 0).toNat : Nat) : Int)))) && ((decide ((((s_.getD x1.toNat 0).toNat : Nat) : Int) < 48)) || (decide (57 < (((s_.getD x1.toNat 0).toNat : Nat) : Int)))) then false else rec1 (x1 + 1) else k1 x1
def m_impl_onlyNameBytes (s_ : List UInt8) : Bool :=
  LOOP (m_impl_onlyNameBytes_b1 s_) (fun (x1 : Int) => true) (((s_.length : Int) - 0 : Int).toNat + 1) 0

/-! ### impl_IsName -/
def m_impl_IsName (s_ : List UInt8) : Bool :=
  bif (((decide ((s_.length : Int) < 1)) || (decide (10 < (s_.length : Int)))) || (decide ((((s_.getD (0 : Int).toNat 0).toNat : Nat) : Int) < 97))) || (decide (122 < (((s_.getD (0 : Int).toNat 0).toNat : Nat) : Int))) then false else m_impl_onlyNameBytes s_

/-! ### impl_junctionOk -/
def m_impl_junctionOk (n_ : Int) : Bool :=
  m_impl_within n_ 0 15

/-! ### impl_ValidAirway -/
def m_impl_ValidAirway (a : gAirway) : Bool :=
  (((((((m_impl_IsName a.Id) && (m_impl_junctionOk a.From)) && (m_impl_junctionOk a.To)) && (a.From != a.To)) && (m_impl_within a.Length 1 10000)) && (m_impl_within a.Section 50 5000)) && (m_impl_within a.Friction 1 1000)) && (m_impl_within a.Shock 0 1000)

/-! ### impl_Mine_hasJunction -/
def m_impl_Mine_hasJunction (m_ : gMine) (n_ : Int) : Bool :=
  m_impl_within n_ 0 (IntKind.wrap .i64 (m_.Junctions - 1))

/-! ### impl_Mine_hasEnds -/
def m_impl_Mine_hasEnds (m_ : gMine) (a : gAirway) : Bool :=
  (m_impl_Mine_hasJunction m_ a.From) && (m_impl_Mine_hasJunction m_ a.To)

/-! ### impl_ValidMine -/
def m_impl_ValidMine_b1 (m_ : gMine) (rec1 : Int → Bool) (k1 : Int → Bool) (x1 : Int) : Bool :=
  bif decide (x1 < (m_.Airways.length : Int)) then bif ((!(m_impl_ValidAirway (at' m_.Airways x1))) || (!(m_impl_Mine_hasEnds m_ (at' m_.Airways x1)))) || ((decide (0 < x1)) && (strB .leq (at' m_.Airways x1).Id (at' m_.Airways (x1 - 1)).Id)) then false else rec1 (x1 + 1) else k1 x1
def m_impl_ValidMine (m_ : gMine) : Bool :=
  bif (!(m_impl_within m_.Junctions 1 16)) || (decide (24 < (m_.Airways.length : Int))) then false else LOOP (m_impl_ValidMine_b1 m_) (fun (x1 : Int) => true) (((m_.Airways.length : Int) - 0 : Int).toNat + 1) 0

/-! ### impl_kindOk -/
def m_impl_kindOk (n_ : Int) : Bool :=
  m_impl_within n_ 1 4

/-! ### impl_Permit_valid -/
def m_impl_Permit_valid (x_ : gPermit) : Bool :=
  ((((m_impl_IsName x_.Id) && (m_impl_kindOk x_.Kind)) && (m_impl_within x_.Airway 0 23)) && (m_impl_within x_.Until 0 100000)) && (m_impl_within x_.From 0 (IntKind.wrap .i64 (x_.Until - 1)))

/-! ### impl_indexValid_impl_Airway -/
def m_impl_indexValid_impl_Airway (list : List gAirway) (k_ : Int) : Bool :=
  m_impl_within k_ 0 ((list.length : Int) - 1)

/-! ### impl_ValidPermits -/
def m_impl_ValidPermits_b1 (m_ : gMine) (list : List gPermit) (rec1 : Int → Bool) (k1 : Int → Bool) (x1 : Int) : Bool :=
  bif decide (x1 < (list.length : Int)) then bif ((!(m_impl_Permit_valid (at' list x1))) || (!(m_impl_indexValid_impl_Airway m_.Airways (at' list x1).Airway))) || ((decide (0 < x1)) && (strB .leq (at' list x1).Id (at' list (x1 - 1)).Id)) then false else rec1 (x1 + 1) else k1 x1
def m_impl_ValidPermits (m_ : gMine) (list : List gPermit) : Bool :=
  bif (!(m_impl_ValidMine m_)) || (decide (16 < (list.length : Int))) then false else LOOP (m_impl_ValidPermits_b1 m_ list) (fun (x1 : Int) => true) (((list.length : Int) - 0 : Int).toNat + 1) 0

/-! ### slices_Clone_int64 -/
def m_slices_Clone_int64 (s_ : List Int) : (List Int) :=
  ([] : List Int) ++ s_

/-! ### slices_IndexFunc_int64 -/
def m_slices_IndexFunc_int64_b1 (s_ : List Int) (f : (Int → Bool)) (rec1 : Int → Int) (k1 : Int → Int) (x1 : Int) : Int :=
  bif decide (x1 < (s_.length : Int)) then bif f (at' s_ x1) then x1 else rec1 (x1 + 1) else k1 x1
def m_slices_IndexFunc_int64 (s_ : List Int) (f : Int → Bool) : Int :=
  LOOP (m_slices_IndexFunc_int64_b1 s_ f) (fun (x1 : Int) => (-1)) (((s_.length : Int) - 0 : Int).toNat + 1) 0

/-! ### slices_ContainsFunc_int64 -/
def m_slices_ContainsFunc_int64 (s_ : List Int) (f : Int → Bool) : Bool :=
  decide (0 ≤ (m_slices_IndexFunc_int64 s_ f))

/-! ### impl_Airway_other -/
def m_impl_Airway_other (a : gAirway) (junction : Int) : Int × Bool :=
  bif junction == a.From then (a.To, true) else bif junction == a.To then (a.From, true) else (0, false)

/-! ### impl_KindsClash -/
def m_impl_KindsClash (a : Int) (b : Int) (same : Bool) : Bool :=
  bif (!(m_impl_kindOk a)) || (!(m_impl_kindOk b)) then false else bif (if a < b then b else a) == 4 then true else bif (if a < b then b else a) == 3 then ((if b < a then b else a) != 1) || same else bif (if b < a then b else a) == 2 then same else false

/-! ### impl_Mine_clash -/
def m_impl_Mine_clash (m_ : gMine) (x_ : gPermit) (y : gPermit) : Bool :=
  bif (decide (y.Until ≤ x_.From)) || (decide (x_.Until ≤ y.From)) then false else ((m_impl_Airway_other (at' m_.Airways y.Airway) (at' m_.Airways x_.Airway).From).2 || (m_impl_Airway_other (at' m_.Airways y.Airway) (at' m_.Airways x_.Airway).To).2) && (m_impl_KindsClash x_.Kind y.Kind (x_.Airway == y.Airway))

/-! ### impl_permitSearch_visit_1 -/
def m_impl_permitSearch_visit_1 (k_ : Int) (p1 : gpermitSearch) (p2 : Int) : Bool :=
  m_impl_Mine_clash p1.mine (at' p1.list k_) (at' p1.list p2)

/-! ### impl_permitSearch_visit -/
def m_impl_permitSearch_visit_body (self_ : gpermitSearch → Int → gpermitSearch) (s_ : gpermitSearch) (i : Int) : gpermitSearch :=
  bif i == (s_.list.length : Int) then gpermitSearch.mk s_.mine s_.list s_.budget s_.some_ (m_slices_Clone_int64 s_.some_) (s_.some_.length : Int) else JN (fun j6 => bif (!(m_slices_ContainsFunc_int64 s_.some_ (fun (a0 : Int) => m_impl_permitSearch_visit_1 a0 s_ i))) && (decide (s_.most < (IntKind.wrap .i64 ((s_.some_.length : Int) + (IntKind.wrap .i64 ((s_.list.length : Int) - i)))))) then bif decide ((IntKind.wrap .i64 (s_.budget - 1)) < 0) then gpermitSearch.mk s_.mine s_.list (IntKind.wrap .i64 (s_.budget - 1)) s_.some_ s_.best s_.most else JN (fun j11 => j11 (IntKind.wrap .i64 ((s_.list.length : Int) - i), (self_ (gpermitSearch.mk s_.mine s_.list (IntKind.wrap .i64 (s_.budget - 1)) (s_.some_ ++ ([i] : List Int)) s_.best s_.most) (IntKind.wrap .i64 (i + 1))).budget, (self_ (gpermitSearch.mk s_.mine s_.list (IntKind.wrap .i64 (s_.budget - 1)) (s_.some_ ++ ([i] : List Int)) s_.best s_.most) (IntKind.wrap .i64 (i + 1))).most, (self_ (gpermitSearch.mk s_.mine s_.list (IntKind.wrap .i64 (s_.budget - 1)) (s_.some_ ++ ([i] : List Int)) s_.best s_.most) (IntKind.wrap .i64 (i + 1))).some_, (self_ (gpermitSearch.mk s_.mine s_.list (IntKind.wrap .i64 (s_.budget - 1)) (s_.some_ ++ ([i] : List Int)) s_.best s_.most) (IntKind.wrap .i64 (i + 1))).best)) (fun (v10 : Int × Int × Int × (List Int) × (List Int)) => j6 (v10.2.1, pre' v10.2.2.2.1 (IntKind.wrap .i64 ((v10.2.2.2.1.length : Int) - 1)), v10.2.2.2.2, v10.2.2.1, v10.1)) else j6 (s_.budget, s_.some_, s_.best, s_.most, IntKind.wrap .i64 ((s_.list.length : Int) - i))) (fun (v5 : Int × (List Int) × (List Int) × Int × Int) => bif (decide (0 ≤ v5.1)) && (decide (v5.2.2.2.1 < (IntKind.wrap .i64 ((IntKind.wrap .i64 ((v5.2.1.length : Int) + v5.2.2.2.2)) - 1)))) then bif decide (0 ≤ (IntKind.wrap .i64 (v5.1 - 1))) then JN (fun j18 => j18 ((self_ (gpermitSearch.mk s_.mine s_.list (IntKind.wrap .i64 (v5.1 - 1)) v5.2.1 v5.2.2.1 v5.2.2.2.1) (IntKind.wrap .i64 (i + 1))).budget, (self_ (gpermitSearch.mk s_.mine s_.list (IntKind.wrap .i64 (v5.1 - 1)) v5.2.1 v5.2.2.1 v5.2.2.2.1) (IntKind.wrap .i64 (i + 1))).most, (self_ (gpermitSearch.mk s_.mine s_.list (IntKind.wrap .i64 (v5.1 - 1)) v5.2.1 v5.2.2.1 v5.2.2.2.1) (IntKind.wrap .i64 (i + 1))).some_, (self_ (gpermitSearch.mk s_.mine s_.list (IntKind.wrap .i64 (v5.1 - 1)) v5.2.1 v5.2.2.1 v5.2.2.2.1) (IntKind.wrap .i64 (i + 1))).best)) (fun (v17 : Int × Int × (List Int) × (List Int)) => gpermitSearch.mk s_.mine s_.list v17.1 v17.2.2.1 v17.2.2.2 v17.2.1) else gpermitSearch.mk s_.mine s_.list (IntKind.wrap .i64 (v5.1 - 1)) v5.2.1 v5.2.2.1 v5.2.2.2.1 else gpermitSearch.mk s_.mine s_.list v5.1 v5.2.1 v5.2.2.1 v5.2.2.2.1)
def m_impl_permitSearch_visit_n : Nat → gpermitSearch → Int → gpermitSearch
  | 0 => fun _ _ => default
  | fuel + 1 => m_impl_permitSearch_visit_body (m_impl_permitSearch_visit_n fuel)
def m_impl_permitSearch_visit (s_ : gpermitSearch) (i : Int) : gpermitSearch := m_impl_permitSearch_visit_n (((s_.list.length : Int) - i).toNat + 1) s_ i

/-! ### impl_MostPermits -/
def m_impl_MostPermits (m_ : gMine) (list : List gPermit) (budget : Int) : (List Int) × Int :=
  bif !(m_impl_ValidPermits m_ list) then (([] : List Int), 1) else bif !(m_impl_budgetValid budget) then (([] : List Int), 2) else bif decide ((m_impl_permitSearch_visit (gpermitSearch.mk m_ list budget ([] : List Int) ([] : List Int) (-1)) 0).budget < 0) then (([] : List Int), 5) else ((m_impl_permitSearch_visit (gpermitSearch.mk m_ list budget ([] : List Int) ([] : List Int) (-1)) 0).best, 0)

/-! ### laws_eqPermit -/
def m_laws_eqPermit (a : gPermit) (b : gPermit) : Bool :=
  bif strB .neq a.Id b.Id then false else bif a.Kind != b.Kind then false else bif a.Airway != b.Airway then false else bif a.From != b.From then false else bif a.Until != b.Until then false else true

/-! ### laws_eqPermitS -/
def m_laws_eqPermitS_b1 (a : List gPermit) (b : List gPermit) (rec1 : Int → Bool) (k1 : Int → Bool) (x1 : Int) : Bool :=
  bif decide (x1 < (a.length : Int)) then bif !(m_laws_eqPermit (at' a x1) (at' b x1)) then false else rec1 (x1 + 1) else k1 x1
def m_laws_eqPermitS (a : List gPermit) (b : List gPermit) : Bool :=
  bif (a.length : Int) != (b.length : Int) then false else LOOP (m_laws_eqPermitS_b1 a b) (fun (x1 : Int) => true) (((a.length : Int) - 0 : Int).toNat + 1) 0

/-! ### laws_markPermitS -/
def m_laws_markPermitS_b1 (a : List gPermit) (k_ : Int) (rec1 : ((List gPermit) × Int × Int) → (Int × (List gPermit))) (k1 : ((List gPermit) × Int × Int) → (Int × (List gPermit))) (x1 : (List gPermit) × Int × Int) : Int × (List gPermit) :=
  bif decide (x1.2.2 < (x1.1.length : Int)) then rec1 (put' x1.1 x1.2.2 (gPermit.mk (m_laws_markText x1.2.1) (IntKind.wrap .i64 (x1.2.1 + 1)) (IntKind.wrap .i64 ((IntKind.wrap .i64 (x1.2.1 + 1)) + 1)) (IntKind.wrap .i64 ((IntKind.wrap .i64 ((IntKind.wrap .i64 (x1.2.1 + 1)) + 1)) + 1)) (IntKind.wrap .i64 ((IntKind.wrap .i64 ((IntKind.wrap .i64 ((IntKind.wrap .i64 (x1.2.1 + 1)) + 1)) + 1)) + 1))), IntKind.wrap .i64 ((IntKind.wrap .i64 ((IntKind.wrap .i64 ((IntKind.wrap .i64 ((IntKind.wrap .i64 (x1.2.1 + 1)) + 1)) + 1)) + 1)) + 1), x1.2.2 + 1) else k1 (x1.1, x1.2.1, x1.2.2)
def m_laws_markPermitS (a : List gPermit) (k_ : Int) : Int × (List gPermit) :=
  LOOP (m_laws_markPermitS_b1 a k_) (fun (x1 : (List gPermit) × Int × Int) => (x1.2.1, x1.1)) (((a.length : Int) - 0 : Int).toNat + 1) (a, k_, 0)

/-! ### laws_FnExactMostPermits -/
def m_laws_FnExactMostPermits (aM : gMine) (aList : List gPermit) (aBudget : Int) : Bool :=
  bif decide ((m_laws_szMine aM 1048576) < 0) then true else bif decide ((m_laws_szPermitS aList (m_laws_szMine aM 1048576)) < 0) then true else bif (!(m_laws_eqInt64S (m_impl_MostPermits (m_laws_toMine aM) (m_laws_toPermitS aList) aBudget).1 (m_spec_MostPermits (m_laws_toMine aM) (m_laws_toPermitS aList) aBudget).1)) || ((m_impl_MostPermits (m_laws_toMine aM) (m_laws_toPermitS aList) aBudget).2 != (m_spec_MostPermits (m_laws_toMine aM) (m_laws_toPermitS aList) aBudget).2) then false else bif !(m_laws_eqMine (m_laws_toMine aM) (m_laws_toMine aM)) then false else bif !(m_laws_eqPermitS (m_laws_toPermitS aList) (m_laws_toPermitS aList)) then false else bif ((decide ((m_laws_markPermitS (m_laws_toPermitS aList) (m_laws_markMine (m_laws_toMine aM) 1).1).1 < 0)) || (!(m_laws_eqInt64S (m_impl_MostPermits (m_laws_toMine aM) (m_laws_toPermitS aList) aBudget).1 (m_spec_MostPermits (m_laws_toMine aM) (m_laws_toPermitS aList) aBudget).1))) || ((m_impl_MostPermits (m_laws_toMine aM) (m_laws_toPermitS aList) aBudget).2 != (m_spec_MostPermits (m_laws_toMine aM) (m_laws_toPermitS aList) aBudget).2) then false else bif decide ((m_laws_heldInt64S (m_laws_markInt64S (m_impl_MostPermits (m_laws_toMine aM) (m_laws_toPermitS aList) aBudget).1 1).2 1) < 0) then false else bif (m_laws_heldInt64S (m_laws_markInt64S (m_impl_MostPermits (m_laws_toMine aM) (m_laws_toPermitS aList) aBudget).1 1).2 1) != (m_laws_markInt64S (m_impl_MostPermits (m_laws_toMine aM) (m_laws_toPermitS aList) aBudget).1 1).1 then false else bif (!(m_laws_eqInt64S (m_impl_MostPermits (m_laws_toMine aM) (m_laws_toPermitS aList) aBudget).1 (m_spec_MostPermits (m_laws_toMine aM) (m_laws_toPermitS aList) aBudget).1)) || ((m_impl_MostPermits (m_laws_toMine aM) (m_laws_toPermitS aList) aBudget).2 != (m_spec_MostPermits (m_laws_toMine aM) (m_laws_toPermitS aList) aBudget).2) then false else bif decide ((m_laws_heldInt64S (m_laws_markInt64S (m_impl_MostPermits (m_laws_toMine aM) (m_laws_toPermitS aList) aBudget).1 1).2 1) < 0) then false else bif (m_laws_heldInt64S (m_laws_markInt64S (m_impl_MostPermits (m_laws_toMine aM) (m_laws_toPermitS aList) aBudget).1 1).2 1) != (m_laws_markInt64S (m_impl_MostPermits (m_laws_toMine aM) (m_laws_toPermitS aList) aBudget).1 1).1 then false else true

end Go.Proofs.Ytchjibndocnnhaa
