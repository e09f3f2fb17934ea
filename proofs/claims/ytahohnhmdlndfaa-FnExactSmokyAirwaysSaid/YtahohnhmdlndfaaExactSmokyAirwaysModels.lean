/-
  PLAIN MODELS of the Go functions that the law reaches, printed by a program of this claim. Conditions: none; nothing is claimed here.
-/
import Derived.Test.YtahohnhmdlndfaaEngN
set_option linter.unusedVariables false
set_option linter.unusedSimpArgs false
set_option linter.unusedSectionVars false
set_option linter.unnecessarySimpa false
namespace Go.Proofs.Ytahohnhmdlndfaa
open Go Go.RowKit Go.Proofs Go.Proofs.Ytahohnhmdlndfaa.E
structure gAirway where
  Id : List UInt8
  From : Int
  To : Int
  Length : Int
  Section : Int
  Friction : Int
  Shock : Int
instance : Inhabited gAirway := ⟨gAirway.mk default default default default default default default⟩
abbrev gAirway.v (x : gAirway) : V := .st [.str x.Id, .int .i64 x.From, .int .i64 x.To, .int .i64 x.Length, .int .i64 x.Section, .int .i64 x.Friction, .int .i64 x.Shock]
structure gMine where
  Junctions : Int
  Airways : List gAirway
instance : Inhabited gMine := ⟨gMine.mk default default⟩
abbrev gMine.v (x : gMine) : V := .st [.int .i64 x.Junctions, .sl 7 (x.Airways.map gAirway.v)]
structure gFire where
  Airway : Int
  At : Int
  Start : Int
instance : Inhabited gFire := ⟨gFire.mk default default default⟩
abbrev gFire.v (x : gFire) : V := .st [.int .i64 x.Airway, .int .i64 x.At, .int .i64 x.Start]

/-! ### laws_szAirway -/
def m_laws_szAirway (a : gAirway) (left : Int) : Int :=
  bif decide ((IntKind.wrap .i64 (left - (a.Id.length : Int))) < 0) then (-1) else IntKind.wrap .i64 (left - (a.Id.length : Int))

/-! ### laws_szAirwayS -/
def m_laws_szAirwayS_b1 (a : List gAirway) (left : Int) (rec1 : (Int × Int) → Int) (k1 : (Int × Int) → Int) (x1 : Int × Int) : Int :=
  bif decide (x1.2 < (a.length : Int)) then bif decide ((m_laws_szAirway (at' a x1.2) x1.1) < 0) then (-1) else rec1 (m_laws_szAirway (at' a x1.2) x1.1, x1.2 + 1) else k1 (x1.1, x1.2)
def m_laws_szAirwayS (a : List gAirway) (left : Int) : Int :=
  bif decide ((IntKind.wrap .i64 (left - (a.length : Int))) < 0) then (-1) else LOOP (m_laws_szAirwayS_b1 a left) (fun (x1 : Int × Int) => x1.1) (((a.length : Int) - 0 : Int).toNat + 1) (IntKind.wrap .i64 (left - (a.length : Int)), 0)

/-! ### laws_szMine -/
def m_laws_szMine (a : gMine) (left : Int) : Int :=
  bif decide ((m_laws_szAirwayS a.Airways left) < 0) then (-1) else m_laws_szAirwayS a.Airways left

/-! ### laws_toAirway -/
def m_laws_toAirway (a : gAirway) : gAirway :=
  a

/-! ### laws_toAirwayS -/
def m_laws_toAirwayS_b1 (a : List gAirway) (rec1 : ((List gAirway) × Int) → (List gAirway)) (k1 : ((List gAirway) × Int) → (List gAirway)) (x1 : (List gAirway) × Int) : (List gAirway) :=
  bif decide (x1.2 < (a.length : Int)) then rec1 (put' x1.1 x1.2 (m_laws_toAirway (at' a x1.2)), x1.2 + 1) else k1 (x1.1, x1.2)
def m_laws_toAirwayS (a : List gAirway) : (List gAirway) :=
  LOOP (m_laws_toAirwayS_b1 a) (fun (x1 : (List gAirway) × Int) => x1.1) (((a.length : Int) - 0 : Int).toNat + 1) (List.replicate ((a.length : Int) : Int).toNat (gAirway.mk ([] : List UInt8) 0 0 0 0 0 0 : gAirway), 0)

/-! ### laws_toMine -/
def m_laws_toMine (a : gMine) : gMine :=
  gMine.mk a.Junctions (m_laws_toAirwayS a.Airways)

/-! ### laws_toInt64S -/
def m_laws_toInt64S_b1 (a : List Int) (rec1 : ((List Int) × Int) → (List Int)) (k1 : ((List Int) × Int) → (List Int)) (x1 : (List Int) × Int) : (List Int) :=
  bif decide (x1.2 < (a.length : Int)) then rec1 (put' x1.1 x1.2 (at' a x1.2), x1.2 + 1) else k1 (x1.1, x1.2)
def m_laws_toInt64S (a : List Int) : (List Int) :=
  LOOP (m_laws_toInt64S_b1 a) (fun (x1 : (List Int) × Int) => x1.1) (((a.length : Int) - 0 : Int).toNat + 1) (List.replicate ((a.length : Int) : Int).toNat (0 : Int), 0)

/-! ### laws_eqInt64S -/
def m_laws_eqInt64S_b1 (a : List Int) (b : List Int) (rec1 : Int → Bool) (k1 : Int → Bool) (x1 : Int) : Bool :=
  bif decide (x1 < (a.length : Int)) then bif (at' a x1) != (at' b x1) then false else rec1 (x1 + 1) else k1 x1
def m_laws_eqInt64S (a : List Int) (b : List Int) : Bool :=
  bif (a.length : Int) != (b.length : Int) then false else LOOP (m_laws_eqInt64S_b1 a b) (fun (x1 : Int) => true) (((a.length : Int) - 0 : Int).toNat + 1) 0

/-! ### laws_eqAirway -/
def m_laws_eqAirway (a : gAirway) (b : gAirway) : Bool :=
  bif strB .neq a.Id b.Id then false else bif a.From != b.From then false else bif a.To != b.To then false else bif a.Length != b.Length then false else bif a.Section != b.Section then false else bif a.Friction != b.Friction then false else bif a.Shock != b.Shock then false else true

/-! ### laws_eqAirwayS -/
def m_laws_eqAirwayS_b1 (a : List gAirway) (b : List gAirway) (rec1 : Int → Bool) (k1 : Int → Bool) (x1 : Int) : Bool :=
  bif decide (x1 < (a.length : Int)) then bif !(m_laws_eqAirway (at' a x1) (at' b x1)) then false else rec1 (x1 + 1) else k1 x1
def m_laws_eqAirwayS (a : List gAirway) (b : List gAirway) : Bool :=
  bif (a.length : Int) != (b.length : Int) then false else LOOP (m_laws_eqAirwayS_b1 a b) (fun (x1 : Int) => true) (((a.length : Int) - 0 : Int).toNat + 1) 0

/-! ### laws_eqMine -/
def m_laws_eqMine (a : gMine) (b : gMine) : Bool :=
  bif a.Junctions != b.Junctions then false else bif !(m_laws_eqAirwayS a.Airways b.Airways) then false else true

/-! ### laws_markText -/
def m_laws_markText_b1 (k_ : Int) (rec1 : (Int × (List UInt8)) → (List UInt8)) (k1 : (Int × (List UInt8)) → (List UInt8)) (x1 : Int × (List UInt8)) : (List UInt8) :=
  bif decide (0 < x1.1) then rec1 (IntKind.wrap .i64 (Int.tdiv x1.1 10), (chars ([IntKind.wrap .u8 (IntKind.wrap .i64 (48 + (Int.tmod x1.1 10)))] : List Int)) ++ x1.2) else k1 (x1.1, x1.2)
def m_laws_markText (k_ : Int) : (List UInt8) :=
  bif decide (k_ ≤ 0) then ([109, 48] : List UInt8) else LOOP (m_laws_markText_b1 k_) (fun (x1 : Int × (List UInt8)) => ([109] : List UInt8) ++ x1.2) (k_.toNat + 1) (k_, ([] : List UInt8))

/-! ### laws_markAirwayS -/
def m_laws_markAirwayS_b1 (a : List gAirway) (k_ : Int) (rec1 : ((List gAirway) × Int × Int) → (Int × (List gAirway))) (k1 : ((List gAirway) × Int × Int) → (Int × (List gAirway))) (x1 : (List gAirway) × Int × Int) : Int × (List gAirway) :=
  bif decide (x1.2.2 < (x1.1.length : Int)) then rec1 (put' x1.1 x1.2.2 (gAirway.mk (m_laws_markText x1.2.1) (IntKind.wrap .i64 (x1.2.1 + 1)) (IntKind.wrap .i64 ((IntKind.wrap .i64 (x1.2.1 + 1)) + 1)) (IntKind.wrap .i64 ((IntKind.wrap .i64 ((IntKind.wrap .i64 (x1.2.1 + 1)) + 1)) + 1)) (IntKind.wrap .i64 ((IntKind.wrap .i64 ((IntKind.wrap .i64 ((IntKind.wrap .i64 (x1.2.1 + 1)) + 1)) + 1)) + 1)) (IntKind.wrap .i64 ((IntKind.wrap .i64 ((IntKind.wrap .i64 ((IntKind.wrap .i64 ((IntKind.wrap .i64 (x1.2.1 + 1)) + 1)) + 1)) + 1)) + 1)) (IntKind.wrap .i64 ((IntKind.wrap .i64 ((IntKind.wrap .i64 ((IntKind.wrap .i64 ((IntKind.wrap .i64 ((IntKind.wrap .i64 (x1.2.1 + 1)) + 1)) + 1)) + 1)) + 1)) + 1))), IntKind.wrap .i64 ((IntKind.wrap .i64 ((IntKind.wrap .i64 ((IntKind.wrap .i64 ((IntKind.wrap .i64 ((IntKind.wrap .i64 ((IntKind.wrap .i64 (x1.2.1 + 1)) + 1)) + 1)) + 1)) + 1)) + 1)) + 1), x1.2.2 + 1) else k1 (x1.1, x1.2.1, x1.2.2)
def m_laws_markAirwayS (a : List gAirway) (k_ : Int) : Int × (List gAirway) :=
  LOOP (m_laws_markAirwayS_b1 a k_) (fun (x1 : (List gAirway) × Int × Int) => (x1.2.1, x1.1)) (((a.length : Int) - 0 : Int).toNat + 1) (a, k_, 0)

/-! ### laws_markMine -/
def m_laws_markMine (a : gMine) (k_ : Int) : Int × (List gAirway) :=
  ((m_laws_markAirwayS a.Airways k_).1, (m_laws_markAirwayS a.Airways k_).2)

/-! ### laws_markInt64S -/
def m_laws_markInt64S_b1 (a : List Int) (k_ : Int) (rec1 : ((List Int) × Int × Int) → (Int × (List Int))) (k1 : ((List Int) × Int × Int) → (Int × (List Int))) (x1 : (List Int) × Int × Int) : Int × (List Int) :=
  bif decide (x1.2.2 < (x1.1.length : Int)) then rec1 (put' x1.1 x1.2.2 x1.2.1, IntKind.wrap .i64 (x1.2.1 + 1), x1.2.2 + 1) else k1 (x1.1, x1.2.1, x1.2.2)
def m_laws_markInt64S (a : List Int) (k_ : Int) : Int × (List Int) :=
  LOOP (m_laws_markInt64S_b1 a k_) (fun (x1 : (List Int) × Int × Int) => (x1.2.1, x1.1)) (((a.length : Int) - 0 : Int).toNat + 1) (a, k_, 0)

/-! ### laws_heldInt64S -/
def m_laws_heldInt64S_b1 (a : List Int) (k_ : Int) (rec1 : (Int × Int) → Int) (k1 : (Int × Int) → Int) (x1 : Int × Int) : Int :=
  bif decide (x1.2 < (a.length : Int)) then bif (at' a x1.2) != x1.1 then (-1) else rec1 (IntKind.wrap .i64 (x1.1 + 1), x1.2 + 1) else k1 (x1.1, x1.2)
def m_laws_heldInt64S (a : List Int) (k_ : Int) : Int :=
  LOOP (m_laws_heldInt64S_b1 a k_) (fun (x1 : Int × Int) => x1.1) (((a.length : Int) - 0 : Int).toNat + 1) (k_, 0)

/-! ### laws_toFire -/
def m_laws_toFire (a : gFire) : gFire :=
  a

/-! ### spec_l13Start -/
def m_spec_l13Start (a : gAirway) (flow : Int) : Int :=
  bif decide (0 < flow) then a.From else a.To

/-! ### spec_l00Max -/
def m_spec_l00Max (a : Int) (b : Int) : Int :=
  bif decide (b < a) then a else b

/-! ### spec_l03Abs -/
def m_spec_l03Abs (n_ : Int) : Int :=
  m_spec_l00Max n_ (IntKind.wrap .i64 (0 - n_))

/-! ### spec_l17Leave -/
def m_spec_l17Leave (m_ : gMine) (flows : List Int) (f : gFire) : Int :=
  JN (fun j4 => bif decide (0 < (at' flows f.Airway)) then j4 (IntKind.wrap .i64 ((at' m_.Airways f.Airway).Length - f.At)) else j4 f.At) (fun (v3 : Int) => IntKind.wrap .i64 (f.Start + (IntKind.wrap .i64 (Int.tdiv (IntKind.wrap .i64 ((IntKind.wrap .i64 ((IntKind.wrap .i64 (v3 * (at' m_.Airways f.Airway).Section)) + (m_spec_l03Abs (at' flows f.Airway)))) - 1)) (m_spec_l03Abs (at' flows f.Airway))))))

/-! ### spec_l03Time -/
def m_spec_l03Time (a : gAirway) (flow : Int) : Int :=
  IntKind.wrap .i64 (Int.tdiv (IntKind.wrap .i64 ((IntKind.wrap .i64 ((IntKind.wrap .i64 (a.Length * a.Section)) + (m_spec_l03Abs flow))) - 1)) (m_spec_l03Abs flow))

/-! ### spec_l17Arrival -/
def m_spec_l17Arrival_b3 (m_ : gMine) (flows : List Int) (f : gFire) (x1 : (List Int) × Int) (rec2 : ((List Int) × Int) → (List Int)) (k2 : ((List Int) × Int) → (List Int)) (x2 : (List Int) × Int) (rec3 : (Int × (List Int)) → (List Int)) (k3 : (Int × (List Int)) → (List Int)) (x3 : Int × (List Int)) : (List Int) :=
  bif decide (x3.1 < (flows.length : Int)) then bif (at' flows x3.1) == 0 then rec3 (x3.1 + 1, x3.2) else bif decide ((at' x3.2 (m_spec_l13Start (at' m_.Airways x3.1) (at' flows x3.1))) < 0) then rec3 (x3.1 + 1, x3.2) else bif (decide ((at' x3.2 (m_spec_l13Start (at' m_.Airways x3.1) (IntKind.wrap .i64 (0 - (at' flows x3.1))))) < 0)) || (decide ((IntKind.wrap .i64 ((at' x3.2 (m_spec_l13Start (at' m_.Airways x3.1) (at' flows x3.1))) + (m_spec_l03Time (at' m_.Airways x3.1) (at' flows x3.1)))) < (at' x3.2 (m_spec_l13Start (at' m_.Airways x3.1) (IntKind.wrap .i64 (0 - (at' flows x3.1))))))) then rec3 (x3.1 + 1, put' x3.2 (m_spec_l13Start (at' m_.Airways x3.1) (IntKind.wrap .i64 (0 - (at' flows x3.1)))) (IntKind.wrap .i64 ((at' x3.2 (m_spec_l13Start (at' m_.Airways x3.1) (at' flows x3.1))) + (m_spec_l03Time (at' m_.Airways x3.1) (at' flows x3.1))))) else rec3 (x3.1 + 1, x3.2) else k3 (x3.1, x3.2)
def m_spec_l17Arrival_b2 (m_ : gMine) (flows : List Int) (f : gFire) (x1 : (List Int) × Int) (rec2 : ((List Int) × Int) → (List Int)) (k2 : ((List Int) × Int) → (List Int)) (x2 : (List Int) × Int) : (List Int) :=
  bif decide (x2.2 < m_.Junctions) then LOOP (m_spec_l17Arrival_b3 m_ flows f x1 rec2 k2 x2) (fun (x3 : Int × (List Int)) => rec2 (x3.2, x2.2 + 1)) (((flows.length : Int) - 0 : Int).toNat + 1) (0, x2.1) else k2 (x2.1, x2.2)
def m_spec_l17Arrival_b1 (m_ : gMine) (flows : List Int) (f : gFire) (rec1 : ((List Int) × Int) → (List Int)) (k1 : ((List Int) × Int) → (List Int)) (x1 : (List Int) × Int) : (List Int) :=
  bif decide (x1.2 < m_.Junctions) then rec1 (x1.1 ++ ([(-1)] : List Int), x1.2 + 1) else k1 (x1.1, x1.2)
def m_spec_l17Arrival (m_ : gMine) (flows : List Int) (f : gFire) : (List Int) :=
  LOOP (m_spec_l17Arrival_b1 m_ flows f) (fun (x1 : (List Int) × Int) => bif (at' flows f.Airway) == 0 then x1.1 else LOOP (m_spec_l17Arrival_b2 m_ flows f x1) (fun (x2 : (List Int) × Int) => x2.1) ((m_.Junctions - 0 : Int).toNat + 1) (put' x1.1 (m_spec_l13Start (at' m_.Airways f.Airway) (IntKind.wrap .i64 (0 - (at' flows f.Airway)))) (m_spec_l17Leave m_ flows f), 0)) ((m_.Junctions - 0 : Int).toNat + 1) (([] : List Int), 0)

/-! ### spec_l00In -/
def m_spec_l00In (n_ : Int) (low : Int) (high : Int) : Bool :=
  (decide (low ≤ n_)) && (decide (n_ ≤ high))

/-! ### spec_l01Small -/
def m_spec_l01Small (c_ : Int) : Bool :=
  (decide (97 ≤ c_)) && (decide (c_ ≤ 122))

/-! ### spec_l01Digit -/
def m_spec_l01Digit (c_ : Int) : Bool :=
  (decide (48 ≤ c_)) && (decide (c_ ≤ 57))

/-! ### spec_l01Name -/
def m_spec_l01Name_b1 (s_ : List UInt8) (rec1 : Int → Bool) (k1 : Int → Bool) (x1 : Int) : Bool :=
  bif decide (x1 < (s_.length : Int)) then bif (!(m_spec_l01Small (((s_.getD x1.toNat 0).toNat : Nat) : Int))) && (!(m_spec_l01Digit (((s_.getD x1.toNat 0).toNat : Nat) : Int))) then false else rec1 (x1 + 1) else k1 x1
def m_spec_l01Name (s_ : List UInt8) : Bool :=
  bif ((strB .eql s_ ([] : List UInt8)) || (decide (10 < (s_.length : Int)))) || (!(m_spec_l01Small (((s_.getD (0 : Int).toNat 0).toNat : Nat) : Int))) then false else LOOP (m_spec_l01Name_b1 s_) (fun (x1 : Int) => true) (((s_.length : Int) - 0 : Int).toNat + 1) 0

/-! ### spec_l03Ok -/
def m_spec_l03Ok (a : gAirway) : Bool :=
  bif (((!(m_spec_l01Name a.Id)) || (!(m_spec_l00In a.From 0 15))) || (!(m_spec_l00In a.To 0 15))) || (a.From == a.To) then false else (((m_spec_l00In a.Length 1 10000) && (m_spec_l00In a.Section 50 5000)) && (m_spec_l00In a.Friction 1 1000)) && (m_spec_l00In a.Shock 0 1000)

/-! ### spec_l04Junction -/
def m_spec_l04Junction (m_ : gMine) (j : Int) : Bool :=
  m_spec_l00In j 0 (IntKind.wrap .i64 (m_.Junctions - 1))

/-! ### spec_l04Ok -/
def m_spec_l04Ok_b1 (m_ : gMine) (rec1 : Int → Bool) (k1 : Int → Bool) (x1 : Int) : Bool :=
  bif decide (x1 < (m_.Airways.length : Int)) then bif (((!(m_spec_l03Ok (at' m_.Airways x1))) || (!(m_spec_l04Junction m_ (at' m_.Airways x1).From))) || (!(m_spec_l04Junction m_ (at' m_.Airways x1).To))) || ((decide (0 < x1)) && (strB .geq (at' m_.Airways (x1 - 1)).Id (at' m_.Airways x1).Id)) then false else rec1 (x1 + 1) else k1 x1
def m_spec_l04Ok (m_ : gMine) : Bool :=
  bif !(m_spec_l00In m_.Junctions 1 16) then false else LOOP (m_spec_l04Ok_b1 m_) (fun (x1 : Int) => decide ((m_.Airways.length : Int) ≤ 24)) (((m_.Airways.length : Int) - 0 : Int).toNat + 1) 0

/-! ### spec_l17One -/
def m_spec_l17One (f : gFire) : Bool :=
  ((m_spec_l00In f.Airway 0 23) && (m_spec_l00In f.At 0 10000)) && (m_spec_l00In f.Start 0 36000)

/-! ### spec_l17Fire -/
def m_spec_l17Fire (m_ : gMine) (f : gFire) : Bool :=
  ((m_spec_l17One f) && (decide (f.Airway < (m_.Airways.length : Int)))) && (decide (f.At ≤ (at' m_.Airways f.Airway).Length))

/-! ### spec_l03Flow -/
def m_spec_l03Flow (q : Int) : Bool :=
  m_spec_l00In q (-100000) 100000

/-! ### spec_l07Flows -/
def m_spec_l07Flows_b1 (m_ : gMine) (flows : List Int) (rec1 : Int → Bool) (k1 : Int → Bool) (x1 : Int) : Bool :=
  bif decide (x1 < (flows.length : Int)) then bif !(m_spec_l03Flow (at' flows x1)) then false else rec1 (x1 + 1) else k1 x1
def m_spec_l07Flows (m_ : gMine) (flows : List Int) : Bool :=
  LOOP (m_spec_l07Flows_b1 m_ flows) (fun (x1 : Int) => (flows.length : Int) == (m_.Airways.length : Int)) (((flows.length : Int) - 0 : Int).toNat + 1) 0

/-! ### spec_l17Ask -/
def m_spec_l17Ask (m_ : gMine) (flows : List Int) (f : gFire) : Int :=
  bif (!(m_spec_l04Ok m_)) || (!(m_spec_l17Fire m_ f)) then 1 else bif !(m_spec_l07Flows m_ flows) then 7 else 0

/-! ### spec_l17Time -/
def m_spec_l17Time (t : Int) : Bool :=
  m_spec_l00In t 0 36000

/-! ### spec_l17More -/
def m_spec_l17More (m_ : gMine) (flows : List Int) (f : gFire) (time : Int) : Int :=
  bif (m_spec_l17Ask m_ flows f) == 1 then m_spec_l17Ask m_ flows f else bif !(m_spec_l17Time time) then 2 else m_spec_l17Ask m_ flows f

/-! ### spec_l00Min -/
def m_spec_l00Min (a : Int) (b : Int) : Int :=
  bif decide (a < b) then a else b

/-! ### spec_l17Front -/
def m_spec_l17Front (m_ : gMine) (flows : List Int) (arrival : List Int) (airway : Int) (time : Int) : Int :=
  bif (m_spec_l03Abs (at' flows airway)) == 0 then 0 else bif (decide ((at' arrival (m_spec_l13Start (at' m_.Airways airway) (at' flows airway))) < 0)) || (decide (time ≤ (at' arrival (m_spec_l13Start (at' m_.Airways airway) (at' flows airway))))) then 0 else m_spec_l00Min (at' m_.Airways airway).Length (IntKind.wrap .i64 (Int.tdiv (IntKind.wrap .i64 ((IntKind.wrap .i64 (time - (at' arrival (m_spec_l13Start (at' m_.Airways airway) (at' flows airway))))) * (m_spec_l03Abs (at' flows airway)))) (at' m_.Airways airway).Section))

/-! ### spec_SmokyAirways -/
def m_spec_SmokyAirways_b1 (m_ : gMine) (flows : List Int) (f : gFire) (time : Int) (rec1 : ((List Int) × Int) → ((List Int) × Int)) (k1 : ((List Int) × Int) → ((List Int) × Int)) (x1 : (List Int) × Int) : (List Int) × Int :=
  bif decide (x1.2 < (flows.length : Int)) then bif ((x1.2 == f.Airway) && (decide (f.Start ≤ time))) || (decide (0 < (m_spec_l17Front m_ flows (m_spec_l17Arrival m_ flows f) x1.2 time))) then rec1 (x1.1 ++ ([x1.2] : List Int), x1.2 + 1) else rec1 (x1.1, x1.2 + 1) else k1 (x1.1, x1.2)
def m_spec_SmokyAirways (m_ : gMine) (flows : List Int) (f : gFire) (time : Int) : (List Int) × Int :=
  bif (m_spec_l17More m_ flows f time) != 0 then (([] : List Int), m_spec_l17More m_ flows f time) else LOOP (m_spec_SmokyAirways_b1 m_ flows f time) (fun (x1 : (List Int) × Int) => (x1.1, 0)) (((flows.length : Int) - 0 : Int).toNat + 1) (([] : List Int), 0)

/-! ### impl_within -/
def m_impl_within (n_ : Int) (low : Int) (high : Int) : Bool :=
  (decide (low ≤ n_)) && (decide (n_ ≤ high))

/-! ### slices_IndexFunc_int64 -/
def m_slices_IndexFunc_int64_b1 (s_ : List Int) (f : (Int → Bool)) (rec1 : Int → Int) (k1 : Int → Int) (x1 : Int) : Int :=
  bif decide (x1 < (s_.length : Int)) then bif f (at' s_ x1) then x1 else rec1 (x1 + 1) else k1 x1
def m_slices_IndexFunc_int64 (s_ : List Int) (f : Int → Bool) : Int :=
  LOOP (m_slices_IndexFunc_int64_b1 s_ f) (fun (x1 : Int) => (-1)) (((s_.length : Int) - 0 : Int).toNat + 1) 0

/-! ### slices_ContainsFunc_int64 -/
def m_slices_ContainsFunc_int64 (s_ : List Int) (f : Int → Bool) : Bool :=
  decide (0 ≤ (m_slices_IndexFunc_int64 s_ f))

/-! ### impl_allWithin_1 -/
def m_impl_allWithin_1 (n_ : Int) (p1 : Int) (p2 : Int) : Bool :=
  !(m_impl_within n_ p1 p2)

/-! ### impl_allWithin -/
def m_impl_allWithin (list : List Int) (low : Int) (high : Int) : Bool :=
  !(m_slices_ContainsFunc_int64 list (fun (a0 : Int) => m_impl_allWithin_1 a0 low high))

/-! ### impl_Mine_hasList -/
def m_impl_Mine_hasList (m_ : gMine) (list : List Int) (low : Int) (high : Int) : Bool :=
  ((list.length : Int) == (m_.Airways.length : Int)) && (m_impl_allWithin list low high)

/-! ### impl_Mine_hasFlows -/
def m_impl_Mine_hasFlows (m_ : gMine) (flows : List Int) : Bool :=
  m_impl_Mine_hasList m_ flows (-100000) 100000

/-! ### impl_indexValid_impl_Airway -/
def m_impl_indexValid_impl_Airway (list : List gAirway) (k_ : Int) : Bool :=
  m_impl_within k_ 0 ((list.length : Int) - 1)

/-! ### impl_onlyNameBytes -/
def m_impl_onlyNameBytes_b1 (s_ : List UInt8) (rec1 : Int → Bool) (k1 : Int → Bool) (x1 : Int) : Bool :=
  bif decide (x1 < (s_.length : Int)) then bif ((decide ((((s_.getD x1.toNat 0).toNat : Nat) : Int) < 97)) || (decide (122 < (((s_.getD x1.toNat 0).toNat : Nat) : Int)))) && ((decide ((((s_.getD x1.toNat 0).toNat : Nat) : Int) < 48)) || (decide (57 < (((s_.getD x1.toNat 0).toNat : Nat) : Int)))) then false else rec1 (x1 + 1) else k1 x1
def m_impl_onlyNameBytes (s_ : List UInt8) : Bool :=
  LOOP (m_impl_onlyNameBytes_b1 s_) (fun (x1 : Int) => true) (((s_.length : Int) - 0 : Int).toNat + 1) 0

/-! ### impl_IsName -/
def m_impl_IsName (s_ : List UInt8) : Bool :=
  bif (((decide ((s_.length : Int) < 1)) || (decide (10 < (s_.length : Int)))) || (decide ((((s_.getD (0 : Int).toNat 0).toNat : Nat) : Int) < 97))) || (decide (122 < (((s_.getD (0 : Int).toNat 0).toNat : Nat) : Int))) then false else m_impl_onlyNameBytes s_

/-! ### impl_junctionOk -/
def m_impl_junctionOk (n_ : Int) : Bool :=
  m_impl_within n_ 0 15

/-! ### impl_ValidAirway -/
def m_impl_ValidAirway (a : gAirway) : Bool :=
  (((((((m_impl_IsName a.Id) && (m_impl_junctionOk a.From)) && (m_impl_junctionOk a.To)) && (a.From != a.To)) && (m_impl_within a.Length 1 10000)) && (m_impl_within a.Section 50 5000)) && (m_impl_within a.Friction 1 1000)) && (m_impl_within a.Shock 0 1000)

/-! ### impl_Mine_hasJunction -/
def m_impl_Mine_hasJunction (m_ : gMine) (n_ : Int) : Bool :=
  m_impl_within n_ 0 (IntKind.wrap .i64 (m_.Junctions - 1))

/-! ### impl_Mine_hasEnds -/
def m_impl_Mine_hasEnds (m_ : gMine) (a : gAirway) : Bool :=
  (m_impl_Mine_hasJunction m_ a.From) && (m_impl_Mine_hasJunction m_ a.To)

/-! ### impl_ValidMine -/
def m_impl_ValidMine_b1 (m_ : gMine) (rec1 : Int → Bool) (k1 : Int → Bool) (x1 : Int) : Bool :=
  bif decide (x1 < (m_.Airways.length : Int)) then bif ((!(m_impl_ValidAirway (at' m_.Airways x1))) || (!(m_impl_Mine_hasEnds m_ (at' m_.Airways x1)))) || ((decide (0 < x1)) && (strB .leq (at' m_.Airways x1).Id (at' m_.Airways (x1 - 1)).Id)) then false else rec1 (x1 + 1) else k1 x1
def m_impl_ValidMine (m_ : gMine) : Bool :=
  bif (!(m_impl_within m_.Junctions 1 16)) || (decide (24 < (m_.Airways.length : Int))) then false else LOOP (m_impl_ValidMine_b1 m_) (fun (x1 : Int) => true) (((m_.Airways.length : Int) - 0 : Int).toNat + 1) 0

/-! ### impl_Fire_valid -/
def m_impl_Fire_valid (f : gFire) : Bool :=
  ((m_impl_within f.Airway 0 23) && (m_impl_within f.At 0 10000)) && (m_impl_within f.Start 0 36000)

/-! ### impl_ValidFire -/
def m_impl_ValidFire (m_ : gMine) (f : gFire) : Bool :=
  (((m_impl_ValidMine m_) && (m_impl_Fire_valid f)) && (m_impl_indexValid_impl_Airway m_.Airways f.Airway)) && (decide (f.At ≤ (at' m_.Airways f.Airway).Length))

/-! ### impl_fireCode -/
def m_impl_fireCode (m_ : gMine) (flows : List Int) (f : gFire) (time : Int) : Int :=
  bif !(m_impl_ValidFire m_ f) then 1 else bif !(m_impl_within time 0 36000) then 2 else bif !(m_impl_Mine_hasFlows m_ flows) then 7 else 0

/-! ### impl_abs -/
def m_impl_abs (n_ : Int) : Int :=
  if n_ < (IntKind.wrap .i64 (0 - n_)) then (IntKind.wrap .i64 (0 - n_)) else n_

/-! ### impl_Airway_ways -/
def m_impl_Airway_ways (a : gAirway) (flow : Int) : Int × Int :=
  bif decide (flow < 0) then (a.To, a.From) else (a.From, a.To)

/-! ### math_bits_Mul32 -/
def m_math_bits_Mul32 (x_ : Int) (y : Int) : Int × Int :=
  (IntKind.wrap .u32 (Int.fdiv (IntKind.wrap .u64 ((IntKind.wrap .u64 x_) * (IntKind.wrap .u64 y))) (2 ^ min (32 : Int).toNat 64)), IntKind.wrap .u32 (IntKind.wrap .u64 ((IntKind.wrap .u64 x_) * (IntKind.wrap .u64 y))))

/-! ### math_bits_Mul64 -/
def m_math_bits_Mul64 (x_ : Int) (y : Int) : Int × Int :=
  (IntKind.wrap .u64 ((IntKind.wrap .u64 ((IntKind.wrap .u64 ((Int.fdiv x_ (2 ^ min (32 : Int).toNat 64)) * (Int.fdiv y (2 ^ min (32 : Int).toNat 64)))) + (Int.fdiv (IntKind.wrap .u64 ((IntKind.wrap .u64 ((Int.fdiv x_ (2 ^ min (32 : Int).toNat 64)) * (IntKind.wrap .u64 ((((BitVec.ofInt (IntKind.bits .u64) y) &&& (BitVec.ofInt (IntKind.bits .u64) 4294967295)).toNat : Nat) : Int)))) + (Int.fdiv (IntKind.wrap .u64 ((IntKind.wrap .u64 ((((BitVec.ofInt (IntKind.bits .u64) x_) &&& (BitVec.ofInt (IntKind.bits .u64) 4294967295)).toNat : Nat) : Int)) * (IntKind.wrap .u64 ((((BitVec.ofInt (IntKind.bits .u64) y) &&& (BitVec.ofInt (IntKind.bits .u64) 4294967295)).toNat : Nat) : Int)))) (2 ^ min (32 : Int).toNat 64)))) (2 ^ min (32 : Int).toNat 64)))) + (Int.fdiv (IntKind.wrap .u64 ((IntKind.wrap .u64 ((((BitVec.ofInt (IntKind.bits .u64) (IntKind.wrap .u64 ((IntKind.wrap .u64 ((Int.fdiv x_ (2 ^ min (32 : Int).toNat 64)) * (IntKind.wrap .u64 ((((BitVec.ofInt (IntKind.bits .u64) y) &&& (BitVec.ofInt (IntKind.bits .u64) 4294967295)).toNat : Nat) : Int)))) + (Int.fdiv (IntKind.wrap .u64 ((IntKind.wrap .u64 ((((BitVec.ofInt (IntKind.bits .u64) x_) &&& (BitVec.ofInt (IntKind.bits .u64) 4294967295)).toNat : Nat) : Int)) * (IntKind.wrap .u64 ((((BitVec.ofInt (IntKind.bits .u64) y) &&& (BitVec.ofInt (IntKind.bits .u64) 4294967295)).toNat : Nat) : Int)))) (2 ^ min (32 : Int).toNat 64))))) &&& (BitVec.ofInt (IntKind.bits .u64) 4294967295)).toNat : Nat) : Int)) + (IntKind.wrap .u64 ((IntKind.wrap .u64 ((((BitVec.ofInt (IntKind.bits .u64) x_) &&& (BitVec.ofInt (IntKind.bits .u64) 4294967295)).toNat : Nat) : Int)) * (Int.fdiv y (2 ^ min (32 : Int).toNat 64)))))) (2 ^ min (32 : Int).toNat 64))), IntKind.wrap .u64 (x_ * y))

/-! ### math_bits_Mul -/
def m_math_bits_Mul (x_ : Int) (y : Int) : Int × Int :=
  bif false then (IntKind.wrap .u64 (m_math_bits_Mul32 (IntKind.wrap .u32 x_) (IntKind.wrap .u32 y)).1, IntKind.wrap .u64 (m_math_bits_Mul32 (IntKind.wrap .u32 x_) (IntKind.wrap .u32 y)).2) else ((m_math_bits_Mul64 x_ y).1, (m_math_bits_Mul64 x_ y).2)

/-! ### slices_Repeat_int64 -/
def m_slices_Repeat_int64_b1 (x_ : List Int) (count : Int) (rec1 : ((List Int) × Int) → (List Int)) (k1 : ((List Int) × Int) → (List Int)) (x1 : (List Int) × Int) : (List Int) :=
  bif decide (x1.2 < (x1.1.length : Int)) then rec1 (cpy x1.1 (x1.2.toNat) ((pre' x1.1 x1.2).take (min (pre' x1.1 x1.2).length ((x1.1.length : Int).toNat - x1.2.toNat))), IntKind.wrap .i64 (x1.2 + (((min (pre' x1.1 x1.2).length ((x1.1.length : Int).toNat - x1.2.toNat)) : Nat) : Int))) else k1 (x1.1, x1.2)
def m_slices_Repeat_int64 (x_ : List Int) (count : Int) : (List Int) :=
  LOOP (m_slices_Repeat_int64_b1 x_ count) (fun (x1 : (List Int) × Int) => x1.1) (count.toNat + 1) (cpy (List.replicate (IntKind.wrap .i64 (m_math_bits_Mul (IntKind.wrap .u64 (x_.length : Int)) (IntKind.wrap .u64 count)).2 : Int).toNat (0 : Int)) (0) (x_.take (min x_.length (List.replicate (IntKind.wrap .i64 (m_math_bits_Mul (IntKind.wrap .u64 (x_.length : Int)) (IntKind.wrap .u64 count)).2 : Int).toNat (0 : Int)).length)), (((min x_.length (List.replicate (IntKind.wrap .i64 (m_math_bits_Mul (IntKind.wrap .u64 (x_.length : Int)) (IntKind.wrap .u64 count)).2 : Int).toNat (0 : Int)).length) : Nat) : Int))

/-! ### impl_divUp -/
def m_impl_divUp (a : Int) (b : Int) : Int :=
  IntKind.wrap .i64 (Int.tdiv (IntKind.wrap .i64 ((IntKind.wrap .i64 (a + b)) - 1)) b)

/-! ### impl_Mine_leaving -/
def m_impl_Mine_leaving (m_ : gMine) (flows : List Int) (f : gFire) : Int × Int :=
  bif (at' flows f.Airway) == 0 then (0, 0) else JN (fun j5 => bif decide ((at' flows f.Airway) < 0) then j5 f.At else j5 (IntKind.wrap .i64 ((at' m_.Airways f.Airway).Length - f.At))) (fun (v4 : Int) => (IntKind.wrap .i64 (f.Start + (m_impl_divUp (IntKind.wrap .i64 (v4 * (at' m_.Airways f.Airway).Section)) (m_impl_abs (at' flows f.Airway)))), (m_impl_Airway_ways (at' m_.Airways f.Airway) (at' flows f.Airway)).2))

/-! ### impl_Mine_arrivals -/
def m_impl_Mine_arrivals_b2 (m_ : gMine) (flows : List Int) (f : gFire) (rec1 : ((List Int) × Bool) → (List Int)) (k1 : ((List Int) × Bool) → (List Int)) (x1 : (List Int) × Bool) (rec2 : (Int × (List Int) × Bool) → (List Int)) (k2 : (Int × (List Int) × Bool) → (List Int)) (x2 : Int × (List Int) × Bool) : (List Int) :=
  bif decide (x2.1 < (m_.Airways.length : Int)) then bif ((at' flows x2.1) == 0) || (decide ((at' x2.2.1 (m_impl_Airway_ways (at' m_.Airways x2.1) (at' flows x2.1)).1) < 0)) then rec2 (x2.1 + 1, x2.2.1, x2.2.2) else bif (decide ((at' x2.2.1 (m_impl_Airway_ways (at' m_.Airways x2.1) (at' flows x2.1)).2) < 0)) || (decide ((IntKind.wrap .i64 ((at' x2.2.1 (m_impl_Airway_ways (at' m_.Airways x2.1) (at' flows x2.1)).1) + (m_impl_divUp (IntKind.wrap .i64 ((at' m_.Airways x2.1).Length * (at' m_.Airways x2.1).Section)) (m_impl_abs (at' flows x2.1))))) < (at' x2.2.1 (m_impl_Airway_ways (at' m_.Airways x2.1) (at' flows x2.1)).2))) then rec2 (x2.1 + 1, put' x2.2.1 (m_impl_Airway_ways (at' m_.Airways x2.1) (at' flows x2.1)).2 (IntKind.wrap .i64 ((at' x2.2.1 (m_impl_Airway_ways (at' m_.Airways x2.1) (at' flows x2.1)).1) + (m_impl_divUp (IntKind.wrap .i64 ((at' m_.Airways x2.1).Length * (at' m_.Airways x2.1).Section)) (m_impl_abs (at' flows x2.1))))), true) else rec2 (x2.1 + 1, x2.2.1, x2.2.2) else k2 (x2.1, x2.2.1, x2.2.2)
def m_impl_Mine_arrivals_b1 (m_ : gMine) (flows : List Int) (f : gFire) (rec1 : ((List Int) × Bool) → (List Int)) (k1 : ((List Int) × Bool) → (List Int)) (x1 : (List Int) × Bool) : (List Int) :=
  bif x1.2 then LOOP (m_impl_Mine_arrivals_b2 m_ flows f rec1 k1 x1) (fun (x2 : Int × (List Int) × Bool) => rec1 (x2.2.1, x2.2.2)) (((m_.Airways.length : Int) - 0 : Int).toNat + 1) (0, x1.1, false) else k1 (x1.1, x1.2)
def m_impl_Mine_arrivals (m_ : gMine) (flows : List Int) (f : gFire) : (List Int) :=
  bif (at' flows f.Airway) == 0 then m_slices_Repeat_int64 ([(-1)] : List Int) m_.Junctions else LOOP (m_impl_Mine_arrivals_b1 m_ flows f) (fun (x1 : (List Int) × Bool) => x1.1) (300000000000) (put' (m_slices_Repeat_int64 ([(-1)] : List Int) m_.Junctions) (m_impl_Mine_leaving m_ flows f).2 (m_impl_Mine_leaving m_ flows f).1, true)

/-! ### impl_Mine_front -/
def m_impl_Mine_front (m_ : gMine) (flows : List Int) (arrivals : List Int) (airway : Int) (time : Int) : Int :=
  bif (((at' flows airway) == 0) || (decide ((at' arrivals (m_impl_Airway_ways (at' m_.Airways airway) (at' flows airway)).1) < 0))) || (decide (time ≤ (at' arrivals (m_impl_Airway_ways (at' m_.Airways airway) (at' flows airway)).1))) then 0 else if (at' m_.Airways airway).Length < (IntKind.wrap .i64 (Int.tdiv (IntKind.wrap .i64 ((IntKind.wrap .i64 (time - (at' arrivals (m_impl_Airway_ways (at' m_.Airways airway) (at' flows airway)).1))) * (m_impl_abs (at' flows airway)))) (at' m_.Airways airway).Section)) then (at' m_.Airways airway).Length else (IntKind.wrap .i64 (Int.tdiv (IntKind.wrap .i64 ((IntKind.wrap .i64 (time - (at' arrivals (m_impl_Airway_ways (at' m_.Airways airway) (at' flows airway)).1))) * (m_impl_abs (at' flows airway)))) (at' m_.Airways airway).Section))

/-! ### impl_SmokyAirways -/
def m_impl_SmokyAirways_b1 (m_ : gMine) (flows : List Int) (f : gFire) (time : Int) (rec1 : ((List Int) × Int) → ((List Int) × Int)) (k1 : ((List Int) × Int) → ((List Int) × Int)) (x1 : (List Int) × Int) : (List Int) × Int :=
  bif decide (x1.2 < (m_.Airways.length : Int)) then bif (decide (0 < (m_impl_Mine_front m_ flows (m_impl_Mine_arrivals m_ flows f) x1.2 time))) || ((x1.2 == f.Airway) && (decide (f.Start ≤ time))) then rec1 (x1.1 ++ ([x1.2] : List Int), x1.2 + 1) else rec1 (x1.1, x1.2 + 1) else k1 (x1.1, x1.2)
def m_impl_SmokyAirways (m_ : gMine) (flows : List Int) (f : gFire) (time : Int) : (List Int) × Int :=
  bif (m_impl_fireCode m_ flows f time) != 0 then (([] : List Int), m_impl_fireCode m_ flows f time) else LOOP (m_impl_SmokyAirways_b1 m_ flows f time) (fun (x1 : (List Int) × Int) => (x1.1, 0)) (((m_.Airways.length : Int) - 0 : Int).toNat + 1) (([] : List Int), 0)

/-! ### laws_FnExactSmokyAirways -/
def m_laws_FnExactSmokyAirways (aM : gMine) (aFlows : List Int) (aF : gFire) (aTime : Int) : Bool :=
  bif decide (1048576 < (aFlows.length : Int)) then true else bif decide ((m_laws_szMine aM 1048576) < 0) then true else bif (!(m_laws_eqInt64S (m_impl_SmokyAirways (m_laws_toMine aM) (m_laws_toInt64S aFlows) (m_laws_toFire aF) aTime).1 (m_spec_SmokyAirways (m_laws_toMine aM) (m_laws_toInt64S aFlows) (m_laws_toFire aF) aTime).1)) || ((m_impl_SmokyAirways (m_laws_toMine aM) (m_laws_toInt64S aFlows) (m_laws_toFire aF) aTime).2 != (m_spec_SmokyAirways (m_laws_toMine aM) (m_laws_toInt64S aFlows) (m_laws_toFire aF) aTime).2) then false else bif !(m_laws_eqMine (m_laws_toMine aM) (m_laws_toMine aM)) then false else bif !(m_laws_eqInt64S (m_laws_toInt64S aFlows) (m_laws_toInt64S aFlows)) then false else bif ((decide ((m_laws_markInt64S (m_laws_toInt64S aFlows) (m_laws_markMine (m_laws_toMine aM) 1).1).1 < 0)) || (!(m_laws_eqInt64S (m_impl_SmokyAirways (m_laws_toMine aM) (m_laws_toInt64S aFlows) (m_laws_toFire aF) aTime).1 (m_spec_SmokyAirways (m_laws_toMine aM) (m_laws_toInt64S aFlows) (m_laws_toFire aF) aTime).1))) || ((m_impl_SmokyAirways (m_laws_toMine aM) (m_laws_toInt64S aFlows) (m_laws_toFire aF) aTime).2 != (m_spec_SmokyAirways (m_laws_toMine aM) (m_laws_toInt64S aFlows) (m_laws_toFire aF) aTime).2) then false else bif decide ((m_laws_heldInt64S (m_laws_markInt64S (m_impl_SmokyAirways (m_laws_toMine aM) (m_laws_toInt64S aFlows) (m_laws_toFire aF) aTime).1 1).2 1) < 0) then false else bif (m_laws_heldInt64S (m_laws_markInt64S (m_impl_SmokyAirways (m_laws_toMine aM) (m_laws_toInt64S aFlows) (m_laws_toFire aF) aTime).1 1).2 1) != (m_laws_markInt64S (m_impl_SmokyAirways (m_laws_toMine aM) (m_laws_toInt64S aFlows) (m_laws_toFire aF) aTime).1 1).1 then false else bif (!(m_laws_eqInt64S (m_impl_SmokyAirways (m_laws_toMine aM) (m_laws_toInt64S aFlows) (m_laws_toFire aF) aTime).1 (m_spec_SmokyAirways (m_laws_toMine aM) (m_laws_toInt64S aFlows) (m_laws_toFire aF) aTime).1)) || ((m_impl_SmokyAirways (m_laws_toMine aM) (m_laws_toInt64S aFlows) (m_laws_toFire aF) aTime).2 != (m_spec_SmokyAirways (m_laws_toMine aM) (m_laws_toInt64S aFlows) (m_laws_toFire aF) aTime).2) then false else bif decide ((m_laws_heldInt64S (m_laws_markInt64S (m_impl_SmokyAirways (m_laws_toMine aM) (m_laws_toInt64S aFlows) (m_laws_toFire aF) aTime).1 1).2 1) < 0) then false else bif (m_laws_heldInt64S (m_laws_markInt64S (m_impl_SmokyAirways (m_laws_toMine aM) (m_laws_toInt64S aFlows) (m_laws_toFire aF) aTime).1 1).2 1) != (m_laws_markInt64S (m_impl_SmokyAirways (m_laws_toMine aM) (m_laws_toInt64S aFlows) (m_laws_toFire aF) aTime).1 1).1 then false else true

end Go.Proofs.Ytahohnhmdlndfaa
