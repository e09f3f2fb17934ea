/-
  PLAIN MODELS of the Go functions that the law reaches, printed by a program of this claim. Conditions: none; nothing is claimed here.
-/
import Derived.Test.YtchjibndocnnhaaEngN
set_option linter.unusedVariables false
set_option linter.unusedSimpArgs false
set_option linter.unusedSectionVars false
set_option linter.unnecessarySimpa false
namespace Go.Proofs.Ytchjibndocnnhaa
open Go Go.RowKit Go.Proofs Go.Proofs.Ytchjibndocnnhaa.E
structure gAirway where
  Id : List UInt8
  From : Int
  To : Int
  Length : Int
  Section : Int
  Friction : Int
  Shock : Int
instance : Inhabited gAirway := ⟨gAirway.mk default default default default default default default⟩
abbrev gAirway.v (x : gAirway) : V := .st [.str x.Id, .int .i64 x.From, .int .i64 x.To, .int .i64 x.Length, .int .i64 x.Section, .int .i64 x.Friction, .int .i64 x.Shock]
structure gMine where
  Junctions : Int
  Airways : List gAirway
instance : Inhabited gMine := ⟨gMine.mk default default⟩
abbrev gMine.v (x : gMine) : V := .st [.int .i64 x.Junctions, .sl 7 (x.Airways.map gAirway.v)]
structure gJob where
  Id : List UInt8
  Airway : Int
  People : Int
  Power : Int
instance : Inhabited gJob := ⟨gJob.mk default default default default⟩
abbrev gJob.v (x : gJob) : V := .st [.str x.Id, .int .i64 x.Airway, .int .i64 x.People, .int .i64 x.Power]
structure gl23Search where
  m_ : gMine
  flows : List Int
  list : List gJob
  some_ : List Int
  best : List Int
  shifts : List Int
  count : Int
  nodes : Int
  budget : Int
instance : Inhabited gl23Search := ⟨gl23Search.mk default default default default default default default default default⟩
abbrev gl23Search.v (x : gl23Search) : V := .st [.rp [.int .i64 x.m_.Junctions, .sl 7 (x.m_.Airways.map gAirway.v)], .sl 1 (x.flows.map (V.int .i64)), .sl 4 (x.list.map gJob.v), .sl 1 (x.some_.map (V.int .i64)), .sl 1 (x.best.map (V.int .i64)), .sl 1 (x.shifts.map (V.int .i64)), .int .i64 x.count, .int .i64 x.nodes, .int .i64 x.budget]
structure gshiftSearch where
  mine : gMine
  flows : List Int
  list : List gJob
  budget : Int
  shifts : List Int
instance : Inhabited gshiftSearch := ⟨gshiftSearch.mk default default default default default⟩
abbrev gshiftSearch.v (x : gshiftSearch) : V := .st [.int .i64 x.mine.Junctions, .sl 7 (x.mine.Airways.map gAirway.v), .sl 1 (x.flows.map (V.int .i64)), .sl 4 (x.list.map gJob.v), .int .i64 x.budget, .sl 1 (x.shifts.map (V.int .i64))]

/-! ### laws_szAirway -/
def m_laws_szAirway (a : gAirway) (left : Int) : Int :=
  bif decide ((IntKind.wrap .i64 (left - (a.Id.length : Int))) < 0) then (-1) else IntKind.wrap .i64 (left - (a.Id.length : Int))

/-! ### laws_szAirwayS -/
def m_laws_szAirwayS_b1 (a : List gAirway) (left : Int) (rec1 : (Int × Int) → Int) (k1 : (Int × Int) → Int) (x1 : Int × Int) : Int :=
  bif decide (x1.2 < (a.length : Int)) then bif decide ((m_laws_szAirway (at' a x1.2) x1.1) < 0) then (-1) else rec1 (m_laws_szAirway (at' a x1.2) x1.1, x1.2 + 1) else k1 (x1.1, x1.2)
def m_laws_szAirwayS (a : List gAirway) (left : Int) : Int :=
  bif decide ((IntKind.wrap .i64 (left - (a.length : Int))) < 0) then (-1) else LOOP (m_laws_szAirwayS_b1 a left) (fun (x1 : Int × Int) => x1.1) (((a.length : Int) - 0 : Int).toNat + 1) (IntKind.wrap .i64 (left - (a.length : Int)), 0)

/-! ### laws_szMine -/
def m_laws_szMine (a : gMine) (left : Int) : Int :=
  bif decide ((m_laws_szAirwayS a.Airways left) < 0) then (-1) else m_laws_szAirwayS a.Airways left

/-! ### laws_szJob -/
def m_laws_szJob (a : gJob) (left : Int) : Int :=
  bif decide ((IntKind.wrap .i64 (left - (a.Id.length : Int))) < 0) then (-1) else IntKind.wrap .i64 (left - (a.Id.length : Int))

/-! ### laws_szJobS -/
def m_laws_szJobS_b1 (a : List gJob) (left : Int) (rec1 : (Int × Int) → Int) (k1 : (Int × Int) → Int) (x1 : Int × Int) : Int :=
  bif decide (x1.2 < (a.length : Int)) then bif decide ((m_laws_szJob (at' a x1.2) x1.1) < 0) then (-1) else rec1 (m_laws_szJob (at' a x1.2) x1.1, x1.2 + 1) else k1 (x1.1, x1.2)
def m_laws_szJobS (a : List gJob) (left : Int) : Int :=
  bif decide ((IntKind.wrap .i64 (left - (a.length : Int))) < 0) then (-1) else LOOP (m_laws_szJobS_b1 a left) (fun (x1 : Int × Int) => x1.1) (((a.length : Int) - 0 : Int).toNat + 1) (IntKind.wrap .i64 (left - (a.length : Int)), 0)

/-! ### laws_toAirway -/
def m_laws_toAirway (a : gAirway) : gAirway :=
  a

/-! ### laws_toAirwayS -/
def m_laws_toAirwayS_b1 (a : List gAirway) (rec1 : ((List gAirway) × Int) → (List gAirway)) (k1 : ((List gAirway) × Int) → (List gAirway)) (x1 : (List gAirway) × Int) : (List gAirway) :=
  bif decide (x1.2 < (a.length : Int)) then rec1 (put' x1.1 x1.2 (m_laws_toAirway (at' a x1.2)), x1.2 + 1) else k1 (x1.1, x1.2)
def m_laws_toAirwayS (a : List gAirway) : (List gAirway) :=
  LOOP (m_laws_toAirwayS_b1 a) (fun (x1 : (List gAirway) × Int) => x1.1) (((a.length : Int) - 0 : Int).toNat + 1) (List.replicate ((a.length : Int) : Int).toNat (gAirway.mk ([] : List UInt8) 0 0 0 0 0 0 : gAirway), 0)

/-! ### laws_toMine -/
def m_laws_toMine (a : gMine) : gMine :=
  gMine.mk a.Junctions (m_laws_toAirwayS a.Airways)

/-! ### laws_toInt64S -/
def m_laws_toInt64S_b1 (a : List Int) (rec1 : ((List Int) × Int) → (List Int)) (k1 : ((List Int) × Int) → (List Int)) (x1 : (List Int) × Int) : (List Int) :=
  bif decide (x1.2 < (a.length : Int)) then rec1 (put' x1.1 x1.2 (at' a x1.2), x1.2 + 1) else k1 (x1.1, x1.2)
def m_laws_toInt64S (a : List Int) : (List Int) :=
  LOOP (m_laws_toInt64S_b1 a) (fun (x1 : (List Int) × Int) => x1.1) (((a.length : Int) - 0 : Int).toNat + 1) (List.replicate ((a.length : Int) : Int).toNat (0 : Int), 0)

/-! ### laws_toJob -/
def m_laws_toJob (a : gJob) : gJob :=
  a

/-! ### laws_toJobS -/
def m_laws_toJobS_b1 (a : List gJob) (rec1 : ((List gJob) × Int) → (List gJob)) (k1 : ((List gJob) × Int) → (List gJob)) (x1 : (List gJob) × Int) : (List gJob) :=
  bif decide (x1.2 < (a.length : Int)) then rec1 (put' x1.1 x1.2 (m_laws_toJob (at' a x1.2)), x1.2 + 1) else k1 (x1.1, x1.2)
def m_laws_toJobS (a : List gJob) : (List gJob) :=
  LOOP (m_laws_toJobS_b1 a) (fun (x1 : (List gJob) × Int) => x1.1) (((a.length : Int) - 0 : Int).toNat + 1) (List.replicate ((a.length : Int) : Int).toNat (gJob.mk ([] : List UInt8) 0 0 0 : gJob), 0)

/-! ### laws_eqInt64S -/
def m_laws_eqInt64S_b1 (a : List Int) (b : List Int) (rec1 : Int → Bool) (k1 : Int → Bool) (x1 : Int) : Bool :=
  bif decide (x1 < (a.length : Int)) then bif (at' a x1) != (at' b x1) then false else rec1 (x1 + 1) else k1 x1
def m_laws_eqInt64S (a : List Int) (b : List Int) : Bool :=
  bif (a.length : Int) != (b.length : Int) then false else LOOP (m_laws_eqInt64S_b1 a b) (fun (x1 : Int) => true) (((a.length : Int) - 0 : Int).toNat + 1) 0

/-! ### laws_eqAirway -/
def m_laws_eqAirway (a : gAirway) (b : gAirway) : Bool :=
  bif strB .neq a.Id b.Id then false else bif a.From != b.From then false else bif a.To != b.To then false else bif a.Length != b.Length then false else bif a.Section != b.Section then false else bif a.Friction != b.Friction then false else bif a.Shock != b.Shock then false else true

/-! ### laws_eqAirwayS -/
def m_laws_eqAirwayS_b1 (a : List gAirway) (b : List gAirway) (rec1 : Int → Bool) (k1 : Int → Bool) (x1 : Int) : Bool :=
  bif decide (x1 < (a.length : Int)) then bif !(m_laws_eqAirway (at' a x1) (at' b x1)) then false else rec1 (x1 + 1) else k1 x1
def m_laws_eqAirwayS (a : List gAirway) (b : List gAirway) : Bool :=
  bif (a.length : Int) != (b.length : Int) then false else LOOP (m_laws_eqAirwayS_b1 a b) (fun (x1 : Int) => true) (((a.length : Int) - 0 : Int).toNat + 1) 0

/-! ### laws_eqMine -/
def m_laws_eqMine (a : gMine) (b : gMine) : Bool :=
  bif a.Junctions != b.Junctions then false else bif !(m_laws_eqAirwayS a.Airways b.Airways) then false else true

/-! ### laws_eqJob -/
def m_laws_eqJob (a : gJob) (b : gJob) : Bool :=
  bif strB .neq a.Id b.Id then false else bif a.Airway != b.Airway then false else bif a.People != b.People then false else bif a.Power != b.Power then false else true

/-! ### laws_eqJobS -/
def m_laws_eqJobS_b1 (a : List gJob) (b : List gJob) (rec1 : Int → Bool) (k1 : Int → Bool) (x1 : Int) : Bool :=
  bif decide (x1 < (a.length : Int)) then bif !(m_laws_eqJob (at' a x1) (at' b x1)) then false else rec1 (x1 + 1) else k1 x1
def m_laws_eqJobS (a : List gJob) (b : List gJob) : Bool :=
  bif (a.length : Int) != (b.length : Int) then false else LOOP (m_laws_eqJobS_b1 a b) (fun (x1 : Int) => true) (((a.length : Int) - 0 : Int).toNat + 1) 0

/-! ### laws_markText -/
def m_laws_markText_b1 (k_ : Int) (rec1 : (Int × (List UInt8)) → (List UInt8)) (k1 : (Int × (List UInt8)) → (List UInt8)) (x1 : Int × (List UInt8)) : (List UInt8) :=
  bif decide (0 < x1.1) then rec1 (IntKind.wrap .i64 (Int.tdiv x1.1 10), (chars ([IntKind.wrap .u8 (IntKind.wrap .i64 (48 + (Int.tmod x1.1 10)))] : List Int)) ++ x1.2) else k1 (x1.1, x1.2)
def m_laws_markText (k_ : Int) : (List UInt8) :=
  bif decide (k_ ≤ 0) then ([109, 48] : List UInt8) else LOOP (m_laws_markText_b1 k_) (fun (x1 : Int × (List UInt8)) => ([109] : List UInt8) ++ x1.2) (k_.toNat + 1) (k_, ([] : List UInt8))

/-! ### laws_markAirwayS -/
def m_laws_markAirwayS_b1 (a : List gAirway) (k_ : Int) (rec1 : ((List gAirway) × Int × Int) → (Int × (List gAirway))) (k1 : ((List gAirway) × Int × Int) → (Int × (List gAirway))) (x1 : (List gAirway) × Int × Int) : Int × (List gAirway) :=
  bif decide (x1.2.2 < (x1.1.length : Int)) then rec1 (put' x1.1 x1.2.2 (gAirway.mk (m_laws_markText x1.2.1) (IntKind.wrap .i64 (x1.2.1 + 1)) (IntKind.wrap .i64 ((IntKind.wrap .i64 (x1.2.1 + 1)) + 1)) (IntKind.wrap .i64 ((IntKind.wrap .i64 ((IntKind.wrap .i64 (x1.2.1 + 1)) + 1)) + 1)) (IntKind.wrap .i64 ((IntKind.wrap .i64 ((IntKind.wrap .i64 ((IntKind.wrap .i64 (x1.2.1 + 1)) + 1)) + 1)) + 1)) (IntKind.wrap .i64 ((IntKind.wrap .i64 ((IntKind.wrap .i64 ((IntKind.wrap .i64 ((IntKind.wrap .i64 (x1.2.1 + 1)) + 1)) + 1)) + 1)) + 1)) (IntKind.wrap .i64 ((IntKind.wrap .i64 ((IntKind.wrap .i64 ((IntKind.wrap .i64 ((IntKind.wrap .i64 ((IntKind.wrap .i64 (x1.2.1 + 1)) + 1)) + 1)) + 1)) + 1)) + 1))), IntKind.wrap .i64 ((IntKind.wrap .i64 ((IntKind.wrap .i64 ((IntKind.wrap .i64 ((IntKind.wrap .i64 ((IntKind.wrap .i64 ((IntKind.wrap .i64 (x1.2.1 + 1)) + 1)) + 1)) + 1)) + 1)) + 1)) + 1), x1.2.2 + 1) else k1 (x1.1, x1.2.1, x1.2.2)
def m_laws_markAirwayS (a : List gAirway) (k_ : Int) : Int × (List gAirway) :=
  LOOP (m_laws_markAirwayS_b1 a k_) (fun (x1 : (List gAirway) × Int × Int) => (x1.2.1, x1.1)) (((a.length : Int) - 0 : Int).toNat + 1) (a, k_, 0)

/-! ### laws_markMine -/
def m_laws_markMine (a : gMine) (k_ : Int) : Int × (List gAirway) :=
  ((m_laws_markAirwayS a.Airways k_).1, (m_laws_markAirwayS a.Airways k_).2)

/-! ### laws_markInt64S -/
def m_laws_markInt64S_b1 (a : List Int) (k_ : Int) (rec1 : ((List Int) × Int × Int) → (Int × (List Int))) (k1 : ((List Int) × Int × Int) → (Int × (List Int))) (x1 : (List Int) × Int × Int) : Int × (List Int) :=
  bif decide (x1.2.2 < (x1.1.length : Int)) then rec1 (put' x1.1 x1.2.2 x1.2.1, IntKind.wrap .i64 (x1.2.1 + 1), x1.2.2 + 1) else k1 (x1.1, x1.2.1, x1.2.2)
def m_laws_markInt64S (a : List Int) (k_ : Int) : Int × (List Int) :=
  LOOP (m_laws_markInt64S_b1 a k_) (fun (x1 : (List Int) × Int × Int) => (x1.2.1, x1.1)) (((a.length : Int) - 0 : Int).toNat + 1) (a, k_, 0)

/-! ### laws_markJobS -/
def m_laws_markJobS_b1 (a : List gJob) (k_ : Int) (rec1 : ((List gJob) × Int × Int) → (Int × (List gJob))) (k1 : ((List gJob) × Int × Int) → (Int × (List gJob))) (x1 : (List gJob) × Int × Int) : Int × (List gJob) :=
  bif decide (x1.2.2 < (x1.1.length : Int)) then rec1 (put' x1.1 x1.2.2 (gJob.mk (m_laws_markText x1.2.1) (IntKind.wrap .i64 (x1.2.1 + 1)) (IntKind.wrap .i64 ((IntKind.wrap .i64 (x1.2.1 + 1)) + 1)) (IntKind.wrap .i64 ((IntKind.wrap .i64 ((IntKind.wrap .i64 (x1.2.1 + 1)) + 1)) + 1))), IntKind.wrap .i64 ((IntKind.wrap .i64 ((IntKind.wrap .i64 ((IntKind.wrap .i64 (x1.2.1 + 1)) + 1)) + 1)) + 1), x1.2.2 + 1) else k1 (x1.1, x1.2.1, x1.2.2)
def m_laws_markJobS (a : List gJob) (k_ : Int) : Int × (List gJob) :=
  LOOP (m_laws_markJobS_b1 a k_) (fun (x1 : (List gJob) × Int × Int) => (x1.2.1, x1.1)) (((a.length : Int) - 0 : Int).toNat + 1) (a, k_, 0)

/-! ### laws_heldInt64S -/
def m_laws_heldInt64S_b1 (a : List Int) (k_ : Int) (rec1 : (Int × Int) → Int) (k1 : (Int × Int) → Int) (x1 : Int × Int) : Int :=
  bif decide (x1.2 < (a.length : Int)) then bif (at' a x1.2) != x1.1 then (-1) else rec1 (IntKind.wrap .i64 (x1.1 + 1), x1.2 + 1) else k1 (x1.1, x1.2)
def m_laws_heldInt64S (a : List Int) (k_ : Int) : Int :=
  LOOP (m_laws_heldInt64S_b1 a k_) (fun (x1 : Int × Int) => x1.1) (((a.length : Int) - 0 : Int).toNat + 1) (k_, 0)

/-! ### spec_l00In -/
def m_spec_l00In (n_ : Int) (low : Int) (high : Int) : Bool :=
  (decide (low ≤ n_)) && (decide (n_ ≤ high))

/-! ### spec_l01Small -/
def m_spec_l01Small (c_ : Int) : Bool :=
  (decide (97 ≤ c_)) && (decide (c_ ≤ 122))

/-! ### spec_l01Digit -/
def m_spec_l01Digit (c_ : Int) : Bool :=
  (decide (48 ≤ c_)) && (decide (c_ ≤ 57))

/-! ### spec_l01Name -/
def m_spec_l01Name_b1 (s_ : List UInt8) (rec1 : Int → Bool) (k1 : Int → Bool) (x1 : Int) : Bool :=
  bif decide (x1 < (s_.length : Int)) then bif (!(m_spec_l01Small (((s_.getD x1.toNat 0).toNat : Nat) : Int))) && (!(m_spec_l01Digit (((s_.getD x1.toNat 0).toNat : Nat) : Int))) then false else rec1 (x1 + 1) else k1 x1
def m_spec_l01Name (s_ : List UInt8) : Bool :=
  bif ((strB .eql s_ ([] : List UInt8)) || (decide (10 < (s_.length : Int)))) || (!(m_spec_l01Small (((s_.getD (0 : Int).toNat 0).toNat : Nat) : Int))) then false else LOOP (m_spec_l01Name_b1 s_) (fun (x1 : Int) => true) (((s_.length : Int) - 0 : Int).toNat + 1) 0

/-! ### spec_l23One -/
def m_spec_l23One (t : gJob) : Bool :=
  (((m_spec_l01Name t.Id) && (m_spec_l00In t.Airway 0 23)) && (m_spec_l00In t.People 1 40)) && (m_spec_l00In t.Power 0 500)

/-! ### spec_l23List -/
def m_spec_l23List_b1 (m_ : gMine) (list : List gJob) (rec1 : Int → Bool) (k1 : Int → Bool) (x1 : Int) : Bool :=
  bif decide (x1 < (list.length : Int)) then bif ((!(m_spec_l23One (at' list x1))) || (decide ((m_.Airways.length : Int) ≤ (at' list x1).Airway))) || ((decide (0 < x1)) && (strB .geq (at' list (x1 - 1)).Id (at' list x1).Id)) then false else rec1 (x1 + 1) else k1 x1
def m_spec_l23List (m_ : gMine) (list : List gJob) : Bool :=
  LOOP (m_spec_l23List_b1 m_ list) (fun (x1 : Int) => decide ((list.length : Int) ≤ 12)) (((list.length : Int) - 0 : Int).toNat + 1) 0

/-! ### spec_l03Ok -/
def m_spec_l03Ok (a : gAirway) : Bool :=
  bif (((!(m_spec_l01Name a.Id)) || (!(m_spec_l00In a.From 0 15))) || (!(m_spec_l00In a.To 0 15))) || (a.From == a.To) then false else (((m_spec_l00In a.Length 1 10000) && (m_spec_l00In a.Section 50 5000)) && (m_spec_l00In a.Friction 1 1000)) && (m_spec_l00In a.Shock 0 1000)

/-! ### spec_l04Junction -/
def m_spec_l04Junction (m_ : gMine) (j : Int) : Bool :=
  m_spec_l00In j 0 (IntKind.wrap .i64 (m_.Junctions - 1))

/-! ### spec_l04Ok -/
def m_spec_l04Ok_b1 (m_ : gMine) (rec1 : Int → Bool) (k1 : Int → Bool) (x1 : Int) : Bool :=
  bif decide (x1 < (m_.Airways.length : Int)) then bif (((!(m_spec_l03Ok (at' m_.Airways x1))) || (!(m_spec_l04Junction m_ (at' m_.Airways x1).From))) || (!(m_spec_l04Junction m_ (at' m_.Airways x1).To))) || ((decide (0 < x1)) && (strB .geq (at' m_.Airways (x1 - 1)).Id (at' m_.Airways x1).Id)) then false else rec1 (x1 + 1) else k1 x1
def m_spec_l04Ok (m_ : gMine) : Bool :=
  bif !(m_spec_l00In m_.Junctions 1 16) then false else LOOP (m_spec_l04Ok_b1 m_) (fun (x1 : Int) => decide ((m_.Airways.length : Int) ≤ 24)) (((m_.Airways.length : Int) - 0 : Int).toNat + 1) 0

/-! ### spec_l03Flow -/
def m_spec_l03Flow (q : Int) : Bool :=
  m_spec_l00In q (-100000) 100000

/-! ### spec_l07Flows -/
def m_spec_l07Flows_b1 (m_ : gMine) (flows : List Int) (rec1 : Int → Bool) (k1 : Int → Bool) (x1 : Int) : Bool :=
  bif decide (x1 < (flows.length : Int)) then bif !(m_spec_l03Flow (at' flows x1)) then false else rec1 (x1 + 1) else k1 x1
def m_spec_l07Flows (m_ : gMine) (flows : List Int) : Bool :=
  LOOP (m_spec_l07Flows_b1 m_ flows) (fun (x1 : Int) => (flows.length : Int) == (m_.Airways.length : Int)) (((flows.length : Int) - 0 : Int).toNat + 1) 0

/-! ### spec_l23Ask -/
def m_spec_l23Ask (m_ : gMine) (flows : List Int) (list : List gJob) : Int :=
  bif (!(m_spec_l04Ok m_)) || (!(m_spec_l23List m_ list)) then 1 else bif !(m_spec_l07Flows m_ flows) then 7 else 0

/-! ### spec_l23Begin -/
def m_spec_l23Begin (m_ : gMine) (flows : List Int) (list : List gJob) (budget : Int) : Int :=
  bif (m_spec_l23Ask m_ flows list) == 1 then m_spec_l23Ask m_ flows list else bif !(m_spec_l00In budget 1 20000) then 2 else m_spec_l23Ask m_ flows list

/-! ### spec_l00Own -/
def m_spec_l00Own (list : List Int) : (List Int) :=
  ([] : List Int) ++ list

/-! ### spec_l23Need -/
def m_spec_l23Need (t : gJob) : Int :=
  IntKind.wrap .i64 ((IntKind.wrap .i64 (10 * t.People)) + (IntKind.wrap .i64 (6 * t.Power)))

/-! ### spec_l23Needs -/
def m_spec_l23Needs_b1 (m_ : gMine) (list : List gJob) (some_ : List Int) (rec1 : ((List Int) × Int) → (List Int)) (k1 : ((List Int) × Int) → (List Int)) (x1 : (List Int) × Int) : (List Int) :=
  bif decide (x1.2 < (some_.length : Int)) then rec1 (put' x1.1 (at' list (at' some_ x1.2)).Airway (IntKind.wrap .i64 ((at' x1.1 (at' list (at' some_ x1.2)).Airway) + (m_spec_l23Need (at' list (at' some_ x1.2))))), x1.2 + 1) else k1 (x1.1, x1.2)
def m_spec_l23Needs (m_ : gMine) (list : List gJob) (some_ : List Int) : (List Int) :=
  LOOP (m_spec_l23Needs_b1 m_ list some_) (fun (x1 : (List Int) × Int) => x1.1) (((some_.length : Int) - 0 : Int).toNat + 1) (List.replicate ((m_.Airways.length : Int) : Int).toNat (0 : Int), 0)

/-! ### spec_l00Max -/
def m_spec_l00Max (a : Int) (b : Int) : Int :=
  bif decide (b < a) then a else b

/-! ### spec_l03Abs -/
def m_spec_l03Abs (n_ : Int) : Int :=
  m_spec_l00Max n_ (IntKind.wrap .i64 (0 - n_))

/-! ### spec_l23Fits -/
def m_spec_l23Fits_b1 (m_ : gMine) (flows : List Int) (list : List gJob) (some_ : List Int) (rec1 : Int → Bool) (k1 : Int → Bool) (x1 : Int) : Bool :=
  bif decide (x1 < (flows.length : Int)) then bif decide ((m_spec_l03Abs (at' flows x1)) < (at' (m_spec_l23Needs m_ list some_) x1)) then false else rec1 (x1 + 1) else k1 x1
def m_spec_l23Fits (m_ : gMine) (flows : List Int) (list : List gJob) (some_ : List Int) : Bool :=
  LOOP (m_spec_l23Fits_b1 m_ flows list some_) (fun (x1 : Int) => true) (((flows.length : Int) - 0 : Int).toNat + 1) 0

/-! ### spec_l23Search_with -/
def m_spec_l23Search_with_b1 (x_ : gl23Search) (shift : Int) (job : Int) (rec1 : ((List Int) × Int) → (List Int)) (k1 : ((List Int) × Int) → (List Int)) (x1 : (List Int) × Int) : (List Int) :=
  bif decide (x1.2 < (x_.shifts.length : Int)) then bif (at' x_.shifts x1.2) == shift then rec1 (x1.1 ++ ([x1.2] : List Int), x1.2 + 1) else rec1 (x1.1, x1.2 + 1) else k1 (x1.1, x1.2)
def m_spec_l23Search_with (x_ : gl23Search) (shift : Int) (job : Int) : (List Int) :=
  LOOP (m_spec_l23Search_with_b1 x_ shift job) (fun (x1 : (List Int) × Int) => x1.1 ++ ([job] : List Int)) (((x_.shifts.length : Int) - 0 : Int).toNat + 1) (([] : List Int), 0)

/-! ### spec_l23Search_place -/
def m_spec_l23Search_place_b2 (self_ : gl23Search → (Bool × gl23Search)) (x_ : gl23Search) (x1 : Int × Int) (rec2 : (Int × (List Int) × Int) → (Bool × gl23Search)) (k2 : (Int × (List Int) × Int) → (Bool × gl23Search)) (x2 : Int × (List Int) × Int) : Bool × gl23Search :=
  bif (decide (x2.1 ≤ x1.1)) && (decide (x2.1 < x_.count)) then bif !(m_spec_l23Fits x_.m_ x_.flows x_.list (m_spec_l23Search_with (gl23Search.mk x_.m_ x_.flows x_.list x_.some_ x_.best x2.2.1 x_.count x2.2.2 x_.budget) x2.1 (x_.shifts.length : Int))) then rec2 (x2.1 + 1, x2.2.1, x2.2.2) else bif decide (x_.budget < (IntKind.wrap .i64 (x2.2.2 + 1))) then (true, gl23Search.mk x_.m_ x_.flows x_.list x_.some_ x_.best x2.2.1 x_.count (IntKind.wrap .i64 (x2.2.2 + 1)) x_.budget) else bif (self_ (gl23Search.mk x_.m_ x_.flows x_.list x_.some_ x_.best (x2.2.1 ++ ([x2.1] : List Int)) x_.count (IntKind.wrap .i64 (x2.2.2 + 1)) x_.budget)).1 then (true, gl23Search.mk x_.m_ x_.flows x_.list x_.some_ x_.best (self_ (gl23Search.mk x_.m_ x_.flows x_.list x_.some_ x_.best (x2.2.1 ++ ([x2.1] : List Int)) x_.count (IntKind.wrap .i64 (x2.2.2 + 1)) x_.budget)).2.shifts x_.count (self_ (gl23Search.mk x_.m_ x_.flows x_.list x_.some_ x_.best (x2.2.1 ++ ([x2.1] : List Int)) x_.count (IntKind.wrap .i64 (x2.2.2 + 1)) x_.budget)).2.nodes x_.budget) else rec2 (x2.1 + 1, pre' (self_ (gl23Search.mk x_.m_ x_.flows x_.list x_.some_ x_.best (x2.2.1 ++ ([x2.1] : List Int)) x_.count (IntKind.wrap .i64 (x2.2.2 + 1)) x_.budget)).2.shifts (IntKind.wrap .i64 (((self_ (gl23Search.mk x_.m_ x_.flows x_.list x_.some_ x_.best (x2.2.1 ++ ([x2.1] : List Int)) x_.count (IntKind.wrap .i64 (x2.2.2 + 1)) x_.budget)).2.shifts.length : Int) - 1)), (self_ (gl23Search.mk x_.m_ x_.flows x_.list x_.some_ x_.best (x2.2.1 ++ ([x2.1] : List Int)) x_.count (IntKind.wrap .i64 (x2.2.2 + 1)) x_.budget)).2.nodes) else k2 (x2.1, x2.2.1, x2.2.2)
def m_spec_l23Search_place_b1 (self_ : gl23Search → (Bool × gl23Search)) (x_ : gl23Search) (rec1 : (Int × Int) → (Bool × gl23Search)) (k1 : (Int × Int) → (Bool × gl23Search)) (x1 : Int × Int) : Bool × gl23Search :=
  bif decide (x1.2 < (x_.shifts.length : Int)) then rec1 (m_spec_l00Max x1.1 (IntKind.wrap .i64 ((at' x_.shifts x1.2) + 1)), x1.2 + 1) else k1 (x1.1, x1.2)
def m_spec_l23Search_place_body (self_ : gl23Search → (Bool × gl23Search)) (x_ : gl23Search) : Bool × gl23Search :=
  bif (x_.shifts.length : Int) == (x_.list.length : Int) then (true, x_) else LOOP (m_spec_l23Search_place_b1 self_ x_) (fun (x1 : Int × Int) => LOOP (m_spec_l23Search_place_b2 self_ x_ x1) (fun (x2 : Int × (List Int) × Int) => (false, gl23Search.mk x_.m_ x_.flows x_.list x_.some_ x_.best x2.2.1 x_.count x2.2.2 x_.budget)) ((x_.count - 0 : Int).toNat + 1) (0, x_.shifts, x_.nodes)) (((x_.shifts.length : Int) - 0 : Int).toNat + 1) (0, 0)
def m_spec_l23Search_place_n : Nat → gl23Search → (Bool × gl23Search)
  | 0 => fun _ => default
  | fuel + 1 => m_spec_l23Search_place_body (m_spec_l23Search_place_n fuel)
def m_spec_l23Search_place (x_ : gl23Search) : Bool × gl23Search := m_spec_l23Search_place_n (((x_.list.length : Int) - x_.shifts.length).toNat + 1) x_

/-! ### spec_FewestShifts -/
def m_spec_FewestShifts_b2 (m_ : gMine) (flows : List Int) (list : List gJob) (budget : Int) (x1 : Int) (rec2 : (Int × Int × (List Int)) → ((List Int) × Int × Int)) (k2 : (Int × Int × (List Int)) → ((List Int) × Int × Int)) (x2 : Int × Int × (List Int)) : (List Int) × Int × Int :=
  bif !(m_spec_l23Search_place (gl23Search.mk m_ flows list ([] : List Int) ([] : List Int) x2.2.2 x2.1 x2.2.1 budget)).1 then rec2 (IntKind.wrap .i64 (x2.1 + 1), (m_spec_l23Search_place (gl23Search.mk m_ flows list ([] : List Int) ([] : List Int) x2.2.2 x2.1 x2.2.1 budget)).2.nodes, ([] : List Int)) else k2 (x2.1, (m_spec_l23Search_place (gl23Search.mk m_ flows list ([] : List Int) ([] : List Int) x2.2.2 x2.1 x2.2.1 budget)).2.nodes, (m_spec_l23Search_place (gl23Search.mk m_ flows list ([] : List Int) ([] : List Int) x2.2.2 x2.1 x2.2.1 budget)).2.shifts)
def m_spec_FewestShifts_b1 (m_ : gMine) (flows : List Int) (list : List gJob) (budget : Int) (rec1 : Int → ((List Int) × Int × Int)) (k1 : Int → ((List Int) × Int × Int)) (x1 : Int) : (List Int) × Int × Int :=
  bif decide (x1 < (list.length : Int)) then bif !(m_spec_l23Fits m_ flows list ([x1] : List Int)) then (([] : List Int), 0, 3) else rec1 (x1 + 1) else k1 x1
def m_spec_FewestShifts (m_ : gMine) (flows : List Int) (list : List gJob) (budget : Int) : (List Int) × Int × Int :=
  bif (m_spec_l23Begin m_ flows list budget) != 0 then (([] : List Int), 0, m_spec_l23Begin m_ flows list budget) else LOOP (m_spec_FewestShifts_b1 m_ flows list budget) (fun (x1 : Int) => LOOP (m_spec_FewestShifts_b2 m_ flows list budget x1) (fun (x2 : Int × Int × (List Int)) => bif decide (budget < x2.2.1) then (([] : List Int), 0, 5) else (m_spec_l00Own x2.2.2, x2.1, 0)) ((2 * budget + 1).toNat + 1) (0, 0, ([] : List Int))) (((list.length : Int) - 0 : Int).toNat + 1) 0

/-! ### impl_within -/
def m_impl_within (n_ : Int) (low : Int) (high : Int) : Bool :=
  (decide (low ≤ n_)) && (decide (n_ ≤ high))

/-! ### impl_onlyNameBytes -/
def m_impl_onlyNameBytes_b1 (s_ : List UInt8) (rec1 : Int → Bool) (k1 : Int → Bool) (x1 : Int) : Bool :=
  bif decide (x1 < (s_.length : Int)) then bif ((decide ((((s_.getD x1.toNat 0).toNat : Nat) : Int) < 97)) || (decide (122 < (((s_.getD x1.toNat 0).toNat : Nat) : Int)))) && ((decide ((((s_.getD x1.toNat 0).toNat : Nat) : Int) < 48)) || (decide (57 < (((s_.getD x1.toNat 0).toNat : Nat) : Int)))) then false else rec1 (x1 + 1) else k1 x1
def m_impl_onlyNameBytes (s_ : List UInt8) : Bool :=
  LOOP (m_impl_onlyNameBytes_b1 s_) (fun (x1 : Int) => true) (((s_.length : Int) - 0 : Int).toNat + 1) 0

/-! ### impl_IsName -/
def m_impl_IsName (s_ : List UInt8) : Bool :=
  bif (((decide ((s_.length : Int) < 1)) || (decide (10 < (s_.length : Int)))) || (decide ((((s_.getD (0 : Int).toNat 0).toNat : Nat) : Int) < 97))) || (decide (122 < (((s_.getD (0 : Int).toNat 0).toNat : Nat) : Int))) then false else m_impl_onlyNameBytes s_

/-! ### impl_Job_valid -/
def m_impl_Job_valid (t : gJob) : Bool :=
  (((m_impl_IsName t.Id) && (m_impl_within t.Airway 0 23)) && (m_impl_within t.People 1 40)) && (m_impl_within t.Power 0 500)

/-! ### impl_junctionOk -/
def m_impl_junctionOk (n_ : Int) : Bool :=
  m_impl_within n_ 0 15

/-! ### impl_ValidAirway -/
def m_impl_ValidAirway (a : gAirway) : Bool :=
  (((((((m_impl_IsName a.Id) && (m_impl_junctionOk a.From)) && (m_impl_junctionOk a.To)) && (a.From != a.To)) && (m_impl_within a.Length 1 10000)) && (m_impl_within a.Section 50 5000)) && (m_impl_within a.Friction 1 1000)) && (m_impl_within a.Shock 0 1000)

/-! ### impl_Mine_hasJunction -/
def m_impl_Mine_hasJunction (m_ : gMine) (n_ : Int) : Bool :=
  m_impl_within n_ 0 (IntKind.wrap .i64 (m_.Junctions - 1))

/-! ### impl_Mine_hasEnds -/
def m_impl_Mine_hasEnds (m_ : gMine) (a : gAirway) : Bool :=
  (m_impl_Mine_hasJunction m_ a.From) && (m_impl_Mine_hasJunction m_ a.To)

/-! ### impl_ValidMine -/
def m_impl_ValidMine_b1 (m_ : gMine) (rec1 : Int → Bool) (k1 : Int → Bool) (x1 : Int) : Bool :=
  bif decide (x1 < (m_.Airways.length : Int)) then bif ((!(m_impl_ValidAirway (at' m_.Airways x1))) || (!(m_impl_Mine_hasEnds m_ (at' m_.Airways x1)))) || ((decide (0 < x1)) && (strB .leq (at' m_.Airways x1).Id (at' m_.Airways (x1 - 1)).Id)) then false else rec1 (x1 + 1) else k1 x1
def m_impl_ValidMine (m_ : gMine) : Bool :=
  bif (!(m_impl_within m_.Junctions 1 16)) || (decide (24 < (m_.Airways.length : Int))) then false else LOOP (m_impl_ValidMine_b1 m_) (fun (x1 : Int) => true) (((m_.Airways.length : Int) - 0 : Int).toNat + 1) 0

/-! ### impl_indexValid_impl_Airway -/
def m_impl_indexValid_impl_Airway (list : List gAirway) (k_ : Int) : Bool :=
  m_impl_within k_ 0 ((list.length : Int) - 1)

/-! ### impl_ValidJobs -/
def m_impl_ValidJobs_b1 (m_ : gMine) (list : List gJob) (rec1 : Int → Bool) (k1 : Int → Bool) (x1 : Int) : Bool :=
  bif decide (x1 < (list.length : Int)) then bif ((!(m_impl_Job_valid (at' list x1))) || (!(m_impl_indexValid_impl_Airway m_.Airways (at' list x1).Airway))) || ((decide (0 < x1)) && (strB .leq (at' list x1).Id (at' list (x1 - 1)).Id)) then false else rec1 (x1 + 1) else k1 x1
def m_impl_ValidJobs (m_ : gMine) (list : List gJob) : Bool :=
  bif (!(m_impl_ValidMine m_)) || (decide (12 < (list.length : Int))) then false else LOOP (m_impl_ValidJobs_b1 m_ list) (fun (x1 : Int) => true) (((list.length : Int) - 0 : Int).toNat + 1) 0

/-! ### slices_IndexFunc_int64 -/
def m_slices_IndexFunc_int64_b1 (s_ : List Int) (f : (Int → Bool)) (rec1 : Int → Int) (k1 : Int → Int) (x1 : Int) : Int :=
  bif decide (x1 < (s_.length : Int)) then bif f (at' s_ x1) then x1 else rec1 (x1 + 1) else k1 x1
def m_slices_IndexFunc_int64 (s_ : List Int) (f : Int → Bool) : Int :=
  LOOP (m_slices_IndexFunc_int64_b1 s_ f) (fun (x1 : Int) => (-1)) (((s_.length : Int) - 0 : Int).toNat + 1) 0

/-! ### slices_ContainsFunc_int64 -/
def m_slices_ContainsFunc_int64 (s_ : List Int) (f : Int → Bool) : Bool :=
  decide (0 ≤ (m_slices_IndexFunc_int64 s_ f))

/-! ### impl_allWithin_1 -/
def m_impl_allWithin_1 (n_ : Int) (p1 : Int) (p2 : Int) : Bool :=
  !(m_impl_within n_ p1 p2)

/-! ### impl_allWithin -/
def m_impl_allWithin (list : List Int) (low : Int) (high : Int) : Bool :=
  !(m_slices_ContainsFunc_int64 list (fun (a0 : Int) => m_impl_allWithin_1 a0 low high))

/-! ### impl_Mine_hasList -/
def m_impl_Mine_hasList (m_ : gMine) (list : List Int) (low : Int) (high : Int) : Bool :=
  ((list.length : Int) == (m_.Airways.length : Int)) && (m_impl_allWithin list low high)

/-! ### impl_Mine_hasFlows -/
def m_impl_Mine_hasFlows (m_ : gMine) (flows : List Int) : Bool :=
  m_impl_Mine_hasList m_ flows (-100000) 100000

/-! ### impl_jobsCode -/
def m_impl_jobsCode (m_ : gMine) (flows : List Int) (list : List gJob) : Int :=
  bif !(m_impl_ValidJobs m_ list) then 1 else bif !(m_impl_Mine_hasFlows m_ flows) then 7 else 0

/-! ### impl_budgetValid -/
def m_impl_budgetValid (budget : Int) : Bool :=
  m_impl_within budget 1 20000

/-! ### slices_IndexFunc_impl_Job -/
def m_slices_IndexFunc_impl_Job_b1 (s_ : List gJob) (f : (gJob → Bool)) (rec1 : Int → Int) (k1 : Int → Int) (x1 : Int) : Int :=
  bif decide (x1 < (s_.length : Int)) then bif f (at' s_ x1) then x1 else rec1 (x1 + 1) else k1 x1
def m_slices_IndexFunc_impl_Job (s_ : List gJob) (f : gJob → Bool) : Int :=
  LOOP (m_slices_IndexFunc_impl_Job_b1 s_ f) (fun (x1 : Int) => (-1)) (((s_.length : Int) - 0 : Int).toNat + 1) 0

/-! ### slices_ContainsFunc_impl_Job -/
def m_slices_ContainsFunc_impl_Job (s_ : List gJob) (f : gJob → Bool) : Bool :=
  decide (0 ≤ (m_slices_IndexFunc_impl_Job s_ f))

/-! ### impl_Job_need -/
def m_impl_Job_need (t : gJob) : Int :=
  IntKind.wrap .i64 ((IntKind.wrap .i64 (10 * t.People)) + (IntKind.wrap .i64 (6 * t.Power)))

/-! ### impl_Mine_airNeeds -/
def m_impl_Mine_airNeeds_b1 (m_ : gMine) (list : List gJob) (rec1 : ((List Int) × Int) → (List Int)) (k1 : ((List Int) × Int) → (List Int)) (x1 : (List Int) × Int) : (List Int) :=
  bif decide (x1.2 < (list.length : Int)) then rec1 (put' x1.1 (at' list x1.2).Airway (IntKind.wrap .i64 ((at' x1.1 (at' list x1.2).Airway) + (m_impl_Job_need (at' list x1.2)))), x1.2 + 1) else k1 (x1.1, x1.2)
def m_impl_Mine_airNeeds (m_ : gMine) (list : List gJob) : (List Int) :=
  LOOP (m_impl_Mine_airNeeds_b1 m_ list) (fun (x1 : (List Int) × Int) => x1.1) (((list.length : Int) - 0 : Int).toNat + 1) (List.replicate ((m_.Airways.length : Int) : Int).toNat (0 : Int), 0)

/-! ### impl_abs -/
def m_impl_abs (n_ : Int) : Int :=
  if n_ < (IntKind.wrap .i64 (0 - n_)) then (IntKind.wrap .i64 (0 - n_)) else n_

/-! ### impl_Mine_fitJobs -/
def m_impl_Mine_fitJobs_b1 (m_ : gMine) (flows : List Int) (list : List gJob) (rec1 : Int → Bool) (k1 : Int → Bool) (x1 : Int) : Bool :=
  bif decide (x1 < ((m_impl_Mine_airNeeds m_ list).length : Int)) then bif decide ((m_impl_abs (at' flows x1)) < (at' (m_impl_Mine_airNeeds m_ list) x1)) then false else rec1 (x1 + 1) else k1 x1
def m_impl_Mine_fitJobs (m_ : gMine) (flows : List Int) (list : List gJob) : Bool :=
  LOOP (m_impl_Mine_fitJobs_b1 m_ flows list) (fun (x1 : Int) => true) ((((m_impl_Mine_airNeeds m_ list).length : Int) - 0 : Int).toNat + 1) 0

/-! ### impl_FewestShifts_1 -/
def m_impl_FewestShifts_1 (t : gJob) (p1 : gMine) (p2 : List Int) : Bool :=
  !(m_impl_Mine_fitJobs p1 p2 ([t] : List gJob))

/-! ### impl_shiftSearch_extend -/
def m_impl_shiftSearch_extend_b2 (self_ : gshiftSearch → Int → Int → (Bool × gshiftSearch)) (s_ : gshiftSearch) (n_ : Int) (used : Int) (rec1 : (Int × Int × (List Int)) → (Bool × gshiftSearch)) (k1 : (Int × Int × (List Int)) → (Bool × gshiftSearch)) (x1 : Int × Int × (List Int)) (rec2 : ((List gJob) × Int) → (Bool × gshiftSearch)) (k2 : ((List gJob) × Int) → (Bool × gshiftSearch)) (x2 : (List gJob) × Int) : Bool × gshiftSearch :=
  bif decide (x2.2 < (x1.2.2.length : Int)) then bif (at' x1.2.2 x2.2) == x1.1 then rec2 (x2.1 ++ ([at' s_.list x2.2] : List gJob), x2.2 + 1) else rec2 (x2.1, x2.2 + 1) else k2 (x2.1, x2.2)
def m_impl_shiftSearch_extend_b1 (self_ : gshiftSearch → Int → Int → (Bool × gshiftSearch)) (s_ : gshiftSearch) (n_ : Int) (used : Int) (rec1 : (Int × Int × (List Int)) → (Bool × gshiftSearch)) (k1 : (Int × Int × (List Int)) → (Bool × gshiftSearch)) (x1 : Int × Int × (List Int)) : Bool × gshiftSearch :=
  bif decide (x1.1 < (if (IntKind.wrap .i64 (used + 1)) < n_ then (IntKind.wrap .i64 (used + 1)) else n_)) then LOOP (m_impl_shiftSearch_extend_b2 self_ s_ n_ used rec1 k1 x1) (fun (x2 : (List gJob) × Int) => bif !(m_impl_Mine_fitJobs s_.mine s_.flows x2.1) then rec1 (x1.1 + 1, x1.2.1, x1.2.2) else bif decide ((IntKind.wrap .i64 (x1.2.1 - 1)) < 0) then (false, gshiftSearch.mk s_.mine s_.flows s_.list (IntKind.wrap .i64 (x1.2.1 - 1)) x1.2.2) else bif (self_ (gshiftSearch.mk s_.mine s_.flows s_.list (IntKind.wrap .i64 (x1.2.1 - 1)) (x1.2.2 ++ ([x1.1] : List Int))) n_ (if used < (x1.1 + 1) then (x1.1 + 1) else used)).1 then (true, gshiftSearch.mk s_.mine s_.flows s_.list (self_ (gshiftSearch.mk s_.mine s_.flows s_.list (IntKind.wrap .i64 (x1.2.1 - 1)) (x1.2.2 ++ ([x1.1] : List Int))) n_ (if used < (x1.1 + 1) then (x1.1 + 1) else used)).2.budget (self_ (gshiftSearch.mk s_.mine s_.flows s_.list (IntKind.wrap .i64 (x1.2.1 - 1)) (x1.2.2 ++ ([x1.1] : List Int))) n_ (if used < (x1.1 + 1) then (x1.1 + 1) else used)).2.shifts) else bif decide ((self_ (gshiftSearch.mk s_.mine s_.flows s_.list (IntKind.wrap .i64 (x1.2.1 - 1)) (x1.2.2 ++ ([x1.1] : List Int))) n_ (if used < (x1.1 + 1) then (x1.1 + 1) else used)).2.budget < 0) then (false, gshiftSearch.mk s_.mine s_.flows s_.list (self_ (gshiftSearch.mk s_.mine s_.flows s_.list (IntKind.wrap .i64 (x1.2.1 - 1)) (x1.2.2 ++ ([x1.1] : List Int))) n_ (if used < (x1.1 + 1) then (x1.1 + 1) else used)).2.budget (pre' (self_ (gshiftSearch.mk s_.mine s_.flows s_.list (IntKind.wrap .i64 (x1.2.1 - 1)) (x1.2.2 ++ ([x1.1] : List Int))) n_ (if used < (x1.1 + 1) then (x1.1 + 1) else used)).2.shifts (s_.shifts.length : Int))) else rec1 (x1.1 + 1, (self_ (gshiftSearch.mk s_.mine s_.flows s_.list (IntKind.wrap .i64 (x1.2.1 - 1)) (x1.2.2 ++ ([x1.1] : List Int))) n_ (if used < (x1.1 + 1) then (x1.1 + 1) else used)).2.budget, pre' (self_ (gshiftSearch.mk s_.mine s_.flows s_.list (IntKind.wrap .i64 (x1.2.1 - 1)) (x1.2.2 ++ ([x1.1] : List Int))) n_ (if used < (x1.1 + 1) then (x1.1 + 1) else used)).2.shifts (s_.shifts.length : Int))) (((x1.2.2.length : Int) - 0 : Int).toNat + 1) (([at' s_.list (s_.shifts.length : Int)] : List gJob), 0) else k1 (x1.1, x1.2.1, x1.2.2)
def m_impl_shiftSearch_extend_body (self_ : gshiftSearch → Int → Int → (Bool × gshiftSearch)) (s_ : gshiftSearch) (n_ : Int) (used : Int) : Bool × gshiftSearch :=
  bif (s_.shifts.length : Int) == (s_.list.length : Int) then (true, s_) else LOOP (m_impl_shiftSearch_extend_b1 self_ s_ n_ used) (fun (x1 : Int × Int × (List Int)) => (false, gshiftSearch.mk s_.mine s_.flows s_.list x1.2.1 x1.2.2)) (((if (IntKind.wrap .i64 (used + 1)) < n_ then (IntKind.wrap .i64 (used + 1)) else n_) - 0 : Int).toNat + 1) (0, s_.budget, s_.shifts)
def m_impl_shiftSearch_extend_n : Nat → gshiftSearch → Int → Int → (Bool × gshiftSearch)
  | 0 => fun _ _ _ => default
  | fuel + 1 => m_impl_shiftSearch_extend_body (m_impl_shiftSearch_extend_n fuel)
def m_impl_shiftSearch_extend (s_ : gshiftSearch) (n_ : Int) (used : Int) : Bool × gshiftSearch := m_impl_shiftSearch_extend_n (((s_.list.length : Int) - s_.shifts.length).toNat + 1) s_ n_ used

/-! ### impl_FewestShifts -/
def m_impl_FewestShifts_b1 (m_ : gMine) (flows : List Int) (list : List gJob) (budget : Int) (rec1 : (Int × (List Int) × Int) → ((List Int) × Int × Int)) (k1 : (Int × (List Int) × Int) → ((List Int) × Int × Int)) (x1 : Int × (List Int) × Int) : (List Int) × Int × Int :=
  bif (m_impl_shiftSearch_extend (gshiftSearch.mk m_ flows list x1.1 x1.2.1) x1.2.2 0).1 then ((m_impl_shiftSearch_extend (gshiftSearch.mk m_ flows list x1.1 x1.2.1) x1.2.2 0).2.shifts, x1.2.2, 0) else bif decide ((m_impl_shiftSearch_extend (gshiftSearch.mk m_ flows list x1.1 x1.2.1) x1.2.2 0).2.budget < 0) then (([] : List Int), 0, 5) else rec1 ((m_impl_shiftSearch_extend (gshiftSearch.mk m_ flows list x1.1 x1.2.1) x1.2.2 0).2.budget, (m_impl_shiftSearch_extend (gshiftSearch.mk m_ flows list x1.1 x1.2.1) x1.2.2 0).2.shifts, x1.2.2 + 1)
def m_impl_FewestShifts (m_ : gMine) (flows : List Int) (list : List gJob) (budget : Int) : (List Int) × Int × Int :=
  bif (m_impl_jobsCode m_ flows list) == 1 then (([] : List Int), 0, m_impl_jobsCode m_ flows list) else bif !(m_impl_budgetValid budget) then (([] : List Int), 0, 2) else bif (m_impl_jobsCode m_ flows list) != 0 then (([] : List Int), 0, m_impl_jobsCode m_ flows list) else bif m_slices_ContainsFunc_impl_Job list (fun (a0 : gJob) => m_impl_FewestShifts_1 a0 m_ flows) then (([] : List Int), 0, 3) else LOOP (m_impl_FewestShifts_b1 m_ flows list budget) (fun (x1 : Int × (List Int) × Int) => default) ((2 * budget + 1).toNat + 1) (budget, ([] : List Int), 0)

/-! ### laws_FnExactFewestShifts -/
def m_laws_FnExactFewestShifts (aM : gMine) (aFlows : List Int) (aList : List gJob) (aBudget : Int) : Bool :=
  bif decide (1048576 < (aFlows.length : Int)) then true else bif decide ((m_laws_szMine aM 1048576) < 0) then true else bif decide ((m_laws_szJobS aList (m_laws_szMine aM 1048576)) < 0) then true else bif ((!(m_laws_eqInt64S (m_impl_FewestShifts (m_laws_toMine aM) (m_laws_toInt64S aFlows) (m_laws_toJobS aList) aBudget).1 (m_spec_FewestShifts (m_laws_toMine aM) (m_laws_toInt64S aFlows) (m_laws_toJobS aList) aBudget).1)) || ((m_impl_FewestShifts (m_laws_toMine aM) (m_laws_toInt64S aFlows) (m_laws_toJobS aList) aBudget).2.1 != (m_spec_FewestShifts (m_laws_toMine aM) (m_laws_toInt64S aFlows) (m_laws_toJobS aList) aBudget).2.1)) || ((m_impl_FewestShifts (m_laws_toMine aM) (m_laws_toInt64S aFlows) (m_laws_toJobS aList) aBudget).2.2 != (m_spec_FewestShifts (m_laws_toMine aM) (m_laws_toInt64S aFlows) (m_laws_toJobS aList) aBudget).2.2) then false else bif !(m_laws_eqMine (m_laws_toMine aM) (m_laws_toMine aM)) then false else bif !(m_laws_eqInt64S (m_laws_toInt64S aFlows) (m_laws_toInt64S aFlows)) then false else bif !(m_laws_eqJobS (m_laws_toJobS aList) (m_laws_toJobS aList)) then false else bif (((decide ((m_laws_markJobS (m_laws_toJobS aList) (m_laws_markInt64S (m_laws_toInt64S aFlows) (m_laws_markMine (m_laws_toMine aM) 1).1).1).1 < 0)) || (!(m_laws_eqInt64S (m_impl_FewestShifts (m_laws_toMine aM) (m_laws_toInt64S aFlows) (m_laws_toJobS aList) aBudget).1 (m_spec_FewestShifts (m_laws_toMine aM) (m_laws_toInt64S aFlows) (m_laws_toJobS aList) aBudget).1))) || ((m_impl_FewestShifts (m_laws_toMine aM) (m_laws_toInt64S aFlows) (m_laws_toJobS aList) aBudget).2.1 != (m_spec_FewestShifts (m_laws_toMine aM) (m_laws_toInt64S aFlows) (m_laws_toJobS aList) aBudget).2.1)) || ((m_impl_FewestShifts (m_laws_toMine aM) (m_laws_toInt64S aFlows) (m_laws_toJobS aList) aBudget).2.2 != (m_spec_FewestShifts (m_laws_toMine aM) (m_laws_toInt64S aFlows) (m_laws_toJobS aList) aBudget).2.2) then false else bif decide ((m_laws_heldInt64S (m_laws_markInt64S (m_impl_FewestShifts (m_laws_toMine aM) (m_laws_toInt64S aFlows) (m_laws_toJobS aList) aBudget).1 1).2 1) < 0) then false else bif (m_laws_heldInt64S (m_laws_markInt64S (m_impl_FewestShifts (m_laws_toMine aM) (m_laws_toInt64S aFlows) (m_laws_toJobS aList) aBudget).1 1).2 1) != (m_laws_markInt64S (m_impl_FewestShifts (m_laws_toMine aM) (m_laws_toInt64S aFlows) (m_laws_toJobS aList) aBudget).1 1).1 then false else bif ((!(m_laws_eqInt64S (m_impl_FewestShifts (m_laws_toMine aM) (m_laws_toInt64S aFlows) (m_laws_toJobS aList) aBudget).1 (m_spec_FewestShifts (m_laws_toMine aM) (m_laws_toInt64S aFlows) (m_laws_toJobS aList) aBudget).1)) || ((m_impl_FewestShifts (m_laws_toMine aM) (m_laws_toInt64S aFlows) (m_laws_toJobS aList) aBudget).2.1 != (m_spec_FewestShifts (m_laws_toMine aM) (m_laws_toInt64S aFlows) (m_laws_toJobS aList) aBudget).2.1)) || ((m_impl_FewestShifts (m_laws_toMine aM) (m_laws_toInt64S aFlows) (m_laws_toJobS aList) aBudget).2.2 != (m_spec_FewestShifts (m_laws_toMine aM) (m_laws_toInt64S aFlows) (m_laws_toJobS aList) aBudget).2.2) then false else bif decide ((m_laws_heldInt64S (m_laws_markInt64S (m_impl_FewestShifts (m_laws_toMine aM) (m_laws_toInt64S aFlows) (m_laws_toJobS aList) aBudget).1 1).2 1) < 0) then false else bif (m_laws_heldInt64S (m_laws_markInt64S (m_impl_FewestShifts (m_laws_toMine aM) (m_laws_toInt64S aFlows) (m_laws_toJobS aList) aBudget).1 1).2 1) != (m_laws_markInt64S (m_impl_FewestShifts (m_laws_toMine aM) (m_laws_toInt64S aFlows) (m_laws_toJobS aList) aBudget).1 1).1 then false else true

end Go.Proofs.Ytchjibndocnnhaa
