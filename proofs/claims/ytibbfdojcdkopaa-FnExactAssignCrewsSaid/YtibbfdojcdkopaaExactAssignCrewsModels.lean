/-
  PLAIN MODELS of the Go functions that the law reaches, printed by a program of this claim. Conditions: none; nothing is claimed here.
-/
import Derived.Test.YtibbfdojcdkopaaEngN
set_option linter.unusedVariables false
set_option linter.unusedSimpArgs false
set_option linter.unusedSectionVars false
set_option linter.unnecessarySimpa false
namespace Go.Proofs.Ytibbfdojcdkopaa
open Go Go.RowKit Go.Proofs Go.Proofs.Ytibbfdojcdkopaa.E
structure gAirway where
  Id : List UInt8
  From : Int
  To : Int
  Length : Int
  Section : Int
  Friction : Int
  Shock : Int
instance : Inhabited gAirway := ⟨gAirway.mk default default default default default default default⟩
abbrev gAirway.v (x : gAirway) : V := .st [.str x.Id, .int .i64 x.From, .int .i64 x.To, .int .i64 x.Length, .int .i64 x.Section, .int .i64 x.Friction, .int .i64 x.Shock]
structure gMine where
  Junctions : Int
  Airways : List gAirway
instance : Inhabited gMine := ⟨gMine.mk default default⟩
abbrev gMine.v (x : gMine) : V := .st [.int .i64 x.Junctions, .sl 7 (x.Airways.map gAirway.v)]
structure gCrew where
  Id : List UInt8
  Junction : Int
  Speed : Int
instance : Inhabited gCrew := ⟨gCrew.mk default default default⟩
abbrev gCrew.v (x : gCrew) : V := .st [.str x.Id, .int .i64 x.Junction, .int .i64 x.Speed]
structure gRefuge where
  Id : List UInt8
  Junction : Int
  Places : Int
  Air : Int
instance : Inhabited gRefuge := ⟨gRefuge.mk default default default default⟩
abbrev gRefuge.v (x : gRefuge) : V := .st [.str x.Id, .int .i64 x.Junction, .int .i64 x.Places, .int .i64 x.Air]
structure gl20Search where
  sizes : List Int
  reach : List (List Int)
  left : List Int
  rest : List Int
  places : List Int
  best : List Int
  most : Int
  nodes : Int
  budget : Int
  full : Bool
instance : Inhabited gl20Search := ⟨gl20Search.mk default default default default default default default default default default⟩
abbrev gl20Search.v (x : gl20Search) : V := .st [.sl 1 (x.sizes.map (V.int .i64)), .sl 1 (x.reach.map (slv 1 (V.int .i64))), .sl 1 (x.left.map (V.int .i64)), .sl 1 (x.rest.map (V.int .i64)), .sl 1 (x.places.map (V.int .i64)), .sl 1 (x.best.map (V.int .i64)), .int .i64 x.most, .int .i64 x.nodes, .int .i64 x.budget, .bool x.full]
structure gescape where
  mine : gMine
  arrivals : List Int
  blocked : Int
instance : Inhabited gescape := ⟨gescape.mk default default default⟩
abbrev gescape.v (x : gescape) : V := .st [.int .i64 x.mine.Junctions, .sl 7 (x.mine.Airways.map gAirway.v), .sl 1 (x.arrivals.map (V.int .i64)), .int .i64 x.blocked]
structure gplaceSearch where
  sizes : List Int
  reached : List (List Int)
  free : List Int
  budget : Int
  places : List Int
  best : List Int
  most : Int
instance : Inhabited gplaceSearch := ⟨gplaceSearch.mk default default default default default default default⟩
abbrev gplaceSearch.v (x : gplaceSearch) : V := .st [.sl 1 (x.sizes.map (V.int .i64)), .sl 1 (x.reached.map (slv 1 (V.int .i64))), .sl 1 (x.free.map (V.int .i64)), .int .i64 x.budget, .sl 1 (x.places.map (V.int .i64)), .sl 1 (x.best.map (V.int .i64)), .int .i64 x.most]

/-! ### laws_szAirway -/
def m_laws_szAirway (a : gAirway) (left : Int) : Int :=
  bif decide ((IntKind.wrap .i64 (left - (a.Id.length : Int))) < 0) then (-1) else IntKind.wrap .i64 (left - (a.Id.length : Int))

/-! ### laws_szAirwayS -/
def m_laws_szAirwayS_b1 (a : List gAirway) (left : Int) (rec1 : (Int × Int) → Int) (k1 : (Int × Int) → Int) (x1 : Int × Int) : Int :=
  bif decide (x1.2 < (a.length : Int)) then bif decide ((m_laws_szAirway (at' a x1.2) x1.1) < 0) then (-1) else rec1 (m_laws_szAirway (at' a x1.2) x1.1, x1.2 + 1) else k1 (x1.1, x1.2)
def m_laws_szAirwayS (a : List gAirway) (left : Int) : Int :=
  bif decide ((IntKind.wrap .i64 (left - (a.length : Int))) < 0) then (-1) else LOOP (m_laws_szAirwayS_b1 a left) (fun (x1 : Int × Int) => x1.1) (((a.length : Int) - 0 : Int).toNat + 1) (IntKind.wrap .i64 (left - (a.length : Int)), 0)

/-! ### laws_szMine -/
def m_laws_szMine (a : gMine) (left : Int) : Int :=
  bif decide ((m_laws_szAirwayS a.Airways left) < 0) then (-1) else m_laws_szAirwayS a.Airways left

/-! ### laws_szCrew -/
def m_laws_szCrew (a : gCrew) (left : Int) : Int :=
  bif decide ((IntKind.wrap .i64 (left - (a.Id.length : Int))) < 0) then (-1) else IntKind.wrap .i64 (left - (a.Id.length : Int))

/-! ### laws_szCrewS -/
def m_laws_szCrewS_b1 (a : List gCrew) (left : Int) (rec1 : (Int × Int) → Int) (k1 : (Int × Int) → Int) (x1 : Int × Int) : Int :=
  bif decide (x1.2 < (a.length : Int)) then bif decide ((m_laws_szCrew (at' a x1.2) x1.1) < 0) then (-1) else rec1 (m_laws_szCrew (at' a x1.2) x1.1, x1.2 + 1) else k1 (x1.1, x1.2)
def m_laws_szCrewS (a : List gCrew) (left : Int) : Int :=
  bif decide ((IntKind.wrap .i64 (left - (a.length : Int))) < 0) then (-1) else LOOP (m_laws_szCrewS_b1 a left) (fun (x1 : Int × Int) => x1.1) (((a.length : Int) - 0 : Int).toNat + 1) (IntKind.wrap .i64 (left - (a.length : Int)), 0)

/-! ### laws_szRefuge -/
def m_laws_szRefuge (a : gRefuge) (left : Int) : Int :=
  bif decide ((IntKind.wrap .i64 (left - (a.Id.length : Int))) < 0) then (-1) else IntKind.wrap .i64 (left - (a.Id.length : Int))

/-! ### laws_szRefugeS -/
def m_laws_szRefugeS_b1 (a : List gRefuge) (left : Int) (rec1 : (Int × Int) → Int) (k1 : (Int × Int) → Int) (x1 : Int × Int) : Int :=
  bif decide (x1.2 < (a.length : Int)) then bif decide ((m_laws_szRefuge (at' a x1.2) x1.1) < 0) then (-1) else rec1 (m_laws_szRefuge (at' a x1.2) x1.1, x1.2 + 1) else k1 (x1.1, x1.2)
def m_laws_szRefugeS (a : List gRefuge) (left : Int) : Int :=
  bif decide ((IntKind.wrap .i64 (left - (a.length : Int))) < 0) then (-1) else LOOP (m_laws_szRefugeS_b1 a left) (fun (x1 : Int × Int) => x1.1) (((a.length : Int) - 0 : Int).toNat + 1) (IntKind.wrap .i64 (left - (a.length : Int)), 0)

/-! ### spec_l00In -/
def m_spec_l00In (n_ : Int) (low : Int) (high : Int) : Bool :=
  (decide (low ≤ n_)) && (decide (n_ ≤ high))

/-! ### spec_l01Small -/
def m_spec_l01Small (c_ : Int) : Bool :=
  (decide (97 ≤ c_)) && (decide (c_ ≤ 122))

/-! ### spec_l01Digit -/
def m_spec_l01Digit (c_ : Int) : Bool :=
  (decide (48 ≤ c_)) && (decide (c_ ≤ 57))

/-! ### spec_l01Name -/
def m_spec_l01Name_b1 (s_ : List UInt8) (rec1 : Int → Bool) (k1 : Int → Bool) (x1 : Int) : Bool :=
  bif decide (x1 < (s_.length : Int)) then bif (!(m_spec_l01Small (((s_.getD x1.toNat 0).toNat : Nat) : Int))) && (!(m_spec_l01Digit (((s_.getD x1.toNat 0).toNat : Nat) : Int))) then false else rec1 (x1 + 1) else k1 x1
def m_spec_l01Name (s_ : List UInt8) : Bool :=
  bif ((strB .eql s_ ([] : List UInt8)) || (decide (10 < (s_.length : Int)))) || (!(m_spec_l01Small (((s_.getD (0 : Int).toNat 0).toNat : Nat) : Int))) then false else LOOP (m_spec_l01Name_b1 s_) (fun (x1 : Int) => true) (((s_.length : Int) - 0 : Int).toNat + 1) 0

/-! ### spec_l03Ok -/
def m_spec_l03Ok (a : gAirway) : Bool :=
  bif (((!(m_spec_l01Name a.Id)) || (!(m_spec_l00In a.From 0 15))) || (!(m_spec_l00In a.To 0 15))) || (a.From == a.To) then false else (((m_spec_l00In a.Length 1 10000) && (m_spec_l00In a.Section 50 5000)) && (m_spec_l00In a.Friction 1 1000)) && (m_spec_l00In a.Shock 0 1000)

/-! ### spec_l04Junction -/
def m_spec_l04Junction (m_ : gMine) (j : Int) : Bool :=
  m_spec_l00In j 0 (IntKind.wrap .i64 (m_.Junctions - 1))

/-! ### spec_l04Ok -/
def m_spec_l04Ok_b1 (m_ : gMine) (rec1 : Int → Bool) (k1 : Int → Bool) (x1 : Int) : Bool :=
  bif decide (x1 < (m_.Airways.length : Int)) then bif (((!(m_spec_l03Ok (at' m_.Airways x1))) || (!(m_spec_l04Junction m_ (at' m_.Airways x1).From))) || (!(m_spec_l04Junction m_ (at' m_.Airways x1).To))) || ((decide (0 < x1)) && (strB .geq (at' m_.Airways (x1 - 1)).Id (at' m_.Airways x1).Id)) then false else rec1 (x1 + 1) else k1 x1
def m_spec_l04Ok (m_ : gMine) : Bool :=
  bif !(m_spec_l00In m_.Junctions 1 16) then false else LOOP (m_spec_l04Ok_b1 m_) (fun (x1 : Int) => decide ((m_.Airways.length : Int) ≤ 24)) (((m_.Airways.length : Int) - 0 : Int).toNat + 1) 0

/-! ### spec_l20One -/
def m_spec_l20One (x_ : gRefuge) : Bool :=
  (((m_spec_l01Name x_.Id) && (m_spec_l00In x_.Junction 0 15)) && (m_spec_l00In x_.Places 1 200)) && (m_spec_l00In x_.Air 0 10000000)

/-! ### spec_l20Ok -/
def m_spec_l20Ok_b1 (m_ : gMine) (list : List gRefuge) (rec1 : Int → Bool) (k1 : Int → Bool) (x1 : Int) : Bool :=
  bif decide (x1 < (list.length : Int)) then bif ((!(m_spec_l20One (at' list x1))) || (decide (m_.Junctions ≤ (at' list x1).Junction))) || ((decide (0 < x1)) && (strB .geq (at' list (x1 - 1)).Id (at' list x1).Id)) then false else rec1 (x1 + 1) else k1 x1
def m_spec_l20Ok (m_ : gMine) (list : List gRefuge) : Bool :=
  bif (!(m_spec_l04Ok m_)) || (decide (8 < (list.length : Int))) then false else LOOP (m_spec_l20Ok_b1 m_ list) (fun (x1 : Int) => true) (((list.length : Int) - 0 : Int).toNat + 1) 0

/-! ### spec_l19One -/
def m_spec_l19One (c_ : gCrew) : Bool :=
  ((m_spec_l01Name c_.Id) && (m_spec_l00In c_.Junction 0 15)) && (m_spec_l00In c_.Speed 10 300)

/-! ### spec_l19List -/
def m_spec_l19List_b1 (m_ : gMine) (list : List gCrew) (rec1 : Int → Bool) (k1 : Int → Bool) (x1 : Int) : Bool :=
  bif decide (x1 < (list.length : Int)) then bif ((!(m_spec_l19One (at' list x1))) || (decide (m_.Junctions ≤ (at' list x1).Junction))) || ((decide (0 < x1)) && (strB .geq (at' list (x1 - 1)).Id (at' list x1).Id)) then false else rec1 (x1 + 1) else k1 x1
def m_spec_l19List (m_ : gMine) (list : List gCrew) : Bool :=
  LOOP (m_spec_l19List_b1 m_ list) (fun (x1 : Int) => decide ((list.length : Int) ≤ 8)) (((list.length : Int) - 0 : Int).toNat + 1) 0

/-! ### spec_l17Time -/
def m_spec_l17Time (t : Int) : Bool :=
  m_spec_l00In t 0 36000

/-! ### spec_l19Arrivals -/
def m_spec_l19Arrivals_b1 (m_ : gMine) (arrivals : List Int) (rec1 : Int → Bool) (k1 : Int → Bool) (x1 : Int) : Bool :=
  bif decide (x1 < (arrivals.length : Int)) then bif !(m_spec_l00In (at' arrivals x1) (-1) 1000000000000) then false else rec1 (x1 + 1) else k1 x1
def m_spec_l19Arrivals (m_ : gMine) (arrivals : List Int) : Bool :=
  LOOP (m_spec_l19Arrivals_b1 m_ arrivals) (fun (x1 : Int) => (arrivals.length : Int) == m_.Junctions) (((arrivals.length : Int) - 0 : Int).toNat + 1) 0

/-! ### spec_l20Sizes -/
def m_spec_l20Sizes_b1 (sizes : List Int) (rec1 : Int → Bool) (k1 : Int → Bool) (x1 : Int) : Bool :=
  bif decide (x1 < (sizes.length : Int)) then bif !(m_spec_l00In (at' sizes x1) 1 200) then false else rec1 (x1 + 1) else k1 x1
def m_spec_l20Sizes (sizes : List Int) : Bool :=
  LOOP (m_spec_l20Sizes_b1 sizes) (fun (x1 : Int) => true) (((sizes.length : Int) - 0 : Int).toNat + 1) 0

/-! ### spec_l19Safe -/
def m_spec_l19Safe (arrivals : List Int) (j : Int) (time : Int) : Bool :=
  (decide ((at' arrivals j) < 0)) || (decide (time < (at' arrivals j)))

/-! ### spec_l19Walk -/
def m_spec_l19Walk (a : gAirway) (speed : Int) : Int :=
  IntKind.wrap .i64 (Int.tdiv (IntKind.wrap .i64 ((IntKind.wrap .i64 ((IntKind.wrap .i64 (100 * a.Length)) + speed)) - 1)) speed)

/-! ### spec_l19Go -/
def m_spec_l19Go (arrivals : List Int) (times : List Int) (from_ : Int) (to : Int) (n_ : Int) : (List Int) :=
  bif decide ((at' times from_) < 0) then times else bif (m_spec_l19Safe arrivals to (IntKind.wrap .i64 ((at' times from_) + n_))) && ((decide ((at' times to) < 0)) || (decide ((IntKind.wrap .i64 ((at' times from_) + n_)) < (at' times to)))) then put' times to (IntKind.wrap .i64 ((at' times from_) + n_)) else times

/-! ### spec_l19Times -/
def m_spec_l19Times_b3 (m_ : gMine) (arrivals : List Int) (blocked : Int) (c_ : gCrew) (start : Int) (x1 : (List Int) × Int) (rec2 : ((List Int) × Int) → (List Int)) (k2 : ((List Int) × Int) → (List Int)) (x2 : (List Int) × Int) (rec3 : (Int × (List Int)) → (List Int)) (k3 : (Int × (List Int)) → (List Int)) (x3 : Int × (List Int)) : (List Int) :=
  bif decide (x3.1 < (m_.Airways.length : Int)) then bif x3.1 == blocked then rec3 (x3.1 + 1, x3.2) else rec3 (x3.1 + 1, m_spec_l19Go arrivals (m_spec_l19Go arrivals x3.2 (at' m_.Airways x3.1).From (at' m_.Airways x3.1).To (m_spec_l19Walk (at' m_.Airways x3.1) c_.Speed)) (at' m_.Airways x3.1).To (at' m_.Airways x3.1).From (m_spec_l19Walk (at' m_.Airways x3.1) c_.Speed)) else k3 (x3.1, x3.2)
def m_spec_l19Times_b2 (m_ : gMine) (arrivals : List Int) (blocked : Int) (c_ : gCrew) (start : Int) (x1 : (List Int) × Int) (rec2 : ((List Int) × Int) → (List Int)) (k2 : ((List Int) × Int) → (List Int)) (x2 : (List Int) × Int) : (List Int) :=
  bif decide (x2.2 < m_.Junctions) then LOOP (m_spec_l19Times_b3 m_ arrivals blocked c_ start x1 rec2 k2 x2) (fun (x3 : Int × (List Int)) => rec2 (x3.2, x2.2 + 1)) (((m_.Airways.length : Int) - 0 : Int).toNat + 1) (0, x2.1) else k2 (x2.1, x2.2)
def m_spec_l19Times_b1 (m_ : gMine) (arrivals : List Int) (blocked : Int) (c_ : gCrew) (start : Int) (rec1 : ((List Int) × Int) → (List Int)) (k1 : ((List Int) × Int) → (List Int)) (x1 : (List Int) × Int) : (List Int) :=
  bif decide (x1.2 < m_.Junctions) then rec1 (x1.1 ++ ([(-1)] : List Int), x1.2 + 1) else k1 (x1.1, x1.2)
def m_spec_l19Times (m_ : gMine) (arrivals : List Int) (blocked : Int) (c_ : gCrew) (start : Int) : (List Int) :=
  LOOP (m_spec_l19Times_b1 m_ arrivals blocked c_ start) (fun (x1 : (List Int) × Int) => bif !(m_spec_l19Safe arrivals c_.Junction start) then x1.1 else LOOP (m_spec_l19Times_b2 m_ arrivals blocked c_ start x1) (fun (x2 : (List Int) × Int) => x2.1) ((m_.Junctions - 0 : Int).toNat + 1) (put' x1.1 c_.Junction start, 0)) ((m_.Junctions - 0 : Int).toNat + 1) (([] : List Int), 0)

/-! ### spec_l00Own -/
def m_spec_l00Own (list : List Int) : (List Int) :=
  ([] : List Int) ++ list

/-! ### spec_l20Search_node -/
def m_spec_l20Search_node (x_ : gl20Search) (bound : Int) : Bool × gl20Search :=
  bif decide (bound ≤ x_.most) then (false, x_) else JN (fun j8 => bif x_.nodes == x_.budget then j8 true else j8 x_.full) (fun (v7 : Bool) => bif v7 then (false, gl20Search.mk x_.sizes x_.reach x_.left x_.rest x_.places x_.best x_.most x_.nodes x_.budget v7) else (true, gl20Search.mk x_.sizes x_.reach x_.left x_.rest x_.places x_.best x_.most (IntKind.wrap .i64 (x_.nodes + 1)) x_.budget v7))

/-! ### spec_l20Search_run -/
def m_spec_l20Search_run_b1 (self_ : gl20Search → Int → gl20Search) (x_ : gl20Search) (sum : Int) (rec1 : (Int × Bool × Int × (List (List Int)) × (List Int) × (List Int) × (List Int) × (List Int) × Int) → gl20Search) (k1 : (Int × Bool × Int × (List (List Int)) × (List Int) × (List Int) × (List Int) × (List Int) × Int) → gl20Search) (x1 : Int × Bool × Int × (List (List Int)) × (List Int) × (List Int) × (List Int) × (List Int) × Int) : gl20Search :=
  bif decide (x1.2.2.1 < ((at' x1.2.2.2.1 (x_.places.length : Int)).length : Int)) then JN (fun j14 => j14 (at' (at' x1.2.2.2.1 (x_.places.length : Int)) x1.2.2.1, (decide ((at' x1.2.2.2.2.1 (at' (at' x1.2.2.2.1 (x_.places.length : Int)) x1.2.2.1)) < (at' x_.sizes (x_.places.length : Int)))) || (!(m_spec_l20Search_node (gl20Search.mk x_.sizes x1.2.2.2.1 x1.2.2.2.2.1 x1.2.2.2.2.2.1 x1.2.2.2.2.2.2.1 x1.2.2.2.2.2.2.2.1 x1.2.2.2.2.2.2.2.2 x1.1 x_.budget x1.2.1) (IntKind.wrap .i64 (sum + (at' x1.2.2.2.2.2.1 (x_.places.length : Int))))).1), (bif (!(decide ((at' x1.2.2.2.2.1 (at' (at' x1.2.2.2.1 (x_.places.length : Int)) x1.2.2.1)) < (at' x_.sizes (x_.places.length : Int))))) then (gl20Search.mk x_.sizes x1.2.2.2.1 x1.2.2.2.2.1 x1.2.2.2.2.2.1 x1.2.2.2.2.2.2.1 x1.2.2.2.2.2.2.2.1 x1.2.2.2.2.2.2.2.2 (m_spec_l20Search_node (gl20Search.mk x_.sizes x1.2.2.2.1 x1.2.2.2.2.1 x1.2.2.2.2.2.1 x1.2.2.2.2.2.2.1 x1.2.2.2.2.2.2.2.1 x1.2.2.2.2.2.2.2.2 x1.1 x_.budget x1.2.1) (IntKind.wrap .i64 (sum + (at' x1.2.2.2.2.2.1 (x_.places.length : Int))))).2.nodes x_.budget (m_spec_l20Search_node (gl20Search.mk x_.sizes x1.2.2.2.1 x1.2.2.2.2.1 x1.2.2.2.2.2.1 x1.2.2.2.2.2.2.1 x1.2.2.2.2.2.2.2.1 x1.2.2.2.2.2.2.2.2 x1.1 x_.budget x1.2.1) (IntKind.wrap .i64 (sum + (at' x1.2.2.2.2.2.1 (x_.places.length : Int))))).2.full) else (gl20Search.mk x_.sizes x1.2.2.2.1 x1.2.2.2.2.1 x1.2.2.2.2.2.1 x1.2.2.2.2.2.2.1 x1.2.2.2.2.2.2.2.1 x1.2.2.2.2.2.2.2.2 x1.1 x_.budget x1.2.1)).nodes, (bif (!(decide ((at' x1.2.2.2.2.1 (at' (at' x1.2.2.2.1 (x_.places.length : Int)) x1.2.2.1)) < (at' x_.sizes (x_.places.length : Int))))) then (gl20Search.mk x_.sizes x1.2.2.2.1 x1.2.2.2.2.1 x1.2.2.2.2.2.1 x1.2.2.2.2.2.2.1 x1.2.2.2.2.2.2.2.1 x1.2.2.2.2.2.2.2.2 (m_spec_l20Search_node (gl20Search.mk x_.sizes x1.2.2.2.1 x1.2.2.2.2.1 x1.2.2.2.2.2.1 x1.2.2.2.2.2.2.1 x1.2.2.2.2.2.2.2.1 x1.2.2.2.2.2.2.2.2 x1.1 x_.budget x1.2.1) (IntKind.wrap .i64 (sum + (at' x1.2.2.2.2.2.1 (x_.places.length : Int))))).2.nodes x_.budget (m_spec_l20Search_node (gl20Search.mk x_.sizes x1.2.2.2.1 x1.2.2.2.2.1 x1.2.2.2.2.2.1 x1.2.2.2.2.2.2.1 x1.2.2.2.2.2.2.2.1 x1.2.2.2.2.2.2.2.2 x1.1 x_.budget x1.2.1) (IntKind.wrap .i64 (sum + (at' x1.2.2.2.2.2.1 (x_.places.length : Int))))).2.full) else (gl20Search.mk x_.sizes x1.2.2.2.1 x1.2.2.2.2.1 x1.2.2.2.2.2.1 x1.2.2.2.2.2.2.1 x1.2.2.2.2.2.2.2.1 x1.2.2.2.2.2.2.2.2 x1.1 x_.budget x1.2.1)).full)) (fun (v13 : Int × Bool × Int × Bool) => bif v13.2.1 then rec1 (v13.2.2.1, v13.2.2.2, x1.2.2.1 + 1, x1.2.2.2.1, x1.2.2.2.2.1, x1.2.2.2.2.2.1, x1.2.2.2.2.2.2.1, x1.2.2.2.2.2.2.2.1, x1.2.2.2.2.2.2.2.2) else JN (fun j18 => j18 ((self_ (gl20Search.mk x_.sizes x1.2.2.2.1 (put' x1.2.2.2.2.1 v13.1 (IntKind.wrap .i64 ((at' x1.2.2.2.2.1 v13.1) - (at' x_.sizes (x_.places.length : Int))))) x1.2.2.2.2.2.1 (x1.2.2.2.2.2.2.1 ++ ([v13.1] : List Int)) x1.2.2.2.2.2.2.2.1 x1.2.2.2.2.2.2.2.2 v13.2.2.1 x_.budget v13.2.2.2) (IntKind.wrap .i64 (sum + (at' x_.sizes (x_.places.length : Int))))).most, (self_ (gl20Search.mk x_.sizes x1.2.2.2.1 (put' x1.2.2.2.2.1 v13.1 (IntKind.wrap .i64 ((at' x1.2.2.2.2.1 v13.1) - (at' x_.sizes (x_.places.length : Int))))) x1.2.2.2.2.2.1 (x1.2.2.2.2.2.2.1 ++ ([v13.1] : List Int)) x1.2.2.2.2.2.2.2.1 x1.2.2.2.2.2.2.2.2 v13.2.2.1 x_.budget v13.2.2.2) (IntKind.wrap .i64 (sum + (at' x_.sizes (x_.places.length : Int))))).nodes, (self_ (gl20Search.mk x_.sizes x1.2.2.2.1 (put' x1.2.2.2.2.1 v13.1 (IntKind.wrap .i64 ((at' x1.2.2.2.2.1 v13.1) - (at' x_.sizes (x_.places.length : Int))))) x1.2.2.2.2.2.1 (x1.2.2.2.2.2.2.1 ++ ([v13.1] : List Int)) x1.2.2.2.2.2.2.2.1 x1.2.2.2.2.2.2.2.2 v13.2.2.1 x_.budget v13.2.2.2) (IntKind.wrap .i64 (sum + (at' x_.sizes (x_.places.length : Int))))).full, (self_ (gl20Search.mk x_.sizes x1.2.2.2.1 (put' x1.2.2.2.2.1 v13.1 (IntKind.wrap .i64 ((at' x1.2.2.2.2.1 v13.1) - (at' x_.sizes (x_.places.length : Int))))) x1.2.2.2.2.2.1 (x1.2.2.2.2.2.2.1 ++ ([v13.1] : List Int)) x1.2.2.2.2.2.2.2.1 x1.2.2.2.2.2.2.2.2 v13.2.2.1 x_.budget v13.2.2.2) (IntKind.wrap .i64 (sum + (at' x_.sizes (x_.places.length : Int))))).reach, (self_ (gl20Search.mk x_.sizes x1.2.2.2.1 (put' x1.2.2.2.2.1 v13.1 (IntKind.wrap .i64 ((at' x1.2.2.2.2.1 v13.1) - (at' x_.sizes (x_.places.length : Int))))) x1.2.2.2.2.2.1 (x1.2.2.2.2.2.2.1 ++ ([v13.1] : List Int)) x1.2.2.2.2.2.2.2.1 x1.2.2.2.2.2.2.2.2 v13.2.2.1 x_.budget v13.2.2.2) (IntKind.wrap .i64 (sum + (at' x_.sizes (x_.places.length : Int))))).left, (self_ (gl20Search.mk x_.sizes x1.2.2.2.1 (put' x1.2.2.2.2.1 v13.1 (IntKind.wrap .i64 ((at' x1.2.2.2.2.1 v13.1) - (at' x_.sizes (x_.places.length : Int))))) x1.2.2.2.2.2.1 (x1.2.2.2.2.2.2.1 ++ ([v13.1] : List Int)) x1.2.2.2.2.2.2.2.1 x1.2.2.2.2.2.2.2.2 v13.2.2.1 x_.budget v13.2.2.2) (IntKind.wrap .i64 (sum + (at' x_.sizes (x_.places.length : Int))))).rest, (self_ (gl20Search.mk x_.sizes x1.2.2.2.1 (put' x1.2.2.2.2.1 v13.1 (IntKind.wrap .i64 ((at' x1.2.2.2.2.1 v13.1) - (at' x_.sizes (x_.places.length : Int))))) x1.2.2.2.2.2.1 (x1.2.2.2.2.2.2.1 ++ ([v13.1] : List Int)) x1.2.2.2.2.2.2.2.1 x1.2.2.2.2.2.2.2.2 v13.2.2.1 x_.budget v13.2.2.2) (IntKind.wrap .i64 (sum + (at' x_.sizes (x_.places.length : Int))))).places, (self_ (gl20Search.mk x_.sizes x1.2.2.2.1 (put' x1.2.2.2.2.1 v13.1 (IntKind.wrap .i64 ((at' x1.2.2.2.2.1 v13.1) - (at' x_.sizes (x_.places.length : Int))))) x1.2.2.2.2.2.1 (x1.2.2.2.2.2.2.1 ++ ([v13.1] : List Int)) x1.2.2.2.2.2.2.2.1 x1.2.2.2.2.2.2.2.2 v13.2.2.1 x_.budget v13.2.2.2) (IntKind.wrap .i64 (sum + (at' x_.sizes (x_.places.length : Int))))).best)) (fun (v17 : Int × Int × Bool × (List (List Int)) × (List Int) × (List Int) × (List Int) × (List Int)) => rec1 (v17.2.1, v17.2.2.1, x1.2.2.1 + 1, v17.2.2.2.1, put' v17.2.2.2.2.1 v13.1 (IntKind.wrap .i64 ((at' v17.2.2.2.2.1 v13.1) + (at' x_.sizes (x_.places.length : Int)))), v17.2.2.2.2.2.1, pre' v17.2.2.2.2.2.2.1 (x_.places.length : Int), v17.2.2.2.2.2.2.2, v17.1))) else k1 (x1.1, x1.2.1, x1.2.2.1, x1.2.2.2.1, x1.2.2.2.2.1, x1.2.2.2.2.2.1, x1.2.2.2.2.2.2.1, x1.2.2.2.2.2.2.2.1, x1.2.2.2.2.2.2.2.2)
def m_spec_l20Search_run_body (self_ : gl20Search → Int → gl20Search) (x_ : gl20Search) (sum : Int) : gl20Search :=
  bif (x_.places.length : Int) == (x_.sizes.length : Int) then bif decide (x_.most < sum) then gl20Search.mk x_.sizes x_.reach x_.left x_.rest x_.places (m_spec_l00Own x_.places) sum x_.nodes x_.budget x_.full else x_ else LOOP (m_spec_l20Search_run_b1 self_ x_ sum) (fun (x1 : Int × Bool × Int × (List (List Int)) × (List Int) × (List Int) × (List Int) × (List Int) × Int) => JN (fun j32 => j32 ((m_spec_l20Search_node (gl20Search.mk x_.sizes x1.2.2.2.1 x1.2.2.2.2.1 x1.2.2.2.2.2.1 x1.2.2.2.2.2.2.1 x1.2.2.2.2.2.2.2.1 x1.2.2.2.2.2.2.2.2 x1.1 x_.budget x1.2.1) (IntKind.wrap .i64 (sum + (at' x1.2.2.2.2.2.1 ((x_.places.length : Int) + 1))))).1, (m_spec_l20Search_node (gl20Search.mk x_.sizes x1.2.2.2.1 x1.2.2.2.2.1 x1.2.2.2.2.2.1 x1.2.2.2.2.2.2.1 x1.2.2.2.2.2.2.2.1 x1.2.2.2.2.2.2.2.2 x1.1 x_.budget x1.2.1) (IntKind.wrap .i64 (sum + (at' x1.2.2.2.2.2.1 ((x_.places.length : Int) + 1))))).2.nodes, (m_spec_l20Search_node (gl20Search.mk x_.sizes x1.2.2.2.1 x1.2.2.2.2.1 x1.2.2.2.2.2.1 x1.2.2.2.2.2.2.1 x1.2.2.2.2.2.2.2.1 x1.2.2.2.2.2.2.2.2 x1.1 x_.budget x1.2.1) (IntKind.wrap .i64 (sum + (at' x1.2.2.2.2.2.1 ((x_.places.length : Int) + 1))))).2.full)) (fun (v31 : Bool × Int × Bool) => bif v31.1 then JN (fun j36 => j36 ((self_ (gl20Search.mk x_.sizes x1.2.2.2.1 x1.2.2.2.2.1 x1.2.2.2.2.2.1 (x1.2.2.2.2.2.2.1 ++ ([(-1)] : List Int)) x1.2.2.2.2.2.2.2.1 x1.2.2.2.2.2.2.2.2 v31.2.1 x_.budget v31.2.2) sum).most, (self_ (gl20Search.mk x_.sizes x1.2.2.2.1 x1.2.2.2.2.1 x1.2.2.2.2.2.1 (x1.2.2.2.2.2.2.1 ++ ([(-1)] : List Int)) x1.2.2.2.2.2.2.2.1 x1.2.2.2.2.2.2.2.2 v31.2.1 x_.budget v31.2.2) sum).nodes, (self_ (gl20Search.mk x_.sizes x1.2.2.2.1 x1.2.2.2.2.1 x1.2.2.2.2.2.1 (x1.2.2.2.2.2.2.1 ++ ([(-1)] : List Int)) x1.2.2.2.2.2.2.2.1 x1.2.2.2.2.2.2.2.2 v31.2.1 x_.budget v31.2.2) sum).full, (self_ (gl20Search.mk x_.sizes x1.2.2.2.1 x1.2.2.2.2.1 x1.2.2.2.2.2.1 (x1.2.2.2.2.2.2.1 ++ ([(-1)] : List Int)) x1.2.2.2.2.2.2.2.1 x1.2.2.2.2.2.2.2.2 v31.2.1 x_.budget v31.2.2) sum).reach, (self_ (gl20Search.mk x_.sizes x1.2.2.2.1 x1.2.2.2.2.1 x1.2.2.2.2.2.1 (x1.2.2.2.2.2.2.1 ++ ([(-1)] : List Int)) x1.2.2.2.2.2.2.2.1 x1.2.2.2.2.2.2.2.2 v31.2.1 x_.budget v31.2.2) sum).left, (self_ (gl20Search.mk x_.sizes x1.2.2.2.1 x1.2.2.2.2.1 x1.2.2.2.2.2.1 (x1.2.2.2.2.2.2.1 ++ ([(-1)] : List Int)) x1.2.2.2.2.2.2.2.1 x1.2.2.2.2.2.2.2.2 v31.2.1 x_.budget v31.2.2) sum).rest, (self_ (gl20Search.mk x_.sizes x1.2.2.2.1 x1.2.2.2.2.1 x1.2.2.2.2.2.1 (x1.2.2.2.2.2.2.1 ++ ([(-1)] : List Int)) x1.2.2.2.2.2.2.2.1 x1.2.2.2.2.2.2.2.2 v31.2.1 x_.budget v31.2.2) sum).places, (self_ (gl20Search.mk x_.sizes x1.2.2.2.1 x1.2.2.2.2.1 x1.2.2.2.2.2.1 (x1.2.2.2.2.2.2.1 ++ ([(-1)] : List Int)) x1.2.2.2.2.2.2.2.1 x1.2.2.2.2.2.2.2.2 v31.2.1 x_.budget v31.2.2) sum).best)) (fun (v35 : Int × Int × Bool × (List (List Int)) × (List Int) × (List Int) × (List Int) × (List Int)) => gl20Search.mk x_.sizes v35.2.2.2.1 v35.2.2.2.2.1 v35.2.2.2.2.2.1 (pre' v35.2.2.2.2.2.2.1 (x_.places.length : Int)) v35.2.2.2.2.2.2.2 v35.1 v35.2.1 x_.budget v35.2.2.1) else gl20Search.mk x_.sizes x1.2.2.2.1 x1.2.2.2.2.1 x1.2.2.2.2.2.1 x1.2.2.2.2.2.2.1 x1.2.2.2.2.2.2.2.1 x1.2.2.2.2.2.2.2.2 v31.2.1 x_.budget v31.2.2)) (((at' x_.reach (x_.places.length : Int)).length : Int).toNat + 1) (x_.nodes, x_.full, 0, x_.reach, x_.left, x_.rest, x_.places, x_.best, x_.most)
def m_spec_l20Search_run_n : Nat → gl20Search → Int → gl20Search
  | 0 => fun _ _ => default
  | fuel + 1 => m_spec_l20Search_run_body (m_spec_l20Search_run_n fuel)
def m_spec_l20Search_run (x_ : gl20Search) (sum : Int) : gl20Search := m_spec_l20Search_run_n (((x_.sizes.length : Int) - x_.places.length).toNat + 1) x_ sum

/-! ### spec_AssignCrews -/
def m_spec_AssignCrews_b3 (m_ : gMine) (arrivals : List Int) (blocked : Int) (crews : List gCrew) (sizes : List Int) (start : Int) (list : List gRefuge) (budget : Int) (x1 : (List Int) × Int) (rec2 : ((List (List Int)) × Int) → ((List Int) × Int × Int)) (k2 : ((List (List Int)) × Int) → ((List Int) × Int × Int)) (x2 : (List (List Int)) × Int) (rec3 : ((List Int) × Int) → ((List Int) × Int × Int)) (k3 : ((List Int) × Int) → ((List Int) × Int × Int)) (x3 : (List Int) × Int) : (List Int) × Int × Int :=
  bif decide (x3.2 < (list.length : Int)) then bif decide (0 ≤ (at' (m_spec_l19Times m_ arrivals blocked (at' crews x2.2) start) (at' list x3.2).Junction)) then rec3 (x3.1 ++ ([x3.2] : List Int), x3.2 + 1) else rec3 (x3.1, x3.2 + 1) else k3 (x3.1, x3.2)
def m_spec_AssignCrews_b4 (m_ : gMine) (arrivals : List Int) (blocked : Int) (crews : List gCrew) (sizes : List Int) (start : Int) (list : List gRefuge) (budget : Int) (x1 : (List Int) × Int) (x2 : (List (List Int)) × Int) (rec4 : ((List Int) × Int) → ((List Int) × Int × Int)) (k4 : ((List Int) × Int) → ((List Int) × Int × Int)) (x4 : (List Int) × Int) : (List Int) × Int × Int :=
  bif decide (x4.2 < (list.length : Int)) then rec4 (x4.1 ++ ([(at' list x4.2).Places] : List Int), x4.2 + 1) else k4 (x4.1, x4.2)
def m_spec_AssignCrews_b2 (m_ : gMine) (arrivals : List Int) (blocked : Int) (crews : List gCrew) (sizes : List Int) (start : Int) (list : List gRefuge) (budget : Int) (x1 : (List Int) × Int) (rec2 : ((List (List Int)) × Int) → ((List Int) × Int × Int)) (k2 : ((List (List Int)) × Int) → ((List Int) × Int × Int)) (x2 : (List (List Int)) × Int) : (List Int) × Int × Int :=
  bif decide (x2.2 < (crews.length : Int)) then LOOP (m_spec_AssignCrews_b3 m_ arrivals blocked crews sizes start list budget x1 rec2 k2 x2) (fun (x3 : (List Int) × Int) => rec2 (x2.1 ++ ([x3.1] : List (List Int)), x2.2 + 1)) (((list.length : Int) - 0 : Int).toNat + 1) (([] : List Int), 0) else k2 (x2.1, x2.2)
def m_spec_AssignCrews_b1 (m_ : gMine) (arrivals : List Int) (blocked : Int) (crews : List gCrew) (sizes : List Int) (start : Int) (list : List gRefuge) (budget : Int) (rec1 : ((List Int) × Int) → ((List Int) × Int × Int)) (k1 : ((List Int) × Int) → ((List Int) × Int × Int)) (x1 : (List Int) × Int) : (List Int) × Int × Int :=
  bif decide (0 ≤ x1.2) then rec1 (put' x1.1 x1.2 (IntKind.wrap .i64 ((at' x1.1 (x1.2 + 1)) + (at' sizes x1.2))), x1.2 - 1) else k1 (x1.1, x1.2)
def m_spec_AssignCrews (m_ : gMine) (arrivals : List Int) (blocked : Int) (crews : List gCrew) (sizes : List Int) (start : Int) (list : List gRefuge) (budget : Int) : (List Int) × Int × Int :=
  bif (!(m_spec_l20Ok m_ list)) || (!(m_spec_l19List m_ crews)) then (([] : List Int), 0, 1) else bif ((!(m_spec_l00In blocked (-1) ((m_.Airways.length : Int) - 1))) || (!(m_spec_l17Time start))) || (!(m_spec_l00In budget 1 20000)) then (([] : List Int), 0, 2) else bif ((!(m_spec_l19Arrivals m_ arrivals)) || ((sizes.length : Int) != (crews.length : Int))) || (!(m_spec_l20Sizes sizes)) then (([] : List Int), 0, 7) else LOOP (m_spec_AssignCrews_b1 m_ arrivals blocked crews sizes start list budget) (fun (x1 : (List Int) × Int) => LOOP (m_spec_AssignCrews_b2 m_ arrivals blocked crews sizes start list budget x1) (fun (x2 : (List (List Int)) × Int) => LOOP (m_spec_AssignCrews_b4 m_ arrivals blocked crews sizes start list budget x1 x2) (fun (x4 : (List Int) × Int) => bif (m_spec_l20Search_run (gl20Search.mk sizes x2.1 x4.1 x1.1 ([] : List Int) ([] : List Int) (-1) 0 budget false) 0).full then (([] : List Int), 0, 5) else ((m_spec_l20Search_run (gl20Search.mk sizes x2.1 x4.1 x1.1 ([] : List Int) ([] : List Int) (-1) 0 budget false) 0).best, (m_spec_l20Search_run (gl20Search.mk sizes x2.1 x4.1 x1.1 ([] : List Int) ([] : List Int) (-1) 0 budget false) 0).most, 0)) (((list.length : Int) - 0 : Int).toNat + 1) (([] : List Int), 0)) (((crews.length : Int) - 0 : Int).toNat + 1) (([] : List (List Int)), 0)) ((sizes.length : Int).toNat + 1) (List.replicate ((sizes.length : Int) + 1 : Int).toNat (0 : Int), (sizes.length : Int) - 1)

/-! ### laws_toAirway -/
def m_laws_toAirway (a : gAirway) : gAirway :=
  a

/-! ### laws_toAirwayS -/
def m_laws_toAirwayS_b1 (a : List gAirway) (rec1 : ((List gAirway) × Int) → (List gAirway)) (k1 : ((List gAirway) × Int) → (List gAirway)) (x1 : (List gAirway) × Int) : (List gAirway) :=
  bif decide (x1.2 < (a.length : Int)) then rec1 (put' x1.1 x1.2 (m_laws_toAirway (at' a x1.2)), x1.2 + 1) else k1 (x1.1, x1.2)
def m_laws_toAirwayS (a : List gAirway) : (List gAirway) :=
  LOOP (m_laws_toAirwayS_b1 a) (fun (x1 : (List gAirway) × Int) => x1.1) (((a.length : Int) - 0 : Int).toNat + 1) (List.replicate ((a.length : Int) : Int).toNat (gAirway.mk ([] : List UInt8) 0 0 0 0 0 0 : gAirway), 0)

/-! ### laws_toMine -/
def m_laws_toMine (a : gMine) : gMine :=
  gMine.mk a.Junctions (m_laws_toAirwayS a.Airways)

/-! ### laws_toInt64S -/
def m_laws_toInt64S_b1 (a : List Int) (rec1 : ((List Int) × Int) → (List Int)) (k1 : ((List Int) × Int) → (List Int)) (x1 : (List Int) × Int) : (List Int) :=
  bif decide (x1.2 < (a.length : Int)) then rec1 (put' x1.1 x1.2 (at' a x1.2), x1.2 + 1) else k1 (x1.1, x1.2)
def m_laws_toInt64S (a : List Int) : (List Int) :=
  LOOP (m_laws_toInt64S_b1 a) (fun (x1 : (List Int) × Int) => x1.1) (((a.length : Int) - 0 : Int).toNat + 1) (List.replicate ((a.length : Int) : Int).toNat (0 : Int), 0)

/-! ### laws_toCrew -/
def m_laws_toCrew (a : gCrew) : gCrew :=
  a

/-! ### laws_toCrewS -/
def m_laws_toCrewS_b1 (a : List gCrew) (rec1 : ((List gCrew) × Int) → (List gCrew)) (k1 : ((List gCrew) × Int) → (List gCrew)) (x1 : (List gCrew) × Int) : (List gCrew) :=
  bif decide (x1.2 < (a.length : Int)) then rec1 (put' x1.1 x1.2 (m_laws_toCrew (at' a x1.2)), x1.2 + 1) else k1 (x1.1, x1.2)
def m_laws_toCrewS (a : List gCrew) : (List gCrew) :=
  LOOP (m_laws_toCrewS_b1 a) (fun (x1 : (List gCrew) × Int) => x1.1) (((a.length : Int) - 0 : Int).toNat + 1) (List.replicate ((a.length : Int) : Int).toNat (gCrew.mk ([] : List UInt8) 0 0 : gCrew), 0)

/-! ### laws_toRefuge -/
def m_laws_toRefuge (a : gRefuge) : gRefuge :=
  a

/-! ### laws_toRefugeS -/
def m_laws_toRefugeS_b1 (a : List gRefuge) (rec1 : ((List gRefuge) × Int) → (List gRefuge)) (k1 : ((List gRefuge) × Int) → (List gRefuge)) (x1 : (List gRefuge) × Int) : (List gRefuge) :=
  bif decide (x1.2 < (a.length : Int)) then rec1 (put' x1.1 x1.2 (m_laws_toRefuge (at' a x1.2)), x1.2 + 1) else k1 (x1.1, x1.2)
def m_laws_toRefugeS (a : List gRefuge) : (List gRefuge) :=
  LOOP (m_laws_toRefugeS_b1 a) (fun (x1 : (List gRefuge) × Int) => x1.1) (((a.length : Int) - 0 : Int).toNat + 1) (List.replicate ((a.length : Int) : Int).toNat (gRefuge.mk ([] : List UInt8) 0 0 0 : gRefuge), 0)

/-! ### slices_IndexFunc_int64 -/
def m_slices_IndexFunc_int64_b1 (s_ : List Int) (f : (Int → Bool)) (rec1 : Int → Int) (k1 : Int → Int) (x1 : Int) : Int :=
  bif decide (x1 < (s_.length : Int)) then bif f (at' s_ x1) then x1 else rec1 (x1 + 1) else k1 x1
def m_slices_IndexFunc_int64 (s_ : List Int) (f : Int → Bool) : Int :=
  LOOP (m_slices_IndexFunc_int64_b1 s_ f) (fun (x1 : Int) => (-1)) (((s_.length : Int) - 0 : Int).toNat + 1) 0

/-! ### slices_ContainsFunc_int64 -/
def m_slices_ContainsFunc_int64 (s_ : List Int) (f : Int → Bool) : Bool :=
  decide (0 ≤ (m_slices_IndexFunc_int64 s_ f))

/-! ### impl_within -/
def m_impl_within (n_ : Int) (low : Int) (high : Int) : Bool :=
  (decide (low ≤ n_)) && (decide (n_ ≤ high))

/-! ### impl_allWithin_1 -/
def m_impl_allWithin_1 (n_ : Int) (p1 : Int) (p2 : Int) : Bool :=
  !(m_impl_within n_ p1 p2)

/-! ### impl_allWithin -/
def m_impl_allWithin (list : List Int) (low : Int) (high : Int) : Bool :=
  !(m_slices_ContainsFunc_int64 list (fun (a0 : Int) => m_impl_allWithin_1 a0 low high))

/-! ### impl_onlyNameBytes -/
def m_impl_onlyNameBytes_b1 (s_ : List UInt8) (rec1 : Int → Bool) (k1 : Int → Bool) (x1 : Int) : Bool :=
  bif decide (x1 < (s_.length : Int)) then bif ((decide ((((s_.getD x1.toNat 0).toNat : Nat) : Int) < 97)) || (decide (122 < (((s_.getD x1.toNat 0).toNat : Nat) : Int)))) && ((decide ((((s_.getD x1.toNat 0).toNat : Nat) : Int) < 48)) || (decide (57 < (((s_.getD x1.toNat 0).toNat : Nat) : Int)))) then false else rec1 (x1 + 1) else k1 x1
def m_impl_onlyNameBytes (s_ : List UInt8) : Bool :=
  LOOP (m_impl_onlyNameBytes_b1 s_) (fun (x1 : Int) => true) (((s_.length : Int) - 0 : Int).toNat + 1) 0

/-! ### impl_IsName -/
def m_impl_IsName (s_ : List UInt8) : Bool :=
  bif (((decide ((s_.length : Int) < 1)) || (decide (10 < (s_.length : Int)))) || (decide ((((s_.getD (0 : Int).toNat 0).toNat : Nat) : Int) < 97))) || (decide (122 < (((s_.getD (0 : Int).toNat 0).toNat : Nat) : Int))) then false else m_impl_onlyNameBytes s_

/-! ### impl_junctionOk -/
def m_impl_junctionOk (n_ : Int) : Bool :=
  m_impl_within n_ 0 15

/-! ### impl_ValidAirway -/
def m_impl_ValidAirway (a : gAirway) : Bool :=
  (((((((m_impl_IsName a.Id) && (m_impl_junctionOk a.From)) && (m_impl_junctionOk a.To)) && (a.From != a.To)) && (m_impl_within a.Length 1 10000)) && (m_impl_within a.Section 50 5000)) && (m_impl_within a.Friction 1 1000)) && (m_impl_within a.Shock 0 1000)

/-! ### impl_Mine_hasJunction -/
def m_impl_Mine_hasJunction (m_ : gMine) (n_ : Int) : Bool :=
  m_impl_within n_ 0 (IntKind.wrap .i64 (m_.Junctions - 1))

/-! ### impl_Mine_hasEnds -/
def m_impl_Mine_hasEnds (m_ : gMine) (a : gAirway) : Bool :=
  (m_impl_Mine_hasJunction m_ a.From) && (m_impl_Mine_hasJunction m_ a.To)

/-! ### impl_ValidMine -/
def m_impl_ValidMine_b1 (m_ : gMine) (rec1 : Int → Bool) (k1 : Int → Bool) (x1 : Int) : Bool :=
  bif decide (x1 < (m_.Airways.length : Int)) then bif ((!(m_impl_ValidAirway (at' m_.Airways x1))) || (!(m_impl_Mine_hasEnds m_ (at' m_.Airways x1)))) || ((decide (0 < x1)) && (strB .leq (at' m_.Airways x1).Id (at' m_.Airways (x1 - 1)).Id)) then false else rec1 (x1 + 1) else k1 x1
def m_impl_ValidMine (m_ : gMine) : Bool :=
  bif (!(m_impl_within m_.Junctions 1 16)) || (decide (24 < (m_.Airways.length : Int))) then false else LOOP (m_impl_ValidMine_b1 m_) (fun (x1 : Int) => true) (((m_.Airways.length : Int) - 0 : Int).toNat + 1) 0

/-! ### impl_Crew_valid -/
def m_impl_Crew_valid (c_ : gCrew) : Bool :=
  ((m_impl_IsName c_.Id) && (m_impl_junctionOk c_.Junction)) && (m_impl_within c_.Speed 10 300)

/-! ### impl_ValidCrews -/
def m_impl_ValidCrews_b1 (m_ : gMine) (list : List gCrew) (rec1 : Int → Bool) (k1 : Int → Bool) (x1 : Int) : Bool :=
  bif decide (x1 < (list.length : Int)) then bif ((!(m_impl_Crew_valid (at' list x1))) || (!(m_impl_Mine_hasJunction m_ (at' list x1).Junction))) || ((decide (0 < x1)) && (strB .leq (at' list x1).Id (at' list (x1 - 1)).Id)) then false else rec1 (x1 + 1) else k1 x1
def m_impl_ValidCrews (m_ : gMine) (list : List gCrew) : Bool :=
  bif (!(m_impl_ValidMine m_)) || (decide (8 < (list.length : Int))) then false else LOOP (m_impl_ValidCrews_b1 m_ list) (fun (x1 : Int) => true) (((list.length : Int) - 0 : Int).toNat + 1) 0

/-! ### impl_increasing -/
def m_impl_increasing_b1 (list : List Int) (rec1 : Int → Bool) (k1 : Int → Bool) (x1 : Int) : Bool :=
  bif decide (x1 < (list.length : Int)) then bif decide ((at' list x1) ≤ (at' list (x1 - 1))) then false else rec1 (x1 + 1) else k1 x1
def m_impl_increasing (list : List Int) : Bool :=
  LOOP (m_impl_increasing_b1 list) (fun (x1 : Int) => true) (((list.length : Int) - 1 : Int).toNat + 1) 1

/-! ### impl_Mine_hasJunctions -/
def m_impl_Mine_hasJunctions (m_ : gMine) (list : List Int) : Bool :=
  (m_impl_increasing list) && (m_impl_allWithin list 0 (IntKind.wrap .i64 (m_.Junctions - 1)))

/-! ### impl_escapeOf -/
def m_impl_escapeOf (m_ : gMine) (arrivals : List Int) (blocked : Int) (list : List gCrew) (start : Int) (exits : List Int) : gescape × Int :=
  bif !(m_impl_ValidCrews m_ list) then (gescape.mk (gMine.mk 0 ([] : List gAirway)) ([] : List Int) 0, 1) else bif (!(m_impl_within blocked (-1) ((m_.Airways.length : Int) - 1))) || (!(m_impl_within start 0 36000)) then (gescape.mk (gMine.mk 0 ([] : List gAirway)) ([] : List Int) 0, 2) else bif (((arrivals.length : Int) != m_.Junctions) || (!(m_impl_allWithin arrivals (-1) 1000000000000))) || (!(m_impl_Mine_hasJunctions m_ exits)) then (gescape.mk (gMine.mk 0 ([] : List gAirway)) ([] : List Int) 0, 7) else (gescape.mk m_ arrivals blocked, 0)

/-! ### impl_Refuge_valid -/
def m_impl_Refuge_valid (x_ : gRefuge) : Bool :=
  (((m_impl_IsName x_.Id) && (m_impl_junctionOk x_.Junction)) && (m_impl_within x_.Places 1 200)) && (m_impl_within x_.Air 0 10000000)

/-! ### impl_ValidRefuges -/
def m_impl_ValidRefuges_b1 (m_ : gMine) (list : List gRefuge) (rec1 : Int → Bool) (k1 : Int → Bool) (x1 : Int) : Bool :=
  bif decide (x1 < (list.length : Int)) then bif ((!(m_impl_Refuge_valid (at' list x1))) || (!(m_impl_Mine_hasJunction m_ (at' list x1).Junction))) || ((decide (0 < x1)) && (strB .leq (at' list x1).Id (at' list (x1 - 1)).Id)) then false else rec1 (x1 + 1) else k1 x1
def m_impl_ValidRefuges (m_ : gMine) (list : List gRefuge) : Bool :=
  bif (!(m_impl_ValidMine m_)) || (decide (8 < (list.length : Int))) then false else LOOP (m_impl_ValidRefuges_b1 m_ list) (fun (x1 : Int) => true) (((list.length : Int) - 0 : Int).toNat + 1) 0

/-! ### impl_budgetValid -/
def m_impl_budgetValid (budget : Int) : Bool :=
  m_impl_within budget 1 20000

/-! ### math_bits_Mul32 -/
def m_math_bits_Mul32 (x_ : Int) (y : Int) : Int × Int :=
  (IntKind.wrap .u32 (Int.fdiv (IntKind.wrap .u64 ((IntKind.wrap .u64 x_) * (IntKind.wrap .u64 y))) (2 ^ min (32 : Int).toNat 64)), IntKind.wrap .u32 (IntKind.wrap .u64 ((IntKind.wrap .u64 x_) * (IntKind.wrap .u64 y))))

/-! ### math_bits_Mul64 -/
def m_math_bits_Mul64 (x_ : Int) (y : Int) : Int × Int :=
  (IntKind.wrap .u64 ((IntKind.wrap .u64 ((IntKind.wrap .u64 ((Int.fdiv x_ (2 ^ min (32 : Int).toNat 64)) * (Int.fdiv y (2 ^ min (32 : Int).toNat 64)))) + (Int.fdiv (IntKind.wrap .u64 ((IntKind.wrap .u64 ((Int.fdiv x_ (2 ^ min (32 : Int).toNat 64)) * (IntKind.wrap .u64 ((((BitVec.ofInt (IntKind.bits .u64) y) &&& (BitVec.ofInt (IntKind.bits .u64) 4294967295)).toNat : Nat) : Int)))) + (Int.fdiv (IntKind.wrap .u64 ((IntKind.wrap .u64 ((((BitVec.ofInt (IntKind.bits .u64) x_) &&& (BitVec.ofInt (IntKind.bits .u64) 4294967295)).toNat : Nat) : Int)) * (IntKind.wrap .u64 ((((BitVec.ofInt (IntKind.bits .u64) y) &&& (BitVec.ofInt (IntKind.bits .u64) 4294967295)).toNat : Nat) : Int)))) (2 ^ min (32 : Int).toNat 64)))) (2 ^ min (32 : Int).toNat 64)))) + (Int.fdiv (IntKind.wrap .u64 ((IntKind.wrap .u64 ((((BitVec.ofInt (IntKind.bits .u64) (IntKind.wrap .u64 ((IntKind.wrap .u64 ((Int.fdiv x_ (2 ^ min (32 : Int).toNat 64)) * (IntKind.wrap .u64 ((((BitVec.ofInt (IntKind.bits .u64) y) &&& (BitVec.ofInt (IntKind.bits .u64) 4294967295)).toNat : Nat) : Int)))) + (Int.fdiv (IntKind.wrap .u64 ((IntKind.wrap .u64 ((((BitVec.ofInt (IntKind.bits .u64) x_) &&& (BitVec.ofInt (IntKind.bits .u64) 4294967295)).toNat : Nat) : Int)) * (IntKind.wrap .u64 ((((BitVec.ofInt (IntKind.bits .u64) y) &&& (BitVec.ofInt (IntKind.bits .u64) 4294967295)).toNat : Nat) : Int)))) (2 ^ min (32 : Int).toNat 64))))) &&& (BitVec.ofInt (IntKind.bits .u64) 4294967295)).toNat : Nat) : Int)) + (IntKind.wrap .u64 ((IntKind.wrap .u64 ((((BitVec.ofInt (IntKind.bits .u64) x_) &&& (BitVec.ofInt (IntKind.bits .u64) 4294967295)).toNat : Nat) : Int)) * (Int.fdiv y (2 ^ min (32 : Int).toNat 64)))))) (2 ^ min (32 : Int).toNat 64))), IntKind.wrap .u64 (x_ * y))

/-! ### math_bits_Mul -/
def m_math_bits_Mul (x_ : Int) (y : Int) : Int × Int :=
  bif false then (IntKind.wrap .u64 (m_math_bits_Mul32 (IntKind.wrap .u32 x_) (IntKind.wrap .u32 y)).1, IntKind.wrap .u64 (m_math_bits_Mul32 (IntKind.wrap .u32 x_) (IntKind.wrap .u32 y)).2) else ((m_math_bits_Mul64 x_ y).1, (m_math_bits_Mul64 x_ y).2)

/-! ### slices_Repeat_int64 -/
def m_slices_Repeat_int64_b1 (x_ : List Int) (count : Int) (rec1 : ((List Int) × Int) → (List Int)) (k1 : ((List Int) × Int) → (List Int)) (x1 : (List Int) × Int) : (List Int) :=
  bif decide (x1.2 < (x1.1.length : Int)) then rec1 (cpy x1.1 (x1.2.toNat) ((pre' x1.1 x1.2).take (min (pre' x1.1 x1.2).length ((x1.1.length : Int).toNat - x1.2.toNat))), IntKind.wrap .i64 (x1.2 + (((min (pre' x1.1 x1.2).length ((x1.1.length : Int).toNat - x1.2.toNat)) : Nat) : Int))) else k1 (x1.1, x1.2)
def m_slices_Repeat_int64 (x_ : List Int) (count : Int) : (List Int) :=
  LOOP (m_slices_Repeat_int64_b1 x_ count) (fun (x1 : (List Int) × Int) => x1.1) (count.toNat + 1) (cpy (List.replicate (IntKind.wrap .i64 (m_math_bits_Mul (IntKind.wrap .u64 (x_.length : Int)) (IntKind.wrap .u64 count)).2 : Int).toNat (0 : Int)) (0) (x_.take (min x_.length (List.replicate (IntKind.wrap .i64 (m_math_bits_Mul (IntKind.wrap .u64 (x_.length : Int)) (IntKind.wrap .u64 count)).2 : Int).toNat (0 : Int)).length)), (((min x_.length (List.replicate (IntKind.wrap .i64 (m_math_bits_Mul (IntKind.wrap .u64 (x_.length : Int)) (IntKind.wrap .u64 count)).2 : Int).toNat (0 : Int)).length) : Nat) : Int))

/-! ### impl_escape_mayBe -/
def m_impl_escape_mayBe (e : gescape) (junction : Int) (second : Int) : Bool :=
  (decide ((at' e.arrivals junction) < 0)) || (decide (second < (at' e.arrivals junction)))

/-! ### impl_divUp -/
def m_impl_divUp (a : Int) (b : Int) : Int :=
  IntKind.wrap .i64 (Int.tdiv (IntKind.wrap .i64 ((IntKind.wrap .i64 (a + b)) - 1)) b)

/-! ### impl_Airway_walkTime -/
def m_impl_Airway_walkTime (a : gAirway) (speed : Int) : Int :=
  m_impl_divUp (IntKind.wrap .i64 (100 * a.Length)) speed

/-! ### impl_escape_times -/
def m_impl_escape_times_b3 (e : gescape) (c_ : gCrew) (start : Int) (rec1 : ((List Int) × Bool) → (List Int)) (k1 : ((List Int) × Bool) → (List Int)) (x1 : (List Int) × Bool) (rec2 : ((List Int) × Bool × Int) → (List Int)) (k2 : ((List Int) × Bool × Int) → (List Int)) (x2 : (List Int) × Bool × Int) (rec3 : ((List Int) × Bool × Int) → (List Int)) (k3 : ((List Int) × Bool × Int) → (List Int)) (x3 : (List Int) × Bool × Int) : (List Int) :=
  bif decide (x3.2.2 < 2) then bif (((x2.2.2 != e.blocked) && (decide (0 ≤ (at' x3.1 (at' ([(at' e.mine.Airways x2.2.2).From, (at' e.mine.Airways x2.2.2).To] : List Int) x3.2.2))))) && ((decide ((at' x3.1 (at' ([(at' e.mine.Airways x2.2.2).To, (at' e.mine.Airways x2.2.2).From] : List Int) x3.2.2)) < 0)) || (decide ((IntKind.wrap .i64 ((at' x3.1 (at' ([(at' e.mine.Airways x2.2.2).From, (at' e.mine.Airways x2.2.2).To] : List Int) x3.2.2)) + (m_impl_Airway_walkTime (at' e.mine.Airways x2.2.2) c_.Speed))) < (at' x3.1 (at' ([(at' e.mine.Airways x2.2.2).To, (at' e.mine.Airways x2.2.2).From] : List Int) x3.2.2)))))) && (m_impl_escape_mayBe e (at' ([(at' e.mine.Airways x2.2.2).To, (at' e.mine.Airways x2.2.2).From] : List Int) x3.2.2) (IntKind.wrap .i64 ((at' x3.1 (at' ([(at' e.mine.Airways x2.2.2).From, (at' e.mine.Airways x2.2.2).To] : List Int) x3.2.2)) + (m_impl_Airway_walkTime (at' e.mine.Airways x2.2.2) c_.Speed)))) then rec3 (put' x3.1 (at' ([(at' e.mine.Airways x2.2.2).To, (at' e.mine.Airways x2.2.2).From] : List Int) x3.2.2) (IntKind.wrap .i64 ((at' x3.1 (at' ([(at' e.mine.Airways x2.2.2).From, (at' e.mine.Airways x2.2.2).To] : List Int) x3.2.2)) + (m_impl_Airway_walkTime (at' e.mine.Airways x2.2.2) c_.Speed))), true, x3.2.2 + 1) else rec3 (x3.1, x3.2.1, x3.2.2 + 1) else k3 (x3.1, x3.2.1, x3.2.2)
def m_impl_escape_times_b2 (e : gescape) (c_ : gCrew) (start : Int) (rec1 : ((List Int) × Bool) → (List Int)) (k1 : ((List Int) × Bool) → (List Int)) (x1 : (List Int) × Bool) (rec2 : ((List Int) × Bool × Int) → (List Int)) (k2 : ((List Int) × Bool × Int) → (List Int)) (x2 : (List Int) × Bool × Int) : (List Int) :=
  bif decide (x2.2.2 < (e.mine.Airways.length : Int)) then LOOP (m_impl_escape_times_b3 e c_ start rec1 k1 x1 rec2 k2 x2) (fun (x3 : (List Int) × Bool × Int) => rec2 (x3.1, x3.2.1, x2.2.2 + 1)) ((2 - 0 : Int).toNat + 1) (x2.1, x2.2.1, 0) else k2 (x2.1, x2.2.1, x2.2.2)
def m_impl_escape_times_b1 (e : gescape) (c_ : gCrew) (start : Int) (rec1 : ((List Int) × Bool) → (List Int)) (k1 : ((List Int) × Bool) → (List Int)) (x1 : (List Int) × Bool) : (List Int) :=
  bif x1.2 then LOOP (m_impl_escape_times_b2 e c_ start rec1 k1 x1) (fun (x2 : (List Int) × Bool × Int) => rec1 (x2.1, x2.2.1)) (((e.mine.Airways.length : Int) - 0 : Int).toNat + 1) (x1.1, false, 0) else k1 (x1.1, x1.2)
def m_impl_escape_times (e : gescape) (c_ : gCrew) (start : Int) : (List Int) :=
  bif !(m_impl_escape_mayBe e c_.Junction start) then m_slices_Repeat_int64 ([(-1)] : List Int) e.mine.Junctions else LOOP (m_impl_escape_times_b1 e c_ start) (fun (x1 : (List Int) × Bool) => x1.1) (300000000000) (put' (m_slices_Repeat_int64 ([(-1)] : List Int) e.mine.Junctions) c_.Junction start, true)

/-! ### slices_Clone_int64 -/
def m_slices_Clone_int64 (s_ : List Int) : (List Int) :=
  ([] : List Int) ++ s_

/-! ### impl_sumOf -/
def m_impl_sumOf_b1 (list : List Int) (rec1 : (Int × Int) → Int) (k1 : (Int × Int) → Int) (x1 : Int × Int) : Int :=
  bif decide (x1.2 < (list.length : Int)) then rec1 (IntKind.wrap .i64 (x1.1 + (at' list x1.2)), x1.2 + 1) else k1 (x1.1, x1.2)
def m_impl_sumOf (list : List Int) : Int :=
  LOOP (m_impl_sumOf_b1 list) (fun (x1 : Int × Int) => x1.1) (((list.length : Int) - 0 : Int).toNat + 1) (0, 0)

/-! ### impl_placeSearch_node -/
def m_impl_placeSearch_node (self_ : gplaceSearch → Int → gplaceSearch) (s_ : gplaceSearch) (place : Int) (persons : Int) : gplaceSearch :=
  bif decide (s_.budget < 0) then s_ else bif decide ((IntKind.wrap .i64 (s_.budget - 1)) < 0) then gplaceSearch.mk s_.sizes s_.reached s_.free (IntKind.wrap .i64 (s_.budget - 1)) s_.places s_.best s_.most else gplaceSearch.mk s_.sizes (self_ (gplaceSearch.mk s_.sizes s_.reached s_.free (IntKind.wrap .i64 (s_.budget - 1)) (s_.places ++ ([place] : List Int)) s_.best s_.most) persons).reached (self_ (gplaceSearch.mk s_.sizes s_.reached s_.free (IntKind.wrap .i64 (s_.budget - 1)) (s_.places ++ ([place] : List Int)) s_.best s_.most) persons).free (self_ (gplaceSearch.mk s_.sizes s_.reached s_.free (IntKind.wrap .i64 (s_.budget - 1)) (s_.places ++ ([place] : List Int)) s_.best s_.most) persons).budget (pre' (self_ (gplaceSearch.mk s_.sizes s_.reached s_.free (IntKind.wrap .i64 (s_.budget - 1)) (s_.places ++ ([place] : List Int)) s_.best s_.most) persons).places (IntKind.wrap .i64 (((self_ (gplaceSearch.mk s_.sizes s_.reached s_.free (IntKind.wrap .i64 (s_.budget - 1)) (s_.places ++ ([place] : List Int)) s_.best s_.most) persons).places.length : Int) - 1))) (self_ (gplaceSearch.mk s_.sizes s_.reached s_.free (IntKind.wrap .i64 (s_.budget - 1)) (s_.places ++ ([place] : List Int)) s_.best s_.most) persons).best (self_ (gplaceSearch.mk s_.sizes s_.reached s_.free (IntKind.wrap .i64 (s_.budget - 1)) (s_.places ++ ([place] : List Int)) s_.best s_.most) persons).most

/-! ### impl_placeSearch_visit -/
def m_impl_placeSearch_visit_b1 (self_ : gplaceSearch → Int → gplaceSearch) (s_ : gplaceSearch) (persons : Int) (rec1 : ((List (List Int)) × (List Int) × Int × (List Int) × (List Int) × Int × Int) → gplaceSearch) (k1 : ((List (List Int)) × (List Int) × Int × (List Int) × (List Int) × Int × Int) → gplaceSearch) (x1 : (List (List Int)) × (List Int) × Int × (List Int) × (List Int) × Int × Int) : gplaceSearch :=
  bif decide (x1.2.2.2.2.2.2 < ((at' s_.reached (s_.places.length : Int)).length : Int)) then bif (decide ((at' s_.sizes (s_.places.length : Int)) ≤ (at' x1.2.1 (at' (at' s_.reached (s_.places.length : Int)) x1.2.2.2.2.2.2)))) && (decide (x1.2.2.2.2.2.1 < (IntKind.wrap .i64 ((IntKind.wrap .i64 (persons + (at' s_.sizes (s_.places.length : Int)))) + (m_impl_sumOf (cut' s_.sizes ((s_.places.length : Int) + 1) (s_.sizes.length : Int))))))) then rec1 ((m_impl_placeSearch_node self_ (gplaceSearch.mk s_.sizes x1.1 (put' x1.2.1 (at' (at' s_.reached (s_.places.length : Int)) x1.2.2.2.2.2.2) (IntKind.wrap .i64 ((at' x1.2.1 (at' (at' s_.reached (s_.places.length : Int)) x1.2.2.2.2.2.2)) - (at' s_.sizes (s_.places.length : Int))))) x1.2.2.1 x1.2.2.2.1 x1.2.2.2.2.1 x1.2.2.2.2.2.1) (at' (at' s_.reached (s_.places.length : Int)) x1.2.2.2.2.2.2) (IntKind.wrap .i64 (persons + (at' s_.sizes (s_.places.length : Int))))).reached, put' (m_impl_placeSearch_node self_ (gplaceSearch.mk s_.sizes x1.1 (put' x1.2.1 (at' (at' s_.reached (s_.places.length : Int)) x1.2.2.2.2.2.2) (IntKind.wrap .i64 ((at' x1.2.1 (at' (at' s_.reached (s_.places.length : Int)) x1.2.2.2.2.2.2)) - (at' s_.sizes (s_.places.length : Int))))) x1.2.2.1 x1.2.2.2.1 x1.2.2.2.2.1 x1.2.2.2.2.2.1) (at' (at' s_.reached (s_.places.length : Int)) x1.2.2.2.2.2.2) (IntKind.wrap .i64 (persons + (at' s_.sizes (s_.places.length : Int))))).free (at' (at' s_.reached (s_.places.length : Int)) x1.2.2.2.2.2.2) (IntKind.wrap .i64 ((at' (m_impl_placeSearch_node self_ (gplaceSearch.mk s_.sizes x1.1 (put' x1.2.1 (at' (at' s_.reached (s_.places.length : Int)) x1.2.2.2.2.2.2) (IntKind.wrap .i64 ((at' x1.2.1 (at' (at' s_.reached (s_.places.length : Int)) x1.2.2.2.2.2.2)) - (at' s_.sizes (s_.places.length : Int))))) x1.2.2.1 x1.2.2.2.1 x1.2.2.2.2.1 x1.2.2.2.2.2.1) (at' (at' s_.reached (s_.places.length : Int)) x1.2.2.2.2.2.2) (IntKind.wrap .i64 (persons + (at' s_.sizes (s_.places.length : Int))))).free (at' (at' s_.reached (s_.places.length : Int)) x1.2.2.2.2.2.2)) + (at' s_.sizes (s_.places.length : Int)))), (m_impl_placeSearch_node self_ (gplaceSearch.mk s_.sizes x1.1 (put' x1.2.1 (at' (at' s_.reached (s_.places.length : Int)) x1.2.2.2.2.2.2) (IntKind.wrap .i64 ((at' x1.2.1 (at' (at' s_.reached (s_.places.length : Int)) x1.2.2.2.2.2.2)) - (at' s_.sizes (s_.places.length : Int))))) x1.2.2.1 x1.2.2.2.1 x1.2.2.2.2.1 x1.2.2.2.2.2.1) (at' (at' s_.reached (s_.places.length : Int)) x1.2.2.2.2.2.2) (IntKind.wrap .i64 (persons + (at' s_.sizes (s_.places.length : Int))))).budget, (m_impl_placeSearch_node self_ (gplaceSearch.mk s_.sizes x1.1 (put' x1.2.1 (at' (at' s_.reached (s_.places.length : Int)) x1.2.2.2.2.2.2) (IntKind.wrap .i64 ((at' x1.2.1 (at' (at' s_.reached (s_.places.length : Int)) x1.2.2.2.2.2.2)) - (at' s_.sizes (s_.places.length : Int))))) x1.2.2.1 x1.2.2.2.1 x1.2.2.2.2.1 x1.2.2.2.2.2.1) (at' (at' s_.reached (s_.places.length : Int)) x1.2.2.2.2.2.2) (IntKind.wrap .i64 (persons + (at' s_.sizes (s_.places.length : Int))))).places, (m_impl_placeSearch_node self_ (gplaceSearch.mk s_.sizes x1.1 (put' x1.2.1 (at' (at' s_.reached (s_.places.length : Int)) x1.2.2.2.2.2.2) (IntKind.wrap .i64 ((at' x1.2.1 (at' (at' s_.reached (s_.places.length : Int)) x1.2.2.2.2.2.2)) - (at' s_.sizes (s_.places.length : Int))))) x1.2.2.1 x1.2.2.2.1 x1.2.2.2.2.1 x1.2.2.2.2.2.1) (at' (at' s_.reached (s_.places.length : Int)) x1.2.2.2.2.2.2) (IntKind.wrap .i64 (persons + (at' s_.sizes (s_.places.length : Int))))).best, (m_impl_placeSearch_node self_ (gplaceSearch.mk s_.sizes x1.1 (put' x1.2.1 (at' (at' s_.reached (s_.places.length : Int)) x1.2.2.2.2.2.2) (IntKind.wrap .i64 ((at' x1.2.1 (at' (at' s_.reached (s_.places.length : Int)) x1.2.2.2.2.2.2)) - (at' s_.sizes (s_.places.length : Int))))) x1.2.2.1 x1.2.2.2.1 x1.2.2.2.2.1 x1.2.2.2.2.2.1) (at' (at' s_.reached (s_.places.length : Int)) x1.2.2.2.2.2.2) (IntKind.wrap .i64 (persons + (at' s_.sizes (s_.places.length : Int))))).most, x1.2.2.2.2.2.2 + 1) else rec1 (x1.1, x1.2.1, x1.2.2.1, x1.2.2.2.1, x1.2.2.2.2.1, x1.2.2.2.2.2.1, x1.2.2.2.2.2.2 + 1) else k1 (x1.1, x1.2.1, x1.2.2.1, x1.2.2.2.1, x1.2.2.2.2.1, x1.2.2.2.2.2.1, x1.2.2.2.2.2.2)
def m_impl_placeSearch_visit_body (self_ : gplaceSearch → Int → gplaceSearch) (s_ : gplaceSearch) (persons : Int) : gplaceSearch :=
  bif (s_.places.length : Int) == (s_.sizes.length : Int) then gplaceSearch.mk s_.sizes s_.reached s_.free s_.budget s_.places (m_slices_Clone_int64 s_.places) persons else LOOP (m_impl_placeSearch_visit_b1 self_ s_ persons) (fun (x1 : (List (List Int)) × (List Int) × Int × (List Int) × (List Int) × Int × Int) => bif decide (x1.2.2.2.2.2.1 < (IntKind.wrap .i64 (persons + (m_impl_sumOf (cut' s_.sizes ((s_.places.length : Int) + 1) (s_.sizes.length : Int)))))) then gplaceSearch.mk s_.sizes (m_impl_placeSearch_node self_ (gplaceSearch.mk s_.sizes x1.1 x1.2.1 x1.2.2.1 x1.2.2.2.1 x1.2.2.2.2.1 x1.2.2.2.2.2.1) (-1) persons).reached (m_impl_placeSearch_node self_ (gplaceSearch.mk s_.sizes x1.1 x1.2.1 x1.2.2.1 x1.2.2.2.1 x1.2.2.2.2.1 x1.2.2.2.2.2.1) (-1) persons).free (m_impl_placeSearch_node self_ (gplaceSearch.mk s_.sizes x1.1 x1.2.1 x1.2.2.1 x1.2.2.2.1 x1.2.2.2.2.1 x1.2.2.2.2.2.1) (-1) persons).budget (m_impl_placeSearch_node self_ (gplaceSearch.mk s_.sizes x1.1 x1.2.1 x1.2.2.1 x1.2.2.2.1 x1.2.2.2.2.1 x1.2.2.2.2.2.1) (-1) persons).places (m_impl_placeSearch_node self_ (gplaceSearch.mk s_.sizes x1.1 x1.2.1 x1.2.2.1 x1.2.2.2.1 x1.2.2.2.2.1 x1.2.2.2.2.2.1) (-1) persons).best (m_impl_placeSearch_node self_ (gplaceSearch.mk s_.sizes x1.1 x1.2.1 x1.2.2.1 x1.2.2.2.1 x1.2.2.2.2.1 x1.2.2.2.2.2.1) (-1) persons).most else gplaceSearch.mk s_.sizes x1.1 x1.2.1 x1.2.2.1 x1.2.2.2.1 x1.2.2.2.2.1 x1.2.2.2.2.2.1) ((((at' s_.reached (s_.places.length : Int)).length : Int) - 0 : Int).toNat + 1) (s_.reached, s_.free, s_.budget, s_.places, s_.best, s_.most, 0)
def m_impl_placeSearch_visit_n : Nat → gplaceSearch → Int → gplaceSearch
  | 0 => fun _ _ => default
  | fuel + 1 => m_impl_placeSearch_visit_body (m_impl_placeSearch_visit_n fuel)
def m_impl_placeSearch_visit (s_ : gplaceSearch) (persons : Int) : gplaceSearch := m_impl_placeSearch_visit_n (((s_.sizes.length : Int) - s_.places.length).toNat + 1) s_ persons

/-! ### impl_AssignCrews -/
def m_impl_AssignCrews_b3 (m_ : gMine) (arrivals : List Int) (blocked : Int) (crews : List gCrew) (sizes : List Int) (start : Int) (list : List gRefuge) (budget : Int) (x1 : (List Int) × Int) (rec2 : ((List (List Int)) × Int) → ((List Int) × Int × Int)) (k2 : ((List (List Int)) × Int) → ((List Int) × Int × Int)) (x2 : (List (List Int)) × Int) (rec3 : ((List Int) × Int) → ((List Int) × Int × Int)) (k3 : ((List Int) × Int) → ((List Int) × Int × Int)) (x3 : (List Int) × Int) : (List Int) × Int × Int :=
  bif decide (x3.2 < (list.length : Int)) then bif decide (0 ≤ (at' (m_impl_escape_times (m_impl_escapeOf m_ arrivals blocked crews start []).1 (at' crews x2.2) start) (at' list x3.2).Junction)) then rec3 (x3.1 ++ ([x3.2] : List Int), x3.2 + 1) else rec3 (x3.1, x3.2 + 1) else k3 (x3.1, x3.2)
def m_impl_AssignCrews_b2 (m_ : gMine) (arrivals : List Int) (blocked : Int) (crews : List gCrew) (sizes : List Int) (start : Int) (list : List gRefuge) (budget : Int) (x1 : (List Int) × Int) (rec2 : ((List (List Int)) × Int) → ((List Int) × Int × Int)) (k2 : ((List (List Int)) × Int) → ((List Int) × Int × Int)) (x2 : (List (List Int)) × Int) : (List Int) × Int × Int :=
  bif decide (x2.2 < (crews.length : Int)) then LOOP (m_impl_AssignCrews_b3 m_ arrivals blocked crews sizes start list budget x1 rec2 k2 x2) (fun (x3 : (List Int) × Int) => rec2 (x2.1 ++ ([x3.1] : List (List Int)), x2.2 + 1)) (((list.length : Int) - 0 : Int).toNat + 1) (([] : List Int), 0) else k2 (x2.1, x2.2)
def m_impl_AssignCrews_b1 (m_ : gMine) (arrivals : List Int) (blocked : Int) (crews : List gCrew) (sizes : List Int) (start : Int) (list : List gRefuge) (budget : Int) (rec1 : ((List Int) × Int) → ((List Int) × Int × Int)) (k1 : ((List Int) × Int) → ((List Int) × Int × Int)) (x1 : (List Int) × Int) : (List Int) × Int × Int :=
  bif decide (x1.2 < (list.length : Int)) then rec1 (x1.1 ++ ([(at' list x1.2).Places] : List Int), x1.2 + 1) else k1 (x1.1, x1.2)
def m_impl_AssignCrews (m_ : gMine) (arrivals : List Int) (blocked : Int) (crews : List gCrew) (sizes : List Int) (start : Int) (list : List gRefuge) (budget : Int) : (List Int) × Int × Int :=
  bif ((m_impl_escapeOf m_ arrivals blocked crews start []).2 == 1) || (!(m_impl_ValidRefuges m_ list)) then (([] : List Int), 0, 1) else bif ((m_impl_escapeOf m_ arrivals blocked crews start []).2 == 2) || (!(m_impl_budgetValid budget)) then (([] : List Int), 0, 2) else bif (((m_impl_escapeOf m_ arrivals blocked crews start []).2 != 0) || ((sizes.length : Int) != (crews.length : Int))) || (!(m_impl_allWithin sizes 1 200)) then (([] : List Int), 0, 7) else LOOP (m_impl_AssignCrews_b1 m_ arrivals blocked crews sizes start list budget) (fun (x1 : (List Int) × Int) => LOOP (m_impl_AssignCrews_b2 m_ arrivals blocked crews sizes start list budget x1) (fun (x2 : (List (List Int)) × Int) => bif decide ((m_impl_placeSearch_visit (gplaceSearch.mk sizes x2.1 x1.1 budget ([] : List Int) ([] : List Int) (-1)) 0).budget < 0) then (([] : List Int), 0, 5) else ((m_impl_placeSearch_visit (gplaceSearch.mk sizes x2.1 x1.1 budget ([] : List Int) ([] : List Int) (-1)) 0).best, (m_impl_placeSearch_visit (gplaceSearch.mk sizes x2.1 x1.1 budget ([] : List Int) ([] : List Int) (-1)) 0).most, 0)) (((crews.length : Int) - 0 : Int).toNat + 1) (([] : List (List Int)), 0)) (((list.length : Int) - 0 : Int).toNat + 1) (([] : List Int), 0)

/-! ### laws_eqInt64S -/
def m_laws_eqInt64S_b1 (a : List Int) (b : List Int) (rec1 : Int → Bool) (k1 : Int → Bool) (x1 : Int) : Bool :=
  bif decide (x1 < (a.length : Int)) then bif (at' a x1) != (at' b x1) then false else rec1 (x1 + 1) else k1 x1
def m_laws_eqInt64S (a : List Int) (b : List Int) : Bool :=
  bif (a.length : Int) != (b.length : Int) then false else LOOP (m_laws_eqInt64S_b1 a b) (fun (x1 : Int) => true) (((a.length : Int) - 0 : Int).toNat + 1) 0

/-! ### laws_eqAirway -/
def m_laws_eqAirway (a : gAirway) (b : gAirway) : Bool :=
  bif strB .neq a.Id b.Id then false else bif a.From != b.From then false else bif a.To != b.To then false else bif a.Length != b.Length then false else bif a.Section != b.Section then false else bif a.Friction != b.Friction then false else bif a.Shock != b.Shock then false else true

/-! ### laws_eqAirwayS -/
def m_laws_eqAirwayS_b1 (a : List gAirway) (b : List gAirway) (rec1 : Int → Bool) (k1 : Int → Bool) (x1 : Int) : Bool :=
  bif decide (x1 < (a.length : Int)) then bif !(m_laws_eqAirway (at' a x1) (at' b x1)) then false else rec1 (x1 + 1) else k1 x1
def m_laws_eqAirwayS (a : List gAirway) (b : List gAirway) : Bool :=
  bif (a.length : Int) != (b.length : Int) then false else LOOP (m_laws_eqAirwayS_b1 a b) (fun (x1 : Int) => true) (((a.length : Int) - 0 : Int).toNat + 1) 0

/-! ### laws_eqMine -/
def m_laws_eqMine (a : gMine) (b : gMine) : Bool :=
  bif a.Junctions != b.Junctions then false else bif !(m_laws_eqAirwayS a.Airways b.Airways) then false else true

/-! ### laws_eqCrew -/
def m_laws_eqCrew (a : gCrew) (b : gCrew) : Bool :=
  bif strB .neq a.Id b.Id then false else bif a.Junction != b.Junction then false else bif a.Speed != b.Speed then false else true

/-! ### laws_eqCrewS -/
def m_laws_eqCrewS_b1 (a : List gCrew) (b : List gCrew) (rec1 : Int → Bool) (k1 : Int → Bool) (x1 : Int) : Bool :=
  bif decide (x1 < (a.length : Int)) then bif !(m_laws_eqCrew (at' a x1) (at' b x1)) then false else rec1 (x1 + 1) else k1 x1
def m_laws_eqCrewS (a : List gCrew) (b : List gCrew) : Bool :=
  bif (a.length : Int) != (b.length : Int) then false else LOOP (m_laws_eqCrewS_b1 a b) (fun (x1 : Int) => true) (((a.length : Int) - 0 : Int).toNat + 1) 0

/-! ### laws_eqRefuge -/
def m_laws_eqRefuge (a : gRefuge) (b : gRefuge) : Bool :=
  bif strB .neq a.Id b.Id then false else bif a.Junction != b.Junction then false else bif a.Places != b.Places then false else bif a.Air != b.Air then false else true

/-! ### laws_eqRefugeS -/
def m_laws_eqRefugeS_b1 (a : List gRefuge) (b : List gRefuge) (rec1 : Int → Bool) (k1 : Int → Bool) (x1 : Int) : Bool :=
  bif decide (x1 < (a.length : Int)) then bif !(m_laws_eqRefuge (at' a x1) (at' b x1)) then false else rec1 (x1 + 1) else k1 x1
def m_laws_eqRefugeS (a : List gRefuge) (b : List gRefuge) : Bool :=
  bif (a.length : Int) != (b.length : Int) then false else LOOP (m_laws_eqRefugeS_b1 a b) (fun (x1 : Int) => true) (((a.length : Int) - 0 : Int).toNat + 1) 0

/-! ### laws_markText -/
def m_laws_markText_b1 (k_ : Int) (rec1 : (Int × (List UInt8)) → (List UInt8)) (k1 : (Int × (List UInt8)) → (List UInt8)) (x1 : Int × (List UInt8)) : (List UInt8) :=
  bif decide (0 < x1.1) then rec1 (IntKind.wrap .i64 (Int.tdiv x1.1 10), (chars ([IntKind.wrap .u8 (IntKind.wrap .i64 (48 + (Int.tmod x1.1 10)))] : List Int)) ++ x1.2) else k1 (x1.1, x1.2)
def m_laws_markText (k_ : Int) : (List UInt8) :=
  bif decide (k_ ≤ 0) then ([109, 48] : List UInt8) else LOOP (m_laws_markText_b1 k_) (fun (x1 : Int × (List UInt8)) => ([109] : List UInt8) ++ x1.2) (k_.toNat + 1) (k_, ([] : List UInt8))

/-! ### laws_markAirwayS -/
def m_laws_markAirwayS_b1 (a : List gAirway) (k_ : Int) (rec1 : ((List gAirway) × Int × Int) → (Int × (List gAirway))) (k1 : ((List gAirway) × Int × Int) → (Int × (List gAirway))) (x1 : (List gAirway) × Int × Int) : Int × (List gAirway) :=
  bif decide (x1.2.2 < (x1.1.length : Int)) then rec1 (put' x1.1 x1.2.2 (gAirway.mk (m_laws_markText x1.2.1) (IntKind.wrap .i64 (x1.2.1 + 1)) (IntKind.wrap .i64 ((IntKind.wrap .i64 (x1.2.1 + 1)) + 1)) (IntKind.wrap .i64 ((IntKind.wrap .i64 ((IntKind.wrap .i64 (x1.2.1 + 1)) + 1)) + 1)) (IntKind.wrap .i64 ((IntKind.wrap .i64 ((IntKind.wrap .i64 ((IntKind.wrap .i64 (x1.2.1 + 1)) + 1)) + 1)) + 1)) (IntKind.wrap .i64 ((IntKind.wrap .i64 ((IntKind.wrap .i64 ((IntKind.wrap .i64 ((IntKind.wrap .i64 (x1.2.1 + 1)) + 1)) + 1)) + 1)) + 1)) (IntKind.wrap .i64 ((IntKind.wrap .i64 ((IntKind.wrap .i64 ((IntKind.wrap .i64 ((IntKind.wrap .i64 ((IntKind.wrap .i64 (x1.2.1 + 1)) + 1)) + 1)) + 1)) + 1)) + 1))), IntKind.wrap .i64 ((IntKind.wrap .i64 ((IntKind.wrap .i64 ((IntKind.wrap .i64 ((IntKind.wrap .i64 ((IntKind.wrap .i64 ((IntKind.wrap .i64 (x1.2.1 + 1)) + 1)) + 1)) + 1)) + 1)) + 1)) + 1), x1.2.2 + 1) else k1 (x1.1, x1.2.1, x1.2.2)
def m_laws_markAirwayS (a : List gAirway) (k_ : Int) : Int × (List gAirway) :=
  LOOP (m_laws_markAirwayS_b1 a k_) (fun (x1 : (List gAirway) × Int × Int) => (x1.2.1, x1.1)) (((a.length : Int) - 0 : Int).toNat + 1) (a, k_, 0)

/-! ### laws_markMine -/
def m_laws_markMine (a : gMine) (k_ : Int) : Int × (List gAirway) :=
  ((m_laws_markAirwayS a.Airways k_).1, (m_laws_markAirwayS a.Airways k_).2)

/-! ### laws_markInt64S -/
def m_laws_markInt64S_b1 (a : List Int) (k_ : Int) (rec1 : ((List Int) × Int × Int) → (Int × (List Int))) (k1 : ((List Int) × Int × Int) → (Int × (List Int))) (x1 : (List Int) × Int × Int) : Int × (List Int) :=
  bif decide (x1.2.2 < (x1.1.length : Int)) then rec1 (put' x1.1 x1.2.2 x1.2.1, IntKind.wrap .i64 (x1.2.1 + 1), x1.2.2 + 1) else k1 (x1.1, x1.2.1, x1.2.2)
def m_laws_markInt64S (a : List Int) (k_ : Int) : Int × (List Int) :=
  LOOP (m_laws_markInt64S_b1 a k_) (fun (x1 : (List Int) × Int × Int) => (x1.2.1, x1.1)) (((a.length : Int) - 0 : Int).toNat + 1) (a, k_, 0)

/-! ### laws_markCrewS -/
def m_laws_markCrewS_b1 (a : List gCrew) (k_ : Int) (rec1 : ((List gCrew) × Int × Int) → (Int × (List gCrew))) (k1 : ((List gCrew) × Int × Int) → (Int × (List gCrew))) (x1 : (List gCrew) × Int × Int) : Int × (List gCrew) :=
  bif decide (x1.2.2 < (x1.1.length : Int)) then rec1 (put' x1.1 x1.2.2 (gCrew.mk (m_laws_markText x1.2.1) (IntKind.wrap .i64 (x1.2.1 + 1)) (IntKind.wrap .i64 ((IntKind.wrap .i64 (x1.2.1 + 1)) + 1))), IntKind.wrap .i64 ((IntKind.wrap .i64 ((IntKind.wrap .i64 (x1.2.1 + 1)) + 1)) + 1), x1.2.2 + 1) else k1 (x1.1, x1.2.1, x1.2.2)
def m_laws_markCrewS (a : List gCrew) (k_ : Int) : Int × (List gCrew) :=
  LOOP (m_laws_markCrewS_b1 a k_) (fun (x1 : (List gCrew) × Int × Int) => (x1.2.1, x1.1)) (((a.length : Int) - 0 : Int).toNat + 1) (a, k_, 0)

/-! ### laws_markRefugeS -/
def m_laws_markRefugeS_b1 (a : List gRefuge) (k_ : Int) (rec1 : ((List gRefuge) × Int × Int) → (Int × (List gRefuge))) (k1 : ((List gRefuge) × Int × Int) → (Int × (List gRefuge))) (x1 : (List gRefuge) × Int × Int) : Int × (List gRefuge) :=
  bif decide (x1.2.2 < (x1.1.length : Int)) then rec1 (put' x1.1 x1.2.2 (gRefuge.mk (m_laws_markText x1.2.1) (IntKind.wrap .i64 (x1.2.1 + 1)) (IntKind.wrap .i64 ((IntKind.wrap .i64 (x1.2.1 + 1)) + 1)) (IntKind.wrap .i64 ((IntKind.wrap .i64 ((IntKind.wrap .i64 (x1.2.1 + 1)) + 1)) + 1))), IntKind.wrap .i64 ((IntKind.wrap .i64 ((IntKind.wrap .i64 ((IntKind.wrap .i64 (x1.2.1 + 1)) + 1)) + 1)) + 1), x1.2.2 + 1) else k1 (x1.1, x1.2.1, x1.2.2)
def m_laws_markRefugeS (a : List gRefuge) (k_ : Int) : Int × (List gRefuge) :=
  LOOP (m_laws_markRefugeS_b1 a k_) (fun (x1 : (List gRefuge) × Int × Int) => (x1.2.1, x1.1)) (((a.length : Int) - 0 : Int).toNat + 1) (a, k_, 0)

/-! ### laws_heldInt64S -/
def m_laws_heldInt64S_b1 (a : List Int) (k_ : Int) (rec1 : (Int × Int) → Int) (k1 : (Int × Int) → Int) (x1 : Int × Int) : Int :=
  bif decide (x1.2 < (a.length : Int)) then bif (at' a x1.2) != x1.1 then (-1) else rec1 (IntKind.wrap .i64 (x1.1 + 1), x1.2 + 1) else k1 (x1.1, x1.2)
def m_laws_heldInt64S (a : List Int) (k_ : Int) : Int :=
  LOOP (m_laws_heldInt64S_b1 a k_) (fun (x1 : Int × Int) => x1.1) (((a.length : Int) - 0 : Int).toNat + 1) (k_, 0)

/-! ### laws_FnExactAssignCrews -/
def m_laws_FnExactAssignCrews (aM : gMine) (aArrivals : List Int) (aBlocked : Int) (aCrews : List gCrew) (aSizes : List Int) (aStart : Int) (aList : List gRefuge) (aBudget : Int) : Bool :=
  bif decide (1048576 < (aArrivals.length : Int)) then true else bif decide (1048576 < (aSizes.length : Int)) then true else bif decide ((m_laws_szMine aM 1048576) < 0) then true else bif decide ((m_laws_szCrewS aCrews (m_laws_szMine aM 1048576)) < 0) then true else bif decide ((m_laws_szRefugeS aList (m_laws_szCrewS aCrews (m_laws_szMine aM 1048576))) < 0) then true else bif ((!(m_laws_eqInt64S (m_impl_AssignCrews (m_laws_toMine aM) (m_laws_toInt64S aArrivals) aBlocked (m_laws_toCrewS aCrews) (m_laws_toInt64S aSizes) aStart (m_laws_toRefugeS aList) aBudget).1 (m_spec_AssignCrews (m_laws_toMine aM) (m_laws_toInt64S aArrivals) aBlocked (m_laws_toCrewS aCrews) (m_laws_toInt64S aSizes) aStart (m_laws_toRefugeS aList) aBudget).1)) || ((m_impl_AssignCrews (m_laws_toMine aM) (m_laws_toInt64S aArrivals) aBlocked (m_laws_toCrewS aCrews) (m_laws_toInt64S aSizes) aStart (m_laws_toRefugeS aList) aBudget).2.1 != (m_spec_AssignCrews (m_laws_toMine aM) (m_laws_toInt64S aArrivals) aBlocked (m_laws_toCrewS aCrews) (m_laws_toInt64S aSizes) aStart (m_laws_toRefugeS aList) aBudget).2.1)) || ((m_impl_AssignCrews (m_laws_toMine aM) (m_laws_toInt64S aArrivals) aBlocked (m_laws_toCrewS aCrews) (m_laws_toInt64S aSizes) aStart (m_laws_toRefugeS aList) aBudget).2.2 != (m_spec_AssignCrews (m_laws_toMine aM) (m_laws_toInt64S aArrivals) aBlocked (m_laws_toCrewS aCrews) (m_laws_toInt64S aSizes) aStart (m_laws_toRefugeS aList) aBudget).2.2) then false else bif !(m_laws_eqMine (m_laws_toMine aM) (m_laws_toMine aM)) then false else bif !(m_laws_eqInt64S (m_laws_toInt64S aArrivals) (m_laws_toInt64S aArrivals)) then false else bif !(m_laws_eqCrewS (m_laws_toCrewS aCrews) (m_laws_toCrewS aCrews)) then false else bif !(m_laws_eqInt64S (m_laws_toInt64S aSizes) (m_laws_toInt64S aSizes)) then false else bif !(m_laws_eqRefugeS (m_laws_toRefugeS aList) (m_laws_toRefugeS aList)) then false else bif (((decide ((m_laws_markRefugeS (m_laws_toRefugeS aList) (m_laws_markInt64S (m_laws_toInt64S aSizes) (m_laws_markCrewS (m_laws_toCrewS aCrews) (m_laws_markInt64S (m_laws_toInt64S aArrivals) (m_laws_markMine (m_laws_toMine aM) 1).1).1).1).1).1 < 0)) || (!(m_laws_eqInt64S (m_impl_AssignCrews (m_laws_toMine aM) (m_laws_toInt64S aArrivals) aBlocked (m_laws_toCrewS aCrews) (m_laws_toInt64S aSizes) aStart (m_laws_toRefugeS aList) aBudget).1 (m_spec_AssignCrews (m_laws_toMine aM) (m_laws_toInt64S aArrivals) aBlocked (m_laws_toCrewS aCrews) (m_laws_toInt64S aSizes) aStart (m_laws_toRefugeS aList) aBudget).1))) || ((m_impl_AssignCrews (m_laws_toMine aM) (m_laws_toInt64S aArrivals) aBlocked (m_laws_toCrewS aCrews) (m_laws_toInt64S aSizes) aStart (m_laws_toRefugeS aList) aBudget).2.1 != (m_spec_AssignCrews (m_laws_toMine aM) (m_laws_toInt64S aArrivals) aBlocked (m_laws_toCrewS aCrews) (m_laws_toInt64S aSizes) aStart (m_laws_toRefugeS aList) aBudget).2.1)) || ((m_impl_AssignCrews (m_laws_toMine aM) (m_laws_toInt64S aArrivals) aBlocked (m_laws_toCrewS aCrews) (m_laws_toInt64S aSizes) aStart (m_laws_toRefugeS aList) aBudget).2.2 != (m_spec_AssignCrews (m_laws_toMine aM) (m_laws_toInt64S aArrivals) aBlocked (m_laws_toCrewS aCrews) (m_laws_toInt64S aSizes) aStart (m_laws_toRefugeS aList) aBudget).2.2) then false else bif decide ((m_laws_heldInt64S (m_laws_markInt64S (m_impl_AssignCrews (m_laws_toMine aM) (m_laws_toInt64S aArrivals) aBlocked (m_laws_toCrewS aCrews) (m_laws_toInt64S aSizes) aStart (m_laws_toRefugeS aList) aBudget).1 1).2 1) < 0) then false else bif (m_laws_heldInt64S (m_laws_markInt64S (m_impl_AssignCrews (m_laws_toMine aM) (m_laws_toInt64S aArrivals) aBlocked (m_laws_toCrewS aCrews) (m_laws_toInt64S aSizes) aStart (m_laws_toRefugeS aList) aBudget).1 1).2 1) != (m_laws_markInt64S (m_impl_AssignCrews (m_laws_toMine aM) (m_laws_toInt64S aArrivals) aBlocked (m_laws_toCrewS aCrews) (m_laws_toInt64S aSizes) aStart (m_laws_toRefugeS aList) aBudget).1 1).1 then false else bif ((!(m_laws_eqInt64S (m_impl_AssignCrews (m_laws_toMine aM) (m_laws_toInt64S aArrivals) aBlocked (m_laws_toCrewS aCrews) (m_laws_toInt64S aSizes) aStart (m_laws_toRefugeS aList) aBudget).1 (m_spec_AssignCrews (m_laws_toMine aM) (m_laws_toInt64S aArrivals) aBlocked (m_laws_toCrewS aCrews) (m_laws_toInt64S aSizes) aStart (m_laws_toRefugeS aList) aBudget).1)) || ((m_impl_AssignCrews (m_laws_toMine aM) (m_laws_toInt64S aArrivals) aBlocked (m_laws_toCrewS aCrews) (m_laws_toInt64S aSizes) aStart (m_laws_toRefugeS aList) aBudget).2.1 != (m_spec_AssignCrews (m_laws_toMine aM) (m_laws_toInt64S aArrivals) aBlocked (m_laws_toCrewS aCrews) (m_laws_toInt64S aSizes) aStart (m_laws_toRefugeS aList) aBudget).2.1)) || ((m_impl_AssignCrews (m_laws_toMine aM) (m_laws_toInt64S aArrivals) aBlocked (m_laws_toCrewS aCrews) (m_laws_toInt64S aSizes) aStart (m_laws_toRefugeS aList) aBudget).2.2 != (m_spec_AssignCrews (m_laws_toMine aM) (m_laws_toInt64S aArrivals) aBlocked (m_laws_toCrewS aCrews) (m_laws_toInt64S aSizes) aStart (m_laws_toRefugeS aList) aBudget).2.2) then false else bif decide ((m_laws_heldInt64S (m_laws_markInt64S (m_impl_AssignCrews (m_laws_toMine aM) (m_laws_toInt64S aArrivals) aBlocked (m_laws_toCrewS aCrews) (m_laws_toInt64S aSizes) aStart (m_laws_toRefugeS aList) aBudget).1 1).2 1) < 0) then false else bif (m_laws_heldInt64S (m_laws_markInt64S (m_impl_AssignCrews (m_laws_toMine aM) (m_laws_toInt64S aArrivals) aBlocked (m_laws_toCrewS aCrews) (m_laws_toInt64S aSizes) aStart (m_laws_toRefugeS aList) aBudget).1 1).2 1) != (m_laws_markInt64S (m_impl_AssignCrews (m_laws_toMine aM) (m_laws_toInt64S aArrivals) aBlocked (m_laws_toCrewS aCrews) (m_laws_toInt64S aSizes) aStart (m_laws_toRefugeS aList) aBudget).1 1).1 then false else true

end Go.Proofs.Ytibbfdojcdkopaa
