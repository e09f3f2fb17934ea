/-
  PLAIN MODELS of the Go functions that the law reaches, printed by a program of this claim. Conditions: none; nothing is claimed here.
-/
import Derived.Test.YtchjibndocnnhaaEngN
set_option linter.unusedVariables false
set_option linter.unusedSimpArgs false
set_option linter.unusedSectionVars false
set_option linter.unnecessarySimpa false
namespace Go.Proofs.Ytchjibndocnnhaa
open Go Go.RowKit Go.Proofs Go.Proofs.Ytchjibndocnnhaa.E
structure gJob where
  Id : List UInt8
  Airway : Int
  People : Int
  Power : Int
instance : Inhabited gJob := ⟨gJob.mk default default default default⟩
abbrev gJob.v (x : gJob) : V := .st [.str x.Id, .int .i64 x.Airway, .int .i64 x.People, .int .i64 x.Power]
structure gAirway where
  Id : List UInt8
  From : Int
  To : Int
  Length : Int
  Section : Int
  Friction : Int
  Shock : Int
instance : Inhabited gAirway := ⟨gAirway.mk default default default default default default default⟩
abbrev gAirway.v (x : gAirway) : V := .st [.str x.Id, .int .i64 x.From, .int .i64 x.To, .int .i64 x.Length, .int .i64 x.Section, .int .i64 x.Friction, .int .i64 x.Shock]
structure gMine where
  Junctions : Int
  Airways : List gAirway
instance : Inhabited gMine := ⟨gMine.mk default default⟩
abbrev gMine.v (x : gMine) : V := .st [.int .i64 x.Junctions, .sl 7 (x.Airways.map gAirway.v)]
structure gjobSearch where
  mine : gMine
  flows : List Int
  list : List gJob
  budget : Int
  some_ : List Int
  best : List Int
instance : Inhabited gjobSearch := ⟨gjobSearch.mk default default default default default default⟩
abbrev gjobSearch.v (x : gjobSearch) : V := .st [.int .i64 x.mine.Junctions, .sl 7 (x.mine.Airways.map gAirway.v), .sl 1 (x.flows.map (V.int .i64)), .sl 4 (x.list.map gJob.v), .int .i64 x.budget, .sl 1 (x.some_.map (V.int .i64)), .sl 1 (x.best.map (V.int .i64))]
structure gshiftSearch where
  mine : gMine
  flows : List Int
  list : List gJob
  budget : Int
  shifts : List Int
instance : Inhabited gshiftSearch := ⟨gshiftSearch.mk default default default default default⟩
abbrev gshiftSearch.v (x : gshiftSearch) : V := .st [.int .i64 x.mine.Junctions, .sl 7 (x.mine.Airways.map gAirway.v), .sl 1 (x.flows.map (V.int .i64)), .sl 4 (x.list.map gJob.v), .int .i64 x.budget, .sl 1 (x.shifts.map (V.int .i64))]
structure gl00Src where
  code : List Int
  at_ : Int
  seed : Int
instance : Inhabited gl00Src := ⟨gl00Src.mk default default default⟩
abbrev gl00Src.v (x : gl00Src) : V := .st [.sl 1 (x.code.map (V.int .u8)), .int .i64 x.at_, .int .u64 x.seed]

/-! ### impl_within -/
def m_impl_within (n_ : Int) (low : Int) (high : Int) : Bool :=
  (decide (low ≤ n_)) && (decide (n_ ≤ high))

/-! ### impl_onlyNameBytes -/
def m_impl_onlyNameBytes_b1 (s_ : List UInt8) (rec1 : Int → Bool) (k1 : Int → Bool) (x1 : Int) : Bool :=
  bif decide (x1 < (s_.length : Int)) then bif ((decide ((((s_.getD x1.toNat 0).toNat : Nat) : Int) < 97)) || (decide (122 < (((s_.getD x1.toNat 0).toNat : Nat) : Int)))) && ((decide ((((s_.getD x1.toNat 0).toNat : Nat) : Int) < 48)) || (decide (57 < (((s_.getD x1.toNat 0).toNat : Nat) : Int)))) then false else rec1 (x1 + 1) else k1 x1
def m_impl_onlyNameBytes (s_ : List UInt8) : Bool :=
  LOOP (m_impl_onlyNameBytes_b1 s_) (fun (x1 : Int) => true) (((s_.length : Int) - 0 : Int).toNat + 1) 0

/-! ### impl_IsName -/
def m_impl_IsName (s_ : List UInt8) : Bool :=
  bif (((decide ((s_.length : Int) < 1)) || (decide (10 < (s_.length : Int)))) || (decide ((((s_.getD (0 : Int).toNat 0).toNat : Nat) : Int) < 97))) || (decide (122 < (((s_.getD (0 : Int).toNat 0).toNat : Nat) : Int))) then false else m_impl_onlyNameBytes s_

/-! ### impl_Job_valid -/
def m_impl_Job_valid (t : gJob) : Bool :=
  (((m_impl_IsName t.Id) && (m_impl_within t.Airway 0 23)) && (m_impl_within t.People 1 40)) && (m_impl_within t.Power 0 500)

/-! ### impl_junctionOk -/
def m_impl_junctionOk (n_ : Int) : Bool :=
  m_impl_within n_ 0 15

/-! ### impl_ValidAirway -/
def m_impl_ValidAirway (a : gAirway) : Bool :=
  (((((((m_impl_IsName a.Id) && (m_impl_junctionOk a.From)) && (m_impl_junctionOk a.To)) && (a.From != a.To)) && (m_impl_within a.Length 1 10000)) && (m_impl_within a.Section 50 5000)) && (m_impl_within a.Friction 1 1000)) && (m_impl_within a.Shock 0 1000)

/-! ### impl_Mine_hasJunction -/
def m_impl_Mine_hasJunction (m_ : gMine) (n_ : Int) : Bool :=
  m_impl_within n_ 0 (IntKind.wrap .i64 (m_.Junctions - 1))

/-! ### impl_Mine_hasEnds -/
def m_impl_Mine_hasEnds (m_ : gMine) (a : gAirway) : Bool :=
  (m_impl_Mine_hasJunction m_ a.From) && (m_impl_Mine_hasJunction m_ a.To)

/-! ### impl_ValidMine -/
def m_impl_ValidMine_b1 (m_ : gMine) (rec1 : Int → Bool) (k1 : Int → Bool) (x1 : Int) : Bool :=
  bif decide (x1 < (m_.Airways.length : Int)) then bif ((!(m_impl_ValidAirway (at' m_.Airways x1))) || (!(m_impl_Mine_hasEnds m_ (at' m_.Airways x1)))) || ((decide (0 < x1)) && (strB .leq (at' m_.Airways x1).Id (at' m_.Airways (x1 - 1)).Id)) then false else rec1 (x1 + 1) else k1 x1
def m_impl_ValidMine (m_ : gMine) : Bool :=
  bif (!(m_impl_within m_.Junctions 1 16)) || (decide (24 < (m_.Airways.length : Int))) then false else LOOP (m_impl_ValidMine_b1 m_) (fun (x1 : Int) => true) (((m_.Airways.length : Int) - 0 : Int).toNat + 1) 0

/-! ### impl_indexValid_impl_Airway -/
def m_impl_indexValid_impl_Airway (list : List gAirway) (k_ : Int) : Bool :=
  m_impl_within k_ 0 ((list.length : Int) - 1)

/-! ### impl_ValidJobs -/
def m_impl_ValidJobs_b1 (m_ : gMine) (list : List gJob) (rec1 : Int → Bool) (k1 : Int → Bool) (x1 : Int) : Bool :=
  bif decide (x1 < (list.length : Int)) then bif ((!(m_impl_Job_valid (at' list x1))) || (!(m_impl_indexValid_impl_Airway m_.Airways (at' list x1).Airway))) || ((decide (0 < x1)) && (strB .leq (at' list x1).Id (at' list (x1 - 1)).Id)) then false else rec1 (x1 + 1) else k1 x1
def m_impl_ValidJobs (m_ : gMine) (list : List gJob) : Bool :=
  bif (!(m_impl_ValidMine m_)) || (decide (12 < (list.length : Int))) then false else LOOP (m_impl_ValidJobs_b1 m_ list) (fun (x1 : Int) => true) (((list.length : Int) - 0 : Int).toNat + 1) 0

/-! ### slices_IndexFunc_int64 -/
def m_slices_IndexFunc_int64_b1 (s_ : List Int) (f : (Int → Bool)) (rec1 : Int → Int) (k1 : Int → Int) (x1 : Int) : Int :=
  bif decide (x1 < (s_.length : Int)) then bif f (at' s_ x1) then x1 else rec1 (x1 + 1) else k1 x1
def m_slices_IndexFunc_int64 (s_ : List Int) (f : Int → Bool) : Int :=
  LOOP (m_slices_IndexFunc_int64_b1 s_ f) (fun (x1 : Int) => (-1)) (((s_.length : Int) - 0 : Int).toNat + 1) 0

/-! ### slices_ContainsFunc_int64 -/
def m_slices_ContainsFunc_int64 (s_ : List Int) (f : Int → Bool) : Bool :=
  decide (0 ≤ (m_slices_IndexFunc_int64 s_ f))

/-! ### impl_allWithin_1 -/
def m_impl_allWithin_1 (n_ : Int) (p1 : Int) (p2 : Int) : Bool :=
  !(m_impl_within n_ p1 p2)

/-! ### impl_allWithin -/
def m_impl_allWithin (list : List Int) (low : Int) (high : Int) : Bool :=
  !(m_slices_ContainsFunc_int64 list (fun (a0 : Int) => m_impl_allWithin_1 a0 low high))

/-! ### impl_Mine_hasList -/
def m_impl_Mine_hasList (m_ : gMine) (list : List Int) (low : Int) (high : Int) : Bool :=
  ((list.length : Int) == (m_.Airways.length : Int)) && (m_impl_allWithin list low high)

/-! ### impl_Mine_hasFlows -/
def m_impl_Mine_hasFlows (m_ : gMine) (flows : List Int) : Bool :=
  m_impl_Mine_hasList m_ flows (-100000) 100000

/-! ### impl_jobsCode -/
def m_impl_jobsCode (m_ : gMine) (flows : List Int) (list : List gJob) : Int :=
  bif !(m_impl_ValidJobs m_ list) then 1 else bif !(m_impl_Mine_hasFlows m_ flows) then 7 else 0

/-! ### impl_budgetValid -/
def m_impl_budgetValid (budget : Int) : Bool :=
  m_impl_within budget 1 20000

/-! ### impl_Job_need -/
def m_impl_Job_need (t : gJob) : Int :=
  IntKind.wrap .i64 ((IntKind.wrap .i64 (10 * t.People)) + (IntKind.wrap .i64 (6 * t.Power)))

/-! ### impl_Mine_airNeeds -/
def m_impl_Mine_airNeeds_b1 (m_ : gMine) (list : List gJob) (rec1 : ((List Int) × Int) → (List Int)) (k1 : ((List Int) × Int) → (List Int)) (x1 : (List Int) × Int) : (List Int) :=
  bif decide (x1.2 < (list.length : Int)) then rec1 (put' x1.1 (at' list x1.2).Airway (IntKind.wrap .i64 ((at' x1.1 (at' list x1.2).Airway) + (m_impl_Job_need (at' list x1.2)))), x1.2 + 1) else k1 (x1.1, x1.2)
def m_impl_Mine_airNeeds (m_ : gMine) (list : List gJob) : (List Int) :=
  LOOP (m_impl_Mine_airNeeds_b1 m_ list) (fun (x1 : (List Int) × Int) => x1.1) (((list.length : Int) - 0 : Int).toNat + 1) (List.replicate ((m_.Airways.length : Int) : Int).toNat (0 : Int), 0)

/-! ### impl_abs -/
def m_impl_abs (n_ : Int) : Int :=
  if n_ < (IntKind.wrap .i64 (0 - n_)) then (IntKind.wrap .i64 (0 - n_)) else n_

/-! ### impl_Mine_fitJobs -/
def m_impl_Mine_fitJobs_b1 (m_ : gMine) (flows : List Int) (list : List gJob) (rec1 : Int → Bool) (k1 : Int → Bool) (x1 : Int) : Bool :=
  bif decide (x1 < ((m_impl_Mine_airNeeds m_ list).length : Int)) then bif decide ((m_impl_abs (at' flows x1)) < (at' (m_impl_Mine_airNeeds m_ list) x1)) then false else rec1 (x1 + 1) else k1 x1
def m_impl_Mine_fitJobs (m_ : gMine) (flows : List Int) (list : List gJob) : Bool :=
  LOOP (m_impl_Mine_fitJobs_b1 m_ flows list) (fun (x1 : Int) => true) ((((m_impl_Mine_airNeeds m_ list).length : Int) - 0 : Int).toNat + 1) 0

/-! ### impl_jobsOf -/
def m_impl_jobsOf_b1 (list : List gJob) (some_ : List Int) (rec1 : ((List gJob) × Int) → (List gJob)) (k1 : ((List gJob) × Int) → (List gJob)) (x1 : (List gJob) × Int) : (List gJob) :=
  bif decide (x1.2 < (some_.length : Int)) then rec1 (x1.1 ++ ([at' list (at' some_ x1.2)] : List gJob), x1.2 + 1) else k1 (x1.1, x1.2)
def m_impl_jobsOf (list : List gJob) (some_ : List Int) : (List gJob) :=
  LOOP (m_impl_jobsOf_b1 list some_) (fun (x1 : (List gJob) × Int) => x1.1) (((some_.length : Int) - 0 : Int).toNat + 1) (([] : List gJob), 0)

/-! ### slices_Clone_int64 -/
def m_slices_Clone_int64 (s_ : List Int) : (List Int) :=
  ([] : List Int) ++ s_

/-! ### impl_jobSearch_visit -/
def m_impl_jobSearch_visit_b1 (self_ : gjobSearch → Int → gjobSearch) (s_ : gjobSearch) (from_ : Int) (v4 : (List Int)) (rec1 : (Int × (List Int) × (List Int) × Int) → gjobSearch) (k1 : (Int × (List Int) × (List Int) × Int) → gjobSearch) (x1 : Int × (List Int) × (List Int) × Int) : gjobSearch :=
  bif decide (x1.2.2.2 < (s_.list.length : Int)) then JN (fun j13 => bif m_impl_Mine_fitJobs s_.mine s_.flows (m_impl_jobsOf s_.list (x1.2.1 ++ ([x1.2.2.2] : List Int))) then j13 ((self_ (gjobSearch.mk s_.mine s_.flows s_.list x1.1 (x1.2.1 ++ ([x1.2.2.2] : List Int)) x1.2.2.1) (x1.2.2.2 + 1)).budget, (self_ (gjobSearch.mk s_.mine s_.flows s_.list x1.1 (x1.2.1 ++ ([x1.2.2.2] : List Int)) x1.2.2.1) (x1.2.2.2 + 1)).some_, (self_ (gjobSearch.mk s_.mine s_.flows s_.list x1.1 (x1.2.1 ++ ([x1.2.2.2] : List Int)) x1.2.2.1) (x1.2.2.2 + 1)).best) else j13 (x1.1, x1.2.1 ++ ([x1.2.2.2] : List Int), x1.2.2.1)) (fun (v12 : Int × (List Int) × (List Int)) => bif decide (v12.1 < 0) then gjobSearch.mk s_.mine s_.flows s_.list v12.1 (pre' v12.2.1 (IntKind.wrap .i64 ((v12.2.1.length : Int) - 1))) v12.2.2 else rec1 (v12.1, pre' v12.2.1 (IntKind.wrap .i64 ((v12.2.1.length : Int) - 1)), v12.2.2, x1.2.2.2 + 1)) else k1 (x1.1, x1.2.1, x1.2.2.1, x1.2.2.2)
def m_impl_jobSearch_visit_body (self_ : gjobSearch → Int → gjobSearch) (s_ : gjobSearch) (from_ : Int) : gjobSearch :=
  bif decide ((IntKind.wrap .i64 (s_.budget - 1)) < 0) then gjobSearch.mk s_.mine s_.flows s_.list (IntKind.wrap .i64 (s_.budget - 1)) s_.some_ s_.best else JN (fun j5 => bif decide ((s_.best.length : Int) < (s_.some_.length : Int)) then j5 (m_slices_Clone_int64 s_.some_) else j5 s_.best) (fun (v4 : (List Int)) => LOOP (m_impl_jobSearch_visit_b1 self_ s_ from_ v4) (fun (x1 : Int × (List Int) × (List Int) × Int) => gjobSearch.mk s_.mine s_.flows s_.list x1.1 x1.2.1 x1.2.2.1) (((s_.list.length : Int) - from_ : Int).toNat + 1) (IntKind.wrap .i64 (s_.budget - 1), s_.some_, v4, from_))
def m_impl_jobSearch_visit_n : Nat → gjobSearch → Int → gjobSearch
  | 0 => fun _ _ => default
  | fuel + 1 => m_impl_jobSearch_visit_body (m_impl_jobSearch_visit_n fuel)
def m_impl_jobSearch_visit (s_ : gjobSearch) (from_ : Int) : gjobSearch := m_impl_jobSearch_visit_n (((s_.list.length : Int) - from_).toNat + 1) s_ from_

/-! ### impl_MostJobs -/
def m_impl_MostJobs (m_ : gMine) (flows : List Int) (list : List gJob) (budget : Int) : (List Int) × Int :=
  bif (m_impl_jobsCode m_ flows list) == 1 then (([] : List Int), m_impl_jobsCode m_ flows list) else bif !(m_impl_budgetValid budget) then (([] : List Int), 2) else bif (m_impl_jobsCode m_ flows list) != 0 then (([] : List Int), m_impl_jobsCode m_ flows list) else bif decide ((m_impl_jobSearch_visit (gjobSearch.mk m_ flows list budget ([] : List Int) ([] : List Int)) 0).budget < 0) then (([] : List Int), 5) else ((m_impl_jobSearch_visit (gjobSearch.mk m_ flows list budget ([] : List Int) ([] : List Int)) 0).best, 0)

/-! ### slices_IndexFunc_impl_Job -/
def m_slices_IndexFunc_impl_Job_b1 (s_ : List gJob) (f : (gJob → Bool)) (rec1 : Int → Int) (k1 : Int → Int) (x1 : Int) : Int :=
  bif decide (x1 < (s_.length : Int)) then bif f (at' s_ x1) then x1 else rec1 (x1 + 1) else k1 x1
def m_slices_IndexFunc_impl_Job (s_ : List gJob) (f : gJob → Bool) : Int :=
  LOOP (m_slices_IndexFunc_impl_Job_b1 s_ f) (fun (x1 : Int) => (-1)) (((s_.length : Int) - 0 : Int).toNat + 1) 0

/-! ### slices_ContainsFunc_impl_Job -/
def m_slices_ContainsFunc_impl_Job (s_ : List gJob) (f : gJob → Bool) : Bool :=
  decide (0 ≤ (m_slices_IndexFunc_impl_Job s_ f))

/-! ### impl_FewestShifts_1 -/
def m_impl_FewestShifts_1 (t : gJob) (p1 : gMine) (p2 : List Int) : Bool :=
  !(m_impl_Mine_fitJobs p1 p2 ([t] : List gJob))

/-! ### impl_shiftSearch_extend -/
def m_impl_shiftSearch_extend_b2 (self_ : gshiftSearch → Int → Int → (Bool × gshiftSearch)) (s_ : gshiftSearch) (n_ : Int) (used : Int) (rec1 : (Int × Int × (List Int)) → (Bool × gshiftSearch)) (k1 : (Int × Int × (List Int)) → (Bool × gshiftSearch)) (x1 : Int × Int × (List Int)) (rec2 : ((List gJob) × Int) → (Bool × gshiftSearch)) (k2 : ((List gJob) × Int) → (Bool × gshiftSearch)) (x2 : (List gJob) × Int) : Bool × gshiftSearch :=
  bif decide (x2.2 < (x1.2.2.length : Int)) then bif (at' x1.2.2 x2.2) == x1.1 then rec2 (x2.1 ++ ([at' s_.list x2.2] : List gJob), x2.2 + 1) else rec2 (x2.1, x2.2 + 1) else k2 (x2.1, x2.2)
def m_impl_shiftSearch_extend_b1 (self_ : gshiftSearch → Int → Int → (Bool × gshiftSearch)) (s_ : gshiftSearch) (n_ : Int) (used : Int) (rec1 : (Int × Int × (List Int)) → (Bool × gshiftSearch)) (k1 : (Int × Int × (List Int)) → (Bool × gshiftSearch)) (x1 : Int × Int × (List Int)) : Bool × gshiftSearch :=
  bif decide (x1.1 < (if (IntKind.wrap .i64 (used + 1)) < n_ then (IntKind.wrap .i64 (used + 1)) else n_)) then LOOP (m_impl_shiftSearch_extend_b2 self_ s_ n_ used rec1 k1 x1) (fun (x2 : (List gJob) × Int) => bif !(m_impl_Mine_fitJobs s_.mine s_.flows x2.1) then rec1 (x1.1 + 1, x1.2.1, x1.2.2) else bif decide ((IntKind.wrap .i64 (x1.2.1 - 1)) < 0) then (false, gshiftSearch.mk s_.mine s_.flows s_.list (IntKind.wrap .i64 (x1.2.1 - 1)) x1.2.2) else bif (self_ (gshiftSearch.mk s_.mine s_.flows s_.list (IntKind.wrap .i64 (x1.2.1 - 1)) (x1.2.2 ++ ([x1.1] : List Int))) n_ (if used < (x1.1 + 1) then (x1.1 + 1) else used)).1 then (true, gshiftSearch.mk s_.mine s_.flows s_.list (self_ (gshiftSearch.mk s_.mine s_.flows s_.list (IntKind.wrap .i64 (x1.2.1 - 1)) (x1.2.2 ++ ([x1.1] : List Int))) n_ (if used < (x1.1 + 1) then (x1.1 + 1) else used)).2.budget (self_ (gshiftSearch.mk s_.mine s_.flows s_.list (IntKind.wrap .i64 (x1.2.1 - 1)) (x1.2.2 ++ ([x1.1] : List Int))) n_ (if used < (x1.1 + 1) then (x1.1 + 1) else used)).2.shifts) else bif decide ((self_ (gshiftSearch.mk s_.mine s_.flows s_.list (IntKind.wrap .i64 (x1.2.1 - 1)) (x1.2.2 ++ ([x1.1] : List Int))) n_ (if used < (x1.1 + 1) then (x1.1 + 1) else used)).2.budget < 0) then (false, gshiftSearch.mk s_.mine s_.flows s_.list (self_ (gshiftSearch.mk s_.mine s_.flows s_.list (IntKind.wrap .i64 (x1.2.1 - 1)) (x1.2.2 ++ ([x1.1] : List Int))) n_ (if used < (x1.1 + 1) then (x1.1 + 1) else used)).2.budget (pre' (self_ (gshiftSearch.mk s_.mine s_.flows s_.list (IntKind.wrap .i64 (x1.2.1 - 1)) (x1.2.2 ++ ([x1.1] : List Int))) n_ (if used < (x1.1 + 1) then (x1.1 + 1) else used)).2.shifts (s_.shifts.length : Int))) else rec1 (x1.1 + 1, (self_ (gshiftSearch.mk s_.mine s_.flows s_.list (IntKind.wrap .i64 (x1.2.1 - 1)) (x1.2.2 ++ ([x1.1] : List Int))) n_ (if used < (x1.1 + 1) then (x1.1 + 1) else used)).2.budget, pre' (self_ (gshiftSearch.mk s_.mine s_.flows s_.list (IntKind.wrap .i64 (x1.2.1 - 1)) (x1.2.2 ++ ([x1.1] : List Int))) n_ (if used < (x1.1 + 1) then (x1.1 + 1) else used)).2.shifts (s_.shifts.length : Int))) (((x1.2.2.length : Int) - 0 : Int).toNat + 1) (([at' s_.list (s_.shifts.length : Int)] : List gJob), 0) else k1 (x1.1, x1.2.1, x1.2.2)
def m_impl_shiftSearch_extend_body (self_ : gshiftSearch → Int → Int → (Bool × gshiftSearch)) (s_ : gshiftSearch) (n_ : Int) (used : Int) : Bool × gshiftSearch :=
  bif (s_.shifts.length : Int) == (s_.list.length : Int) then (true, s_) else LOOP (m_impl_shiftSearch_extend_b1 self_ s_ n_ used) (fun (x1 : Int × Int × (List Int)) => (false, gshiftSearch.mk s_.mine s_.flows s_.list x1.2.1 x1.2.2)) (((if (IntKind.wrap .i64 (used + 1)) < n_ then (IntKind.wrap .i64 (used + 1)) else n_) - 0 : Int).toNat + 1) (0, s_.budget, s_.shifts)
def m_impl_shiftSearch_extend_n : Nat → gshiftSearch → Int → Int → (Bool × gshiftSearch)
  | 0 => fun _ _ _ => default
  | fuel + 1 => m_impl_shiftSearch_extend_body (m_impl_shiftSearch_extend_n fuel)
def m_impl_shiftSearch_extend (s_ : gshiftSearch) (n_ : Int) (used : Int) : Bool × gshiftSearch := m_impl_shiftSearch_extend_n (((s_.list.length : Int) - s_.shifts.length).toNat + 1) s_ n_ used

/-! ### impl_FewestShifts -/
def m_impl_FewestShifts_b1 (m_ : gMine) (flows : List Int) (list : List gJob) (budget : Int) (rec1 : (Int × (List Int) × Int) → ((List Int) × Int × Int)) (k1 : (Int × (List Int) × Int) → ((List Int) × Int × Int)) (x1 : Int × (List Int) × Int) : (List Int) × Int × Int :=
  bif (m_impl_shiftSearch_extend (gshiftSearch.mk m_ flows list x1.1 x1.2.1) x1.2.2 0).1 then ((m_impl_shiftSearch_extend (gshiftSearch.mk m_ flows list x1.1 x1.2.1) x1.2.2 0).2.shifts, x1.2.2, 0) else bif decide ((m_impl_shiftSearch_extend (gshiftSearch.mk m_ flows list x1.1 x1.2.1) x1.2.2 0).2.budget < 0) then (([] : List Int), 0, 5) else rec1 ((m_impl_shiftSearch_extend (gshiftSearch.mk m_ flows list x1.1 x1.2.1) x1.2.2 0).2.budget, (m_impl_shiftSearch_extend (gshiftSearch.mk m_ flows list x1.1 x1.2.1) x1.2.2 0).2.shifts, x1.2.2 + 1)
def m_impl_FewestShifts (m_ : gMine) (flows : List Int) (list : List gJob) (budget : Int) : (List Int) × Int × Int :=
  bif (m_impl_jobsCode m_ flows list) == 1 then (([] : List Int), 0, m_impl_jobsCode m_ flows list) else bif !(m_impl_budgetValid budget) then (([] : List Int), 0, 2) else bif (m_impl_jobsCode m_ flows list) != 0 then (([] : List Int), 0, m_impl_jobsCode m_ flows list) else bif m_slices_ContainsFunc_impl_Job list (fun (a0 : gJob) => m_impl_FewestShifts_1 a0 m_ flows) then (([] : List Int), 0, 3) else LOOP (m_impl_FewestShifts_b1 m_ flows list budget) (fun (x1 : Int × (List Int) × Int) => default) ((2 * budget + 1).toNat + 1) (budget, ([] : List Int), 0)

/-! ### laws_r8Long -/
def m_laws_r8Long (code : List Int) (more : List Int) : Bool :=
  (decide (1048576 < (code.length : Int))) || (decide (1048576 < (more.length : Int)))

/-! ### spec_l00From -/
def m_spec_l00From (code : List Int) : gl00Src :=
  gl00Src.mk code 0 0

/-! ### spec_l00Src_next -/
def m_spec_l00Src_next (s_ : gl00Src) : Int × gl00Src :=
  JN (fun j3 => bif decide (s_.at_ < (s_.code.length : Int)) then j3 (IntKind.wrap .i64 (at' s_.code s_.at_)) else j3 0) (fun (v2 : Int) => bif decide ((IntKind.wrap .i64 (s_.at_ + 1)) ≤ (s_.code.length : Int)) then (v2, gl00Src.mk s_.code (IntKind.wrap .i64 (s_.at_ + 1)) (IntKind.wrap .u64 ((IntKind.wrap .u64 ((IntKind.wrap .u64 (s_.seed * 6364136223846793005)) + (IntKind.wrap .u64 v2))) + 1442695040888963407))) else (IntKind.wrap .i64 (IntKind.wrap .u64 ((((BitVec.ofInt (IntKind.bits .u64) (Int.fdiv (IntKind.wrap .u64 ((IntKind.wrap .u64 ((IntKind.wrap .u64 (s_.seed * 6364136223846793005)) + (IntKind.wrap .u64 v2))) + 1442695040888963407)) (2 ^ min (40 : Int).toNat 64))) &&& (BitVec.ofInt (IntKind.bits .u64) 255)).toNat : Nat) : Int)), gl00Src.mk s_.code (IntKind.wrap .i64 (s_.at_ + 1)) (IntKind.wrap .u64 ((IntKind.wrap .u64 ((IntKind.wrap .u64 (s_.seed * 6364136223846793005)) + (IntKind.wrap .u64 v2))) + 1442695040888963407))))

/-! ### spec_l00Src_pick -/
def m_spec_l00Src_pick (s_ : gl00Src) (n_ : Int) : Int × gl00Src :=
  bif decide (n_ ≤ 1) then (0, s_) else bif decide (200 < n_) then (Int.tmod (IntKind.wrap .i64 ((IntKind.wrap .i64 ((m_spec_l00Src_next s_).1 * 256)) + (m_spec_l00Src_next (m_spec_l00Src_next s_).2).1)) n_, (m_spec_l00Src_next (m_spec_l00Src_next s_).2).2) else (Int.tmod (m_spec_l00Src_next s_).1 n_, (m_spec_l00Src_next s_).2)

/-! ### spec_l00Src_one -/
def m_spec_l00Src_one (s_ : gl00Src) (n_ : Int) : Bool × gl00Src :=
  ((m_spec_l00Src_pick s_ n_).1 == 0, (m_spec_l00Src_pick s_ n_).2)

/-! ### spec_l03DrawOk -/
def m_spec_l03DrawOk (s_ : gl00Src) (id : List UInt8) (from_ : Int) (to : Int) : gAirway × gl00Src :=
  (gAirway.mk id from_ to (IntKind.wrap .i64 (20 + (m_spec_l00Src_pick s_ 900).1)) (IntKind.wrap .i64 (300 + (m_spec_l00Src_pick (m_spec_l00Src_pick s_ 900).2 1500).1)) (IntKind.wrap .i64 (20 + (m_spec_l00Src_pick (m_spec_l00Src_pick (m_spec_l00Src_pick s_ 900).2 1500).2 200).1)) (m_spec_l00Src_pick (m_spec_l00Src_pick (m_spec_l00Src_pick (m_spec_l00Src_pick s_ 900).2 1500).2 200).2 60).1, (m_spec_l00Src_pick (m_spec_l00Src_pick (m_spec_l00Src_pick (m_spec_l00Src_pick s_ 900).2 1500).2 200).2 60).2)

/-! ### spec_l04DrawOk -/
def m_spec_l04DrawOk_b1 (s_ : gl00Src) (rec1 : ((List Int) × Int × Int × Int × (List gAirway)) → (gMine × gl00Src)) (k1 : ((List Int) × Int × Int × Int × (List gAirway)) → (gMine × gl00Src)) (x1 : (List Int) × Int × Int × Int × (List gAirway)) : gMine × gl00Src :=
  bif decide (x1.2.2.2.1 < (([([97] : List UInt8), ([98] : List UInt8), ([99] : List UInt8), ([100] : List UInt8), ([101] : List UInt8), ([102] : List UInt8), ([103] : List UInt8), ([104] : List UInt8)] : List (List UInt8)).length : Int)) then bif (m_spec_l00Src_one (gl00Src.mk x1.1 x1.2.1 x1.2.2.1) 5).1 then rec1 ((m_spec_l00Src_one (gl00Src.mk x1.1 x1.2.1 x1.2.2.1) 5).2.code, (m_spec_l00Src_one (gl00Src.mk x1.1 x1.2.1 x1.2.2.1) 5).2.at_, (m_spec_l00Src_one (gl00Src.mk x1.1 x1.2.1 x1.2.2.1) 5).2.seed, x1.2.2.2.1 + 1, x1.2.2.2.2) else JN (fun j6 => bif (m_spec_l00Src_one (m_spec_l00Src_one (gl00Src.mk x1.1 x1.2.1 x1.2.2.1) 5).2 2).1 then j6 ((m_spec_l00Src_pick (m_spec_l00Src_one (m_spec_l00Src_one (gl00Src.mk x1.1 x1.2.1 x1.2.2.1) 5).2 2).2 (IntKind.wrap .i64 (2 + (m_spec_l00Src_pick s_ 5).1))).2.code, (m_spec_l00Src_pick (m_spec_l00Src_one (m_spec_l00Src_one (gl00Src.mk x1.1 x1.2.1 x1.2.2.1) 5).2 2).2 (IntKind.wrap .i64 (2 + (m_spec_l00Src_pick s_ 5).1))).2.at_, (m_spec_l00Src_pick (m_spec_l00Src_one (m_spec_l00Src_one (gl00Src.mk x1.1 x1.2.1 x1.2.2.1) 5).2 2).2 (IntKind.wrap .i64 (2 + (m_spec_l00Src_pick s_ 5).1))).2.seed, (m_spec_l00Src_pick (m_spec_l00Src_one (m_spec_l00Src_one (gl00Src.mk x1.1 x1.2.1 x1.2.2.1) 5).2 2).2 (IntKind.wrap .i64 (2 + (m_spec_l00Src_pick s_ 5).1))).1) else j6 ((m_spec_l00Src_one (m_spec_l00Src_one (gl00Src.mk x1.1 x1.2.1 x1.2.2.1) 5).2 2).2.code, (m_spec_l00Src_one (m_spec_l00Src_one (gl00Src.mk x1.1 x1.2.1 x1.2.2.1) 5).2 2).2.at_, (m_spec_l00Src_one (m_spec_l00Src_one (gl00Src.mk x1.1 x1.2.1 x1.2.2.1) 5).2 2).2.seed, Int.tmod x1.2.2.2.1 (IntKind.wrap .i64 (2 + (m_spec_l00Src_pick s_ 5).1)))) (fun (v5 : (List Int) × Int × Int × Int) => JN (fun j10 => bif (decide (x1.2.2.2.1 < (IntKind.wrap .i64 ((IntKind.wrap .i64 (2 + (m_spec_l00Src_pick s_ 5).1)) - 1)))) && (!(m_spec_l00Src_one (m_spec_l00Src_pick (gl00Src.mk v5.1 v5.2.1 v5.2.2.1) (IntKind.wrap .i64 ((IntKind.wrap .i64 (2 + (m_spec_l00Src_pick s_ 5).1)) - 1))).2 4).1) then j10 (x1.2.2.2.1, x1.2.2.2.1 + 1) else j10 (v5.2.2.2, Int.tmod (IntKind.wrap .i64 ((IntKind.wrap .i64 (v5.2.2.2 + 1)) + (m_spec_l00Src_pick (gl00Src.mk v5.1 v5.2.1 v5.2.2.1) (IntKind.wrap .i64 ((IntKind.wrap .i64 (2 + (m_spec_l00Src_pick s_ 5).1)) - 1))).1)) (IntKind.wrap .i64 (2 + (m_spec_l00Src_pick s_ 5).1)))) (fun (v9 : Int × Int) => rec1 ((m_spec_l03DrawOk (bif (decide (x1.2.2.2.1 < (IntKind.wrap .i64 ((IntKind.wrap .i64 (2 + (m_spec_l00Src_pick s_ 5).1)) - 1)))) then (m_spec_l00Src_one (m_spec_l00Src_pick (gl00Src.mk v5.1 v5.2.1 v5.2.2.1) (IntKind.wrap .i64 ((IntKind.wrap .i64 (2 + (m_spec_l00Src_pick s_ 5).1)) - 1))).2 4).2 else (m_spec_l00Src_pick (gl00Src.mk v5.1 v5.2.1 v5.2.2.1) (IntKind.wrap .i64 ((IntKind.wrap .i64 (2 + (m_spec_l00Src_pick s_ 5).1)) - 1))).2) (at' ([([97] : List UInt8), ([98] : List UInt8), ([99] : List UInt8), ([100] : List UInt8), ([101] : List UInt8), ([102] : List UInt8), ([103] : List UInt8), ([104] : List UInt8)] : List (List UInt8)) x1.2.2.2.1) v9.1 v9.2).2.code, (m_spec_l03DrawOk (bif (decide (x1.2.2.2.1 < (IntKind.wrap .i64 ((IntKind.wrap .i64 (2 + (m_spec_l00Src_pick s_ 5).1)) - 1)))) then (m_spec_l00Src_one (m_spec_l00Src_pick (gl00Src.mk v5.1 v5.2.1 v5.2.2.1) (IntKind.wrap .i64 ((IntKind.wrap .i64 (2 + (m_spec_l00Src_pick s_ 5).1)) - 1))).2 4).2 else (m_spec_l00Src_pick (gl00Src.mk v5.1 v5.2.1 v5.2.2.1) (IntKind.wrap .i64 ((IntKind.wrap .i64 (2 + (m_spec_l00Src_pick s_ 5).1)) - 1))).2) (at' ([([97] : List UInt8), ([98] : List UInt8), ([99] : List UInt8), ([100] : List UInt8), ([101] : List UInt8), ([102] : List UInt8), ([103] : List UInt8), ([104] : List UInt8)] : List (List UInt8)) x1.2.2.2.1) v9.1 v9.2).2.at_, (m_spec_l03DrawOk (bif (decide (x1.2.2.2.1 < (IntKind.wrap .i64 ((IntKind.wrap .i64 (2 + (m_spec_l00Src_pick s_ 5).1)) - 1)))) then (m_spec_l00Src_one (m_spec_l00Src_pick (gl00Src.mk v5.1 v5.2.1 v5.2.2.1) (IntKind.wrap .i64 ((IntKind.wrap .i64 (2 + (m_spec_l00Src_pick s_ 5).1)) - 1))).2 4).2 else (m_spec_l00Src_pick (gl00Src.mk v5.1 v5.2.1 v5.2.2.1) (IntKind.wrap .i64 ((IntKind.wrap .i64 (2 + (m_spec_l00Src_pick s_ 5).1)) - 1))).2) (at' ([([97] : List UInt8), ([98] : List UInt8), ([99] : List UInt8), ([100] : List UInt8), ([101] : List UInt8), ([102] : List UInt8), ([103] : List UInt8), ([104] : List UInt8)] : List (List UInt8)) x1.2.2.2.1) v9.1 v9.2).2.seed, x1.2.2.2.1 + 1, x1.2.2.2.2 ++ ([(m_spec_l03DrawOk (bif (decide (x1.2.2.2.1 < (IntKind.wrap .i64 ((IntKind.wrap .i64 (2 + (m_spec_l00Src_pick s_ 5).1)) - 1)))) then (m_spec_l00Src_one (m_spec_l00Src_pick (gl00Src.mk v5.1 v5.2.1 v5.2.2.1) (IntKind.wrap .i64 ((IntKind.wrap .i64 (2 + (m_spec_l00Src_pick s_ 5).1)) - 1))).2 4).2 else (m_spec_l00Src_pick (gl00Src.mk v5.1 v5.2.1 v5.2.2.1) (IntKind.wrap .i64 ((IntKind.wrap .i64 (2 + (m_spec_l00Src_pick s_ 5).1)) - 1))).2) (at' ([([97] : List UInt8), ([98] : List UInt8), ([99] : List UInt8), ([100] : List UInt8), ([101] : List UInt8), ([102] : List UInt8), ([103] : List UInt8), ([104] : List UInt8)] : List (List UInt8)) x1.2.2.2.1) v9.1 v9.2).1] : List gAirway)))) else k1 (x1.1, x1.2.1, x1.2.2.1, x1.2.2.2.1, x1.2.2.2.2)
def m_spec_l04DrawOk (s_ : gl00Src) : gMine × gl00Src :=
  LOOP (m_spec_l04DrawOk_b1 s_) (fun (x1 : (List Int) × Int × Int × Int × (List gAirway)) => (gMine.mk (IntKind.wrap .i64 (2 + (m_spec_l00Src_pick s_ 5).1)) x1.2.2.2.2, gl00Src.mk x1.1 x1.2.1 x1.2.2.1)) (((([([97] : List UInt8), ([98] : List UInt8), ([99] : List UInt8), ([100] : List UInt8), ([101] : List UInt8), ([102] : List UInt8), ([103] : List UInt8), ([104] : List UInt8)] : List (List UInt8)).length : Int) - 0 : Int).toNat + 1) ((m_spec_l00Src_pick s_ 5).2.code, (m_spec_l00Src_pick s_ 5).2.at_, (m_spec_l00Src_pick s_ 5).2.seed, 0, ([] : List gAirway))

/-! ### spec_R8Mine -/
def m_spec_R8Mine (code : List Int) : gMine :=
  (m_spec_l04DrawOk (m_spec_l00From code)).1

/-! ### spec_l00Max -/
def m_spec_l00Max (a : Int) (b : Int) : Int :=
  bif decide (b < a) then a else b

/-! ### spec_l00Min -/
def m_spec_l00Min (a : Int) (b : Int) : Int :=
  bif decide (a < b) then a else b

/-! ### spec_l00Src_among -/
def m_spec_l00Src_among (s_ : gl00Src) (list : List Int) : Int × gl00Src × (List Int) :=
  (at' list (m_spec_l00Src_pick s_ (list.length : Int)).1, (m_spec_l00Src_pick s_ (list.length : Int)).2, list)

/-! ### spec_l23DrawOne -/
def m_spec_l23DrawOne (s_ : gl00Src) (m_ : gMine) (id : List UInt8) : gJob × gl00Src :=
  bif (m_spec_l00Src_pick (m_spec_l00Src_among (m_spec_l00Src_pick (m_spec_l00Src_pick s_ 12).2 (m_spec_l00Max 1 (m_spec_l00Min 3 (m_.Airways.length : Int)))).2 ([0, 20, 60, 120] : List Int)).2.1 40).1 == 0 then (gJob.mk id (m_spec_l00Src_among (m_spec_l00Src_pick (m_spec_l00Src_among (m_spec_l00Src_pick (m_spec_l00Src_pick s_ 12).2 (m_spec_l00Max 1 (m_spec_l00Min 3 (m_.Airways.length : Int)))).2 ([0, 20, 60, 120] : List Int)).2.1 40).2 ([(-1), 23, 24, (m_.Airways.length : Int)] : List Int)).1 (IntKind.wrap .i64 (1 + (m_spec_l00Src_pick s_ 12).1)) (m_spec_l00Src_among (m_spec_l00Src_pick (m_spec_l00Src_pick s_ 12).2 (m_spec_l00Max 1 (m_spec_l00Min 3 (m_.Airways.length : Int)))).2 ([0, 20, 60, 120] : List Int)).1, (m_spec_l00Src_among (m_spec_l00Src_pick (m_spec_l00Src_among (m_spec_l00Src_pick (m_spec_l00Src_pick s_ 12).2 (m_spec_l00Max 1 (m_spec_l00Min 3 (m_.Airways.length : Int)))).2 ([0, 20, 60, 120] : List Int)).2.1 40).2 ([(-1), 23, 24, (m_.Airways.length : Int)] : List Int)).2.1) else bif (m_spec_l00Src_pick (m_spec_l00Src_among (m_spec_l00Src_pick (m_spec_l00Src_pick s_ 12).2 (m_spec_l00Max 1 (m_spec_l00Min 3 (m_.Airways.length : Int)))).2 ([0, 20, 60, 120] : List Int)).2.1 40).1 == 1 then (gJob.mk id (m_spec_l00Src_pick (m_spec_l00Src_pick s_ 12).2 (m_spec_l00Max 1 (m_spec_l00Min 3 (m_.Airways.length : Int)))).1 (m_spec_l00Src_among (m_spec_l00Src_pick (m_spec_l00Src_among (m_spec_l00Src_pick (m_spec_l00Src_pick s_ 12).2 (m_spec_l00Max 1 (m_spec_l00Min 3 (m_.Airways.length : Int)))).2 ([0, 20, 60, 120] : List Int)).2.1 40).2 ([0, 1, 40, 41] : List Int)).1 (m_spec_l00Src_among (m_spec_l00Src_pick (m_spec_l00Src_pick s_ 12).2 (m_spec_l00Max 1 (m_spec_l00Min 3 (m_.Airways.length : Int)))).2 ([0, 20, 60, 120] : List Int)).1, (m_spec_l00Src_among (m_spec_l00Src_pick (m_spec_l00Src_among (m_spec_l00Src_pick (m_spec_l00Src_pick s_ 12).2 (m_spec_l00Max 1 (m_spec_l00Min 3 (m_.Airways.length : Int)))).2 ([0, 20, 60, 120] : List Int)).2.1 40).2 ([0, 1, 40, 41] : List Int)).2.1) else bif (m_spec_l00Src_pick (m_spec_l00Src_among (m_spec_l00Src_pick (m_spec_l00Src_pick s_ 12).2 (m_spec_l00Max 1 (m_spec_l00Min 3 (m_.Airways.length : Int)))).2 ([0, 20, 60, 120] : List Int)).2.1 40).1 == 2 then (gJob.mk id (m_spec_l00Src_pick (m_spec_l00Src_pick s_ 12).2 (m_spec_l00Max 1 (m_spec_l00Min 3 (m_.Airways.length : Int)))).1 (IntKind.wrap .i64 (1 + (m_spec_l00Src_pick s_ 12).1)) (m_spec_l00Src_among (m_spec_l00Src_pick (m_spec_l00Src_among (m_spec_l00Src_pick (m_spec_l00Src_pick s_ 12).2 (m_spec_l00Max 1 (m_spec_l00Min 3 (m_.Airways.length : Int)))).2 ([0, 20, 60, 120] : List Int)).2.1 40).2 ([(-1), 500, 501] : List Int)).1, (m_spec_l00Src_among (m_spec_l00Src_pick (m_spec_l00Src_among (m_spec_l00Src_pick (m_spec_l00Src_pick s_ 12).2 (m_spec_l00Max 1 (m_spec_l00Min 3 (m_.Airways.length : Int)))).2 ([0, 20, 60, 120] : List Int)).2.1 40).2 ([(-1), 500, 501] : List Int)).2.1) else (gJob.mk id (m_spec_l00Src_pick (m_spec_l00Src_pick s_ 12).2 (m_spec_l00Max 1 (m_spec_l00Min 3 (m_.Airways.length : Int)))).1 (IntKind.wrap .i64 (1 + (m_spec_l00Src_pick s_ 12).1)) (m_spec_l00Src_among (m_spec_l00Src_pick (m_spec_l00Src_pick s_ 12).2 (m_spec_l00Max 1 (m_spec_l00Min 3 (m_.Airways.length : Int)))).2 ([0, 20, 60, 120] : List Int)).1, (m_spec_l00Src_pick (m_spec_l00Src_among (m_spec_l00Src_pick (m_spec_l00Src_pick s_ 12).2 (m_spec_l00Max 1 (m_spec_l00Min 3 (m_.Airways.length : Int)))).2 ([0, 20, 60, 120] : List Int)).2.1 40).2)

/-! ### spec_l23DrawList -/
def m_spec_l23DrawList_b1 (s_ : gl00Src) (m_ : gMine) (v2 : (List Int) × Int × Int × Int) (rec1 : ((List Int) × Int × Int × (List gJob) × Int) → ((List gJob) × gl00Src)) (k1 : ((List Int) × Int × Int × (List gJob) × Int) → ((List gJob) × gl00Src)) (x1 : (List Int) × Int × Int × (List gJob) × Int) : (List gJob) × gl00Src :=
  bif decide (x1.2.2.2.2 < v2.2.2.2) then rec1 ((m_spec_l23DrawOne (gl00Src.mk x1.1 x1.2.1 x1.2.2.1) m_ (at' ([([116, 97] : List UInt8), ([116, 98] : List UInt8), ([116, 99] : List UInt8), ([116, 100] : List UInt8), ([116, 101] : List UInt8), ([116, 102] : List UInt8), ([116, 103] : List UInt8), ([116, 104] : List UInt8), ([116, 105] : List UInt8), ([116, 106] : List UInt8), ([116, 107] : List UInt8), ([116, 108] : List UInt8), ([116, 109] : List UInt8)] : List (List UInt8)) x1.2.2.2.2)).2.code, (m_spec_l23DrawOne (gl00Src.mk x1.1 x1.2.1 x1.2.2.1) m_ (at' ([([116, 97] : List UInt8), ([116, 98] : List UInt8), ([116, 99] : List UInt8), ([116, 100] : List UInt8), ([116, 101] : List UInt8), ([116, 102] : List UInt8), ([116, 103] : List UInt8), ([116, 104] : List UInt8), ([116, 105] : List UInt8), ([116, 106] : List UInt8), ([116, 107] : List UInt8), ([116, 108] : List UInt8), ([116, 109] : List UInt8)] : List (List UInt8)) x1.2.2.2.2)).2.at_, (m_spec_l23DrawOne (gl00Src.mk x1.1 x1.2.1 x1.2.2.1) m_ (at' ([([116, 97] : List UInt8), ([116, 98] : List UInt8), ([116, 99] : List UInt8), ([116, 100] : List UInt8), ([116, 101] : List UInt8), ([116, 102] : List UInt8), ([116, 103] : List UInt8), ([116, 104] : List UInt8), ([116, 105] : List UInt8), ([116, 106] : List UInt8), ([116, 107] : List UInt8), ([116, 108] : List UInt8), ([116, 109] : List UInt8)] : List (List UInt8)) x1.2.2.2.2)).2.seed, x1.2.2.2.1 ++ ([(m_spec_l23DrawOne (gl00Src.mk x1.1 x1.2.1 x1.2.2.1) m_ (at' ([([116, 97] : List UInt8), ([116, 98] : List UInt8), ([116, 99] : List UInt8), ([116, 100] : List UInt8), ([116, 101] : List UInt8), ([116, 102] : List UInt8), ([116, 103] : List UInt8), ([116, 104] : List UInt8), ([116, 105] : List UInt8), ([116, 106] : List UInt8), ([116, 107] : List UInt8), ([116, 108] : List UInt8), ([116, 109] : List UInt8)] : List (List UInt8)) x1.2.2.2.2)).1] : List gJob), x1.2.2.2.2 + 1) else k1 (x1.1, x1.2.1, x1.2.2.1, x1.2.2.2.1, x1.2.2.2.2)
def m_spec_l23DrawList (s_ : gl00Src) (m_ : gMine) : (List gJob) × gl00Src :=
  JN (fun j3 => bif (m_spec_l00Src_one (m_spec_l00Src_pick s_ 6).2 16).1 then j3 ((m_spec_l00Src_pick (m_spec_l00Src_one (m_spec_l00Src_pick s_ 6).2 16).2 3).2.code, (m_spec_l00Src_pick (m_spec_l00Src_one (m_spec_l00Src_pick s_ 6).2 16).2 3).2.at_, (m_spec_l00Src_pick (m_spec_l00Src_one (m_spec_l00Src_pick s_ 6).2 16).2 3).2.seed, IntKind.wrap .i64 (11 + (m_spec_l00Src_pick (m_spec_l00Src_one (m_spec_l00Src_pick s_ 6).2 16).2 3).1)) else j3 ((m_spec_l00Src_one (m_spec_l00Src_pick s_ 6).2 16).2.code, (m_spec_l00Src_one (m_spec_l00Src_pick s_ 6).2 16).2.at_, (m_spec_l00Src_one (m_spec_l00Src_pick s_ 6).2 16).2.seed, (m_spec_l00Src_pick s_ 6).1)) (fun (v2 : (List Int) × Int × Int × Int) => LOOP (m_spec_l23DrawList_b1 s_ m_ v2) (fun (x1 : (List Int) × Int × Int × (List gJob) × Int) => (x1.2.2.2.1, gl00Src.mk x1.1 x1.2.1 x1.2.2.1)) ((v2.2.2.2 - 0 : Int).toNat + 1) (v2.1, v2.2.1, v2.2.2.1, ([] : List gJob), 0))

/-! ### spec_l00In -/
def m_spec_l00In (n_ : Int) (low : Int) (high : Int) : Bool :=
  (decide (low ≤ n_)) && (decide (n_ ≤ high))

/-! ### spec_l01Small -/
def m_spec_l01Small (c_ : Int) : Bool :=
  (decide (97 ≤ c_)) && (decide (c_ ≤ 122))

/-! ### spec_l01Digit -/
def m_spec_l01Digit (c_ : Int) : Bool :=
  (decide (48 ≤ c_)) && (decide (c_ ≤ 57))

/-! ### spec_l01Name -/
def m_spec_l01Name_b1 (s_ : List UInt8) (rec1 : Int → Bool) (k1 : Int → Bool) (x1 : Int) : Bool :=
  bif decide (x1 < (s_.length : Int)) then bif (!(m_spec_l01Small (((s_.getD x1.toNat 0).toNat : Nat) : Int))) && (!(m_spec_l01Digit (((s_.getD x1.toNat 0).toNat : Nat) : Int))) then false else rec1 (x1 + 1) else k1 x1
def m_spec_l01Name (s_ : List UInt8) : Bool :=
  bif ((strB .eql s_ ([] : List UInt8)) || (decide (10 < (s_.length : Int)))) || (!(m_spec_l01Small (((s_.getD (0 : Int).toNat 0).toNat : Nat) : Int))) then false else LOOP (m_spec_l01Name_b1 s_) (fun (x1 : Int) => true) (((s_.length : Int) - 0 : Int).toNat + 1) 0

/-! ### spec_l23One -/
def m_spec_l23One (t : gJob) : Bool :=
  (((m_spec_l01Name t.Id) && (m_spec_l00In t.Airway 0 23)) && (m_spec_l00In t.People 1 40)) && (m_spec_l00In t.Power 0 500)

/-! ### spec_l23List -/
def m_spec_l23List_b1 (m_ : gMine) (list : List gJob) (rec1 : Int → Bool) (k1 : Int → Bool) (x1 : Int) : Bool :=
  bif decide (x1 < (list.length : Int)) then bif ((!(m_spec_l23One (at' list x1))) || (decide ((m_.Airways.length : Int) ≤ (at' list x1).Airway))) || ((decide (0 < x1)) && (strB .geq (at' list (x1 - 1)).Id (at' list x1).Id)) then false else rec1 (x1 + 1) else k1 x1
def m_spec_l23List (m_ : gMine) (list : List gJob) : Bool :=
  LOOP (m_spec_l23List_b1 m_ list) (fun (x1 : Int) => decide ((list.length : Int) ≤ 12)) (((list.length : Int) - 0 : Int).toNat + 1) 0

/-! ### spec_R8Jobs -/
def m_spec_R8Jobs (code : List Int) (m_ : gMine) : (List gJob) :=
  bif (!(m_spec_l23List m_ (m_spec_l23DrawList (m_spec_l00From code) m_).1)) || (decide (8 < ((m_spec_l23DrawList (m_spec_l00From code) m_).1.length : Int))) then ([] : List gJob) else (m_spec_l23DrawList (m_spec_l00From code) m_).1

/-! ### laws_r8At -/
def m_laws_r8At (code : List Int) (k_ : Int) (n_ : Int) : Int :=
  bif (decide (n_ ≤ 1)) || (decide ((code.length : Int) ≤ k_)) then 0 else Int.tmod (IntKind.wrap .i64 (at' code k_)) n_

/-! ### laws_r8Wide -/
def m_laws_r8Wide (code : List Int) (k_ : Int) (n_ : Int) : Int :=
  Int.tmod (IntKind.wrap .i64 ((IntKind.wrap .i64 (256 * (m_laws_r8At code k_ 256))) + (m_laws_r8At code (IntKind.wrap .i64 (k_ + 1)) 256))) n_

/-! ### impl_AirNeeds -/
def m_impl_AirNeeds (m_ : gMine) (list : List gJob) : (List Int) × Int :=
  bif !(m_impl_ValidJobs m_ list) then (([] : List Int), 1) else (m_impl_Mine_airNeeds m_ list, 0)

/-! ### impl_ShortAirways -/
def m_impl_ShortAirways_b1 (m_ : gMine) (flows : List Int) (list : List gJob) (rec1 : ((List Int) × Int) → ((List Int) × Int)) (k1 : ((List Int) × Int) → ((List Int) × Int)) (x1 : (List Int) × Int) : (List Int) × Int :=
  bif decide (x1.2 < ((m_impl_Mine_airNeeds m_ list).length : Int)) then bif decide ((m_impl_abs (at' flows x1.2)) < (at' (m_impl_Mine_airNeeds m_ list) x1.2)) then rec1 (x1.1 ++ ([x1.2] : List Int), x1.2 + 1) else rec1 (x1.1, x1.2 + 1) else k1 (x1.1, x1.2)
def m_impl_ShortAirways (m_ : gMine) (flows : List Int) (list : List gJob) : (List Int) × Int :=
  bif (m_impl_jobsCode m_ flows list) != 0 then (([] : List Int), m_impl_jobsCode m_ flows list) else LOOP (m_impl_ShortAirways_b1 m_ flows list) (fun (x1 : (List Int) × Int) => (x1.1, 0)) ((((m_impl_Mine_airNeeds m_ list).length : Int) - 0 : Int).toNat + 1) (([] : List Int), 0)

/-! ### spec_l23Need -/
def m_spec_l23Need (t : gJob) : Int :=
  IntKind.wrap .i64 ((IntKind.wrap .i64 (10 * t.People)) + (IntKind.wrap .i64 (6 * t.Power)))

/-! ### spec_l23Needs -/
def m_spec_l23Needs_b1 (m_ : gMine) (list : List gJob) (some_ : List Int) (rec1 : ((List Int) × Int) → (List Int)) (k1 : ((List Int) × Int) → (List Int)) (x1 : (List Int) × Int) : (List Int) :=
  bif decide (x1.2 < (some_.length : Int)) then rec1 (put' x1.1 (at' list (at' some_ x1.2)).Airway (IntKind.wrap .i64 ((at' x1.1 (at' list (at' some_ x1.2)).Airway) + (m_spec_l23Need (at' list (at' some_ x1.2))))), x1.2 + 1) else k1 (x1.1, x1.2)
def m_spec_l23Needs (m_ : gMine) (list : List gJob) (some_ : List Int) : (List Int) :=
  LOOP (m_spec_l23Needs_b1 m_ list some_) (fun (x1 : (List Int) × Int) => x1.1) (((some_.length : Int) - 0 : Int).toNat + 1) (List.replicate ((m_.Airways.length : Int) : Int).toNat (0 : Int), 0)

/-! ### spec_l03Abs -/
def m_spec_l03Abs (n_ : Int) : Int :=
  m_spec_l00Max n_ (IntKind.wrap .i64 (0 - n_))

/-! ### spec_l23Fits -/
def m_spec_l23Fits_b1 (m_ : gMine) (flows : List Int) (list : List gJob) (some_ : List Int) (rec1 : Int → Bool) (k1 : Int → Bool) (x1 : Int) : Bool :=
  bif decide (x1 < (flows.length : Int)) then bif decide ((m_spec_l03Abs (at' flows x1)) < (at' (m_spec_l23Needs m_ list some_) x1)) then false else rec1 (x1 + 1) else k1 x1
def m_spec_l23Fits (m_ : gMine) (flows : List Int) (list : List gJob) (some_ : List Int) : Bool :=
  LOOP (m_spec_l23Fits_b1 m_ flows list some_) (fun (x1 : Int) => true) (((flows.length : Int) - 0 : Int).toNat + 1) 0

/-! ### spec_l03Ok -/
def m_spec_l03Ok (a : gAirway) : Bool :=
  bif (((!(m_spec_l01Name a.Id)) || (!(m_spec_l00In a.From 0 15))) || (!(m_spec_l00In a.To 0 15))) || (a.From == a.To) then false else (((m_spec_l00In a.Length 1 10000) && (m_spec_l00In a.Section 50 5000)) && (m_spec_l00In a.Friction 1 1000)) && (m_spec_l00In a.Shock 0 1000)

/-! ### spec_l04Junction -/
def m_spec_l04Junction (m_ : gMine) (j : Int) : Bool :=
  m_spec_l00In j 0 (IntKind.wrap .i64 (m_.Junctions - 1))

/-! ### spec_l04Ok -/
def m_spec_l04Ok_b1 (m_ : gMine) (rec1 : Int → Bool) (k1 : Int → Bool) (x1 : Int) : Bool :=
  bif decide (x1 < (m_.Airways.length : Int)) then bif (((!(m_spec_l03Ok (at' m_.Airways x1))) || (!(m_spec_l04Junction m_ (at' m_.Airways x1).From))) || (!(m_spec_l04Junction m_ (at' m_.Airways x1).To))) || ((decide (0 < x1)) && (strB .geq (at' m_.Airways (x1 - 1)).Id (at' m_.Airways x1).Id)) then false else rec1 (x1 + 1) else k1 x1
def m_spec_l04Ok (m_ : gMine) : Bool :=
  bif !(m_spec_l00In m_.Junctions 1 16) then false else LOOP (m_spec_l04Ok_b1 m_) (fun (x1 : Int) => decide ((m_.Airways.length : Int) ≤ 24)) (((m_.Airways.length : Int) - 0 : Int).toNat + 1) 0

/-! ### spec_l03Flow -/
def m_spec_l03Flow (q : Int) : Bool :=
  m_spec_l00In q (-100000) 100000

/-! ### spec_l07Flows -/
def m_spec_l07Flows_b1 (m_ : gMine) (flows : List Int) (rec1 : Int → Bool) (k1 : Int → Bool) (x1 : Int) : Bool :=
  bif decide (x1 < (flows.length : Int)) then bif !(m_spec_l03Flow (at' flows x1)) then false else rec1 (x1 + 1) else k1 x1
def m_spec_l07Flows (m_ : gMine) (flows : List Int) : Bool :=
  LOOP (m_spec_l07Flows_b1 m_ flows) (fun (x1 : Int) => (flows.length : Int) == (m_.Airways.length : Int)) (((flows.length : Int) - 0 : Int).toNat + 1) 0

/-! ### spec_l23Ask -/
def m_spec_l23Ask (m_ : gMine) (flows : List Int) (list : List gJob) : Int :=
  bif (!(m_spec_l04Ok m_)) || (!(m_spec_l23List m_ list)) then 1 else bif !(m_spec_l07Flows m_ flows) then 7 else 0

/-! ### spec_l00Rises -/
def m_spec_l00Rises_b1 (list : List Int) (low : Int) (high : Int) (rec1 : Int → Bool) (k1 : Int → Bool) (x1 : Int) : Bool :=
  bif decide (x1 < (list.length : Int)) then bif (!(m_spec_l00In (at' list x1) low high)) || ((decide (0 < x1)) && (decide ((at' list x1) ≤ (at' list (x1 - 1))))) then false else rec1 (x1 + 1) else k1 x1
def m_spec_l00Rises (list : List Int) (low : Int) (high : Int) : Bool :=
  LOOP (m_spec_l00Rises_b1 list low high) (fun (x1 : Int) => true) (((list.length : Int) - 0 : Int).toNat + 1) 0

/-! ### spec_ShiftFits -/
def m_spec_ShiftFits (m_ : gMine) (flows : List Int) (list : List gJob) (some_ : List Int) : Bool :=
  (((m_spec_l23Ask m_ flows list) == 0) && (m_spec_l00Rises some_ 0 ((list.length : Int) - 1))) && (m_spec_l23Fits m_ flows list some_)

/-! ### impl_NeedOf -/
def m_impl_NeedOf (t : gJob) : Int × Int :=
  bif !(m_impl_Job_valid t) then (0, 1) else (m_impl_Job_need t, 0)

/-! ### laws_r8Has -/
def m_laws_r8Has_b1 (list : List Int) (n_ : Int) (rec1 : Int → Bool) (k1 : Int → Bool) (x1 : Int) : Bool :=
  bif decide (x1 < (list.length : Int)) then bif (at' list x1) == n_ then true else rec1 (x1 + 1) else k1 x1
def m_laws_r8Has (list : List Int) (n_ : Int) : Bool :=
  LOOP (m_laws_r8Has_b1 list n_) (fun (x1 : Int) => false) (((list.length : Int) - 0 : Int).toNat + 1) 0

/-! ### impl_increasing -/
def m_impl_increasing_b1 (list : List Int) (rec1 : Int → Bool) (k1 : Int → Bool) (x1 : Int) : Bool :=
  bif decide (x1 < (list.length : Int)) then bif decide ((at' list x1) ≤ (at' list (x1 - 1))) then false else rec1 (x1 + 1) else k1 x1
def m_impl_increasing (list : List Int) : Bool :=
  LOOP (m_impl_increasing_b1 list) (fun (x1 : Int) => true) (((list.length : Int) - 1 : Int).toNat + 1) 1

/-! ### impl_someOk -/
def m_impl_someOk (list : List gJob) (some_ : List Int) : Bool :=
  (m_impl_increasing some_) && (m_impl_allWithin some_ 0 ((list.length : Int) - 1))

/-! ### impl_PeopleIn -/
def m_impl_PeopleIn_b1 (m_ : gMine) (list : List gJob) (some_ : List Int) (rec1 : (Int × Int) → (Int × Int)) (k1 : (Int × Int) → (Int × Int)) (x1 : Int × Int) : Int × Int :=
  bif decide (x1.2 < ((m_impl_jobsOf list some_).length : Int)) then rec1 (IntKind.wrap .i64 (x1.1 + (at' (m_impl_jobsOf list some_) x1.2).People), x1.2 + 1) else k1 (x1.1, x1.2)
def m_impl_PeopleIn (m_ : gMine) (list : List gJob) (some_ : List Int) : Int × Int :=
  bif !(m_impl_ValidJobs m_ list) then (0, 1) else bif !(m_impl_someOk list some_) then (0, 7) else LOOP (m_impl_PeopleIn_b1 m_ list some_) (fun (x1 : Int × Int) => (x1.1, 0)) ((((m_impl_jobsOf list some_).length : Int) - 0 : Int).toNat + 1) (0, 0)

/-! ### impl_ShiftFits -/
def m_impl_ShiftFits (m_ : gMine) (flows : List Int) (list : List gJob) (some_ : List Int) : Bool :=
  (((m_impl_jobsCode m_ flows list) == 0) && (m_impl_someOk list some_)) && (m_impl_Mine_fitJobs m_ flows (bif (((m_impl_jobsCode m_ flows list) == 0) && (m_impl_someOk list some_)) then m_impl_jobsOf list some_ else []))

/-! ### laws_FnCrews -/
def m_laws_FnCrews_b5 (code : List Int) (more : List Int) (x1 : (List Int) × Int) (x2 : Int × Int) (x3 : Int × Int) (rec4 : (Int × Int) → Bool) (k4 : (Int × Int) → Bool) (x4 : Int × Int) (rec5 : ((List Int) × Int) → Bool) (k5 : ((List Int) × Int) → Bool) (x5 : (List Int) × Int) : Bool :=
  bif decide (x5.2 < ((m_impl_FewestShifts (m_spec_R8Mine code) x1.1 (m_spec_R8Jobs more (m_spec_R8Mine code)) 3000).1.length : Int)) then bif (at' (m_impl_FewestShifts (m_spec_R8Mine code) x1.1 (m_spec_R8Jobs more (m_spec_R8Mine code)) 3000).1 x5.2) == x4.2 then rec5 (x5.1 ++ ([x5.2] : List Int), x5.2 + 1) else rec5 (x5.1, x5.2 + 1) else k5 (x5.1, x5.2)
def m_laws_FnCrews_b6 (code : List Int) (more : List Int) (x1 : (List Int) × Int) (x2 : Int × Int) (x3 : Int × Int) (x4 : Int × Int) (rec6 : (Int × Int) → Bool) (k6 : (Int × Int) → Bool) (x6 : Int × Int) : Bool :=
  bif decide (x6.2 < ((m_spec_R8Jobs more (m_spec_R8Mine code)).length : Int)) then rec6 (IntKind.wrap .i64 (x6.1 - (at' (m_spec_R8Jobs more (m_spec_R8Mine code)) x6.2).People), x6.2 + 1) else k6 (x6.1, x6.2)
def m_laws_FnCrews_b4 (code : List Int) (more : List Int) (x1 : (List Int) × Int) (x2 : Int × Int) (x3 : Int × Int) (rec4 : (Int × Int) → Bool) (k4 : (Int × Int) → Bool) (x4 : Int × Int) : Bool :=
  bif decide (x4.2 < (m_impl_FewestShifts (m_spec_R8Mine code) x1.1 (m_spec_R8Jobs more (m_spec_R8Mine code)) 3000).2.1) then LOOP (m_laws_FnCrews_b5 code more x1 x2 x3 rec4 k4 x4) (fun (x5 : (List Int) × Int) => bif (((x5.1.length : Int) == 0) || (!(m_impl_ShiftFits (m_spec_R8Mine code) x1.1 (m_spec_R8Jobs more (m_spec_R8Mine code)) x5.1))) || ((m_impl_PeopleIn (m_spec_R8Mine code) (m_spec_R8Jobs more (m_spec_R8Mine code)) x5.1).2 != 0) then false else rec4 (IntKind.wrap .i64 (x4.1 + (m_impl_PeopleIn (m_spec_R8Mine code) (m_spec_R8Jobs more (m_spec_R8Mine code)) x5.1).1), x4.2 + 1)) ((((m_impl_FewestShifts (m_spec_R8Mine code) x1.1 (m_spec_R8Jobs more (m_spec_R8Mine code)) 3000).1.length : Int) - 0 : Int).toNat + 1) (([] : List Int), 0) else k4 (x4.1, x4.2)
def m_laws_FnCrews_b3 (code : List Int) (more : List Int) (x1 : (List Int) × Int) (x2 : Int × Int) (rec3 : (Int × Int) → Bool) (k3 : (Int × Int) → Bool) (x3 : Int × Int) : Bool :=
  bif decide (x3.2 < ((m_impl_AirNeeds (m_spec_R8Mine code) (m_spec_R8Jobs more (m_spec_R8Mine code))).1.length : Int)) then bif (m_laws_r8Has (m_impl_ShortAirways (m_spec_R8Mine code) x1.1 (m_spec_R8Jobs more (m_spec_R8Mine code))).1 x3.2) != (decide ((at' x1.1 x3.2) < (at' (m_impl_AirNeeds (m_spec_R8Mine code) (m_spec_R8Jobs more (m_spec_R8Mine code))).1 x3.2))) then false else rec3 (IntKind.wrap .i64 (x3.1 - (at' (m_impl_AirNeeds (m_spec_R8Mine code) (m_spec_R8Jobs more (m_spec_R8Mine code))).1 x3.2)), x3.2 + 1) else k3 (x3.1, x3.2)
def m_laws_FnCrews_b2 (code : List Int) (more : List Int) (x1 : (List Int) × Int) (rec2 : (Int × Int) → Bool) (k2 : (Int × Int) → Bool) (x2 : Int × Int) : Bool :=
  bif decide (x2.2 < ((m_spec_R8Jobs more (m_spec_R8Mine code)).length : Int)) then bif (m_impl_NeedOf (at' (m_spec_R8Jobs more (m_spec_R8Mine code)) x2.2)).2 != 0 then false else rec2 (IntKind.wrap .i64 (x2.1 + (m_impl_NeedOf (at' (m_spec_R8Jobs more (m_spec_R8Mine code)) x2.2)).1), x2.2 + 1) else k2 (x2.1, x2.2)
def m_laws_FnCrews_b1 (code : List Int) (more : List Int) (rec1 : ((List Int) × Int) → Bool) (k1 : ((List Int) × Int) → Bool) (x1 : (List Int) × Int) : Bool :=
  bif decide (x1.2 < ((m_spec_R8Mine code).Airways.length : Int)) then rec1 (x1.1 ++ ([IntKind.wrap .i64 (300 + (m_laws_r8Wide more (IntKind.wrap .i64 (2 * x1.2)) 1500))] : List Int), x1.2 + 1) else k1 (x1.1, x1.2)
def m_laws_FnCrews (code : List Int) (more : List Int) : Bool :=
  bif m_laws_r8Long code more then true else LOOP (m_laws_FnCrews_b1 code more) (fun (x1 : (List Int) × Int) => bif ((((((((m_impl_FewestShifts (m_spec_R8Mine code) x1.1 (m_spec_R8Jobs more (m_spec_R8Mine code)) 3000).2.2 != 0) && ((m_impl_FewestShifts (m_spec_R8Mine code) x1.1 (m_spec_R8Jobs more (m_spec_R8Mine code)) 3000).2.2 != 3)) && ((m_impl_FewestShifts (m_spec_R8Mine code) x1.1 (m_spec_R8Jobs more (m_spec_R8Mine code)) 3000).2.2 != 5)) || ((m_impl_MostJobs (m_spec_R8Mine code) x1.1 (m_spec_R8Jobs more (m_spec_R8Mine code)) 3000).2 != 0)) || (!(m_spec_ShiftFits (m_spec_R8Mine code) x1.1 (m_spec_R8Jobs more (m_spec_R8Mine code)) (m_impl_MostJobs (m_spec_R8Mine code) x1.1 (m_spec_R8Jobs more (m_spec_R8Mine code)) 3000).1))) || ((m_impl_AirNeeds (m_spec_R8Mine code) (m_spec_R8Jobs more (m_spec_R8Mine code))).2 != 0)) || (((m_impl_AirNeeds (m_spec_R8Mine code) (m_spec_R8Jobs more (m_spec_R8Mine code))).1.length : Int) != (x1.1.length : Int))) || ((m_impl_ShortAirways (m_spec_R8Mine code) x1.1 (m_spec_R8Jobs more (m_spec_R8Mine code))).2 != 0) then false else LOOP (m_laws_FnCrews_b2 code more x1) (fun (x2 : Int × Int) => LOOP (m_laws_FnCrews_b3 code more x1 x2) (fun (x3 : Int × Int) => bif (x3.1 != 0) || ((((m_impl_ShortAirways (m_spec_R8Mine code) x1.1 (m_spec_R8Jobs more (m_spec_R8Mine code))).1.length : Int) == 0) && (((m_impl_MostJobs (m_spec_R8Mine code) x1.1 (m_spec_R8Jobs more (m_spec_R8Mine code)) 3000).1.length : Int) != ((m_spec_R8Jobs more (m_spec_R8Mine code)).length : Int))) then false else bif (m_impl_FewestShifts (m_spec_R8Mine code) x1.1 (m_spec_R8Jobs more (m_spec_R8Mine code)) 3000).2.2 != 0 then true else bif ((((((m_impl_FewestShifts (m_spec_R8Mine code) x1.1 (m_spec_R8Jobs more (m_spec_R8Mine code)) 3000).1.length : Int) != ((m_spec_R8Jobs more (m_spec_R8Mine code)).length : Int)) || (decide ((m_impl_FewestShifts (m_spec_R8Mine code) x1.1 (m_spec_R8Jobs more (m_spec_R8Mine code)) 3000).2.1 < 0))) || (decide (((m_spec_R8Jobs more (m_spec_R8Mine code)).length : Int) < (m_impl_FewestShifts (m_spec_R8Mine code) x1.1 (m_spec_R8Jobs more (m_spec_R8Mine code)) 3000).2.1))) || ((decide (0 < ((m_spec_R8Jobs more (m_spec_R8Mine code)).length : Int))) && (decide ((IntKind.wrap .i64 (((m_impl_MostJobs (m_spec_R8Mine code) x1.1 (m_spec_R8Jobs more (m_spec_R8Mine code)) 3000).1.length : Int) * (m_impl_FewestShifts (m_spec_R8Mine code) x1.1 (m_spec_R8Jobs more (m_spec_R8Mine code)) 3000).2.1)) < ((m_spec_R8Jobs more (m_spec_R8Mine code)).length : Int))))) || ((decide ((m_impl_FewestShifts (m_spec_R8Mine code) x1.1 (m_spec_R8Jobs more (m_spec_R8Mine code)) 3000).2.1 ≤ 1)) != (((m_impl_ShortAirways (m_spec_R8Mine code) x1.1 (m_spec_R8Jobs more (m_spec_R8Mine code))).1.length : Int) == 0)) then false else LOOP (m_laws_FnCrews_b4 code more x1 x2 x3) (fun (x4 : Int × Int) => LOOP (m_laws_FnCrews_b6 code more x1 x2 x3 x4) (fun (x6 : Int × Int) => x6.1 == 0) ((((m_spec_R8Jobs more (m_spec_R8Mine code)).length : Int) - 0 : Int).toNat + 1) (x4.1, 0)) (((m_impl_FewestShifts (m_spec_R8Mine code) x1.1 (m_spec_R8Jobs more (m_spec_R8Mine code)) 3000).2.1 - 0 : Int).toNat + 1) (0, 0)) ((((m_impl_AirNeeds (m_spec_R8Mine code) (m_spec_R8Jobs more (m_spec_R8Mine code))).1.length : Int) - 0 : Int).toNat + 1) (x2.1, 0)) ((((m_spec_R8Jobs more (m_spec_R8Mine code)).length : Int) - 0 : Int).toNat + 1) (0, 0)) ((((m_spec_R8Mine code).Airways.length : Int) - 0 : Int).toNat + 1) (([] : List Int), 0)

end Go.Proofs.Ytchjibndocnnhaa
