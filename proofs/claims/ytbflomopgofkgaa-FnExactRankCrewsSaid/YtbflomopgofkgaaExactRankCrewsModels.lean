/-
  PLAIN MODELS of the Go functions that the law reaches, printed by a program of this claim. Conditions: none; nothing is claimed here.
-/
import Derived.Test.YtbflomopgofkgaaEngN
import Derived.Lib.SlicesCompact
import Derived.Sort.Walk0
set_option linter.unusedVariables false
set_option linter.unusedSimpArgs false
set_option linter.unusedSectionVars false
set_option linter.unnecessarySimpa false
namespace Go.Proofs.Ytbflomopgofkgaa
open Go Go.RowKit Go.Proofs Go.Proofs.Ytbflomopgofkgaa.E
structure gDrill where
  Day : Int
  Crew : List UInt8
  Persons : Int
  Seconds : Int
  Missing : Int
instance : Inhabited gDrill := ⟨gDrill.mk default default default default default⟩
abbrev gDrill.v (x : gDrill) : V := .st [.int .i64 x.Day, .str x.Crew, .int .i64 x.Persons, .int .i64 x.Seconds, .int .i64 x.Missing]

/-! ### laws_szDrill -/
def m_laws_szDrill (a : gDrill) (left : Int) : Int :=
  bif decide ((IntKind.wrap .i64 (left - (a.Crew.length : Int))) < 0) then (-1) else IntKind.wrap .i64 (left - (a.Crew.length : Int))

/-! ### laws_szDrillS -/
def m_laws_szDrillS_b1 (a : List gDrill) (left : Int) (rec1 : (Int × Int) → Int) (k1 : (Int × Int) → Int) (x1 : Int × Int) : Int :=
  bif decide (x1.2 < (a.length : Int)) then bif decide ((m_laws_szDrill (at' a x1.2) x1.1) < 0) then (-1) else rec1 (m_laws_szDrill (at' a x1.2) x1.1, x1.2 + 1) else k1 (x1.1, x1.2)
def m_laws_szDrillS (a : List gDrill) (left : Int) : Int :=
  bif decide ((IntKind.wrap .i64 (left - (a.length : Int))) < 0) then (-1) else LOOP (m_laws_szDrillS_b1 a left) (fun (x1 : Int × Int) => x1.1) (((a.length : Int) - 0 : Int).toNat + 1) (IntKind.wrap .i64 (left - (a.length : Int)), 0)

/-! ### spec_l01Small -/
def m_spec_l01Small (c_ : Int) : Bool :=
  (decide (97 ≤ c_)) && (decide (c_ ≤ 122))

/-! ### spec_l01Digit -/
def m_spec_l01Digit (c_ : Int) : Bool :=
  (decide (48 ≤ c_)) && (decide (c_ ≤ 57))

/-! ### spec_l01Name -/
def m_spec_l01Name_b1 (s_ : List UInt8) (rec1 : Int → Bool) (k1 : Int → Bool) (x1 : Int) : Bool :=
  bif decide (x1 < (s_.length : Int)) then bif (!(m_spec_l01Small (((s_.getD x1.toNat 0).toNat : Nat) : Int))) && (!(m_spec_l01Digit (((s_.getD x1.toNat 0).toNat : Nat) : Int))) then false else rec1 (x1 + 1) else k1 x1
def m_spec_l01Name (s_ : List UInt8) : Bool :=
  bif ((strB .eql s_ ([] : List UInt8)) || (decide (10 < (s_.length : Int)))) || (!(m_spec_l01Small (((s_.getD (0 : Int).toNat 0).toNat : Nat) : Int))) then false else LOOP (m_spec_l01Name_b1 s_) (fun (x1 : Int) => true) (((s_.length : Int) - 0 : Int).toNat + 1) 0

/-! ### spec_l00In -/
def m_spec_l00In (n_ : Int) (low : Int) (high : Int) : Bool :=
  (decide (low ≤ n_)) && (decide (n_ ≤ high))

/-! ### spec_l28Day -/
def m_spec_l28Day (day : Int) : Bool :=
  m_spec_l00In day 0 100000

/-! ### spec_l28One -/
def m_spec_l28One (x_ : gDrill) : Bool :=
  ((((m_spec_l28Day x_.Day) && (m_spec_l01Name x_.Crew)) && (m_spec_l00In x_.Persons 1 200)) && (m_spec_l00In x_.Seconds 0 36000)) && (m_spec_l00In x_.Missing 0 x_.Persons)

/-! ### spec_l28Before -/
def m_spec_l28Before (a : gDrill) (b : gDrill) : Bool :=
  (decide (a.Day < b.Day)) || ((a.Day == b.Day) && (strB .lss a.Crew b.Crew))

/-! ### spec_l28Ok -/
def m_spec_l28Ok_b1 (list : List gDrill) (rec1 : Int → Bool) (k1 : Int → Bool) (x1 : Int) : Bool :=
  bif decide (x1 < (list.length : Int)) then bif (!(m_spec_l28One (at' list x1))) || ((decide (0 < x1)) && (!(m_spec_l28Before (at' list (x1 - 1)) (at' list x1)))) then false else rec1 (x1 + 1) else k1 x1
def m_spec_l28Ok (list : List gDrill) : Bool :=
  LOOP (m_spec_l28Ok_b1 list) (fun (x1 : Int) => decide ((list.length : Int) ≤ 32)) (((list.length : Int) - 0 : Int).toNat + 1) 0

/-! ### spec_l28Put -/
def m_spec_l28Put_b1 (list : List (List UInt8)) (name : List UInt8) (rec1 : ((List (List UInt8)) × Bool × Int) → (List (List UInt8))) (k1 : ((List (List UInt8)) × Bool × Int) → (List (List UInt8))) (x1 : (List (List UInt8)) × Bool × Int) : (List (List UInt8)) :=
  bif decide (x1.2.2 < (list.length : Int)) then JN (fun j6 => bif !x1.2.1 && (strB .geq (at' list x1.2.2) name) then j6 (x1.1 ++ ([name] : List (List UInt8)), true) else j6 (x1.1, x1.2.1)) (fun (v5 : (List (List UInt8)) × Bool) => bif strB .neq (at' list x1.2.2) name then rec1 (v5.1 ++ ([at' list x1.2.2] : List (List UInt8)), v5.2, x1.2.2 + 1) else rec1 (v5.1, v5.2, x1.2.2 + 1)) else k1 (x1.1, x1.2.1, x1.2.2)
def m_spec_l28Put (list : List (List UInt8)) (name : List UInt8) : (List (List UInt8)) :=
  LOOP (m_spec_l28Put_b1 list name) (fun (x1 : (List (List UInt8)) × Bool × Int) => bif !x1.2.1 then x1.1 ++ ([name] : List (List UInt8)) else x1.1) (((list.length : Int) - 0 : Int).toNat + 1) (([] : List (List UInt8)), false, 0)

/-! ### spec_l28Crews -/
def m_spec_l28Crews_b1 (list : List gDrill) (rec1 : ((List (List UInt8)) × Int) → (List (List UInt8))) (k1 : ((List (List UInt8)) × Int) → (List (List UInt8))) (x1 : (List (List UInt8)) × Int) : (List (List UInt8)) :=
  bif decide (x1.2 < (list.length : Int)) then rec1 (m_spec_l28Put x1.1 (at' list x1.2).Crew, x1.2 + 1) else k1 (x1.1, x1.2)
def m_spec_l28Crews (list : List gDrill) : (List (List UInt8)) :=
  LOOP (m_spec_l28Crews_b1 list) (fun (x1 : (List (List UInt8)) × Int) => x1.1) (((list.length : Int) - 0 : Int).toNat + 1) (([] : List (List UInt8)), 0)

/-! ### spec_l28Of -/
def m_spec_l28Of_b1 (list : List gDrill) (crew : List UInt8) (rec1 : ((List Int) × Int) → (List Int)) (k1 : ((List Int) × Int) → (List Int)) (x1 : (List Int) × Int) : (List Int) :=
  bif decide (x1.2 < (list.length : Int)) then bif strB .eql (at' list x1.2).Crew crew then rec1 (x1.1 ++ ([x1.2] : List Int), x1.2 + 1) else rec1 (x1.1, x1.2 + 1) else k1 (x1.1, x1.2)
def m_spec_l28Of (list : List gDrill) (crew : List UInt8) : (List Int) :=
  LOOP (m_spec_l28Of_b1 list crew) (fun (x1 : (List Int) × Int) => x1.1) (((list.length : Int) - 0 : Int).toNat + 1) (([] : List Int), 0)

/-! ### spec_l00Own -/
def m_spec_l00Own (list : List Int) : (List Int) :=
  ([] : List Int) ++ list

/-! ### spec_l24Middle -/
def m_spec_l24Middle_b2 (list : List Int) (rec1 : (Int × (List Int)) → Int) (k1 : (Int × (List Int)) → Int) (x1 : Int × (List Int)) (rec2 : Int → Int) (k2 : Int → Int) (x2 : Int) : Int :=
  bif (decide (0 < x2)) && (decide ((at' list x1.1) < (at' x1.2 (x2 - 1)))) then rec2 (x2 - 1) else k2 x2
def m_spec_l24Middle_b1 (list : List Int) (rec1 : (Int × (List Int)) → Int) (k1 : (Int × (List Int)) → Int) (x1 : Int × (List Int)) : Int :=
  bif decide (x1.1 < (list.length : Int)) then bif (at' list x1.1) == (-1) then rec1 (x1.1 + 1, x1.2) else LOOP (m_spec_l24Middle_b2 list rec1 k1 x1) (fun (x2 : Int) => rec1 (x1.1 + 1, ((m_spec_l00Own (pre' x1.2 x2)) ++ ([at' list x1.1] : List Int)) ++ (cut' x1.2 x2 (x1.2.length : Int)))) (x1.2.length + 1) (x1.2.length : Int) else k1 (x1.1, x1.2)
def m_spec_l24Middle (list : List Int) : Int :=
  LOOP (m_spec_l24Middle_b1 list) (fun (x1 : Int × (List Int)) => bif (x1.2.length : Int) == 0 then (-1) else at' x1.2 (IntKind.wrap .i64 (Int.tdiv (IntKind.wrap .i64 ((x1.2.length : Int) - 1)) 2))) (((list.length : Int) - 0 : Int).toNat + 1) (0, ([] : List Int))

/-! ### spec_l28Median -/
def m_spec_l28Median_b1 (list : List gDrill) (crew : List UInt8) (rec1 : ((List Int) × Int) → Int) (k1 : ((List Int) × Int) → Int) (x1 : (List Int) × Int) : Int :=
  bif decide (x1.2 < ((m_spec_l28Of list crew).length : Int)) then rec1 (x1.1 ++ ([(at' list (at' (m_spec_l28Of list crew) x1.2)).Seconds] : List Int), x1.2 + 1) else k1 (x1.1, x1.2)
def m_spec_l28Median (list : List gDrill) (crew : List UInt8) : Int :=
  LOOP (m_spec_l28Median_b1 list crew) (fun (x1 : (List Int) × Int) => m_spec_l24Middle x1.1) ((((m_spec_l28Of list crew).length : Int) - 0 : Int).toNat + 1) (([] : List Int), 0)

/-! ### spec_RankCrews -/
def m_spec_RankCrews_b2 (list : List gDrill) (rec1 : ((List (List UInt8)) × Int) → ((List (List UInt8)) × Int)) (k1 : ((List (List UInt8)) × Int) → ((List (List UInt8)) × Int)) (x1 : (List (List UInt8)) × Int) (rec2 : Int → ((List (List UInt8)) × Int)) (k2 : Int → ((List (List UInt8)) × Int)) (x2 : Int) : (List (List UInt8)) × Int :=
  bif (decide (0 < x2)) && (decide ((m_spec_l28Median list (at' (m_spec_l28Crews list) x1.2)) < (m_spec_l28Median list (at' x1.1 (x2 - 1))))) then rec2 (x2 - 1) else k2 x2
def m_spec_RankCrews_b1 (list : List gDrill) (rec1 : ((List (List UInt8)) × Int) → ((List (List UInt8)) × Int)) (k1 : ((List (List UInt8)) × Int) → ((List (List UInt8)) × Int)) (x1 : (List (List UInt8)) × Int) : (List (List UInt8)) × Int :=
  bif decide (x1.2 < ((m_spec_l28Crews list).length : Int)) then LOOP (m_spec_RankCrews_b2 list rec1 k1 x1) (fun (x2 : Int) => rec1 (((([] : List (List UInt8)) ++ (pre' x1.1 x2)) ++ ([at' (m_spec_l28Crews list) x1.2] : List (List UInt8))) ++ (cut' x1.1 x2 (x1.1.length : Int)), x1.2 + 1)) ((x1.1.length : Int).toNat + 1) (x1.1.length : Int) else k1 (x1.1, x1.2)
def m_spec_RankCrews (list : List gDrill) : (List (List UInt8)) × Int :=
  bif !(m_spec_l28Ok list) then (([] : List (List UInt8)), 1) else LOOP (m_spec_RankCrews_b1 list) (fun (x1 : (List (List UInt8)) × Int) => (x1.1, 0)) ((((m_spec_l28Crews list).length : Int) - 0 : Int).toNat + 1) (([] : List (List UInt8)), 0)

/-! ### laws_toDrill -/
def m_laws_toDrill (a : gDrill) : gDrill :=
  a

/-! ### laws_toDrillS -/
def m_laws_toDrillS_b1 (a : List gDrill) (rec1 : ((List gDrill) × Int) → (List gDrill)) (k1 : ((List gDrill) × Int) → (List gDrill)) (x1 : (List gDrill) × Int) : (List gDrill) :=
  bif decide (x1.2 < (a.length : Int)) then rec1 (put' x1.1 x1.2 (m_laws_toDrill (at' a x1.2)), x1.2 + 1) else k1 (x1.1, x1.2)
def m_laws_toDrillS (a : List gDrill) : (List gDrill) :=
  LOOP (m_laws_toDrillS_b1 a) (fun (x1 : (List gDrill) × Int) => x1.1) (((a.length : Int) - 0 : Int).toNat + 1) (List.replicate ((a.length : Int) : Int).toNat (gDrill.mk 0 ([] : List UInt8) 0 0 0 : gDrill), 0)

/-! ### impl_onlyNameBytes -/
def m_impl_onlyNameBytes_b1 (s_ : List UInt8) (rec1 : Int → Bool) (k1 : Int → Bool) (x1 : Int) : Bool :=
  bif decide (x1 < (s_.length : Int)) then bif ((decide ((((s_.getD x1.toNat 0).toNat : Nat) : Int) < 97)) || (decide (122 < (((s_.getD x1.toNat 0).toNat : Nat) : Int)))) && ((decide ((((s_.getD x1.toNat 0).toNat : Nat) : Int) < 48)) || (decide (57 < (((s_.getD x1.toNat 0).toNat : Nat) : Int)))) then false else rec1 (x1 + 1) else k1 x1
def m_impl_onlyNameBytes (s_ : List UInt8) : Bool :=
  LOOP (m_impl_onlyNameBytes_b1 s_) (fun (x1 : Int) => true) (((s_.length : Int) - 0 : Int).toNat + 1) 0

/-! ### impl_IsName -/
def m_impl_IsName (s_ : List UInt8) : Bool :=
  bif (((decide ((s_.length : Int) < 1)) || (decide (10 < (s_.length : Int)))) || (decide ((((s_.getD (0 : Int).toNat 0).toNat : Nat) : Int) < 97))) || (decide (122 < (((s_.getD (0 : Int).toNat 0).toNat : Nat) : Int))) then false else m_impl_onlyNameBytes s_

/-! ### impl_within -/
def m_impl_within (n_ : Int) (low : Int) (high : Int) : Bool :=
  (decide (low ≤ n_)) && (decide (n_ ≤ high))

/-! ### impl_Drill_valid -/
def m_impl_Drill_valid (x_ : gDrill) : Bool :=
  ((((m_impl_within x_.Day 0 100000) && (m_impl_IsName x_.Crew)) && (m_impl_within x_.Persons 1 200)) && (m_impl_within x_.Seconds 0 36000)) && (m_impl_within x_.Missing 0 x_.Persons)

/-! ### cmp_isNaN_int64 -/
def m_cmp_isNaN_int64 (x_ : Int) : Bool :=
  x_ != x_

/-! ### cmp_Compare_int64 -/
def m_cmp_Compare_int64 (x_ : Int) (y : Int) : Int :=
  bif m_cmp_isNaN_int64 x_ then bif m_cmp_isNaN_int64 y then 0 else (-1) else bif m_cmp_isNaN_int64 y then 1 else bif decide (x_ < y) then (-1) else bif decide (y < x_) then 1 else 0

/-! ### cmp_isNaN_string -/
def m_cmp_isNaN_string (x_ : List UInt8) : Bool :=
  strB .neq x_ x_

/-! ### cmp_Compare_string -/
def m_cmp_Compare_string (x_ : List UInt8) (y : List UInt8) : Int :=
  bif m_cmp_isNaN_string x_ then bif m_cmp_isNaN_string y then 0 else (-1) else bif m_cmp_isNaN_string y then 1 else bif strB .lss x_ y then (-1) else bif strB .gtr x_ y then 1 else 0

/-! ### cmp_Or_int -/
def m_cmp_Or_int_b1 (vals : List Int) (rec1 : Int → Int) (k1 : Int → Int) (x1 : Int) : Int :=
  bif decide (x1 < (vals.length : Int)) then bif (at' vals x1) != 0 then at' vals x1 else rec1 (x1 + 1) else k1 x1
def m_cmp_Or_int (vals : List Int) : Int :=
  LOOP (m_cmp_Or_int_b1 vals) (fun (x1 : Int) => 0) (((vals.length : Int) - 0 : Int).toNat + 1) 0

/-! ### impl_compareDrills -/
def m_impl_compareDrills (a : gDrill) (b : gDrill) : Int :=
  m_cmp_Or_int ([m_cmp_Compare_int64 a.Day b.Day, m_cmp_Compare_string a.Crew b.Crew] : List Int)

/-! ### impl_ValidDrills -/
def m_impl_ValidDrills_b1 (list : List gDrill) (rec1 : Int → Bool) (k1 : Int → Bool) (x1 : Int) : Bool :=
  bif decide (x1 < (list.length : Int)) then bif (!(m_impl_Drill_valid (at' list x1))) || ((decide (0 < x1)) && (decide (0 ≤ (m_impl_compareDrills (at' list (x1 - 1)) (at' list x1))))) then false else rec1 (x1 + 1) else k1 x1
def m_impl_ValidDrills (list : List gDrill) : Bool :=
  bif decide (32 < (list.length : Int)) then false else LOOP (m_impl_ValidDrills_b1 list) (fun (x1 : Int) => true) (((list.length : Int) - 0 : Int).toNat + 1) 0

/-! ### slices_Sort_string -/
def m_slices_Sort_string (x : List (List UInt8)) : (List (List UInt8)) := x.mergeSort fun x y => decide (x ≤ y)

/-! ### slices_Compact_string -/
def m_slices_Compact_string (s : List (List UInt8)) : (List (List UInt8)) := Lib.compact s

/-! ### impl_crewsOf -/
def m_impl_crewsOf_b1 (list : List gDrill) (rec1 : ((List (List UInt8)) × Int) → (List (List UInt8))) (k1 : ((List (List UInt8)) × Int) → (List (List UInt8))) (x1 : (List (List UInt8)) × Int) : (List (List UInt8)) :=
  bif decide (x1.2 < (list.length : Int)) then rec1 (x1.1 ++ ([(at' list x1.2).Crew] : List (List UInt8)), x1.2 + 1) else k1 (x1.1, x1.2)
def m_impl_crewsOf (list : List gDrill) : (List (List UInt8)) :=
  LOOP (m_impl_crewsOf_b1 list) (fun (x1 : (List (List UInt8)) × Int) => m_slices_Compact_string (m_slices_Sort_string x1.1)) (((list.length : Int) - 0 : Int).toNat + 1) (([] : List (List UInt8)), 0)

/-! ### slices_insertionSortCmpFunc_string -/
def m_slices_insertionSortCmpFunc_string_b2 (data : List (List UInt8)) (a : Int) (b : Int) (cmp : (List UInt8 → List UInt8 → Int)) (rec1 : ((List (List UInt8)) × Int) → (List (List UInt8))) (k1 : ((List (List UInt8)) × Int) → (List (List UInt8))) (x1 : (List (List UInt8)) × Int) (rec2 : ((List (List UInt8)) × Int) → (List (List UInt8))) (k2 : ((List (List UInt8)) × Int) → (List (List UInt8))) (x2 : (List (List UInt8)) × Int) : (List (List UInt8)) :=
  bif (decide (a < x2.2)) && (decide ((cmp (at' x2.1 x2.2) (at' x2.1 (x2.2 - 1))) < 0)) then rec2 (put' (put' x2.1 x2.2 (at' x2.1 (x2.2 - 1))) (x2.2 - 1) (at' x2.1 x2.2), x2.2 - 1) else k2 (x2.1, x2.2)
def m_slices_insertionSortCmpFunc_string_b1 (data : List (List UInt8)) (a : Int) (b : Int) (cmp : (List UInt8 → List UInt8 → Int)) (rec1 : ((List (List UInt8)) × Int) → (List (List UInt8))) (k1 : ((List (List UInt8)) × Int) → (List (List UInt8))) (x1 : (List (List UInt8)) × Int) : (List (List UInt8)) :=
  bif decide (x1.2 < b) then LOOP (m_slices_insertionSortCmpFunc_string_b2 data a b cmp rec1 k1 x1) (fun (x2 : (List (List UInt8)) × Int) => rec1 (x2.1, x1.2 + 1)) (x1.2.toNat + 1) (x1.1, x1.2) else k1 (x1.1, x1.2)
def m_slices_insertionSortCmpFunc_string (data : List (List UInt8)) (a : Int) (b : Int) (cmp : List UInt8 → List UInt8 → Int) : (List (List UInt8)) :=
  LOOP (m_slices_insertionSortCmpFunc_string_b1 data a b cmp) (fun (x1 : (List (List UInt8)) × Int) => x1.1) ((b - (a + 1) : Int).toNat + 1) (data, a + 1)

/-! ### slices_swapRangeCmpFunc_string -/
def m_slices_swapRangeCmpFunc_string_b1 (data : List (List UInt8)) (a : Int) (b : Int) (n_ : Int) (cmp : (List UInt8 → List UInt8 → Int)) (rec1 : ((List (List UInt8)) × Int) → (List (List UInt8))) (k1 : ((List (List UInt8)) × Int) → (List (List UInt8))) (x1 : (List (List UInt8)) × Int) : (List (List UInt8)) :=
  bif decide (x1.2 < n_) then rec1 (put' (put' x1.1 (a + x1.2) (at' x1.1 (b + x1.2))) (b + x1.2) (at' x1.1 (a + x1.2)), x1.2 + 1) else k1 (x1.1, x1.2)
def m_slices_swapRangeCmpFunc_string (data : List (List UInt8)) (a : Int) (b : Int) (n_ : Int) (cmp : List UInt8 → List UInt8 → Int) : (List (List UInt8)) :=
  LOOP (m_slices_swapRangeCmpFunc_string_b1 data a b n_ cmp) (fun (x1 : (List (List UInt8)) × Int) => x1.1) ((n_ - 0 : Int).toNat + 1) (data, 0)

/-! ### slices_rotateCmpFunc_string -/
def m_slices_rotateCmpFunc_string_b1 (data : List (List UInt8)) (a : Int) (m_ : Int) (b : Int) (cmp : (List UInt8 → List UInt8 → Int)) (rec1 : ((List (List UInt8)) × Int × Int) → (List (List UInt8))) (k1 : ((List (List UInt8)) × Int × Int) → (List (List UInt8))) (x1 : (List (List UInt8)) × Int × Int) : (List (List UInt8)) :=
  bif x1.2.1 != x1.2.2 then bif decide (x1.2.2 < x1.2.1) then rec1 (m_slices_swapRangeCmpFunc_string x1.1 (m_ - x1.2.1) m_ x1.2.2 cmp, x1.2.1 - x1.2.2, x1.2.2) else rec1 (m_slices_swapRangeCmpFunc_string x1.1 (m_ - x1.2.1) ((m_ + x1.2.2) - x1.2.1) x1.2.1 cmp, x1.2.1, x1.2.2 - x1.2.1) else k1 (x1.1, x1.2.1, x1.2.2)
def m_slices_rotateCmpFunc_string (data : List (List UInt8)) (a : Int) (m_ : Int) (b : Int) (cmp : List UInt8 → List UInt8 → Int) : (List (List UInt8)) :=
  LOOP (m_slices_rotateCmpFunc_string_b1 data a m_ b cmp) (fun (x1 : (List (List UInt8)) × Int × Int) => m_slices_swapRangeCmpFunc_string x1.1 (m_ - x1.2.1) m_ x1.2.1 cmp) ((b - a).toNat + 1) (data, m_ - a, b - m_)

/-! ### slices_symMergeCmpFunc_string -/
def m_slices_symMergeCmpFunc_string_b2 (self_ : (List (List UInt8)) → Int → Int → Int → ((List UInt8) → (List UInt8) → Int) → (List (List UInt8))) (data : List (List UInt8)) (a : Int) (m_ : Int) (b : Int) (cmp : (List UInt8 → List UInt8 → Int)) (x1 : Int × Int) (rec2 : ((List (List UInt8)) × Int) → (List (List UInt8))) (k2 : ((List (List UInt8)) × Int) → (List (List UInt8))) (x2 : (List (List UInt8)) × Int) : (List (List UInt8)) :=
  bif decide (x2.2 < (x1.1 - 1)) then rec2 (put' (put' x2.1 x2.2 (at' x2.1 (x2.2 + 1))) (x2.2 + 1) (at' x2.1 x2.2), x2.2 + 1) else k2 (x2.1, x2.2)
def m_slices_symMergeCmpFunc_string_b1 (self_ : (List (List UInt8)) → Int → Int → Int → ((List UInt8) → (List UInt8) → Int) → (List (List UInt8))) (data : List (List UInt8)) (a : Int) (m_ : Int) (b : Int) (cmp : (List UInt8 → List UInt8 → Int)) (rec1 : (Int × Int) → (List (List UInt8))) (k1 : (Int × Int) → (List (List UInt8))) (x1 : Int × Int) : (List (List UInt8)) :=
  bif decide (x1.1 < x1.2) then bif decide ((cmp (at' data (IntKind.wrap .i64 (Int.fdiv (IntKind.wrap .u64 (x1.1 + x1.2)) (2 ^ min (1 : Int).toNat 64)))) (at' data a)) < 0) then rec1 ((IntKind.wrap .i64 (Int.fdiv (IntKind.wrap .u64 (x1.1 + x1.2)) (2 ^ min (1 : Int).toNat 64))) + 1, x1.2) else rec1 (x1.1, IntKind.wrap .i64 (Int.fdiv (IntKind.wrap .u64 (x1.1 + x1.2)) (2 ^ min (1 : Int).toNat 64))) else k1 (x1.1, x1.2)
def m_slices_symMergeCmpFunc_string_b4 (self_ : (List (List UInt8)) → Int → Int → Int → ((List UInt8) → (List UInt8) → Int) → (List (List UInt8))) (data : List (List UInt8)) (a : Int) (m_ : Int) (b : Int) (cmp : (List UInt8 → List UInt8 → Int)) (x3 : Int × Int) (rec4 : ((List (List UInt8)) × Int) → (List (List UInt8))) (k4 : ((List (List UInt8)) × Int) → (List (List UInt8))) (x4 : (List (List UInt8)) × Int) : (List (List UInt8)) :=
  bif decide (x3.1 < x4.2) then rec4 (put' (put' x4.1 x4.2 (at' x4.1 (x4.2 - 1))) (x4.2 - 1) (at' x4.1 x4.2), x4.2 - 1) else k4 (x4.1, x4.2)
def m_slices_symMergeCmpFunc_string_b3 (self_ : (List (List UInt8)) → Int → Int → Int → ((List UInt8) → (List UInt8) → Int) → (List (List UInt8))) (data : List (List UInt8)) (a : Int) (m_ : Int) (b : Int) (cmp : (List UInt8 → List UInt8 → Int)) (rec3 : (Int × Int) → (List (List UInt8))) (k3 : (Int × Int) → (List (List UInt8))) (x3 : Int × Int) : (List (List UInt8)) :=
  bif decide (x3.1 < x3.2) then bif !(decide ((cmp (at' data m_) (at' data (IntKind.wrap .i64 (Int.fdiv (IntKind.wrap .u64 (x3.1 + x3.2)) (2 ^ min (1 : Int).toNat 64))))) < 0)) then rec3 ((IntKind.wrap .i64 (Int.fdiv (IntKind.wrap .u64 (x3.1 + x3.2)) (2 ^ min (1 : Int).toNat 64))) + 1, x3.2) else rec3 (x3.1, IntKind.wrap .i64 (Int.fdiv (IntKind.wrap .u64 (x3.1 + x3.2)) (2 ^ min (1 : Int).toNat 64))) else k3 (x3.1, x3.2)
def m_slices_symMergeCmpFunc_string_b5 (self_ : (List (List UInt8)) → Int → Int → Int → ((List UInt8) → (List UInt8) → Int) → (List (List UInt8))) (data : List (List UInt8)) (a : Int) (m_ : Int) (b : Int) (cmp : (List UInt8 → List UInt8 → Int)) (v49 : Int × Int) (rec5 : (Int × Int) → (List (List UInt8))) (k5 : (Int × Int) → (List (List UInt8))) (x5 : Int × Int) : (List (List UInt8)) :=
  bif decide (x5.1 < x5.2) then bif !(decide ((cmp (at' data ((((IntKind.wrap .i64 (Int.fdiv (IntKind.wrap .u64 (a + b)) (2 ^ min (1 : Int).toNat 64))) + m_) - 1) - (IntKind.wrap .i64 (Int.fdiv (IntKind.wrap .u64 (x5.1 + x5.2)) (2 ^ min (1 : Int).toNat 64))))) (at' data (IntKind.wrap .i64 (Int.fdiv (IntKind.wrap .u64 (x5.1 + x5.2)) (2 ^ min (1 : Int).toNat 64))))) < 0)) then rec5 ((IntKind.wrap .i64 (Int.fdiv (IntKind.wrap .u64 (x5.1 + x5.2)) (2 ^ min (1 : Int).toNat 64))) + 1, x5.2) else rec5 (x5.1, IntKind.wrap .i64 (Int.fdiv (IntKind.wrap .u64 (x5.1 + x5.2)) (2 ^ min (1 : Int).toNat 64))) else k5 (x5.1, x5.2)
def m_slices_symMergeCmpFunc_string_body (self_ : (List (List UInt8)) → Int → Int → Int → ((List UInt8) → (List UInt8) → Int) → (List (List UInt8))) (data : List (List UInt8)) (a : Int) (m_ : Int) (b : Int) (cmp : List UInt8 → List UInt8 → Int) : (List (List UInt8)) :=
  bif (m_ - a) == 1 then LOOP (m_slices_symMergeCmpFunc_string_b1 self_ data a m_ b cmp) (fun (x1 : Int × Int) => LOOP (m_slices_symMergeCmpFunc_string_b2 self_ data a m_ b cmp x1) (fun (x2 : (List (List UInt8)) × Int) => x2.1) (((x1.1 - 1) - a : Int).toNat + 1) (data, a)) ((b - m_).toNat + 1) (m_, b) else bif (b - m_) == 1 then LOOP (m_slices_symMergeCmpFunc_string_b3 self_ data a m_ b cmp) (fun (x3 : Int × Int) => LOOP (m_slices_symMergeCmpFunc_string_b4 self_ data a m_ b cmp x3) (fun (x4 : (List (List UInt8)) × Int) => x4.1) (m_.toNat + 1) (data, m_)) ((m_ - a).toNat + 1) (a, m_) else JN (fun j50 => bif decide ((IntKind.wrap .i64 (Int.fdiv (IntKind.wrap .u64 (a + b)) (2 ^ min (1 : Int).toNat 64))) < m_) then j50 (((IntKind.wrap .i64 (Int.fdiv (IntKind.wrap .u64 (a + b)) (2 ^ min (1 : Int).toNat 64))) + m_) - b, IntKind.wrap .i64 (Int.fdiv (IntKind.wrap .u64 (a + b)) (2 ^ min (1 : Int).toNat 64))) else j50 (a, m_)) (fun (v49 : Int × Int) => LOOP (m_slices_symMergeCmpFunc_string_b5 self_ data a m_ b cmp v49) (fun (x5 : Int × Int) => JN (fun j59 => bif (decide (x5.1 < m_)) && (decide (m_ < (((IntKind.wrap .i64 (Int.fdiv (IntKind.wrap .u64 (a + b)) (2 ^ min (1 : Int).toNat 64))) + m_) - x5.1))) then j59 (m_slices_rotateCmpFunc_string data x5.1 m_ (((IntKind.wrap .i64 (Int.fdiv (IntKind.wrap .u64 (a + b)) (2 ^ min (1 : Int).toNat 64))) + m_) - x5.1) cmp) else j59 data) (fun (v58 : (List (List UInt8))) => JN (fun j63 => bif (decide (a < x5.1)) && (decide (x5.1 < (IntKind.wrap .i64 (Int.fdiv (IntKind.wrap .u64 (a + b)) (2 ^ min (1 : Int).toNat 64))))) then j63 (self_ v58 a x5.1 (IntKind.wrap .i64 (Int.fdiv (IntKind.wrap .u64 (a + b)) (2 ^ min (1 : Int).toNat 64))) cmp) else j63 v58) (fun (v62 : (List (List UInt8))) => bif (decide ((IntKind.wrap .i64 (Int.fdiv (IntKind.wrap .u64 (a + b)) (2 ^ min (1 : Int).toNat 64))) < (((IntKind.wrap .i64 (Int.fdiv (IntKind.wrap .u64 (a + b)) (2 ^ min (1 : Int).toNat 64))) + m_) - x5.1))) && (decide ((((IntKind.wrap .i64 (Int.fdiv (IntKind.wrap .u64 (a + b)) (2 ^ min (1 : Int).toNat 64))) + m_) - x5.1) < b)) then self_ v62 (IntKind.wrap .i64 (Int.fdiv (IntKind.wrap .u64 (a + b)) (2 ^ min (1 : Int).toNat 64))) (((IntKind.wrap .i64 (Int.fdiv (IntKind.wrap .u64 (a + b)) (2 ^ min (1 : Int).toNat 64))) + m_) - x5.1) b cmp else v62))) ((v49.2 - v49.1).toNat + 1) (v49.1, v49.2))
def m_slices_symMergeCmpFunc_string_n : Nat → (List (List UInt8)) → Int → Int → Int → ((List UInt8) → (List UInt8) → Int) → (List (List UInt8))
  | 0 => fun _ _ _ _ _ => default
  | fuel + 1 => m_slices_symMergeCmpFunc_string_body (m_slices_symMergeCmpFunc_string_n fuel)
def m_slices_symMergeCmpFunc_string (data : List (List UInt8)) (a : Int) (m_ : Int) (b : Int) (cmp : List UInt8 → List UInt8 → Int) : (List (List UInt8)) := m_slices_symMergeCmpFunc_string_n ((b - a).toNat + 1) data a m_ b cmp

/-! ### slices_stableCmpFunc_string -/
def m_slices_stableCmpFunc_string_b3 (data : List (List UInt8)) (n_ : Int) (cmp : (List UInt8 → List UInt8 → Int)) (x1 : (List (List UInt8)) × Int × Int) (rec2 : ((List (List UInt8)) × Int) → (List (List UInt8))) (k2 : ((List (List UInt8)) × Int) → (List (List UInt8))) (x2 : (List (List UInt8)) × Int) (rec3 : ((List (List UInt8)) × Int × Int) → (List (List UInt8))) (k3 : ((List (List UInt8)) × Int × Int) → (List (List UInt8))) (x3 : (List (List UInt8)) × Int × Int) : (List (List UInt8)) :=
  bif decide (x3.2.2 ≤ n_) then rec3 (m_slices_symMergeCmpFunc_string x3.1 x3.2.1 (x3.2.1 + x2.2) x3.2.2 cmp, x3.2.2, x3.2.2 + (IntKind.wrap .i64 (2 * x2.2))) else k3 (x3.1, x3.2.1, x3.2.2)
def m_slices_stableCmpFunc_string_b2 (data : List (List UInt8)) (n_ : Int) (cmp : (List UInt8 → List UInt8 → Int)) (x1 : (List (List UInt8)) × Int × Int) (rec2 : ((List (List UInt8)) × Int) → (List (List UInt8))) (k2 : ((List (List UInt8)) × Int) → (List (List UInt8))) (x2 : (List (List UInt8)) × Int) : (List (List UInt8)) :=
  bif decide (x2.2 < n_) then LOOP (m_slices_stableCmpFunc_string_b3 data n_ cmp x1 rec2 k2 x2) (fun (x3 : (List (List UInt8)) × Int × Int) => bif decide ((x3.2.1 + x2.2) < n_) then rec2 (m_slices_symMergeCmpFunc_string x3.1 x3.2.1 (x3.2.1 + x2.2) n_ cmp, IntKind.wrap .i64 (x2.2 * 2)) else rec2 (x3.1, IntKind.wrap .i64 (x2.2 * 2))) (n_.toNat + 1) (x2.1, 0, IntKind.wrap .i64 (2 * x2.2)) else k2 (x2.1, x2.2)
def m_slices_stableCmpFunc_string_b1 (data : List (List UInt8)) (n_ : Int) (cmp : (List UInt8 → List UInt8 → Int)) (rec1 : ((List (List UInt8)) × Int × Int) → (List (List UInt8))) (k1 : ((List (List UInt8)) × Int × Int) → (List (List UInt8))) (x1 : (List (List UInt8)) × Int × Int) : (List (List UInt8)) :=
  bif decide (x1.2.2 ≤ n_) then rec1 (m_slices_insertionSortCmpFunc_string x1.1 x1.2.1 x1.2.2 cmp, x1.2.2, x1.2.2 + 20) else k1 (x1.1, x1.2.1, x1.2.2)
def m_slices_stableCmpFunc_string (data : List (List UInt8)) (n_ : Int) (cmp : List UInt8 → List UInt8 → Int) : (List (List UInt8)) :=
  LOOP (m_slices_stableCmpFunc_string_b1 data n_ cmp) (fun (x1 : (List (List UInt8)) × Int × Int) => LOOP (m_slices_stableCmpFunc_string_b2 data n_ cmp x1) (fun (x2 : (List (List UInt8)) × Int) => x2.1) (n_.toNat + 1) (m_slices_insertionSortCmpFunc_string x1.1 x1.2.1 n_ cmp, 20)) (n_.toNat + 1) (data, 0, 20)

/-! ### slices_SortStableFunc_string -/
def m_slices_SortStableFunc_string (x_ : List (List UInt8)) (cmp : List UInt8 → List UInt8 → Int) : (List (List UInt8)) :=
  m_slices_stableCmpFunc_string x_ (x_.length : Int) cmp

/-! ### slices_Sort_int64 -/
def m_slices_Sort_int64 (x : List Int) : (List Int) := x.mergeSort fun x y => decide (x ≤ y)

/-! ### impl_medianSeconds -/
def m_impl_medianSeconds_b1 (list : List gDrill) (crew : List UInt8) (rec1 : ((List Int) × Int) → Int) (k1 : ((List Int) × Int) → Int) (x1 : (List Int) × Int) : Int :=
  bif decide (x1.2 < (list.length : Int)) then bif strB .eql (at' list x1.2).Crew crew then rec1 (x1.1 ++ ([(at' list x1.2).Seconds] : List Int), x1.2 + 1) else rec1 (x1.1, x1.2 + 1) else k1 (x1.1, x1.2)
def m_impl_medianSeconds (list : List gDrill) (crew : List UInt8) : Int :=
  LOOP (m_impl_medianSeconds_b1 list crew) (fun (x1 : (List Int) × Int) => at' (m_slices_Sort_int64 x1.1) (IntKind.wrap .i64 (Int.tdiv (IntKind.wrap .i64 ((x1.1.length : Int) - 1)) 2))) (((list.length : Int) - 0 : Int).toNat + 1) (([] : List Int), 0)

/-! ### impl_RankCrews_1 -/
def m_impl_RankCrews_1 (a : List UInt8) (b : List UInt8) (p2 : List gDrill) : Int :=
  m_cmp_Compare_int64 (m_impl_medianSeconds p2 a) (m_impl_medianSeconds p2 b)

/-! ### impl_RankCrews -/
def m_impl_RankCrews (list : List gDrill) : (List (List UInt8)) × Int :=
  bif !(m_impl_ValidDrills list) then (([] : List (List UInt8)), 1) else (m_slices_SortStableFunc_string (m_impl_crewsOf list) (fun (a0 : List UInt8) (a1 : List UInt8) => m_impl_RankCrews_1 a0 a1 list), 0)

/-! ### laws_eqStringS -/
def m_laws_eqStringS_b1 (a : List (List UInt8)) (b : List (List UInt8)) (rec1 : Int → Bool) (k1 : Int → Bool) (x1 : Int) : Bool :=
  bif decide (x1 < (a.length : Int)) then bif strB .neq (at' a x1) (at' b x1) then false else rec1 (x1 + 1) else k1 x1
def m_laws_eqStringS (a : List (List UInt8)) (b : List (List UInt8)) : Bool :=
  bif (a.length : Int) != (b.length : Int) then false else LOOP (m_laws_eqStringS_b1 a b) (fun (x1 : Int) => true) (((a.length : Int) - 0 : Int).toNat + 1) 0

/-! ### laws_eqDrill -/
def m_laws_eqDrill (a : gDrill) (b : gDrill) : Bool :=
  bif a.Day != b.Day then false else bif strB .neq a.Crew b.Crew then false else bif a.Persons != b.Persons then false else bif a.Seconds != b.Seconds then false else bif a.Missing != b.Missing then false else true

/-! ### laws_eqDrillS -/
def m_laws_eqDrillS_b1 (a : List gDrill) (b : List gDrill) (rec1 : Int → Bool) (k1 : Int → Bool) (x1 : Int) : Bool :=
  bif decide (x1 < (a.length : Int)) then bif !(m_laws_eqDrill (at' a x1) (at' b x1)) then false else rec1 (x1 + 1) else k1 x1
def m_laws_eqDrillS (a : List gDrill) (b : List gDrill) : Bool :=
  bif (a.length : Int) != (b.length : Int) then false else LOOP (m_laws_eqDrillS_b1 a b) (fun (x1 : Int) => true) (((a.length : Int) - 0 : Int).toNat + 1) 0

/-! ### laws_markText -/
def m_laws_markText_b1 (k_ : Int) (rec1 : (Int × (List UInt8)) → (List UInt8)) (k1 : (Int × (List UInt8)) → (List UInt8)) (x1 : Int × (List UInt8)) : (List UInt8) :=
  bif decide (0 < x1.1) then rec1 (IntKind.wrap .i64 (Int.tdiv x1.1 10), (chars ([IntKind.wrap .u8 (IntKind.wrap .i64 (48 + (Int.tmod x1.1 10)))] : List Int)) ++ x1.2) else k1 (x1.1, x1.2)
def m_laws_markText (k_ : Int) : (List UInt8) :=
  bif decide (k_ ≤ 0) then ([109, 48] : List UInt8) else LOOP (m_laws_markText_b1 k_) (fun (x1 : Int × (List UInt8)) => ([109] : List UInt8) ++ x1.2) (k_.toNat + 1) (k_, ([] : List UInt8))

/-! ### laws_markDrillS -/
def m_laws_markDrillS_b1 (a : List gDrill) (k_ : Int) (rec1 : ((List gDrill) × Int × Int) → (Int × (List gDrill))) (k1 : ((List gDrill) × Int × Int) → (Int × (List gDrill))) (x1 : (List gDrill) × Int × Int) : Int × (List gDrill) :=
  bif decide (x1.2.2 < (x1.1.length : Int)) then rec1 (put' x1.1 x1.2.2 (gDrill.mk x1.2.1 (m_laws_markText (IntKind.wrap .i64 (x1.2.1 + 1))) (IntKind.wrap .i64 ((IntKind.wrap .i64 (x1.2.1 + 1)) + 1)) (IntKind.wrap .i64 ((IntKind.wrap .i64 ((IntKind.wrap .i64 (x1.2.1 + 1)) + 1)) + 1)) (IntKind.wrap .i64 ((IntKind.wrap .i64 ((IntKind.wrap .i64 ((IntKind.wrap .i64 (x1.2.1 + 1)) + 1)) + 1)) + 1))), IntKind.wrap .i64 ((IntKind.wrap .i64 ((IntKind.wrap .i64 ((IntKind.wrap .i64 ((IntKind.wrap .i64 (x1.2.1 + 1)) + 1)) + 1)) + 1)) + 1), x1.2.2 + 1) else k1 (x1.1, x1.2.1, x1.2.2)
def m_laws_markDrillS (a : List gDrill) (k_ : Int) : Int × (List gDrill) :=
  LOOP (m_laws_markDrillS_b1 a k_) (fun (x1 : (List gDrill) × Int × Int) => (x1.2.1, x1.1)) (((a.length : Int) - 0 : Int).toNat + 1) (a, k_, 0)

/-! ### laws_markStringS -/
def m_laws_markStringS_b1 (a : List (List UInt8)) (k_ : Int) (rec1 : ((List (List UInt8)) × Int × Int) → (Int × (List (List UInt8)))) (k1 : ((List (List UInt8)) × Int × Int) → (Int × (List (List UInt8)))) (x1 : (List (List UInt8)) × Int × Int) : Int × (List (List UInt8)) :=
  bif decide (x1.2.2 < (x1.1.length : Int)) then rec1 (put' x1.1 x1.2.2 (m_laws_markText x1.2.1), IntKind.wrap .i64 (x1.2.1 + 1), x1.2.2 + 1) else k1 (x1.1, x1.2.1, x1.2.2)
def m_laws_markStringS (a : List (List UInt8)) (k_ : Int) : Int × (List (List UInt8)) :=
  LOOP (m_laws_markStringS_b1 a k_) (fun (x1 : (List (List UInt8)) × Int × Int) => (x1.2.1, x1.1)) (((a.length : Int) - 0 : Int).toNat + 1) (a, k_, 0)

/-! ### laws_heldStringS -/
def m_laws_heldStringS_b1 (a : List (List UInt8)) (k_ : Int) (rec1 : (Int × Int) → Int) (k1 : (Int × Int) → Int) (x1 : Int × Int) : Int :=
  bif decide (x1.2 < (a.length : Int)) then bif strB .neq (at' a x1.2) (m_laws_markText x1.1) then (-1) else rec1 (IntKind.wrap .i64 (x1.1 + 1), x1.2 + 1) else k1 (x1.1, x1.2)
def m_laws_heldStringS (a : List (List UInt8)) (k_ : Int) : Int :=
  LOOP (m_laws_heldStringS_b1 a k_) (fun (x1 : Int × Int) => x1.1) (((a.length : Int) - 0 : Int).toNat + 1) (k_, 0)

/-! ### laws_FnExactRankCrews -/
def m_laws_FnExactRankCrews (aList : List gDrill) : Bool :=
  bif decide ((m_laws_szDrillS aList 1048576) < 0) then true else bif (!(m_laws_eqStringS (m_impl_RankCrews (m_laws_toDrillS aList)).1 (m_spec_RankCrews (m_laws_toDrillS aList)).1)) || ((m_impl_RankCrews (m_laws_toDrillS aList)).2 != (m_spec_RankCrews (m_laws_toDrillS aList)).2) then false else bif !(m_laws_eqDrillS (m_laws_toDrillS aList) (m_laws_toDrillS aList)) then false else bif ((decide ((m_laws_markDrillS (m_laws_toDrillS aList) 1).1 < 0)) || (!(m_laws_eqStringS (m_impl_RankCrews (m_laws_toDrillS aList)).1 (m_spec_RankCrews (m_laws_toDrillS aList)).1))) || ((m_impl_RankCrews (m_laws_toDrillS aList)).2 != (m_spec_RankCrews (m_laws_toDrillS aList)).2) then false else bif decide ((m_laws_heldStringS (m_laws_markStringS (m_impl_RankCrews (m_laws_toDrillS aList)).1 1).2 1) < 0) then false else bif (m_laws_heldStringS (m_laws_markStringS (m_impl_RankCrews (m_laws_toDrillS aList)).1 1).2 1) != (m_laws_markStringS (m_impl_RankCrews (m_laws_toDrillS aList)).1 1).1 then false else bif (!(m_laws_eqStringS (m_impl_RankCrews (m_laws_toDrillS aList)).1 (m_spec_RankCrews (m_laws_toDrillS aList)).1)) || ((m_impl_RankCrews (m_laws_toDrillS aList)).2 != (m_spec_RankCrews (m_laws_toDrillS aList)).2) then false else bif decide ((m_laws_heldStringS (m_laws_markStringS (m_impl_RankCrews (m_laws_toDrillS aList)).1 1).2 1) < 0) then false else bif (m_laws_heldStringS (m_laws_markStringS (m_impl_RankCrews (m_laws_toDrillS aList)).1 1).2 1) != (m_laws_markStringS (m_impl_RankCrews (m_laws_toDrillS aList)).1 1).1 then false else true

end Go.Proofs.Ytbflomopgofkgaa
