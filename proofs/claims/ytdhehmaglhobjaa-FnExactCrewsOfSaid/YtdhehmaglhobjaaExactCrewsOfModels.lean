/-
  PLAIN MODELS of the Go functions that the law reaches, printed by a program of this claim. Conditions: none; nothing is claimed here.
-/
import Derived.Test.YtdhehmaglhobjaaEngN
import Derived.Lib.SlicesCompact
import Derived.Sort.Walk0
set_option linter.unusedVariables false
set_option linter.unusedSimpArgs false
set_option linter.unusedSectionVars false
set_option linter.unnecessarySimpa false
namespace Go.Proofs.Ytdhehmaglhobjaa
open Go Go.RowKit Go.Proofs Go.Proofs.Ytdhehmaglhobjaa.E
structure gDrill where
  Day : Int
  Crew : List UInt8
  Persons : Int
  Seconds : Int
  Missing : Int
instance : Inhabited gDrill := ⟨gDrill.mk default default default default default⟩
abbrev gDrill.v (x : gDrill) : V := .st [.int .i64 x.Day, .str x.Crew, .int .i64 x.Persons, .int .i64 x.Seconds, .int .i64 x.Missing]

/-! ### laws_szDrill -/
def m_laws_szDrill (a : gDrill) (left : Int) : Int :=
  bif decide ((IntKind.wrap .i64 (left - (a.Crew.length : Int))) < 0) then (-1) else IntKind.wrap .i64 (left - (a.Crew.length : Int))

/-! ### laws_szDrillS -/
def m_laws_szDrillS_b1 (a : List gDrill) (left : Int) (rec1 : (Int × Int) → Int) (k1 : (Int × Int) → Int) (x1 : Int × Int) : Int :=
  bif decide (x1.2 < (a.length : Int)) then bif decide ((m_laws_szDrill (at' a x1.2) x1.1) < 0) then (-1) else rec1 (m_laws_szDrill (at' a x1.2) x1.1, x1.2 + 1) else k1 (x1.1, x1.2)
def m_laws_szDrillS (a : List gDrill) (left : Int) : Int :=
  bif decide ((IntKind.wrap .i64 (left - (a.length : Int))) < 0) then (-1) else LOOP (m_laws_szDrillS_b1 a left) (fun (x1 : Int × Int) => x1.1) (((a.length : Int) - 0 : Int).toNat + 1) (IntKind.wrap .i64 (left - (a.length : Int)), 0)

/-! ### laws_toDrill -/
def m_laws_toDrill (a : gDrill) : gDrill :=
  a

/-! ### laws_toDrillS -/
def m_laws_toDrillS_b1 (a : List gDrill) (rec1 : ((List gDrill) × Int) → (List gDrill)) (k1 : ((List gDrill) × Int) → (List gDrill)) (x1 : (List gDrill) × Int) : (List gDrill) :=
  bif decide (x1.2 < (a.length : Int)) then rec1 (put' x1.1 x1.2 (m_laws_toDrill (at' a x1.2)), x1.2 + 1) else k1 (x1.1, x1.2)
def m_laws_toDrillS (a : List gDrill) : (List gDrill) :=
  LOOP (m_laws_toDrillS_b1 a) (fun (x1 : (List gDrill) × Int) => x1.1) (((a.length : Int) - 0 : Int).toNat + 1) (List.replicate ((a.length : Int) : Int).toNat (gDrill.mk 0 ([] : List UInt8) 0 0 0 : gDrill), 0)

/-! ### laws_eqDrill -/
def m_laws_eqDrill (a : gDrill) (b : gDrill) : Bool :=
  bif a.Day != b.Day then false else bif strB .neq a.Crew b.Crew then false else bif a.Persons != b.Persons then false else bif a.Seconds != b.Seconds then false else bif a.Missing != b.Missing then false else true

/-! ### laws_eqDrillS -/
def m_laws_eqDrillS_b1 (a : List gDrill) (b : List gDrill) (rec1 : Int → Bool) (k1 : Int → Bool) (x1 : Int) : Bool :=
  bif decide (x1 < (a.length : Int)) then bif !(m_laws_eqDrill (at' a x1) (at' b x1)) then false else rec1 (x1 + 1) else k1 x1
def m_laws_eqDrillS (a : List gDrill) (b : List gDrill) : Bool :=
  bif (a.length : Int) != (b.length : Int) then false else LOOP (m_laws_eqDrillS_b1 a b) (fun (x1 : Int) => true) (((a.length : Int) - 0 : Int).toNat + 1) 0

/-! ### spec_l00In -/
def m_spec_l00In (n_ : Int) (low : Int) (high : Int) : Bool :=
  (decide (low ≤ n_)) && (decide (n_ ≤ high))

/-! ### spec_l28Day -/
def m_spec_l28Day (day : Int) : Bool :=
  m_spec_l00In day 0 100000

/-! ### spec_l01Small -/
def m_spec_l01Small (c_ : Int) : Bool :=
  (decide (97 ≤ c_)) && (decide (c_ ≤ 122))

/-! ### spec_l01Digit -/
def m_spec_l01Digit (c_ : Int) : Bool :=
  (decide (48 ≤ c_)) && (decide (c_ ≤ 57))

/-! ### spec_l01Name -/
def m_spec_l01Name_b1 (s_ : List UInt8) (rec1 : Int → Bool) (k1 : Int → Bool) (x1 : Int) : Bool :=
  bif decide (x1 < (s_.length : Int)) then bif (!(m_spec_l01Small (((s_.getD x1.toNat 0).toNat : Nat) : Int))) && (!(m_spec_l01Digit (((s_.getD x1.toNat 0).toNat : Nat) : Int))) then false else rec1 (x1 + 1) else k1 x1
def m_spec_l01Name (s_ : List UInt8) : Bool :=
  bif ((strB .eql s_ ([] : List UInt8)) || (decide (10 < (s_.length : Int)))) || (!(m_spec_l01Small (((s_.getD (0 : Int).toNat 0).toNat : Nat) : Int))) then false else LOOP (m_spec_l01Name_b1 s_) (fun (x1 : Int) => true) (((s_.length : Int) - 0 : Int).toNat + 1) 0

/-! ### spec_l28One -/
def m_spec_l28One (x_ : gDrill) : Bool :=
  ((((m_spec_l28Day x_.Day) && (m_spec_l01Name x_.Crew)) && (m_spec_l00In x_.Persons 1 200)) && (m_spec_l00In x_.Seconds 0 36000)) && (m_spec_l00In x_.Missing 0 x_.Persons)

/-! ### spec_l28Before -/
def m_spec_l28Before (a : gDrill) (b : gDrill) : Bool :=
  (decide (a.Day < b.Day)) || ((a.Day == b.Day) && (strB .lss a.Crew b.Crew))

/-! ### spec_l28Ok -/
def m_spec_l28Ok_b1 (list : List gDrill) (rec1 : Int → Bool) (k1 : Int → Bool) (x1 : Int) : Bool :=
  bif decide (x1 < (list.length : Int)) then bif (!(m_spec_l28One (at' list x1))) || ((decide (0 < x1)) && (!(m_spec_l28Before (at' list (x1 - 1)) (at' list x1)))) then false else rec1 (x1 + 1) else k1 x1
def m_spec_l28Ok (list : List gDrill) : Bool :=
  LOOP (m_spec_l28Ok_b1 list) (fun (x1 : Int) => decide ((list.length : Int) ≤ 32)) (((list.length : Int) - 0 : Int).toNat + 1) 0

/-! ### spec_l28Put -/
def m_spec_l28Put_b1 (list : List (List UInt8)) (name : List UInt8) (rec1 : ((List (List UInt8)) × Bool × Int) → (List (List UInt8))) (k1 : ((List (List UInt8)) × Bool × Int) → (List (List UInt8))) (x1 : (List (List UInt8)) × Bool × Int) : (List (List UInt8)) :=
  bif decide (x1.2.2 < (list.length : Int)) then JN (fun j6 => bif !x1.2.1 && (strB .geq (at' list x1.2.2) name) then j6 (x1.1 ++ ([name] : List (List UInt8)), true) else j6 (x1.1, x1.2.1)) (fun (v5 : (List (List UInt8)) × Bool) => bif strB .neq (at' list x1.2.2) name then rec1 (v5.1 ++ ([at' list x1.2.2] : List (List UInt8)), v5.2, x1.2.2 + 1) else rec1 (v5.1, v5.2, x1.2.2 + 1)) else k1 (x1.1, x1.2.1, x1.2.2)
def m_spec_l28Put (list : List (List UInt8)) (name : List UInt8) : (List (List UInt8)) :=
  LOOP (m_spec_l28Put_b1 list name) (fun (x1 : (List (List UInt8)) × Bool × Int) => bif !x1.2.1 then x1.1 ++ ([name] : List (List UInt8)) else x1.1) (((list.length : Int) - 0 : Int).toNat + 1) (([] : List (List UInt8)), false, 0)

/-! ### spec_l28Crews -/
def m_spec_l28Crews_b1 (list : List gDrill) (rec1 : ((List (List UInt8)) × Int) → (List (List UInt8))) (k1 : ((List (List UInt8)) × Int) → (List (List UInt8))) (x1 : (List (List UInt8)) × Int) : (List (List UInt8)) :=
  bif decide (x1.2 < (list.length : Int)) then rec1 (m_spec_l28Put x1.1 (at' list x1.2).Crew, x1.2 + 1) else k1 (x1.1, x1.2)
def m_spec_l28Crews (list : List gDrill) : (List (List UInt8)) :=
  LOOP (m_spec_l28Crews_b1 list) (fun (x1 : (List (List UInt8)) × Int) => x1.1) (((list.length : Int) - 0 : Int).toNat + 1) (([] : List (List UInt8)), 0)

/-! ### spec_CrewsOf -/
def m_spec_CrewsOf (list : List gDrill) : (List (List UInt8)) × Int :=
  bif !(m_spec_l28Ok list) then (([] : List (List UInt8)), 1) else (m_spec_l28Crews list, 0)

/-! ### impl_within -/
def m_impl_within (n_ : Int) (low : Int) (high : Int) : Bool :=
  (decide (low ≤ n_)) && (decide (n_ ≤ high))

/-! ### impl_onlyNameBytes -/
def m_impl_onlyNameBytes_b1 (s_ : List UInt8) (rec1 : Int → Bool) (k1 : Int → Bool) (x1 : Int) : Bool :=
  bif decide (x1 < (s_.length : Int)) then bif ((decide ((((s_.getD x1.toNat 0).toNat : Nat) : Int) < 97)) || (decide (122 < (((s_.getD x1.toNat 0).toNat : Nat) : Int)))) && ((decide ((((s_.getD x1.toNat 0).toNat : Nat) : Int) < 48)) || (decide (57 < (((s_.getD x1.toNat 0).toNat : Nat) : Int)))) then false else rec1 (x1 + 1) else k1 x1
def m_impl_onlyNameBytes (s_ : List UInt8) : Bool :=
  LOOP (m_impl_onlyNameBytes_b1 s_) (fun (x1 : Int) => true) (((s_.length : Int) - 0 : Int).toNat + 1) 0

/-! ### impl_IsName -/
def m_impl_IsName (s_ : List UInt8) : Bool :=
  bif (((decide ((s_.length : Int) < 1)) || (decide (10 < (s_.length : Int)))) || (decide ((((s_.getD (0 : Int).toNat 0).toNat : Nat) : Int) < 97))) || (decide (122 < (((s_.getD (0 : Int).toNat 0).toNat : Nat) : Int))) then false else m_impl_onlyNameBytes s_

/-! ### impl_Drill_valid -/
def m_impl_Drill_valid (x_ : gDrill) : Bool :=
  ((((m_impl_within x_.Day 0 100000) && (m_impl_IsName x_.Crew)) && (m_impl_within x_.Persons 1 200)) && (m_impl_within x_.Seconds 0 36000)) && (m_impl_within x_.Missing 0 x_.Persons)

/-! ### cmp_isNaN_int64 -/
def m_cmp_isNaN_int64 (x_ : Int) : Bool :=
  x_ != x_

/-! ### cmp_Compare_int64 -/
def m_cmp_Compare_int64 (x_ : Int) (y : Int) : Int :=
  bif m_cmp_isNaN_int64 x_ then bif m_cmp_isNaN_int64 y then 0 else (-1) else bif m_cmp_isNaN_int64 y then 1 else bif decide (x_ < y) then (-1) else bif decide (y < x_) then 1 else 0

/-! ### cmp_Or_int -/
def m_cmp_Or_int_b1 (vals : List Int) (rec1 : Int → Int) (k1 : Int → Int) (x1 : Int) : Int :=
  bif decide (x1 < (vals.length : Int)) then bif (at' vals x1) != 0 then at' vals x1 else rec1 (x1 + 1) else k1 x1
def m_cmp_Or_int (vals : List Int) : Int :=
  LOOP (m_cmp_Or_int_b1 vals) (fun (x1 : Int) => 0) (((vals.length : Int) - 0 : Int).toNat + 1) 0

/-! ### cmp_isNaN_string -/
def m_cmp_isNaN_string (x_ : List UInt8) : Bool :=
  strB .neq x_ x_

/-! ### cmp_Compare_string -/
def m_cmp_Compare_string (x_ : List UInt8) (y : List UInt8) : Int :=
  bif m_cmp_isNaN_string x_ then bif m_cmp_isNaN_string y then 0 else (-1) else bif m_cmp_isNaN_string y then 1 else bif strB .lss x_ y then (-1) else bif strB .gtr x_ y then 1 else 0

/-! ### impl_compareDrills -/
def m_impl_compareDrills (a : gDrill) (b : gDrill) : Int :=
  m_cmp_Or_int ([m_cmp_Compare_int64 a.Day b.Day, m_cmp_Compare_string a.Crew b.Crew] : List Int)

/-! ### impl_ValidDrills -/
def m_impl_ValidDrills_b1 (list : List gDrill) (rec1 : Int → Bool) (k1 : Int → Bool) (x1 : Int) : Bool :=
  bif decide (x1 < (list.length : Int)) then bif (!(m_impl_Drill_valid (at' list x1))) || ((decide (0 < x1)) && (decide (0 ≤ (m_impl_compareDrills (at' list (x1 - 1)) (at' list x1))))) then false else rec1 (x1 + 1) else k1 x1
def m_impl_ValidDrills (list : List gDrill) : Bool :=
  bif decide (32 < (list.length : Int)) then false else LOOP (m_impl_ValidDrills_b1 list) (fun (x1 : Int) => true) (((list.length : Int) - 0 : Int).toNat + 1) 0

/-! ### slices_Sort_string -/
def m_slices_Sort_string (x : List (List UInt8)) : (List (List UInt8)) := x.mergeSort fun x y => decide (x ≤ y)

/-! ### slices_Compact_string -/
def m_slices_Compact_string (s : List (List UInt8)) : (List (List UInt8)) := Lib.compact s

/-! ### impl_crewsOf -/
def m_impl_crewsOf_b1 (list : List gDrill) (rec1 : ((List (List UInt8)) × Int) → (List (List UInt8))) (k1 : ((List (List UInt8)) × Int) → (List (List UInt8))) (x1 : (List (List UInt8)) × Int) : (List (List UInt8)) :=
  bif decide (x1.2 < (list.length : Int)) then rec1 (x1.1 ++ ([(at' list x1.2).Crew] : List (List UInt8)), x1.2 + 1) else k1 (x1.1, x1.2)
def m_impl_crewsOf (list : List gDrill) : (List (List UInt8)) :=
  LOOP (m_impl_crewsOf_b1 list) (fun (x1 : (List (List UInt8)) × Int) => m_slices_Compact_string (m_slices_Sort_string x1.1)) (((list.length : Int) - 0 : Int).toNat + 1) (([] : List (List UInt8)), 0)

/-! ### impl_CrewsOf -/
def m_impl_CrewsOf (list : List gDrill) : (List (List UInt8)) × Int :=
  bif !(m_impl_ValidDrills list) then (([] : List (List UInt8)), 1) else (m_impl_crewsOf list, 0)

/-! ### laws_eqStringS -/
def m_laws_eqStringS_b1 (a : List (List UInt8)) (b : List (List UInt8)) (rec1 : Int → Bool) (k1 : Int → Bool) (x1 : Int) : Bool :=
  bif decide (x1 < (a.length : Int)) then bif strB .neq (at' a x1) (at' b x1) then false else rec1 (x1 + 1) else k1 x1
def m_laws_eqStringS (a : List (List UInt8)) (b : List (List UInt8)) : Bool :=
  bif (a.length : Int) != (b.length : Int) then false else LOOP (m_laws_eqStringS_b1 a b) (fun (x1 : Int) => true) (((a.length : Int) - 0 : Int).toNat + 1) 0

/-! ### laws_markText -/
def m_laws_markText_b1 (k_ : Int) (rec1 : (Int × (List UInt8)) → (List UInt8)) (k1 : (Int × (List UInt8)) → (List UInt8)) (x1 : Int × (List UInt8)) : (List UInt8) :=
  bif decide (0 < x1.1) then rec1 (IntKind.wrap .i64 (Int.tdiv x1.1 10), (chars ([IntKind.wrap .u8 (IntKind.wrap .i64 (48 + (Int.tmod x1.1 10)))] : List Int)) ++ x1.2) else k1 (x1.1, x1.2)
def m_laws_markText (k_ : Int) : (List UInt8) :=
  bif decide (k_ ≤ 0) then ([109, 48] : List UInt8) else LOOP (m_laws_markText_b1 k_) (fun (x1 : Int × (List UInt8)) => ([109] : List UInt8) ++ x1.2) (k_.toNat + 1) (k_, ([] : List UInt8))

/-! ### laws_markDrillS -/
def m_laws_markDrillS_b1 (a : List gDrill) (k_ : Int) (rec1 : ((List gDrill) × Int × Int) → (Int × (List gDrill))) (k1 : ((List gDrill) × Int × Int) → (Int × (List gDrill))) (x1 : (List gDrill) × Int × Int) : Int × (List gDrill) :=
  bif decide (x1.2.2 < (x1.1.length : Int)) then rec1 (put' x1.1 x1.2.2 (gDrill.mk x1.2.1 (m_laws_markText (IntKind.wrap .i64 (x1.2.1 + 1))) (IntKind.wrap .i64 ((IntKind.wrap .i64 (x1.2.1 + 1)) + 1)) (IntKind.wrap .i64 ((IntKind.wrap .i64 ((IntKind.wrap .i64 (x1.2.1 + 1)) + 1)) + 1)) (IntKind.wrap .i64 ((IntKind.wrap .i64 ((IntKind.wrap .i64 ((IntKind.wrap .i64 (x1.2.1 + 1)) + 1)) + 1)) + 1))), IntKind.wrap .i64 ((IntKind.wrap .i64 ((IntKind.wrap .i64 ((IntKind.wrap .i64 ((IntKind.wrap .i64 (x1.2.1 + 1)) + 1)) + 1)) + 1)) + 1), x1.2.2 + 1) else k1 (x1.1, x1.2.1, x1.2.2)
def m_laws_markDrillS (a : List gDrill) (k_ : Int) : Int × (List gDrill) :=
  LOOP (m_laws_markDrillS_b1 a k_) (fun (x1 : (List gDrill) × Int × Int) => (x1.2.1, x1.1)) (((a.length : Int) - 0 : Int).toNat + 1) (a, k_, 0)

/-! ### laws_markStringS -/
def m_laws_markStringS_b1 (a : List (List UInt8)) (k_ : Int) (rec1 : ((List (List UInt8)) × Int × Int) → (Int × (List (List UInt8)))) (k1 : ((List (List UInt8)) × Int × Int) → (Int × (List (List UInt8)))) (x1 : (List (List UInt8)) × Int × Int) : Int × (List (List UInt8)) :=
  bif decide (x1.2.2 < (x1.1.length : Int)) then rec1 (put' x1.1 x1.2.2 (m_laws_markText x1.2.1), IntKind.wrap .i64 (x1.2.1 + 1), x1.2.2 + 1) else k1 (x1.1, x1.2.1, x1.2.2)
def m_laws_markStringS (a : List (List UInt8)) (k_ : Int) : Int × (List (List UInt8)) :=
  LOOP (m_laws_markStringS_b1 a k_) (fun (x1 : (List (List UInt8)) × Int × Int) => (x1.2.1, x1.1)) (((a.length : Int) - 0 : Int).toNat + 1) (a, k_, 0)

/-! ### laws_heldStringS -/
def m_laws_heldStringS_b1 (a : List (List UInt8)) (k_ : Int) (rec1 : (Int × Int) → Int) (k1 : (Int × Int) → Int) (x1 : Int × Int) : Int :=
  bif decide (x1.2 < (a.length : Int)) then bif strB .neq (at' a x1.2) (m_laws_markText x1.1) then (-1) else rec1 (IntKind.wrap .i64 (x1.1 + 1), x1.2 + 1) else k1 (x1.1, x1.2)
def m_laws_heldStringS (a : List (List UInt8)) (k_ : Int) : Int :=
  LOOP (m_laws_heldStringS_b1 a k_) (fun (x1 : Int × Int) => x1.1) (((a.length : Int) - 0 : Int).toNat + 1) (k_, 0)

/-! ### laws_FnExactCrewsOf -/
def m_laws_FnExactCrewsOf (aList : List gDrill) : Bool :=
  bif decide ((m_laws_szDrillS aList 1048576) < 0) then true else bif (!(m_laws_eqStringS (m_impl_CrewsOf (m_laws_toDrillS aList)).1 (m_spec_CrewsOf (m_laws_toDrillS aList)).1)) || ((m_impl_CrewsOf (m_laws_toDrillS aList)).2 != (m_spec_CrewsOf (m_laws_toDrillS aList)).2) then false else bif !(m_laws_eqDrillS (m_laws_toDrillS aList) (m_laws_toDrillS aList)) then false else bif ((decide ((m_laws_markDrillS (m_laws_toDrillS aList) 1).1 < 0)) || (!(m_laws_eqStringS (m_impl_CrewsOf (m_laws_toDrillS aList)).1 (m_spec_CrewsOf (m_laws_toDrillS aList)).1))) || ((m_impl_CrewsOf (m_laws_toDrillS aList)).2 != (m_spec_CrewsOf (m_laws_toDrillS aList)).2) then false else bif decide ((m_laws_heldStringS (m_laws_markStringS (m_impl_CrewsOf (m_laws_toDrillS aList)).1 1).2 1) < 0) then false else bif (m_laws_heldStringS (m_laws_markStringS (m_impl_CrewsOf (m_laws_toDrillS aList)).1 1).2 1) != (m_laws_markStringS (m_impl_CrewsOf (m_laws_toDrillS aList)).1 1).1 then false else bif (!(m_laws_eqStringS (m_impl_CrewsOf (m_laws_toDrillS aList)).1 (m_spec_CrewsOf (m_laws_toDrillS aList)).1)) || ((m_impl_CrewsOf (m_laws_toDrillS aList)).2 != (m_spec_CrewsOf (m_laws_toDrillS aList)).2) then false else bif decide ((m_laws_heldStringS (m_laws_markStringS (m_impl_CrewsOf (m_laws_toDrillS aList)).1 1).2 1) < 0) then false else bif (m_laws_heldStringS (m_laws_markStringS (m_impl_CrewsOf (m_laws_toDrillS aList)).1 1).2 1) != (m_laws_markStringS (m_impl_CrewsOf (m_laws_toDrillS aList)).1 1).1 then false else true

end Go.Proofs.Ytdhehmaglhobjaa
