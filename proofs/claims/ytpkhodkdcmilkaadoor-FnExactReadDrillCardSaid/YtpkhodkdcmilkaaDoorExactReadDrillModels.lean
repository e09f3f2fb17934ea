/-
  PLAIN MODELS of the Go functions that the law reaches, printed by a program of this claim. Conditions: none; nothing is claimed here.
-/
import Derived.Test.YtpkhodkdcmilkaaDoorEngN
import Derived.Lib.ItoaNum
import Derived.Lib.Join
import Derived.Lib.Split
import Derived.Lib.ParseIntB
import Derived.Lib.Strings
set_option linter.unusedVariables false
set_option linter.unusedSimpArgs false
set_option linter.unusedSectionVars false
set_option linter.unnecessarySimpa false
namespace Go.Proofs.YtpkhodkdcmilkaaDoor
open Go Go.RowKit Go.Proofs Go.Proofs.YtpkhodkdcmilkaaDoor.E
structure gDrill where
  Day : Int
  Crew : List UInt8
  Persons : Int
  Seconds : Int
  Missing : Int
instance : Inhabited gDrill := ⟨gDrill.mk default default default default default⟩
abbrev gDrill.v (x : gDrill) : V := .st [.int .i64 x.Day, .str x.Crew, .int .i64 x.Persons, .int .i64 x.Seconds, .int .i64 x.Missing]

/-! ### spec_l01Split -/
def m_spec_l01Split_b1 (s_ : List UInt8) (by_ : Int) (rec1 : ((List (List UInt8)) × Int × Int) → (List (List UInt8))) (k1 : ((List (List UInt8)) × Int × Int) → (List (List UInt8))) (x1 : (List (List UInt8)) × Int × Int) : (List (List UInt8)) :=
  bif decide (x1.2.2 < (s_.length : Int)) then bif (((s_.getD x1.2.2.toNat 0).toNat : Nat) : Int) == by_ then rec1 (x1.1 ++ ([cut' s_ x1.2.1 x1.2.2] : List (List UInt8)), x1.2.2 + 1, x1.2.2 + 1) else rec1 (x1.1, x1.2.1, x1.2.2 + 1) else k1 (x1.1, x1.2.1, x1.2.2)
def m_spec_l01Split (s_ : List UInt8) (by_ : Int) : (List (List UInt8)) :=
  LOOP (m_spec_l01Split_b1 s_ by_) (fun (x1 : (List (List UInt8)) × Int × Int) => x1.1 ++ ([cut' s_ x1.2.1 (s_.length : Int)] : List (List UInt8))) (((s_.length : Int) - 0 : Int).toNat + 1) (([] : List (List UInt8)), 0, 0)

/-! ### spec_l01Digit -/
def m_spec_l01Digit (c_ : Int) : Bool :=
  (decide (48 ≤ c_)) && (decide (c_ ≤ 57))

/-! ### spec_l01Number -/
def m_spec_l01Number_b1 (s_ : List UInt8) (v1 : Int) (rec1 : (Int × Int) → (Int × Bool)) (k1 : (Int × Int) → (Int × Bool)) (x1 : Int × Int) : Int × Bool :=
  bif decide (x1.2 < (s_.length : Int)) then bif !(m_spec_l01Digit (((s_.getD x1.2.toNat 0).toNat : Nat) : Int)) then (0, false) else rec1 (IntKind.wrap .i64 ((IntKind.wrap .i64 (10 * x1.1)) + (IntKind.wrap .i64 (IntKind.wrap .u8 ((((s_.getD x1.2.toNat 0).toNat : Nat) : Int) - 48)))), x1.2 + 1) else k1 (x1.1, x1.2)
def m_spec_l01Number (s_ : List UInt8) : Int × Bool :=
  JN (fun j2 => bif (decide (0 < (s_.length : Int))) && ((((s_.getD (0 : Int).toNat 0).toNat : Nat) : Int) == 45) then j2 1 else j2 0) (fun (v1 : Int) => bif (((s_.length : Int) == v1) || (decide (18 < (IntKind.wrap .i64 ((s_.length : Int) - v1))))) || (((((s_.getD v1.toNat 0).toNat : Nat) : Int) == 48) && (decide (1 < (s_.length : Int)))) then (0, false) else LOOP (m_spec_l01Number_b1 s_ v1) (fun (x1 : Int × Int) => bif v1 == 1 then (IntKind.wrap .i64 (0 - x1.1), true) else (x1.1, true)) (((s_.length : Int) - v1 : Int).toNat + 1) (0, v1))

/-! ### spec_l00In -/
def m_spec_l00In (n_ : Int) (low : Int) (high : Int) : Bool :=
  (decide (low ≤ n_)) && (decide (n_ ≤ high))

/-! ### spec_ReadList -/
def m_spec_ReadList_b1 (s_ : List UInt8) (rec1 : ((List Int) × Int) → ((List Int) × Bool)) (k1 : ((List Int) × Int) → ((List Int) × Bool)) (x1 : (List Int) × Int) : (List Int) × Bool :=
  bif decide (x1.2 < ((m_spec_l01Split s_ 44).length : Int)) then bif (!(m_spec_l01Number (at' (m_spec_l01Split s_ 44) x1.2)).2) || (!(m_spec_l00In (m_spec_l01Number (at' (m_spec_l01Split s_ 44) x1.2)).1 (-1000000000000) 1000000000000)) then (([] : List Int), false) else rec1 (x1.1 ++ ([(m_spec_l01Number (at' (m_spec_l01Split s_ 44) x1.2)).1] : List Int), x1.2 + 1) else k1 (x1.1, x1.2)
def m_spec_ReadList (s_ : List UInt8) : (List Int) × Bool :=
  bif strB .eql s_ ([45] : List UInt8) then (([] : List Int), true) else bif decide (64 < ((m_spec_l01Split s_ 44).length : Int)) then (([] : List Int), false) else LOOP (m_spec_ReadList_b1 s_) (fun (x1 : (List Int) × Int) => (x1.1, true)) ((((m_spec_l01Split s_ 44).length : Int) - 0 : Int).toNat + 1) (([] : List Int), 0)

/-! ### spec_l01Small -/
def m_spec_l01Small (c_ : Int) : Bool :=
  (decide (97 ≤ c_)) && (decide (c_ ≤ 122))

/-! ### spec_l01Name -/
def m_spec_l01Name_b1 (s_ : List UInt8) (rec1 : Int → Bool) (k1 : Int → Bool) (x1 : Int) : Bool :=
  bif decide (x1 < (s_.length : Int)) then bif (!(m_spec_l01Small (((s_.getD x1.toNat 0).toNat : Nat) : Int))) && (!(m_spec_l01Digit (((s_.getD x1.toNat 0).toNat : Nat) : Int))) then false else rec1 (x1 + 1) else k1 x1
def m_spec_l01Name (s_ : List UInt8) : Bool :=
  bif ((strB .eql s_ ([] : List UInt8)) || (decide (10 < (s_.length : Int)))) || (!(m_spec_l01Small (((s_.getD (0 : Int).toNat 0).toNat : Nat) : Int))) then false else LOOP (m_spec_l01Name_b1 s_) (fun (x1 : Int) => true) (((s_.length : Int) - 0 : Int).toNat + 1) 0

/-! ### spec_l28Day -/
def m_spec_l28Day (day : Int) : Bool :=
  m_spec_l00In day 0 100000

/-! ### spec_l28One -/
def m_spec_l28One (x_ : gDrill) : Bool :=
  ((((m_spec_l28Day x_.Day) && (m_spec_l01Name x_.Crew)) && (m_spec_l00In x_.Persons 1 200)) && (m_spec_l00In x_.Seconds 0 36000)) && (m_spec_l00In x_.Missing 0 x_.Persons)

/-! ### spec_l28Read -/
def m_spec_l28Read (s_ : List UInt8) : gDrill × Bool :=
  bif ((m_spec_l01Split s_ 32).length : Int) != 3 then (gDrill.mk 0 ([] : List UInt8) 0 0 0, false) else bif ((!(m_spec_l01Number (at' (m_spec_l01Split s_ 32) 0)).2) || (!(m_spec_ReadList (at' (m_spec_l01Split s_ 32) 2)).2)) || (((m_spec_ReadList (at' (m_spec_l01Split s_ 32) 2)).1.length : Int) != 3) then (gDrill.mk 0 ([] : List UInt8) 0 0 0, false) else bif !(m_spec_l28One (gDrill.mk (m_spec_l01Number (at' (m_spec_l01Split s_ 32) 0)).1 (at' (m_spec_l01Split s_ 32) 1) (at' (m_spec_ReadList (at' (m_spec_l01Split s_ 32) 2)).1 0) (at' (m_spec_ReadList (at' (m_spec_l01Split s_ 32) 2)).1 1) (at' (m_spec_ReadList (at' (m_spec_l01Split s_ 32) 2)).1 2))) then (gDrill.mk 0 ([] : List UInt8) 0 0 0, false) else (gDrill.mk (m_spec_l01Number (at' (m_spec_l01Split s_ 32) 0)).1 (at' (m_spec_l01Split s_ 32) 1) (at' (m_spec_ReadList (at' (m_spec_l01Split s_ 32) 2)).1 0) (at' (m_spec_ReadList (at' (m_spec_l01Split s_ 32) 2)).1 1) (at' (m_spec_ReadList (at' (m_spec_l01Split s_ 32) 2)).1 2), true)

/-! ### spec_ReadDrill -/
def m_spec_ReadDrill (s_ : List UInt8) : gDrill × Bool :=
  ((m_spec_l28Read s_).1, (m_spec_l28Read s_).2)

/-! ### strconv_ParseInt -/
def m_strconv_ParseInt (s : List UInt8) (base : Int) (bitSize : Int) : Int × Bool := match Lib.parseIntB 64 s with
  | .ok v => (v, false)
  | .syntax => (0, true)
  | .range => (Lib.intSat 64 s, true)

/-! ### strings_TrimPrefix -/
def m_strings_TrimPrefix (s : List UInt8) (prefix_ : List UInt8) : (List UInt8) := Lib.trimPrefix s prefix_

/-! ### strconv_FormatInt -/
def m_strconv_FormatInt (i : Int) (base : Int) : (List UInt8) := Lib.itoa i

/-! ### impl_Decimal -/
def m_impl_Decimal (n_ : Int) : (List UInt8) :=
  m_strconv_FormatInt n_ 10

/-! ### impl_ReadDecimal -/
def m_impl_ReadDecimal (s_ : List UInt8) : Int × Bool :=
  bif ((m_strconv_ParseInt s_ 10 64).2 || (decide (18 < ((m_strings_TrimPrefix s_ ([45] : List UInt8)).length : Int)))) || (strB .neq (m_impl_Decimal (m_strconv_ParseInt s_ 10 64).1) s_) then (0, false) else ((m_strconv_ParseInt s_ 10 64).1, true)

/-! ### impl_within -/
def m_impl_within (n_ : Int) (low : Int) (high : Int) : Bool :=
  (decide (low ≤ n_)) && (decide (n_ ≤ high))

/-! ### strings_Join -/
def m_strings_Join (elems : List (List UInt8)) (sep : List UInt8) : (List UInt8) := Lib.join elems sep

/-! ### impl_ListText -/
def m_impl_ListText_b1 (list : List Int) (rec1 : ((List (List UInt8)) × Int) → (List UInt8)) (k1 : ((List (List UInt8)) × Int) → (List UInt8)) (x1 : (List (List UInt8)) × Int) : (List UInt8) :=
  bif decide (x1.2 < (list.length : Int)) then bif !(m_impl_within (at' list x1.2) (-1000000000000) 1000000000000) then ([] : List UInt8) else rec1 (x1.1 ++ ([m_impl_Decimal (at' list x1.2)] : List (List UInt8)), x1.2 + 1) else k1 (x1.1, x1.2)
def m_impl_ListText (list : List Int) : (List UInt8) :=
  bif decide (64 < (list.length : Int)) then ([] : List UInt8) else bif (list.length : Int) == 0 then ([45] : List UInt8) else LOOP (m_impl_ListText_b1 list) (fun (x1 : (List (List UInt8)) × Int) => m_strings_Join x1.1 ([44] : List UInt8)) (((list.length : Int) - 0 : Int).toNat + 1) (List.replicate (0 : Int).toNat (([] : List UInt8) : List UInt8), 0)

/-! ### strings_SplitN -/
def m_strings_SplitN (s : List UInt8) (sep : List UInt8) (n : Int) : (List (List UInt8)) := Lib.splitN s sep n.toNat

/-! ### impl_ReadList -/
def m_impl_ReadList_b1 (s_ : List UInt8) (rec1 : ((List Int) × Int) → ((List Int) × Bool)) (k1 : ((List Int) × Int) → ((List Int) × Bool)) (x1 : (List Int) × Int) : (List Int) × Bool :=
  bif decide (x1.2 < ((m_strings_SplitN s_ ([44] : List UInt8) 65).length : Int)) then bif !(m_impl_ReadDecimal (at' (m_strings_SplitN s_ ([44] : List UInt8) 65) x1.2)).2 then (([] : List Int), false) else rec1 (x1.1 ++ ([(m_impl_ReadDecimal (at' (m_strings_SplitN s_ ([44] : List UInt8) 65) x1.2)).1] : List Int), x1.2 + 1) else k1 (x1.1, x1.2)
def m_impl_ReadList (s_ : List UInt8) : (List Int) × Bool :=
  bif strB .eql s_ ([45] : List UInt8) then (([] : List Int), true) else LOOP (m_impl_ReadList_b1 s_) (fun (x1 : (List Int) × Int) => bif strB .neq (m_impl_ListText x1.1) s_ then (([] : List Int), false) else (x1.1, true)) ((((m_strings_SplitN s_ ([44] : List UInt8) 65).length : Int) - 0 : Int).toNat + 1) (([] : List Int), 0)

/-! ### impl_readNumbers -/
def m_impl_readNumbers (s_ : List UInt8) (many : Int) : (List Int) × Bool :=
  bif (!(m_impl_ReadList s_).2) || (((m_impl_ReadList s_).1.length : Int) != many) then (List.replicate (many : Int).toNat (0 : Int), false) else ((m_impl_ReadList s_).1, true)

/-! ### strings_Split -/
def m_strings_Split (s : List UInt8) (sep : List UInt8) : (List (List UInt8)) := Lib.split s sep

/-! ### impl_onlyNameBytes -/
def m_impl_onlyNameBytes_b1 (s_ : List UInt8) (rec1 : Int → Bool) (k1 : Int → Bool) (x1 : Int) : Bool :=
  bif decide (x1 < (s_.length : Int)) then bif ((decide ((((s_.getD x1.toNat 0).toNat : Nat) : Int) < 97)) || (decide (122 < (((s_.getD x1.toNat 0).toNat : Nat) : Int)))) && ((decide ((((s_.getD x1.toNat 0).toNat : Nat) : Int) < 48)) || (decide (57 < (((s_.getD x1.toNat 0).toNat : Nat) : Int)))) then false else rec1 (x1 + 1) else k1 x1
def m_impl_onlyNameBytes (s_ : List UInt8) : Bool :=
  LOOP (m_impl_onlyNameBytes_b1 s_) (fun (x1 : Int) => true) (((s_.length : Int) - 0 : Int).toNat + 1) 0

/-! ### impl_IsName -/
def m_impl_IsName (s_ : List UInt8) : Bool :=
  bif (((decide ((s_.length : Int) < 1)) || (decide (10 < (s_.length : Int)))) || (decide ((((s_.getD (0 : Int).toNat 0).toNat : Nat) : Int) < 97))) || (decide (122 < (((s_.getD (0 : Int).toNat 0).toNat : Nat) : Int))) then false else m_impl_onlyNameBytes s_

/-! ### impl_Drill_valid -/
def m_impl_Drill_valid (x_ : gDrill) : Bool :=
  ((((m_impl_within x_.Day 0 100000) && (m_impl_IsName x_.Crew)) && (m_impl_within x_.Persons 1 200)) && (m_impl_within x_.Seconds 0 36000)) && (m_impl_within x_.Missing 0 x_.Persons)

/-! ### impl_DrillText -/
def m_impl_DrillText (x_ : gDrill) : (List UInt8) :=
  bif !(m_impl_Drill_valid x_) then ([] : List UInt8) else ((((m_impl_Decimal x_.Day) ++ ([32] : List UInt8)) ++ x_.Crew) ++ ([32] : List UInt8)) ++ (m_impl_ListText ([x_.Persons, x_.Seconds, x_.Missing] : List Int))

/-! ### impl_ReadDrill -/
def m_impl_ReadDrill (s_ : List UInt8) : gDrill × Bool :=
  bif ((m_strings_Split s_ ([32] : List UInt8)).length : Int) != 3 then (gDrill.mk 0 ([] : List UInt8) 0 0 0, false) else bif ((!(m_impl_ReadDecimal (at' (m_strings_Split s_ ([32] : List UInt8)) 0)).2) || (!(m_impl_readNumbers (at' (m_strings_Split s_ ([32] : List UInt8)) 2) 3).2)) || (strB .neq (m_impl_DrillText (gDrill.mk (m_impl_ReadDecimal (at' (m_strings_Split s_ ([32] : List UInt8)) 0)).1 (at' (m_strings_Split s_ ([32] : List UInt8)) 1) (at' (m_impl_readNumbers (at' (m_strings_Split s_ ([32] : List UInt8)) 2) 3).1 0) (at' (m_impl_readNumbers (at' (m_strings_Split s_ ([32] : List UInt8)) 2) 3).1 1) (at' (m_impl_readNumbers (at' (m_strings_Split s_ ([32] : List UInt8)) 2) 3).1 2))) s_) then (gDrill.mk 0 ([] : List UInt8) 0 0 0, false) else (gDrill.mk (m_impl_ReadDecimal (at' (m_strings_Split s_ ([32] : List UInt8)) 0)).1 (at' (m_strings_Split s_ ([32] : List UInt8)) 1) (at' (m_impl_readNumbers (at' (m_strings_Split s_ ([32] : List UInt8)) 2) 3).1 0) (at' (m_impl_readNumbers (at' (m_strings_Split s_ ([32] : List UInt8)) 2) 3).1 1) (at' (m_impl_readNumbers (at' (m_strings_Split s_ ([32] : List UInt8)) 2) 3).1 2), true)

/-! ### laws_eqDrill -/
def m_laws_eqDrill (a : gDrill) (b : gDrill) : Bool :=
  bif a.Day != b.Day then false else bif strB .neq a.Crew b.Crew then false else bif a.Persons != b.Persons then false else bif a.Seconds != b.Seconds then false else bif a.Missing != b.Missing then false else true

/-! ### laws_FnExactReadDrill -/
def m_laws_FnExactReadDrill (aS : List UInt8) : Bool :=
  bif decide (1048576 < (aS.length : Int)) then true else bif (!(m_laws_eqDrill (m_impl_ReadDrill aS).1 (m_spec_ReadDrill aS).1)) || ((m_impl_ReadDrill aS).2 != (m_spec_ReadDrill aS).2) then false else true

end Go.Proofs.YtpkhodkdcmilkaaDoor
