/-
  PLAIN MODELS of the Go functions that the law reaches, printed by a program of this claim. Conditions: none; nothing is claimed here.
-/
import Derived.Test.YtceonolphigfdaaDoorEngN
import Derived.Lib.ItoaNum
import Derived.Lib.Join
import Derived.Lib.Split
import Derived.Lib.ParseIntB
import Derived.Lib.Strings
set_option linter.unusedVariables false
set_option linter.unusedSimpArgs false
set_option linter.unusedSectionVars false
set_option linter.unnecessarySimpa false
namespace Go.Proofs.YtceonolphigfdaaDoor
open Go Go.RowKit Go.Proofs Go.Proofs.YtceonolphigfdaaDoor.E
structure gPermit where
  Id : List UInt8
  Kind : Int
  Airway : Int
  From : Int
  Until : Int
instance : Inhabited gPermit := ⟨gPermit.mk default default default default default⟩
abbrev gPermit.v (x : gPermit) : V := .st [.str x.Id, .int .i64 x.Kind, .int .i64 x.Airway, .int .i64 x.From, .int .i64 x.Until]

/-! ### spec_l01Split -/
def m_spec_l01Split_b1 (s_ : List UInt8) (by_ : Int) (rec1 : ((List (List UInt8)) × Int × Int) → (List (List UInt8))) (k1 : ((List (List UInt8)) × Int × Int) → (List (List UInt8))) (x1 : (List (List UInt8)) × Int × Int) : (List (List UInt8)) :=
  bif decide (x1.2.2 < (s_.length : Int)) then bif (((s_.getD x1.2.2.toNat 0).toNat : Nat) : Int) == by_ then rec1 (x1.1 ++ ([cut' s_ x1.2.1 x1.2.2] : List (List UInt8)), x1.2.2 + 1, x1.2.2 + 1) else rec1 (x1.1, x1.2.1, x1.2.2 + 1) else k1 (x1.1, x1.2.1, x1.2.2)
def m_spec_l01Split (s_ : List UInt8) (by_ : Int) : (List (List UInt8)) :=
  LOOP (m_spec_l01Split_b1 s_ by_) (fun (x1 : (List (List UInt8)) × Int × Int) => x1.1 ++ ([cut' s_ x1.2.1 (s_.length : Int)] : List (List UInt8))) (((s_.length : Int) - 0 : Int).toNat + 1) (([] : List (List UInt8)), 0, 0)

/-! ### spec_l01Digit -/
def m_spec_l01Digit (c_ : Int) : Bool :=
  (decide (48 ≤ c_)) && (decide (c_ ≤ 57))

/-! ### spec_l01Number -/
def m_spec_l01Number_b1 (s_ : List UInt8) (v1 : Int) (rec1 : (Int × Int) → (Int × Bool)) (k1 : (Int × Int) → (Int × Bool)) (x1 : Int × Int) : Int × Bool :=
  bif decide (x1.2 < (s_.length : Int)) then bif !(m_spec_l01Digit (((s_.getD x1.2.toNat 0).toNat : Nat) : Int)) then (0, false) else rec1 (IntKind.wrap .i64 ((IntKind.wrap .i64 (10 * x1.1)) + (IntKind.wrap .i64 (IntKind.wrap .u8 ((((s_.getD x1.2.toNat 0).toNat : Nat) : Int) - 48)))), x1.2 + 1) else k1 (x1.1, x1.2)
def m_spec_l01Number (s_ : List UInt8) : Int × Bool :=
  JN (fun j2 => bif (decide (0 < (s_.length : Int))) && ((((s_.getD (0 : Int).toNat 0).toNat : Nat) : Int) == 45) then j2 1 else j2 0) (fun (v1 : Int) => bif (((s_.length : Int) == v1) || (decide (18 < (IntKind.wrap .i64 ((s_.length : Int) - v1))))) || (((((s_.getD v1.toNat 0).toNat : Nat) : Int) == 48) && (decide (1 < (s_.length : Int)))) then (0, false) else LOOP (m_spec_l01Number_b1 s_ v1) (fun (x1 : Int × Int) => bif v1 == 1 then (IntKind.wrap .i64 (0 - x1.1), true) else (x1.1, true)) (((s_.length : Int) - v1 : Int).toNat + 1) (0, v1))

/-! ### spec_l00In -/
def m_spec_l00In (n_ : Int) (low : Int) (high : Int) : Bool :=
  (decide (low ≤ n_)) && (decide (n_ ≤ high))

/-! ### spec_ReadList -/
def m_spec_ReadList_b1 (s_ : List UInt8) (rec1 : ((List Int) × Int) → ((List Int) × Bool)) (k1 : ((List Int) × Int) → ((List Int) × Bool)) (x1 : (List Int) × Int) : (List Int) × Bool :=
  bif decide (x1.2 < ((m_spec_l01Split s_ 44).length : Int)) then bif (!(m_spec_l01Number (at' (m_spec_l01Split s_ 44) x1.2)).2) || (!(m_spec_l00In (m_spec_l01Number (at' (m_spec_l01Split s_ 44) x1.2)).1 (-1000000000000) 1000000000000)) then (([] : List Int), false) else rec1 (x1.1 ++ ([(m_spec_l01Number (at' (m_spec_l01Split s_ 44) x1.2)).1] : List Int), x1.2 + 1) else k1 (x1.1, x1.2)
def m_spec_ReadList (s_ : List UInt8) : (List Int) × Bool :=
  bif strB .eql s_ ([45] : List UInt8) then (([] : List Int), true) else bif decide (64 < ((m_spec_l01Split s_ 44).length : Int)) then (([] : List Int), false) else LOOP (m_spec_ReadList_b1 s_) (fun (x1 : (List Int) × Int) => (x1.1, true)) ((((m_spec_l01Split s_ 44).length : Int) - 0 : Int).toNat + 1) (([] : List Int), 0)

/-! ### spec_l26Name -/
def m_spec_l26Name (kind : Int) : (List UInt8) :=
  bif kind == 1 then ([101, 110, 116, 114, 121] : List UInt8) else bif kind == 2 then ([100, 111, 111, 114] : List UInt8) else bif kind == 3 then ([104, 111, 116] : List UInt8) else bif kind == 4 then ([98, 108, 97, 115, 116] : List UInt8) else ([] : List UInt8)

/-! ### spec_l01Small -/
def m_spec_l01Small (c_ : Int) : Bool :=
  (decide (97 ≤ c_)) && (decide (c_ ≤ 122))

/-! ### spec_l01Name -/
def m_spec_l01Name_b1 (s_ : List UInt8) (rec1 : Int → Bool) (k1 : Int → Bool) (x1 : Int) : Bool :=
  bif decide (x1 < (s_.length : Int)) then bif (!(m_spec_l01Small (((s_.getD x1.toNat 0).toNat : Nat) : Int))) && (!(m_spec_l01Digit (((s_.getD x1.toNat 0).toNat : Nat) : Int))) then false else rec1 (x1 + 1) else k1 x1
def m_spec_l01Name (s_ : List UInt8) : Bool :=
  bif ((strB .eql s_ ([] : List UInt8)) || (decide (10 < (s_.length : Int)))) || (!(m_spec_l01Small (((s_.getD (0 : Int).toNat 0).toNat : Nat) : Int))) then false else LOOP (m_spec_l01Name_b1 s_) (fun (x1 : Int) => true) (((s_.length : Int) - 0 : Int).toNat + 1) 0

/-! ### spec_l26Kind -/
def m_spec_l26Kind (kind : Int) : Bool :=
  m_spec_l00In kind 1 4

/-! ### spec_l14Airway -/
def m_spec_l14Airway (a : Int) : Bool :=
  m_spec_l00In a 0 23

/-! ### spec_l26One -/
def m_spec_l26One (x_ : gPermit) : Bool :=
  ((((m_spec_l01Name x_.Id) && (m_spec_l26Kind x_.Kind)) && (m_spec_l14Airway x_.Airway)) && (m_spec_l00In x_.From 0 99999)) && (m_spec_l00In x_.Until (IntKind.wrap .i64 (x_.From + 1)) 100000)

/-! ### spec_l26Read -/
def m_spec_l26Read_b1 (s_ : List UInt8) (rec1 : (Int × Int) → (gPermit × Bool)) (k1 : (Int × Int) → (gPermit × Bool)) (x1 : Int × Int) : gPermit × Bool :=
  bif decide (x1.2 ≤ 4) then bif strB .eql (at' (m_spec_l01Split s_ 32) 1) (m_spec_l26Name x1.2) then rec1 (x1.2, x1.2 + 1) else rec1 (x1.1, x1.2 + 1) else k1 (x1.1, x1.2)
def m_spec_l26Read (s_ : List UInt8) : gPermit × Bool :=
  bif ((m_spec_l01Split s_ 32).length : Int) != 3 then (gPermit.mk ([] : List UInt8) 0 0 0 0, false) else LOOP (m_spec_l26Read_b1 s_) (fun (x1 : Int × Int) => bif (!(m_spec_ReadList (at' (m_spec_l01Split s_ 32) 2)).2) || (((m_spec_ReadList (at' (m_spec_l01Split s_ 32) 2)).1.length : Int) != 3) then (gPermit.mk ([] : List UInt8) 0 0 0 0, false) else bif !(m_spec_l26One (gPermit.mk (at' (m_spec_l01Split s_ 32) 0) x1.1 (at' (m_spec_ReadList (at' (m_spec_l01Split s_ 32) 2)).1 0) (at' (m_spec_ReadList (at' (m_spec_l01Split s_ 32) 2)).1 1) (at' (m_spec_ReadList (at' (m_spec_l01Split s_ 32) 2)).1 2))) then (gPermit.mk ([] : List UInt8) 0 0 0 0, false) else (gPermit.mk (at' (m_spec_l01Split s_ 32) 0) x1.1 (at' (m_spec_ReadList (at' (m_spec_l01Split s_ 32) 2)).1 0) (at' (m_spec_ReadList (at' (m_spec_l01Split s_ 32) 2)).1 1) (at' (m_spec_ReadList (at' (m_spec_l01Split s_ 32) 2)).1 2), true)) (5) (0, 1)

/-! ### spec_ReadPermit -/
def m_spec_ReadPermit (s_ : List UInt8) : gPermit × Bool :=
  ((m_spec_l26Read s_).1, (m_spec_l26Read s_).2)

/-! ### strings_Split -/
def m_strings_Split (s : List UInt8) (sep : List UInt8) : (List (List UInt8)) := Lib.split s sep

/-! ### impl_least -/
def m_impl_least_b1 (low : Int) (high : Int) (has : (Int → Bool)) (rec1 : Int → (Int × Bool)) (k1 : Int → (Int × Bool)) (x1 : Int) : Int × Bool :=
  bif decide (x1 ≤ high) then bif has x1 then (x1, true) else rec1 (x1 + 1) else k1 x1
def m_impl_least (low : Int) (high : Int) (has : Int → Bool) : Int × Bool :=
  LOOP (m_impl_least_b1 low high has) (fun (x1 : Int) => (0, false)) ((high + 1 - low : Int).toNat + 1) low

/-! ### impl_within -/
def m_impl_within (n_ : Int) (low : Int) (high : Int) : Bool :=
  (decide (low ≤ n_)) && (decide (n_ ≤ high))

/-! ### impl_kindOk -/
def m_impl_kindOk (n_ : Int) : Bool :=
  m_impl_within n_ 1 4

/-! ### impl_KindName -/
def m_impl_KindName (kind : Int) : (List UInt8) :=
  bif !(m_impl_kindOk kind) then ([] : List UInt8) else at' ([([] : List UInt8), ([101, 110, 116, 114, 121] : List UInt8), ([100, 111, 111, 114] : List UInt8), ([104, 111, 116] : List UInt8), ([98, 108, 97, 115, 116] : List UInt8)] : List (List UInt8)) kind

/-! ### impl_ReadPermit_1 -/
def m_impl_ReadPermit_1 (n_ : Int) (p1 : List (List UInt8)) : Bool :=
  strB .eql (m_impl_KindName n_) (at' p1 1)

/-! ### strconv_FormatInt -/
def m_strconv_FormatInt (i : Int) (base : Int) : (List UInt8) := Lib.itoa i

/-! ### impl_Decimal -/
def m_impl_Decimal (n_ : Int) : (List UInt8) :=
  m_strconv_FormatInt n_ 10

/-! ### strings_Join -/
def m_strings_Join (elems : List (List UInt8)) (sep : List UInt8) : (List UInt8) := Lib.join elems sep

/-! ### impl_ListText -/
def m_impl_ListText_b1 (list : List Int) (rec1 : ((List (List UInt8)) × Int) → (List UInt8)) (k1 : ((List (List UInt8)) × Int) → (List UInt8)) (x1 : (List (List UInt8)) × Int) : (List UInt8) :=
  bif decide (x1.2 < (list.length : Int)) then bif !(m_impl_within (at' list x1.2) (-1000000000000) 1000000000000) then ([] : List UInt8) else rec1 (x1.1 ++ ([m_impl_Decimal (at' list x1.2)] : List (List UInt8)), x1.2 + 1) else k1 (x1.1, x1.2)
def m_impl_ListText (list : List Int) : (List UInt8) :=
  bif decide (64 < (list.length : Int)) then ([] : List UInt8) else bif (list.length : Int) == 0 then ([45] : List UInt8) else LOOP (m_impl_ListText_b1 list) (fun (x1 : (List (List UInt8)) × Int) => m_strings_Join x1.1 ([44] : List UInt8)) (((list.length : Int) - 0 : Int).toNat + 1) (List.replicate (0 : Int).toNat (([] : List UInt8) : List UInt8), 0)

/-! ### strings_SplitN -/
def m_strings_SplitN (s : List UInt8) (sep : List UInt8) (n : Int) : (List (List UInt8)) := Lib.splitN s sep n.toNat

/-! ### strconv_ParseInt -/
def m_strconv_ParseInt (s : List UInt8) (base : Int) (bitSize : Int) : Int × Bool := match Lib.parseIntB 64 s with
  | .ok v => (v, false)
  | .syntax => (0, true)
  | .range => (Lib.intSat 64 s, true)

/-! ### strings_TrimPrefix -/
def m_strings_TrimPrefix (s : List UInt8) (prefix_ : List UInt8) : (List UInt8) := Lib.trimPrefix s prefix_

/-! ### impl_ReadDecimal -/
def m_impl_ReadDecimal (s_ : List UInt8) : Int × Bool :=
  bif ((m_strconv_ParseInt s_ 10 64).2 || (decide (18 < ((m_strings_TrimPrefix s_ ([45] : List UInt8)).length : Int)))) || (strB .neq (m_impl_Decimal (m_strconv_ParseInt s_ 10 64).1) s_) then (0, false) else ((m_strconv_ParseInt s_ 10 64).1, true)

/-! ### impl_ReadList -/
def m_impl_ReadList_b1 (s_ : List UInt8) (rec1 : ((List Int) × Int) → ((List Int) × Bool)) (k1 : ((List Int) × Int) → ((List Int) × Bool)) (x1 : (List Int) × Int) : (List Int) × Bool :=
  bif decide (x1.2 < ((m_strings_SplitN s_ ([44] : List UInt8) 65).length : Int)) then bif !(m_impl_ReadDecimal (at' (m_strings_SplitN s_ ([44] : List UInt8) 65) x1.2)).2 then (([] : List Int), false) else rec1 (x1.1 ++ ([(m_impl_ReadDecimal (at' (m_strings_SplitN s_ ([44] : List UInt8) 65) x1.2)).1] : List Int), x1.2 + 1) else k1 (x1.1, x1.2)
def m_impl_ReadList (s_ : List UInt8) : (List Int) × Bool :=
  bif strB .eql s_ ([45] : List UInt8) then (([] : List Int), true) else LOOP (m_impl_ReadList_b1 s_) (fun (x1 : (List Int) × Int) => bif strB .neq (m_impl_ListText x1.1) s_ then (([] : List Int), false) else (x1.1, true)) ((((m_strings_SplitN s_ ([44] : List UInt8) 65).length : Int) - 0 : Int).toNat + 1) (([] : List Int), 0)

/-! ### impl_readNumbers -/
def m_impl_readNumbers (s_ : List UInt8) (many : Int) : (List Int) × Bool :=
  bif (!(m_impl_ReadList s_).2) || (((m_impl_ReadList s_).1.length : Int) != many) then (List.replicate (many : Int).toNat (0 : Int), false) else ((m_impl_ReadList s_).1, true)

/-! ### impl_onlyNameBytes -/
def m_impl_onlyNameBytes_b1 (s_ : List UInt8) (rec1 : Int → Bool) (k1 : Int → Bool) (x1 : Int) : Bool :=
  bif decide (x1 < (s_.length : Int)) then bif ((decide ((((s_.getD x1.toNat 0).toNat : Nat) : Int) < 97)) || (decide (122 < (((s_.getD x1.toNat 0).toNat : Nat) : Int)))) && ((decide ((((s_.getD x1.toNat 0).toNat : Nat) : Int) < 48)) || (decide (57 < (((s_.getD x1.toNat 0).toNat : Nat) : Int)))) then false else rec1 (x1 + 1) else k1 x1
def m_impl_onlyNameBytes (s_ : List UInt8) : Bool :=
  LOOP (m_impl_onlyNameBytes_b1 s_) (fun (x1 : Int) => true) (((s_.length : Int) - 0 : Int).toNat + 1) 0

/-! ### impl_IsName -/
def m_impl_IsName (s_ : List UInt8) : Bool :=
  bif (((decide ((s_.length : Int) < 1)) || (decide (10 < (s_.length : Int)))) || (decide ((((s_.getD (0 : Int).toNat 0).toNat : Nat) : Int) < 97))) || (decide (122 < (((s_.getD (0 : Int).toNat 0).toNat : Nat) : Int))) then false else m_impl_onlyNameBytes s_

/-! ### impl_Permit_valid -/
def m_impl_Permit_valid (x_ : gPermit) : Bool :=
  ((((m_impl_IsName x_.Id) && (m_impl_kindOk x_.Kind)) && (m_impl_within x_.Airway 0 23)) && (m_impl_within x_.Until 0 100000)) && (m_impl_within x_.From 0 (IntKind.wrap .i64 (x_.Until - 1)))

/-! ### impl_PermitText -/
def m_impl_PermitText (x_ : gPermit) : (List UInt8) :=
  bif !(m_impl_Permit_valid x_) then ([] : List UInt8) else (((x_.Id ++ ([32] : List UInt8)) ++ (m_impl_KindName x_.Kind)) ++ ([32] : List UInt8)) ++ (m_impl_ListText ([x_.Airway, x_.From, x_.Until] : List Int))

/-! ### impl_ReadPermit -/
def m_impl_ReadPermit (s_ : List UInt8) : gPermit × Bool :=
  bif ((m_strings_Split s_ ([32] : List UInt8)).length : Int) != 3 then (gPermit.mk ([] : List UInt8) 0 0 0 0, false) else bif ((!(m_impl_least 1 4 (fun (a0 : Int) => m_impl_ReadPermit_1 a0 (m_strings_Split s_ ([32] : List UInt8)))).2) || (!(m_impl_readNumbers (at' (m_strings_Split s_ ([32] : List UInt8)) 2) 3).2)) || (strB .neq (m_impl_PermitText (gPermit.mk (at' (m_strings_Split s_ ([32] : List UInt8)) 0) (m_impl_least 1 4 (fun (a0 : Int) => m_impl_ReadPermit_1 a0 (m_strings_Split s_ ([32] : List UInt8)))).1 (at' (m_impl_readNumbers (at' (m_strings_Split s_ ([32] : List UInt8)) 2) 3).1 0) (at' (m_impl_readNumbers (at' (m_strings_Split s_ ([32] : List UInt8)) 2) 3).1 1) (at' (m_impl_readNumbers (at' (m_strings_Split s_ ([32] : List UInt8)) 2) 3).1 2))) s_) then (gPermit.mk ([] : List UInt8) 0 0 0 0, false) else (gPermit.mk (at' (m_strings_Split s_ ([32] : List UInt8)) 0) (m_impl_least 1 4 (fun (a0 : Int) => m_impl_ReadPermit_1 a0 (m_strings_Split s_ ([32] : List UInt8)))).1 (at' (m_impl_readNumbers (at' (m_strings_Split s_ ([32] : List UInt8)) 2) 3).1 0) (at' (m_impl_readNumbers (at' (m_strings_Split s_ ([32] : List UInt8)) 2) 3).1 1) (at' (m_impl_readNumbers (at' (m_strings_Split s_ ([32] : List UInt8)) 2) 3).1 2), true)

/-! ### laws_eqPermit -/
def m_laws_eqPermit (a : gPermit) (b : gPermit) : Bool :=
  bif strB .neq a.Id b.Id then false else bif a.Kind != b.Kind then false else bif a.Airway != b.Airway then false else bif a.From != b.From then false else bif a.Until != b.Until then false else true

/-! ### laws_FnExactReadPermit -/
def m_laws_FnExactReadPermit (aS : List UInt8) : Bool :=
  bif decide (1048576 < (aS.length : Int)) then true else bif (!(m_laws_eqPermit (m_impl_ReadPermit aS).1 (m_spec_ReadPermit aS).1)) || ((m_impl_ReadPermit aS).2 != (m_spec_ReadPermit aS).2) then false else true

end Go.Proofs.YtceonolphigfdaaDoor
