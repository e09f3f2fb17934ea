/-
  PLAIN MODELS of the Go functions that the law reaches, printed by a program of this claim. Conditions: none; nothing is claimed here.
-/
import Derived.Test.YtandefcnbemclaaDoorEngN
import Derived.Lib.ItoaNum
import Derived.Lib.Join
set_option linter.unusedVariables false
set_option linter.unusedSimpArgs false
set_option linter.unusedSectionVars false
set_option linter.unnecessarySimpa false
namespace Go.Proofs.YtandefcnbemclaaDoor
open Go Go.RowKit Go.Proofs Go.Proofs.YtandefcnbemclaaDoor.E
structure gPermit where
  Id : List UInt8
  Kind : Int
  Airway : Int
  From : Int
  Until : Int
instance : Inhabited gPermit := ⟨gPermit.mk default default default default default⟩
abbrev gPermit.v (x : gPermit) : V := .st [.str x.Id, .int .i64 x.Kind, .int .i64 x.Airway, .int .i64 x.From, .int .i64 x.Until]

/-! ### laws_szPermit -/
def m_laws_szPermit (a : gPermit) (left : Int) : Int :=
  bif decide ((IntKind.wrap .i64 (left - (a.Id.length : Int))) < 0) then (-1) else IntKind.wrap .i64 (left - (a.Id.length : Int))

/-! ### spec_l00In -/
def m_spec_l00In (n_ : Int) (low : Int) (high : Int) : Bool :=
  (decide (low ≤ n_)) && (decide (n_ ≤ high))

/-! ### spec_l01Small -/
def m_spec_l01Small (c_ : Int) : Bool :=
  (decide (97 ≤ c_)) && (decide (c_ ≤ 122))

/-! ### spec_l01Digit -/
def m_spec_l01Digit (c_ : Int) : Bool :=
  (decide (48 ≤ c_)) && (decide (c_ ≤ 57))

/-! ### spec_l01Name -/
def m_spec_l01Name_b1 (s_ : List UInt8) (rec1 : Int → Bool) (k1 : Int → Bool) (x1 : Int) : Bool :=
  bif decide (x1 < (s_.length : Int)) then bif (!(m_spec_l01Small (((s_.getD x1.toNat 0).toNat : Nat) : Int))) && (!(m_spec_l01Digit (((s_.getD x1.toNat 0).toNat : Nat) : Int))) then false else rec1 (x1 + 1) else k1 x1
def m_spec_l01Name (s_ : List UInt8) : Bool :=
  bif ((strB .eql s_ ([] : List UInt8)) || (decide (10 < (s_.length : Int)))) || (!(m_spec_l01Small (((s_.getD (0 : Int).toNat 0).toNat : Nat) : Int))) then false else LOOP (m_spec_l01Name_b1 s_) (fun (x1 : Int) => true) (((s_.length : Int) - 0 : Int).toNat + 1) 0

/-! ### spec_l26Kind -/
def m_spec_l26Kind (kind : Int) : Bool :=
  m_spec_l00In kind 1 4

/-! ### spec_l14Airway -/
def m_spec_l14Airway (a : Int) : Bool :=
  m_spec_l00In a 0 23

/-! ### spec_l26One -/
def m_spec_l26One (x_ : gPermit) : Bool :=
  ((((m_spec_l01Name x_.Id) && (m_spec_l26Kind x_.Kind)) && (m_spec_l14Airway x_.Airway)) && (m_spec_l00In x_.From 0 99999)) && (m_spec_l00In x_.Until (IntKind.wrap .i64 (x_.From + 1)) 100000)

/-! ### spec_l01Dec -/
def m_spec_l01Dec_b2 (n_ : Int) (x1 : (List Int) × Int) (v10 : (List Int)) (rec2 : ((List Int) × Int) → (List UInt8)) (k2 : ((List Int) × Int) → (List UInt8)) (x2 : (List Int) × Int) : (List UInt8) :=
  bif decide (0 ≤ x2.2) then rec2 (x2.1 ++ ([at' v10 x2.2] : List Int), x2.2 - 1) else k2 (x2.1, x2.2)
def m_spec_l01Dec_b1 (n_ : Int) (rec1 : ((List Int) × Int) → (List UInt8)) (k1 : ((List Int) × Int) → (List UInt8)) (x1 : (List Int) × Int) : (List UInt8) :=
  bif x1.2 != 0 then JN (fun j6 => bif decide ((Int.tmod x1.2 10) < 0) then j6 (IntKind.wrap .i64 (0 - (Int.tmod x1.2 10))) else j6 (Int.tmod x1.2 10)) (fun (v5 : Int) => rec1 (x1.1 ++ ([IntKind.wrap .u8 (IntKind.wrap .i64 (48 + v5))] : List Int), IntKind.wrap .i64 (Int.tdiv x1.2 10))) else k1 (x1.1, x1.2)
def m_spec_l01Dec (n_ : Int) : (List UInt8) :=
  bif n_ == 0 then ([48] : List UInt8) else LOOP (m_spec_l01Dec_b1 n_) (fun (x1 : (List Int) × Int) => JN (fun j11 => bif decide (n_ < 0) then j11 (x1.1 ++ ([45] : List Int)) else j11 x1.1) (fun (v10 : (List Int)) => LOOP (m_spec_l01Dec_b2 n_ x1 v10) (fun (x2 : (List Int) × Int) => chars x2.1) (v10.length + 1) (([] : List Int), IntKind.wrap .i64 ((v10.length : Int) - 1)))) (n_.natAbs + 1) (([] : List Int), n_)

/-! ### spec_l01List -/
def m_spec_l01List_b1 (list : List Int) (rec1 : ((List UInt8) × Int) → (List UInt8)) (k1 : ((List UInt8) × Int) → (List UInt8)) (x1 : (List UInt8) × Int) : (List UInt8) :=
  bif decide (x1.2 < (list.length : Int)) then JN (fun j7 => bif decide (0 < x1.2) then j7 (x1.1 ++ ([44] : List UInt8)) else j7 x1.1) (fun (v6 : (List UInt8)) => rec1 (v6 ++ (m_spec_l01Dec (at' list x1.2)), x1.2 + 1)) else k1 (x1.1, x1.2)
def m_spec_l01List (list : List Int) : (List UInt8) :=
  bif (list.length : Int) == 0 then ([45] : List UInt8) else LOOP (m_spec_l01List_b1 list) (fun (x1 : (List UInt8) × Int) => x1.1) (((list.length : Int) - 0 : Int).toNat + 1) (([] : List UInt8), 0)

/-! ### spec_l26Name -/
def m_spec_l26Name (kind : Int) : (List UInt8) :=
  bif kind == 1 then ([101, 110, 116, 114, 121] : List UInt8) else bif kind == 2 then ([100, 111, 111, 114] : List UInt8) else bif kind == 3 then ([104, 111, 116] : List UInt8) else bif kind == 4 then ([98, 108, 97, 115, 116] : List UInt8) else ([] : List UInt8)

/-! ### spec_l26Text -/
def m_spec_l26Text (x_ : gPermit) : (List UInt8) :=
  (((x_.Id ++ ([32] : List UInt8)) ++ (m_spec_l26Name x_.Kind)) ++ ([32] : List UInt8)) ++ (m_spec_l01List ([x_.Airway, x_.From, x_.Until] : List Int))

/-! ### spec_PermitText -/
def m_spec_PermitText (x_ : gPermit) : (List UInt8) :=
  bif !(m_spec_l26One x_) then ([] : List UInt8) else m_spec_l26Text x_

/-! ### laws_toPermit -/
def m_laws_toPermit (a : gPermit) : gPermit :=
  a

/-! ### impl_within -/
def m_impl_within (n_ : Int) (low : Int) (high : Int) : Bool :=
  (decide (low ≤ n_)) && (decide (n_ ≤ high))

/-! ### impl_onlyNameBytes -/
def m_impl_onlyNameBytes_b1 (s_ : List UInt8) (rec1 : Int → Bool) (k1 : Int → Bool) (x1 : Int) : Bool :=
  bif decide (x1 < (s_.length : Int)) then bif ((decide ((((s_.getD x1.toNat 0).toNat : Nat) : Int) < 97)) || (decide (122 < (((s_.getD x1.toNat 0).toNat : Nat) : Int)))) && ((decide ((((s_.getD x1.toNat 0).toNat : Nat) : Int) < 48)) || (decide (57 < (((s_.getD x1.toNat 0).toNat : Nat) : Int)))) then false else rec1 (x1 + 1) else k1 x1
def m_impl_onlyNameBytes (s_ : List UInt8) : Bool :=
  LOOP (m_impl_onlyNameBytes_b1 s_) (fun (x1 : Int) => true) (((s_.length : Int) - 0 : Int).toNat + 1) 0

/-! ### impl_IsName -/
def m_impl_IsName (s_ : List UInt8) : Bool :=
  bif (((decide ((s_.length : Int) < 1)) || (decide (10 < (s_.length : Int)))) || (decide ((((s_.getD (0 : Int).toNat 0).toNat : Nat) : Int) < 97))) || (decide (122 < (((s_.getD (0 : Int).toNat 0).toNat : Nat) : Int))) then false else m_impl_onlyNameBytes s_

/-! ### impl_kindOk -/
def m_impl_kindOk (n_ : Int) : Bool :=
  m_impl_within n_ 1 4

/-! ### impl_Permit_valid -/
def m_impl_Permit_valid (x_ : gPermit) : Bool :=
  ((((m_impl_IsName x_.Id) && (m_impl_kindOk x_.Kind)) && (m_impl_within x_.Airway 0 23)) && (m_impl_within x_.Until 0 100000)) && (m_impl_within x_.From 0 (IntKind.wrap .i64 (x_.Until - 1)))

/-! ### impl_KindName -/
def m_impl_KindName (kind : Int) : (List UInt8) :=
  bif !(m_impl_kindOk kind) then ([] : List UInt8) else at' ([([] : List UInt8), ([101, 110, 116, 114, 121] : List UInt8), ([100, 111, 111, 114] : List UInt8), ([104, 111, 116] : List UInt8), ([98, 108, 97, 115, 116] : List UInt8)] : List (List UInt8)) kind

/-! ### strconv_FormatInt -/
def m_strconv_FormatInt (i : Int) (base : Int) : (List UInt8) := Lib.itoa i

/-! ### impl_Decimal -/
def m_impl_Decimal (n_ : Int) : (List UInt8) :=
  m_strconv_FormatInt n_ 10

/-! ### strings_Join -/
def m_strings_Join (elems : List (List UInt8)) (sep : List UInt8) : (List UInt8) := Lib.join elems sep

/-! ### impl_ListText -/
def m_impl_ListText_b1 (list : List Int) (rec1 : ((List (List UInt8)) × Int) → (List UInt8)) (k1 : ((List (List UInt8)) × Int) → (List UInt8)) (x1 : (List (List UInt8)) × Int) : (List UInt8) :=
  bif decide (x1.2 < (list.length : Int)) then bif !(m_impl_within (at' list x1.2) (-1000000000000) 1000000000000) then ([] : List UInt8) else rec1 (x1.1 ++ ([m_impl_Decimal (at' list x1.2)] : List (List UInt8)), x1.2 + 1) else k1 (x1.1, x1.2)
def m_impl_ListText (list : List Int) : (List UInt8) :=
  bif decide (64 < (list.length : Int)) then ([] : List UInt8) else bif (list.length : Int) == 0 then ([45] : List UInt8) else LOOP (m_impl_ListText_b1 list) (fun (x1 : (List (List UInt8)) × Int) => m_strings_Join x1.1 ([44] : List UInt8)) (((list.length : Int) - 0 : Int).toNat + 1) (List.replicate (0 : Int).toNat (([] : List UInt8) : List UInt8), 0)

/-! ### impl_PermitText -/
def m_impl_PermitText (x_ : gPermit) : (List UInt8) :=
  bif !(m_impl_Permit_valid x_) then ([] : List UInt8) else (((x_.Id ++ ([32] : List UInt8)) ++ (m_impl_KindName x_.Kind)) ++ ([32] : List UInt8)) ++ (m_impl_ListText ([x_.Airway, x_.From, x_.Until] : List Int))

/-! ### laws_FnExactPermitText -/
def m_laws_FnExactPermitText (aX : gPermit) : Bool :=
  bif decide ((m_laws_szPermit aX 1048576) < 0) then true else bif strB .neq (m_impl_PermitText (m_laws_toPermit aX)) (m_spec_PermitText (m_laws_toPermit aX)) then false else true

end Go.Proofs.YtandefcnbemclaaDoor
