/-
  PLAIN MODELS of the Go functions that the law reaches, printed by a program of this claim. Conditions: none; nothing is claimed here.
-/
import Derived.Test.YtdkkcemlnjlebaaDoorEngN
import Derived.Lib.ItoaNum
import Derived.Lib.Join
set_option linter.unusedVariables false
set_option linter.unusedSimpArgs false
set_option linter.unusedSectionVars false
set_option linter.unnecessarySimpa false
namespace Go.Proofs.YtdkkcemlnjlebaaDoor
open Go Go.RowKit Go.Proofs Go.Proofs.YtdkkcemlnjlebaaDoor.E
structure gSetting where
  Name : List UInt8
  Value : Int
instance : Inhabited gSetting := ⟨gSetting.mk default default⟩
abbrev gSetting.v (x : gSetting) : V := .st [.str x.Name, .int .i64 x.Value]
structure gVersion where
  Number : Int
  Parent : Int
  Memo : List UInt8
  State : List gSetting
instance : Inhabited gVersion := ⟨gVersion.mk default default default default⟩
abbrev gVersion.v (x : gVersion) : V := .st [.int .i64 x.Number, .int .i64 x.Parent, .str x.Memo, .sl 2 (x.State.map gSetting.v)]

/-! ### laws_szSetting -/
def m_laws_szSetting (a : gSetting) (left : Int) : Int :=
  bif decide ((IntKind.wrap .i64 (left - (a.Name.length : Int))) < 0) then (-1) else IntKind.wrap .i64 (left - (a.Name.length : Int))

/-! ### laws_szSettingS -/
def m_laws_szSettingS_b1 (a : List gSetting) (left : Int) (rec1 : (Int × Int) → Int) (k1 : (Int × Int) → Int) (x1 : Int × Int) : Int :=
  bif decide (x1.2 < (a.length : Int)) then bif decide ((m_laws_szSetting (at' a x1.2) x1.1) < 0) then (-1) else rec1 (m_laws_szSetting (at' a x1.2) x1.1, x1.2 + 1) else k1 (x1.1, x1.2)
def m_laws_szSettingS (a : List gSetting) (left : Int) : Int :=
  bif decide ((IntKind.wrap .i64 (left - (a.length : Int))) < 0) then (-1) else LOOP (m_laws_szSettingS_b1 a left) (fun (x1 : Int × Int) => x1.1) (((a.length : Int) - 0 : Int).toNat + 1) (IntKind.wrap .i64 (left - (a.length : Int)), 0)

/-! ### laws_szVersion -/
def m_laws_szVersion (a : gVersion) (left : Int) : Int :=
  bif decide ((IntKind.wrap .i64 (left - (a.Memo.length : Int))) < 0) then (-1) else bif decide ((m_laws_szSettingS a.State (IntKind.wrap .i64 (left - (a.Memo.length : Int)))) < 0) then (-1) else m_laws_szSettingS a.State (IntKind.wrap .i64 (left - (a.Memo.length : Int)))

/-! ### laws_szVersionS -/
def m_laws_szVersionS_b1 (a : List gVersion) (left : Int) (rec1 : (Int × Int) → Int) (k1 : (Int × Int) → Int) (x1 : Int × Int) : Int :=
  bif decide (x1.2 < (a.length : Int)) then bif decide ((m_laws_szVersion (at' a x1.2) x1.1) < 0) then (-1) else rec1 (m_laws_szVersion (at' a x1.2) x1.1, x1.2 + 1) else k1 (x1.1, x1.2)
def m_laws_szVersionS (a : List gVersion) (left : Int) : Int :=
  bif decide ((IntKind.wrap .i64 (left - (a.length : Int))) < 0) then (-1) else LOOP (m_laws_szVersionS_b1 a left) (fun (x1 : Int × Int) => x1.1) (((a.length : Int) - 0 : Int).toNat + 1) (IntKind.wrap .i64 (left - (a.length : Int)), 0)

/-! ### spec_l00In -/
def m_spec_l00In (n_ : Int) (low : Int) (high : Int) : Bool :=
  (decide (low ≤ n_)) && (decide (n_ ≤ high))

/-! ### spec_l27Memo -/
def m_spec_l27Memo_b1 (s_ : List UInt8) (rec1 : Int → Bool) (k1 : Int → Bool) (x1 : Int) : Bool :=
  bif decide (x1 < (s_.length : Int)) then bif (decide ((((s_.getD x1.toNat 0).toNat : Nat) : Int) < 32)) || (decide (126 < (((s_.getD x1.toNat 0).toNat : Nat) : Int))) then false else rec1 (x1 + 1) else k1 x1
def m_spec_l27Memo (s_ : List UInt8) : Bool :=
  LOOP (m_spec_l27Memo_b1 s_) (fun (x1 : Int) => decide ((s_.length : Int) ≤ 20)) (((s_.length : Int) - 0 : Int).toNat + 1) 0

/-! ### spec_l01Small -/
def m_spec_l01Small (c_ : Int) : Bool :=
  (decide (97 ≤ c_)) && (decide (c_ ≤ 122))

/-! ### spec_l01Digit -/
def m_spec_l01Digit (c_ : Int) : Bool :=
  (decide (48 ≤ c_)) && (decide (c_ ≤ 57))

/-! ### spec_l01Name -/
def m_spec_l01Name_b1 (s_ : List UInt8) (rec1 : Int → Bool) (k1 : Int → Bool) (x1 : Int) : Bool :=
  bif decide (x1 < (s_.length : Int)) then bif (!(m_spec_l01Small (((s_.getD x1.toNat 0).toNat : Nat) : Int))) && (!(m_spec_l01Digit (((s_.getD x1.toNat 0).toNat : Nat) : Int))) then false else rec1 (x1 + 1) else k1 x1
def m_spec_l01Name (s_ : List UInt8) : Bool :=
  bif ((strB .eql s_ ([] : List UInt8)) || (decide (10 < (s_.length : Int)))) || (!(m_spec_l01Small (((s_.getD (0 : Int).toNat 0).toNat : Nat) : Int))) then false else LOOP (m_spec_l01Name_b1 s_) (fun (x1 : Int) => true) (((s_.length : Int) - 0 : Int).toNat + 1) 0

/-! ### spec_l27Setting -/
def m_spec_l27Setting (e : gSetting) : Bool :=
  (m_spec_l01Name e.Name) && (m_spec_l00In e.Value 0 1000)

/-! ### spec_l27State -/
def m_spec_l27State_b1 (list : List gSetting) (rec1 : Int → Bool) (k1 : Int → Bool) (x1 : Int) : Bool :=
  bif decide (x1 < (list.length : Int)) then bif (!(m_spec_l27Setting (at' list x1))) || ((decide (0 < x1)) && (strB .geq (at' list (x1 - 1)).Name (at' list x1).Name)) then false else rec1 (x1 + 1) else k1 x1
def m_spec_l27State (list : List gSetting) : Bool :=
  LOOP (m_spec_l27State_b1 list) (fun (x1 : Int) => decide ((list.length : Int) ≤ 24)) (((list.length : Int) - 0 : Int).toNat + 1) 0

/-! ### spec_l27Ok -/
def m_spec_l27Ok_b1 (list : List gVersion) (rec1 : Int → Bool) (k1 : Int → Bool) (x1 : Int) : Bool :=
  bif decide (x1 < (list.length : Int)) then bif ((((at' list x1).Number != (x1 + 1)) || (!(m_spec_l00In (at' list x1).Parent 0 x1))) || (!(m_spec_l27Memo (at' list x1).Memo))) || (!(m_spec_l27State (at' list x1).State)) then false else rec1 (x1 + 1) else k1 x1
def m_spec_l27Ok (list : List gVersion) : Bool :=
  LOOP (m_spec_l27Ok_b1 list) (fun (x1 : Int) => decide ((list.length : Int) ≤ 32)) (((list.length : Int) - 0 : Int).toNat + 1) 0

/-! ### spec_l27Number -/
def m_spec_l27Number (list : List gVersion) (number : Int) : Bool :=
  m_spec_l00In number 1 (list.length : Int)

/-! ### spec_l27Own -/
def m_spec_l27Own_b1 (list : List gVersion) (rec1 : ((List gVersion) × Int) → (List gVersion)) (k1 : ((List gVersion) × Int) → (List gVersion)) (x1 : (List gVersion) × Int) : (List gVersion) :=
  bif decide (x1.2 < (list.length : Int)) then rec1 (x1.1 ++ [gVersion.mk (at' list x1.2).Number (at' list x1.2).Parent (at' list x1.2).Memo (([] : List gSetting) ++ (at' list x1.2).State)], x1.2 + 1) else k1 (x1.1, x1.2)
def m_spec_l27Own (list : List gVersion) : (List gVersion) :=
  LOOP (m_spec_l27Own_b1 list) (fun (x1 : (List gVersion) × Int) => x1.1) (((list.length : Int) - 0 : Int).toNat + 1) (([] : List gVersion), 0)

/-! ### spec_l27Add -/
def m_spec_l27Add (list : List gVersion) (parent : Int) (memo : List UInt8) (state : List gSetting) : (List gVersion) × Int :=
  bif (list.length : Int) == 32 then (([] : List gVersion), 5) else ((m_spec_l27Own list) ++ [gVersion.mk ((list.length : Int) + 1) parent memo (([] : List gSetting) ++ state)], 0)

/-! ### spec_l01Dec -/
def m_spec_l01Dec_b2 (n_ : Int) (x1 : (List Int) × Int) (v10 : (List Int)) (rec2 : ((List Int) × Int) → (List UInt8)) (k2 : ((List Int) × Int) → (List UInt8)) (x2 : (List Int) × Int) : (List UInt8) :=
  bif decide (0 ≤ x2.2) then rec2 (x2.1 ++ ([at' v10 x2.2] : List Int), x2.2 - 1) else k2 (x2.1, x2.2)
def m_spec_l01Dec_b1 (n_ : Int) (rec1 : ((List Int) × Int) → (List UInt8)) (k1 : ((List Int) × Int) → (List UInt8)) (x1 : (List Int) × Int) : (List UInt8) :=
  bif x1.2 != 0 then JN (fun j6 => bif decide ((Int.tmod x1.2 10) < 0) then j6 (IntKind.wrap .i64 (0 - (Int.tmod x1.2 10))) else j6 (Int.tmod x1.2 10)) (fun (v5 : Int) => rec1 (x1.1 ++ ([IntKind.wrap .u8 (IntKind.wrap .i64 (48 + v5))] : List Int), IntKind.wrap .i64 (Int.tdiv x1.2 10))) else k1 (x1.1, x1.2)
def m_spec_l01Dec (n_ : Int) : (List UInt8) :=
  bif n_ == 0 then ([48] : List UInt8) else LOOP (m_spec_l01Dec_b1 n_) (fun (x1 : (List Int) × Int) => JN (fun j11 => bif decide (n_ < 0) then j11 (x1.1 ++ ([45] : List Int)) else j11 x1.1) (fun (v10 : (List Int)) => LOOP (m_spec_l01Dec_b2 n_ x1 v10) (fun (x2 : (List Int) × Int) => chars x2.1) (v10.length + 1) (([] : List Int), IntKind.wrap .i64 ((v10.length : Int) - 1)))) (n_.natAbs + 1) (([] : List Int), n_)

/-! ### spec_l27StateOf -/
def m_spec_l27StateOf (list : List gVersion) (number : Int) : (List gSetting) :=
  bif number == 0 then ([] : List gSetting) else (at' list (IntKind.wrap .i64 (number - 1))).State

/-! ### spec_UndoVersion -/
def m_spec_UndoVersion (list : List gVersion) (number : Int) : (List gVersion) × Int :=
  bif !(m_spec_l27Ok list) then (([] : List gVersion), 1) else bif !(m_spec_l27Number list number) then (([] : List gVersion), 3) else ((m_spec_l27Add list number (([117, 110, 100, 111, 32] : List UInt8) ++ (m_spec_l01Dec number)) (m_spec_l27StateOf list (at' list (IntKind.wrap .i64 (number - 1))).Parent)).1, (m_spec_l27Add list number (([117, 110, 100, 111, 32] : List UInt8) ++ (m_spec_l01Dec number)) (m_spec_l27StateOf list (at' list (IntKind.wrap .i64 (number - 1))).Parent)).2)

/-! ### laws_toSetting -/
def m_laws_toSetting (a : gSetting) : gSetting :=
  a

/-! ### laws_toSettingS -/
def m_laws_toSettingS_b1 (a : List gSetting) (rec1 : ((List gSetting) × Int) → (List gSetting)) (k1 : ((List gSetting) × Int) → (List gSetting)) (x1 : (List gSetting) × Int) : (List gSetting) :=
  bif decide (x1.2 < (a.length : Int)) then rec1 (put' x1.1 x1.2 (m_laws_toSetting (at' a x1.2)), x1.2 + 1) else k1 (x1.1, x1.2)
def m_laws_toSettingS (a : List gSetting) : (List gSetting) :=
  LOOP (m_laws_toSettingS_b1 a) (fun (x1 : (List gSetting) × Int) => x1.1) (((a.length : Int) - 0 : Int).toNat + 1) (List.replicate ((a.length : Int) : Int).toNat (gSetting.mk ([] : List UInt8) 0 : gSetting), 0)

/-! ### laws_toVersion -/
def m_laws_toVersion (a : gVersion) : gVersion :=
  gVersion.mk a.Number a.Parent a.Memo (m_laws_toSettingS a.State)

/-! ### laws_toVersionS -/
def m_laws_toVersionS_b1 (a : List gVersion) (rec1 : ((List gVersion) × Int) → (List gVersion)) (k1 : ((List gVersion) × Int) → (List gVersion)) (x1 : (List gVersion) × Int) : (List gVersion) :=
  bif decide (x1.2 < (a.length : Int)) then rec1 (put' x1.1 x1.2 (m_laws_toVersion (at' a x1.2)), x1.2 + 1) else k1 (x1.1, x1.2)
def m_laws_toVersionS (a : List gVersion) : (List gVersion) :=
  LOOP (m_laws_toVersionS_b1 a) (fun (x1 : (List gVersion) × Int) => x1.1) (((a.length : Int) - 0 : Int).toNat + 1) (List.replicate ((a.length : Int) : Int).toNat (gVersion.mk 0 0 ([] : List UInt8) [] : gVersion), 0)

/-! ### impl_within -/
def m_impl_within (n_ : Int) (low : Int) (high : Int) : Bool :=
  (decide (low ≤ n_)) && (decide (n_ ≤ high))

/-! ### impl_onlyNameBytes -/
def m_impl_onlyNameBytes_b1 (s_ : List UInt8) (rec1 : Int → Bool) (k1 : Int → Bool) (x1 : Int) : Bool :=
  bif decide (x1 < (s_.length : Int)) then bif ((decide ((((s_.getD x1.toNat 0).toNat : Nat) : Int) < 97)) || (decide (122 < (((s_.getD x1.toNat 0).toNat : Nat) : Int)))) && ((decide ((((s_.getD x1.toNat 0).toNat : Nat) : Int) < 48)) || (decide (57 < (((s_.getD x1.toNat 0).toNat : Nat) : Int)))) then false else rec1 (x1 + 1) else k1 x1
def m_impl_onlyNameBytes (s_ : List UInt8) : Bool :=
  LOOP (m_impl_onlyNameBytes_b1 s_) (fun (x1 : Int) => true) (((s_.length : Int) - 0 : Int).toNat + 1) 0

/-! ### impl_IsName -/
def m_impl_IsName (s_ : List UInt8) : Bool :=
  bif (((decide ((s_.length : Int) < 1)) || (decide (10 < (s_.length : Int)))) || (decide ((((s_.getD (0 : Int).toNat 0).toNat : Nat) : Int) < 97))) || (decide (122 < (((s_.getD (0 : Int).toNat 0).toNat : Nat) : Int))) then false else m_impl_onlyNameBytes s_

/-! ### impl_Setting_valid -/
def m_impl_Setting_valid (x_ : gSetting) : Bool :=
  (m_impl_IsName x_.Name) && (m_impl_within x_.Value 0 1000)

/-! ### impl_ValidState -/
def m_impl_ValidState_b1 (list : List gSetting) (rec1 : Int → Bool) (k1 : Int → Bool) (x1 : Int) : Bool :=
  bif decide (x1 < (list.length : Int)) then bif (!(m_impl_Setting_valid (at' list x1))) || ((decide (0 < x1)) && (strB .leq (at' list x1).Name (at' list (x1 - 1)).Name)) then false else rec1 (x1 + 1) else k1 x1
def m_impl_ValidState (list : List gSetting) : Bool :=
  bif decide (24 < (list.length : Int)) then false else LOOP (m_impl_ValidState_b1 list) (fun (x1 : Int) => true) (((list.length : Int) - 0 : Int).toNat + 1) 0

/-! ### impl_bytesWithin -/
def m_impl_bytesWithin_b1 (s_ : List UInt8) (low : Int) (high : Int) (rec1 : Int → Bool) (k1 : Int → Bool) (x1 : Int) : Bool :=
  bif decide (x1 < (s_.length : Int)) then bif (decide ((((s_.getD x1.toNat 0).toNat : Nat) : Int) < low)) || (decide (high < (((s_.getD x1.toNat 0).toNat : Nat) : Int))) then false else rec1 (x1 + 1) else k1 x1
def m_impl_bytesWithin (s_ : List UInt8) (low : Int) (high : Int) : Bool :=
  LOOP (m_impl_bytesWithin_b1 s_ low high) (fun (x1 : Int) => true) (((s_.length : Int) - 0 : Int).toNat + 1) 0

/-! ### impl_memoValid -/
def m_impl_memoValid (memo : List UInt8) : Bool :=
  (decide ((memo.length : Int) ≤ 20)) && (m_impl_bytesWithin memo 32 126)

/-! ### impl_ValidHistory -/
def m_impl_ValidHistory_b1 (list : List gVersion) (rec1 : Int → Bool) (k1 : Int → Bool) (x1 : Int) : Bool :=
  bif decide (x1 < (list.length : Int)) then bif ((((at' list x1).Number != (x1 + 1)) || (!(m_impl_within (at' list x1).Parent 0 x1))) || (!(m_impl_memoValid (at' list x1).Memo))) || (!(m_impl_ValidState (at' list x1).State)) then false else rec1 (x1 + 1) else k1 x1
def m_impl_ValidHistory (list : List gVersion) : Bool :=
  bif decide (32 < (list.length : Int)) then false else LOOP (m_impl_ValidHistory_b1 list) (fun (x1 : Int) => true) (((list.length : Int) - 0 : Int).toNat + 1) 0

/-! ### slices_IndexFunc_int64 -/
def m_slices_IndexFunc_int64_b1 (s_ : List Int) (f : (Int → Bool)) (rec1 : Int → Int) (k1 : Int → Int) (x1 : Int) : Int :=
  bif decide (x1 < (s_.length : Int)) then bif f (at' s_ x1) then x1 else rec1 (x1 + 1) else k1 x1
def m_slices_IndexFunc_int64 (s_ : List Int) (f : Int → Bool) : Int :=
  LOOP (m_slices_IndexFunc_int64_b1 s_ f) (fun (x1 : Int) => (-1)) (((s_.length : Int) - 0 : Int).toNat + 1) 0

/-! ### slices_ContainsFunc_int64 -/
def m_slices_ContainsFunc_int64 (s_ : List Int) (f : Int → Bool) : Bool :=
  decide (0 ≤ (m_slices_IndexFunc_int64 s_ f))

/-! ### impl_allWithin_1 -/
def m_impl_allWithin_1 (n_ : Int) (p1 : Int) (p2 : Int) : Bool :=
  !(m_impl_within n_ p1 p2)

/-! ### impl_allWithin -/
def m_impl_allWithin (list : List Int) (low : Int) (high : Int) : Bool :=
  !(m_slices_ContainsFunc_int64 list (fun (a0 : Int) => m_impl_allWithin_1 a0 low high))

/-! ### impl_versionsCode -/
def m_impl_versionsCode (list : List gVersion) (numbers : List Int) : Int :=
  bif !(m_impl_ValidHistory list) then 1 else bif !(m_impl_allWithin numbers 1 (list.length : Int)) then 3 else 0

/-! ### slices_Clone_impl_Setting -/
def m_slices_Clone_impl_Setting (s_ : List gSetting) : (List gSetting) :=
  ([] : List gSetting) ++ s_

/-! ### slices_Clone_impl_Version -/
def m_slices_Clone_impl_Version (s_ : List gVersion) : (List gVersion) :=
  ([] : List gVersion) ++ s_

/-! ### impl_withVersion -/
def m_impl_withVersion_b1 (list : List gVersion) (parent : Int) (memo : List UInt8) (state : List gSetting) (rec1 : ((List gVersion) × Int) → ((List gVersion) × Int)) (k1 : ((List gVersion) × Int) → ((List gVersion) × Int)) (x1 : (List gVersion) × Int) : (List gVersion) × Int :=
  bif decide (x1.2 < (((m_slices_Clone_impl_Version list) ++ ([gVersion.mk ((list.length : Int) + 1) parent memo state] : List gVersion)).length : Int)) then rec1 (x1.1 ++ [gVersion.mk (at' ((m_slices_Clone_impl_Version list) ++ ([gVersion.mk ((list.length : Int) + 1) parent memo state] : List gVersion)) x1.2).Number (at' ((m_slices_Clone_impl_Version list) ++ ([gVersion.mk ((list.length : Int) + 1) parent memo state] : List gVersion)) x1.2).Parent (at' ((m_slices_Clone_impl_Version list) ++ ([gVersion.mk ((list.length : Int) + 1) parent memo state] : List gVersion)) x1.2).Memo (m_slices_Clone_impl_Setting (at' ((m_slices_Clone_impl_Version list) ++ ([gVersion.mk ((list.length : Int) + 1) parent memo state] : List gVersion)) x1.2).State)], x1.2 + 1) else k1 (x1.1, x1.2)
def m_impl_withVersion (list : List gVersion) (parent : Int) (memo : List UInt8) (state : List gSetting) : (List gVersion) × Int :=
  bif (list.length : Int) == 32 then (([] : List gVersion), 5) else LOOP (m_impl_withVersion_b1 list parent memo state) (fun (x1 : (List gVersion) × Int) => (x1.1, 0)) (((((m_slices_Clone_impl_Version list) ++ ([gVersion.mk ((list.length : Int) + 1) parent memo state] : List gVersion)).length : Int) - 0 : Int).toNat + 1) (([] : List gVersion), 0)

/-! ### strconv_FormatInt -/
def m_strconv_FormatInt (i : Int) (base : Int) : (List UInt8) := Lib.itoa i

/-! ### impl_Decimal -/
def m_impl_Decimal (n_ : Int) : (List UInt8) :=
  m_strconv_FormatInt n_ 10

/-! ### impl_versionState -/
def m_impl_versionState (list : List gVersion) (number : Int) : (List gSetting) :=
  bif number == 0 then ([] : List gSetting) else (at' list (IntKind.wrap .i64 (number - 1))).State

/-! ### impl_UndoVersion -/
def m_impl_UndoVersion (list : List gVersion) (number : Int) : (List gVersion) × Int :=
  bif (m_impl_versionsCode list ([number] : List Int)) != 0 then (([] : List gVersion), m_impl_versionsCode list ([number] : List Int)) else ((m_impl_withVersion list number (([117, 110, 100, 111, 32] : List UInt8) ++ (m_impl_Decimal number)) (m_impl_versionState list (at' list (IntKind.wrap .i64 (number - 1))).Parent)).1, (m_impl_withVersion list number (([117, 110, 100, 111, 32] : List UInt8) ++ (m_impl_Decimal number)) (m_impl_versionState list (at' list (IntKind.wrap .i64 (number - 1))).Parent)).2)

/-! ### laws_eqSetting -/
def m_laws_eqSetting (a : gSetting) (b : gSetting) : Bool :=
  bif strB .neq a.Name b.Name then false else bif a.Value != b.Value then false else true

/-! ### laws_eqSettingS -/
def m_laws_eqSettingS_b1 (a : List gSetting) (b : List gSetting) (rec1 : Int → Bool) (k1 : Int → Bool) (x1 : Int) : Bool :=
  bif decide (x1 < (a.length : Int)) then bif !(m_laws_eqSetting (at' a x1) (at' b x1)) then false else rec1 (x1 + 1) else k1 x1
def m_laws_eqSettingS (a : List gSetting) (b : List gSetting) : Bool :=
  bif (a.length : Int) != (b.length : Int) then false else LOOP (m_laws_eqSettingS_b1 a b) (fun (x1 : Int) => true) (((a.length : Int) - 0 : Int).toNat + 1) 0

/-! ### laws_eqVersion -/
def m_laws_eqVersion (a : gVersion) (b : gVersion) : Bool :=
  bif a.Number != b.Number then false else bif a.Parent != b.Parent then false else bif strB .neq a.Memo b.Memo then false else bif !(m_laws_eqSettingS a.State b.State) then false else true

/-! ### laws_eqVersionS -/
def m_laws_eqVersionS_b1 (a : List gVersion) (b : List gVersion) (rec1 : Int → Bool) (k1 : Int → Bool) (x1 : Int) : Bool :=
  bif decide (x1 < (a.length : Int)) then bif !(m_laws_eqVersion (at' a x1) (at' b x1)) then false else rec1 (x1 + 1) else k1 x1
def m_laws_eqVersionS (a : List gVersion) (b : List gVersion) : Bool :=
  bif (a.length : Int) != (b.length : Int) then false else LOOP (m_laws_eqVersionS_b1 a b) (fun (x1 : Int) => true) (((a.length : Int) - 0 : Int).toNat + 1) 0

/-! ### laws_markText -/
def m_laws_markText_b1 (k_ : Int) (rec1 : (Int × (List UInt8)) → (List UInt8)) (k1 : (Int × (List UInt8)) → (List UInt8)) (x1 : Int × (List UInt8)) : (List UInt8) :=
  bif decide (0 < x1.1) then rec1 (IntKind.wrap .i64 (Int.tdiv x1.1 10), (chars ([IntKind.wrap .u8 (IntKind.wrap .i64 (48 + (Int.tmod x1.1 10)))] : List Int)) ++ x1.2) else k1 (x1.1, x1.2)
def m_laws_markText (k_ : Int) : (List UInt8) :=
  bif decide (k_ ≤ 0) then ([109, 48] : List UInt8) else LOOP (m_laws_markText_b1 k_) (fun (x1 : Int × (List UInt8)) => ([109] : List UInt8) ++ x1.2) (k_.toNat + 1) (k_, ([] : List UInt8))

/-! ### laws_markSettingS -/
def m_laws_markSettingS_b1 (a : List gSetting) (k_ : Int) (rec1 : ((List gSetting) × Int × Int) → (Int × (List gSetting))) (k1 : ((List gSetting) × Int × Int) → (Int × (List gSetting))) (x1 : (List gSetting) × Int × Int) : Int × (List gSetting) :=
  bif decide (x1.2.2 < (x1.1.length : Int)) then rec1 (put' x1.1 x1.2.2 (gSetting.mk (m_laws_markText x1.2.1) (IntKind.wrap .i64 (x1.2.1 + 1))), IntKind.wrap .i64 ((IntKind.wrap .i64 (x1.2.1 + 1)) + 1), x1.2.2 + 1) else k1 (x1.1, x1.2.1, x1.2.2)
def m_laws_markSettingS (a : List gSetting) (k_ : Int) : Int × (List gSetting) :=
  LOOP (m_laws_markSettingS_b1 a k_) (fun (x1 : (List gSetting) × Int × Int) => (x1.2.1, x1.1)) (((a.length : Int) - 0 : Int).toNat + 1) (a, k_, 0)

/-! ### laws_markVersionS -/
def m_laws_markVersionS_b1 (a : List gVersion) (k_ : Int) (rec1 : ((List gVersion) × Int × Int) → (Int × (List gVersion))) (k1 : ((List gVersion) × Int × Int) → (Int × (List gVersion))) (x1 : (List gVersion) × Int × Int) : Int × (List gVersion) :=
  bif decide (x1.2.2 < (x1.1.length : Int)) then rec1 (put' x1.1 x1.2.2 (gVersion.mk x1.2.1 (IntKind.wrap .i64 (x1.2.1 + 1)) (m_laws_markText (IntKind.wrap .i64 ((IntKind.wrap .i64 (x1.2.1 + 1)) + 1))) (m_laws_markSettingS (at' x1.1 x1.2.2).State (IntKind.wrap .i64 ((IntKind.wrap .i64 ((IntKind.wrap .i64 (x1.2.1 + 1)) + 1)) + 1))).2), (m_laws_markSettingS (at' x1.1 x1.2.2).State (IntKind.wrap .i64 ((IntKind.wrap .i64 ((IntKind.wrap .i64 (x1.2.1 + 1)) + 1)) + 1))).1, x1.2.2 + 1) else k1 (x1.1, x1.2.1, x1.2.2)
def m_laws_markVersionS (a : List gVersion) (k_ : Int) : Int × (List gVersion) :=
  LOOP (m_laws_markVersionS_b1 a k_) (fun (x1 : (List gVersion) × Int × Int) => (x1.2.1, x1.1)) (((a.length : Int) - 0 : Int).toNat + 1) (a, k_, 0)

/-! ### laws_heldSettingS -/
def m_laws_heldSettingS_b1 (a : List gSetting) (k_ : Int) (rec1 : (Int × Int) → Int) (k1 : (Int × Int) → Int) (x1 : Int × Int) : Int :=
  bif decide (x1.2 < (a.length : Int)) then bif strB .neq (at' a x1.2).Name (m_laws_markText x1.1) then (-1) else bif (at' a x1.2).Value != (IntKind.wrap .i64 (x1.1 + 1)) then (-1) else rec1 (IntKind.wrap .i64 ((IntKind.wrap .i64 (x1.1 + 1)) + 1), x1.2 + 1) else k1 (x1.1, x1.2)
def m_laws_heldSettingS (a : List gSetting) (k_ : Int) : Int :=
  LOOP (m_laws_heldSettingS_b1 a k_) (fun (x1 : Int × Int) => x1.1) (((a.length : Int) - 0 : Int).toNat + 1) (k_, 0)

/-! ### laws_heldVersionS -/
def m_laws_heldVersionS_b1 (a : List gVersion) (k_ : Int) (rec1 : (Int × Int) → Int) (k1 : (Int × Int) → Int) (x1 : Int × Int) : Int :=
  bif decide (x1.2 < (a.length : Int)) then bif (at' a x1.2).Number != x1.1 then (-1) else bif (at' a x1.2).Parent != (IntKind.wrap .i64 (x1.1 + 1)) then (-1) else bif strB .neq (at' a x1.2).Memo (m_laws_markText (IntKind.wrap .i64 ((IntKind.wrap .i64 (x1.1 + 1)) + 1))) then (-1) else bif decide ((m_laws_heldSettingS (at' a x1.2).State (IntKind.wrap .i64 ((IntKind.wrap .i64 ((IntKind.wrap .i64 (x1.1 + 1)) + 1)) + 1))) < 0) then (-1) else rec1 (m_laws_heldSettingS (at' a x1.2).State (IntKind.wrap .i64 ((IntKind.wrap .i64 ((IntKind.wrap .i64 (x1.1 + 1)) + 1)) + 1)), x1.2 + 1) else k1 (x1.1, x1.2)
def m_laws_heldVersionS (a : List gVersion) (k_ : Int) : Int :=
  LOOP (m_laws_heldVersionS_b1 a k_) (fun (x1 : Int × Int) => x1.1) (((a.length : Int) - 0 : Int).toNat + 1) (k_, 0)

/-! ### laws_FnExactUndoVersion -/
def m_laws_FnExactUndoVersion (aList : List gVersion) (aNumber : Int) : Bool :=
  bif decide ((m_laws_szVersionS aList 1048576) < 0) then true else bif (!(m_laws_eqVersionS (m_impl_UndoVersion (m_laws_toVersionS aList) aNumber).1 (m_spec_UndoVersion (m_laws_toVersionS aList) aNumber).1)) || ((m_impl_UndoVersion (m_laws_toVersionS aList) aNumber).2 != (m_spec_UndoVersion (m_laws_toVersionS aList) aNumber).2) then false else bif !(m_laws_eqVersionS (m_laws_toVersionS aList) (m_laws_toVersionS aList)) then false else bif ((decide ((m_laws_markVersionS (m_laws_toVersionS aList) 1).1 < 0)) || (!(m_laws_eqVersionS (m_impl_UndoVersion (m_laws_toVersionS aList) aNumber).1 (m_spec_UndoVersion (m_laws_toVersionS aList) aNumber).1))) || ((m_impl_UndoVersion (m_laws_toVersionS aList) aNumber).2 != (m_spec_UndoVersion (m_laws_toVersionS aList) aNumber).2) then false else bif decide ((m_laws_heldVersionS (m_laws_markVersionS (m_impl_UndoVersion (m_laws_toVersionS aList) aNumber).1 1).2 1) < 0) then false else bif (m_laws_heldVersionS (m_laws_markVersionS (m_impl_UndoVersion (m_laws_toVersionS aList) aNumber).1 1).2 1) != (m_laws_markVersionS (m_impl_UndoVersion (m_laws_toVersionS aList) aNumber).1 1).1 then false else bif (!(m_laws_eqVersionS (m_impl_UndoVersion (m_laws_toVersionS aList) aNumber).1 (m_spec_UndoVersion (m_laws_toVersionS aList) aNumber).1)) || ((m_impl_UndoVersion (m_laws_toVersionS aList) aNumber).2 != (m_spec_UndoVersion (m_laws_toVersionS aList) aNumber).2) then false else bif decide ((m_laws_heldVersionS (m_laws_markVersionS (m_impl_UndoVersion (m_laws_toVersionS aList) aNumber).1 1).2 1) < 0) then false else bif (m_laws_heldVersionS (m_laws_markVersionS (m_impl_UndoVersion (m_laws_toVersionS aList) aNumber).1 1).2 1) != (m_laws_markVersionS (m_impl_UndoVersion (m_laws_toVersionS aList) aNumber).1 1).1 then false else true

end Go.Proofs.YtdkkcemlnjlebaaDoor
