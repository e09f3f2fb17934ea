/-
  PLAIN MODELS of the Go functions that the law reaches, printed by a program of this claim. Conditions: none; nothing is claimed here.
-/
import Derived.Test.YtandefcnbemclaaDoorEngN
import Derived.Lib.ItoaNum
import Derived.Lib.Join
set_option linter.unusedVariables false
set_option linter.unusedSimpArgs false
set_option linter.unusedSectionVars false
set_option linter.unnecessarySimpa false
namespace Go.Proofs.YtandefcnbemclaaDoor
open Go Go.RowKit Go.Proofs Go.Proofs.YtandefcnbemclaaDoor.E
structure gSetting where
  Name : List UInt8
  Value : Int
instance : Inhabited gSetting := ⟨gSetting.mk default default⟩
abbrev gSetting.v (x : gSetting) : V := .st [.str x.Name, .int .i64 x.Value]
structure gVersion where
  Number : Int
  Parent : Int
  Memo : List UInt8
  State : List gSetting
instance : Inhabited gVersion := ⟨gVersion.mk default default default default⟩
abbrev gVersion.v (x : gVersion) : V := .st [.int .i64 x.Number, .int .i64 x.Parent, .str x.Memo, .sl 2 (x.State.map gSetting.v)]

/-! ### laws_szSetting -/
def m_laws_szSetting (a : gSetting) (left : Int) : Int :=
  bif decide ((IntKind.wrap .i64 (left - (a.Name.length : Int))) < 0) then (-1) else IntKind.wrap .i64 (left - (a.Name.length : Int))

/-! ### laws_szSettingS -/
def m_laws_szSettingS_b1 (a : List gSetting) (left : Int) (rec1 : (Int × Int) → Int) (k1 : (Int × Int) → Int) (x1 : Int × Int) : Int :=
  bif decide (x1.2 < (a.length : Int)) then bif decide ((m_laws_szSetting (at' a x1.2) x1.1) < 0) then (-1) else rec1 (m_laws_szSetting (at' a x1.2) x1.1, x1.2 + 1) else k1 (x1.1, x1.2)
def m_laws_szSettingS (a : List gSetting) (left : Int) : Int :=
  bif decide ((IntKind.wrap .i64 (left - (a.length : Int))) < 0) then (-1) else LOOP (m_laws_szSettingS_b1 a left) (fun (x1 : Int × Int) => x1.1) (((a.length : Int) - 0 : Int).toNat + 1) (IntKind.wrap .i64 (left - (a.length : Int)), 0)

/-! ### laws_szVersion -/
def m_laws_szVersion (a : gVersion) (left : Int) : Int :=
  bif decide ((IntKind.wrap .i64 (left - (a.Memo.length : Int))) < 0) then (-1) else bif decide ((m_laws_szSettingS a.State (IntKind.wrap .i64 (left - (a.Memo.length : Int)))) < 0) then (-1) else m_laws_szSettingS a.State (IntKind.wrap .i64 (left - (a.Memo.length : Int)))

/-! ### spec_l00In -/
def m_spec_l00In (n_ : Int) (low : Int) (high : Int) : Bool :=
  (decide (low ≤ n_)) && (decide (n_ ≤ high))

/-! ### spec_l27Memo -/
def m_spec_l27Memo_b1 (s_ : List UInt8) (rec1 : Int → Bool) (k1 : Int → Bool) (x1 : Int) : Bool :=
  bif decide (x1 < (s_.length : Int)) then bif (decide ((((s_.getD x1.toNat 0).toNat : Nat) : Int) < 32)) || (decide (126 < (((s_.getD x1.toNat 0).toNat : Nat) : Int))) then false else rec1 (x1 + 1) else k1 x1
def m_spec_l27Memo (s_ : List UInt8) : Bool :=
  LOOP (m_spec_l27Memo_b1 s_) (fun (x1 : Int) => decide ((s_.length : Int) ≤ 20)) (((s_.length : Int) - 0 : Int).toNat + 1) 0

/-! ### spec_l01Small -/
def m_spec_l01Small (c_ : Int) : Bool :=
  (decide (97 ≤ c_)) && (decide (c_ ≤ 122))

/-! ### spec_l01Digit -/
def m_spec_l01Digit (c_ : Int) : Bool :=
  (decide (48 ≤ c_)) && (decide (c_ ≤ 57))

/-! ### spec_l01Name -/
def m_spec_l01Name_b1 (s_ : List UInt8) (rec1 : Int → Bool) (k1 : Int → Bool) (x1 : Int) : Bool :=
  bif decide (x1 < (s_.length : Int)) then bif (!(m_spec_l01Small (((s_.getD x1.toNat 0).toNat : Nat) : Int))) && (!(m_spec_l01Digit (((s_.getD x1.toNat 0).toNat : Nat) : Int))) then false else rec1 (x1 + 1) else k1 x1
def m_spec_l01Name (s_ : List UInt8) : Bool :=
  bif ((strB .eql s_ ([] : List UInt8)) || (decide (10 < (s_.length : Int)))) || (!(m_spec_l01Small (((s_.getD (0 : Int).toNat 0).toNat : Nat) : Int))) then false else LOOP (m_spec_l01Name_b1 s_) (fun (x1 : Int) => true) (((s_.length : Int) - 0 : Int).toNat + 1) 0

/-! ### spec_l27Setting -/
def m_spec_l27Setting (e : gSetting) : Bool :=
  (m_spec_l01Name e.Name) && (m_spec_l00In e.Value 0 1000)

/-! ### spec_l27State -/
def m_spec_l27State_b1 (list : List gSetting) (rec1 : Int → Bool) (k1 : Int → Bool) (x1 : Int) : Bool :=
  bif decide (x1 < (list.length : Int)) then bif (!(m_spec_l27Setting (at' list x1))) || ((decide (0 < x1)) && (strB .geq (at' list (x1 - 1)).Name (at' list x1).Name)) then false else rec1 (x1 + 1) else k1 x1
def m_spec_l27State (list : List gSetting) : Bool :=
  LOOP (m_spec_l27State_b1 list) (fun (x1 : Int) => decide ((list.length : Int) ≤ 24)) (((list.length : Int) - 0 : Int).toNat + 1) 0

/-! ### spec_l01Dec -/
def m_spec_l01Dec_b2 (n_ : Int) (x1 : (List Int) × Int) (v10 : (List Int)) (rec2 : ((List Int) × Int) → (List UInt8)) (k2 : ((List Int) × Int) → (List UInt8)) (x2 : (List Int) × Int) : (List UInt8) :=
  bif decide (0 ≤ x2.2) then rec2 (x2.1 ++ ([at' v10 x2.2] : List Int), x2.2 - 1) else k2 (x2.1, x2.2)
def m_spec_l01Dec_b1 (n_ : Int) (rec1 : ((List Int) × Int) → (List UInt8)) (k1 : ((List Int) × Int) → (List UInt8)) (x1 : (List Int) × Int) : (List UInt8) :=
  bif x1.2 != 0 then JN (fun j6 => bif decide ((Int.tmod x1.2 10) < 0) then j6 (IntKind.wrap .i64 (0 - (Int.tmod x1.2 10))) else j6 (Int.tmod x1.2 10)) (fun (v5 : Int) => rec1 (x1.1 ++ ([IntKind.wrap .u8 (IntKind.wrap .i64 (48 + v5))] : List Int), IntKind.wrap .i64 (Int.tdiv x1.2 10))) else k1 (x1.1, x1.2)
def m_spec_l01Dec (n_ : Int) : (List UInt8) :=
  bif n_ == 0 then ([48] : List UInt8) else LOOP (m_spec_l01Dec_b1 n_) (fun (x1 : (List Int) × Int) => JN (fun j11 => bif decide (n_ < 0) then j11 (x1.1 ++ ([45] : List Int)) else j11 x1.1) (fun (v10 : (List Int)) => LOOP (m_spec_l01Dec_b2 n_ x1 v10) (fun (x2 : (List Int) × Int) => chars x2.1) (v10.length + 1) (([] : List Int), IntKind.wrap .i64 ((v10.length : Int) - 1)))) (n_.natAbs + 1) (([] : List Int), n_)

/-! ### spec_VersionText -/
def m_spec_VersionText_b1 (v : gVersion) (rec1 : ((List UInt8) × Int) → (List UInt8)) (k1 : ((List UInt8) × Int) → (List UInt8)) (x1 : (List UInt8) × Int) : (List UInt8) :=
  bif decide (x1.2 < (v.State.length : Int)) then rec1 (x1.1 ++ (((([32] : List UInt8) ++ (at' v.State x1.2).Name) ++ ([61] : List UInt8)) ++ (m_spec_l01Dec (at' v.State x1.2).Value)), x1.2 + 1) else k1 (x1.1, x1.2)
def m_spec_VersionText (v : gVersion) : (List UInt8) :=
  bif (((!(m_spec_l00In v.Number 1 32)) || (!(m_spec_l00In v.Parent 0 (IntKind.wrap .i64 (v.Number - 1))))) || (!(m_spec_l27Memo v.Memo))) || (!(m_spec_l27State v.State)) then ([] : List UInt8) else LOOP (m_spec_VersionText_b1 v) (fun (x1 : (List UInt8) × Int) => bif strB .neq v.Memo ([] : List UInt8) then x1.1 ++ (([32, 35, 32] : List UInt8) ++ v.Memo) else x1.1) (((v.State.length : Int) - 0 : Int).toNat + 1) (((m_spec_l01Dec v.Number) ++ ([60] : List UInt8)) ++ (m_spec_l01Dec v.Parent), 0)

/-! ### laws_toSetting -/
def m_laws_toSetting (a : gSetting) : gSetting :=
  a

/-! ### laws_toSettingS -/
def m_laws_toSettingS_b1 (a : List gSetting) (rec1 : ((List gSetting) × Int) → (List gSetting)) (k1 : ((List gSetting) × Int) → (List gSetting)) (x1 : (List gSetting) × Int) : (List gSetting) :=
  bif decide (x1.2 < (a.length : Int)) then rec1 (put' x1.1 x1.2 (m_laws_toSetting (at' a x1.2)), x1.2 + 1) else k1 (x1.1, x1.2)
def m_laws_toSettingS (a : List gSetting) : (List gSetting) :=
  LOOP (m_laws_toSettingS_b1 a) (fun (x1 : (List gSetting) × Int) => x1.1) (((a.length : Int) - 0 : Int).toNat + 1) (List.replicate ((a.length : Int) : Int).toNat (gSetting.mk ([] : List UInt8) 0 : gSetting), 0)

/-! ### laws_toVersion -/
def m_laws_toVersion (a : gVersion) : gVersion :=
  gVersion.mk a.Number a.Parent a.Memo (m_laws_toSettingS a.State)

/-! ### impl_within -/
def m_impl_within (n_ : Int) (low : Int) (high : Int) : Bool :=
  (decide (low ≤ n_)) && (decide (n_ ≤ high))

/-! ### impl_bytesWithin -/
def m_impl_bytesWithin_b1 (s_ : List UInt8) (low : Int) (high : Int) (rec1 : Int → Bool) (k1 : Int → Bool) (x1 : Int) : Bool :=
  bif decide (x1 < (s_.length : Int)) then bif (decide ((((s_.getD x1.toNat 0).toNat : Nat) : Int) < low)) || (decide (high < (((s_.getD x1.toNat 0).toNat : Nat) : Int))) then false else rec1 (x1 + 1) else k1 x1
def m_impl_bytesWithin (s_ : List UInt8) (low : Int) (high : Int) : Bool :=
  LOOP (m_impl_bytesWithin_b1 s_ low high) (fun (x1 : Int) => true) (((s_.length : Int) - 0 : Int).toNat + 1) 0

/-! ### impl_memoValid -/
def m_impl_memoValid (memo : List UInt8) : Bool :=
  (decide ((memo.length : Int) ≤ 20)) && (m_impl_bytesWithin memo 32 126)

/-! ### impl_onlyNameBytes -/
def m_impl_onlyNameBytes_b1 (s_ : List UInt8) (rec1 : Int → Bool) (k1 : Int → Bool) (x1 : Int) : Bool :=
  bif decide (x1 < (s_.length : Int)) then bif ((decide ((((s_.getD x1.toNat 0).toNat : Nat) : Int) < 97)) || (decide (122 < (((s_.getD x1.toNat 0).toNat : Nat) : Int)))) && ((decide ((((s_.getD x1.toNat 0).toNat : Nat) : Int) < 48)) || (decide (57 < (((s_.getD x1.toNat 0).toNat : Nat) : Int)))) then false else rec1 (x1 + 1) else k1 x1
def m_impl_onlyNameBytes (s_ : List UInt8) : Bool :=
  LOOP (m_impl_onlyNameBytes_b1 s_) (fun (x1 : Int) => true) (((s_.length : Int) - 0 : Int).toNat + 1) 0

/-! ### impl_IsName -/
def m_impl_IsName (s_ : List UInt8) : Bool :=
  bif (((decide ((s_.length : Int) < 1)) || (decide (10 < (s_.length : Int)))) || (decide ((((s_.getD (0 : Int).toNat 0).toNat : Nat) : Int) < 97))) || (decide (122 < (((s_.getD (0 : Int).toNat 0).toNat : Nat) : Int))) then false else m_impl_onlyNameBytes s_

/-! ### impl_Setting_valid -/
def m_impl_Setting_valid (x_ : gSetting) : Bool :=
  (m_impl_IsName x_.Name) && (m_impl_within x_.Value 0 1000)

/-! ### impl_ValidState -/
def m_impl_ValidState_b1 (list : List gSetting) (rec1 : Int → Bool) (k1 : Int → Bool) (x1 : Int) : Bool :=
  bif decide (x1 < (list.length : Int)) then bif (!(m_impl_Setting_valid (at' list x1))) || ((decide (0 < x1)) && (strB .leq (at' list x1).Name (at' list (x1 - 1)).Name)) then false else rec1 (x1 + 1) else k1 x1
def m_impl_ValidState (list : List gSetting) : Bool :=
  bif decide (24 < (list.length : Int)) then false else LOOP (m_impl_ValidState_b1 list) (fun (x1 : Int) => true) (((list.length : Int) - 0 : Int).toNat + 1) 0

/-! ### strconv_FormatInt -/
def m_strconv_FormatInt (i : Int) (base : Int) : (List UInt8) := Lib.itoa i

/-! ### impl_Decimal -/
def m_impl_Decimal (n_ : Int) : (List UInt8) :=
  m_strconv_FormatInt n_ 10

/-! ### impl_VersionText -/
def m_impl_VersionText_b1 (v : gVersion) (rec1 : ((List UInt8) × Int) → (List UInt8)) (k1 : ((List UInt8) × Int) → (List UInt8)) (x1 : (List UInt8) × Int) : (List UInt8) :=
  bif decide (x1.2 < (v.State.length : Int)) then rec1 (x1.1 ++ (((([32] : List UInt8) ++ (at' v.State x1.2).Name) ++ ([61] : List UInt8)) ++ (m_impl_Decimal (at' v.State x1.2).Value)), x1.2 + 1) else k1 (x1.1, x1.2)
def m_impl_VersionText (v : gVersion) : (List UInt8) :=
  bif (((!(m_impl_within v.Number 1 32)) || (!(m_impl_within v.Parent 0 (IntKind.wrap .i64 (v.Number - 1))))) || (!(m_impl_memoValid v.Memo))) || (!(m_impl_ValidState v.State)) then ([] : List UInt8) else LOOP (m_impl_VersionText_b1 v) (fun (x1 : (List UInt8) × Int) => bif strB .neq v.Memo ([] : List UInt8) then x1.1 ++ (([32, 35, 32] : List UInt8) ++ v.Memo) else x1.1) (((v.State.length : Int) - 0 : Int).toNat + 1) (((m_impl_Decimal v.Number) ++ ([60] : List UInt8)) ++ (m_impl_Decimal v.Parent), 0)

/-! ### laws_eqSetting -/
def m_laws_eqSetting (a : gSetting) (b : gSetting) : Bool :=
  bif strB .neq a.Name b.Name then false else bif a.Value != b.Value then false else true

/-! ### laws_eqSettingS -/
def m_laws_eqSettingS_b1 (a : List gSetting) (b : List gSetting) (rec1 : Int → Bool) (k1 : Int → Bool) (x1 : Int) : Bool :=
  bif decide (x1 < (a.length : Int)) then bif !(m_laws_eqSetting (at' a x1) (at' b x1)) then false else rec1 (x1 + 1) else k1 x1
def m_laws_eqSettingS (a : List gSetting) (b : List gSetting) : Bool :=
  bif (a.length : Int) != (b.length : Int) then false else LOOP (m_laws_eqSettingS_b1 a b) (fun (x1 : Int) => true) (((a.length : Int) - 0 : Int).toNat + 1) 0

/-! ### laws_eqVersion -/
def m_laws_eqVersion (a : gVersion) (b : gVersion) : Bool :=
  bif a.Number != b.Number then false else bif a.Parent != b.Parent then false else bif strB .neq a.Memo b.Memo then false else bif !(m_laws_eqSettingS a.State b.State) then false else true

/-! ### laws_FnExactVersionText -/
def m_laws_FnExactVersionText (aV : gVersion) : Bool :=
  bif decide ((m_laws_szVersion aV 1048576) < 0) then true else bif strB .neq (m_impl_VersionText (m_laws_toVersion aV)) (m_spec_VersionText (m_laws_toVersion aV)) then false else bif !(m_laws_eqVersion (m_laws_toVersion aV) (m_laws_toVersion aV)) then false else true

end Go.Proofs.YtandefcnbemclaaDoor
