/-
  PLAIN MODELS of the Go functions that the law reaches, printed by a program of this claim. Conditions: none; nothing is claimed here.
-/
import Derived.Test.YtbflomopgofkgaaEngN
import Derived.Test.YtbflomopgofkgaaEngW
set_option linter.unusedVariables false
set_option linter.unusedSimpArgs false
set_option linter.unusedSectionVars false
set_option linter.unnecessarySimpa false
namespace Go.Proofs.Ytbflomopgofkgaa
open Go Go.RowKit Go.Proofs Go.Proofs.Ytbflomopgofkgaa.E
structure gSetting where
  Name : List UInt8
  Value : Int
instance : Inhabited gSetting := ⟨gSetting.mk default default⟩
abbrev gSetting.v (x : gSetting) : V := .st [.str x.Name, .int .i64 x.Value]
structure gChange where
  Kind : Int
  Setting : gSetting
instance : Inhabited gChange := ⟨gChange.mk default default⟩
abbrev gChange.v (x : gChange) : V := .st [.int .i64 x.Kind, .str x.Setting.Name, .int .i64 x.Setting.Value]

/-! ### laws_szSetting -/
def m_laws_szSetting (a : gSetting) (left : Int) : Int :=
  bif decide ((IntKind.wrap .i64 (left - (a.Name.length : Int))) < 0) then (-1) else IntKind.wrap .i64 (left - (a.Name.length : Int))

/-! ### laws_szSettingS -/
def m_laws_szSettingS_b1 (a : List gSetting) (left : Int) (rec1 : (Int × Int) → Int) (k1 : (Int × Int) → Int) (x1 : Int × Int) : Int :=
  bif decide (x1.2 < (a.length : Int)) then bif decide ((m_laws_szSetting (at' a x1.2) x1.1) < 0) then (-1) else rec1 (m_laws_szSetting (at' a x1.2) x1.1, x1.2 + 1) else k1 (x1.1, x1.2)
def m_laws_szSettingS (a : List gSetting) (left : Int) : Int :=
  bif decide ((IntKind.wrap .i64 (left - (a.length : Int))) < 0) then (-1) else LOOP (m_laws_szSettingS_b1 a left) (fun (x1 : Int × Int) => x1.1) (((a.length : Int) - 0 : Int).toNat + 1) (IntKind.wrap .i64 (left - (a.length : Int)), 0)

/-! ### laws_szChange -/
def m_laws_szChange (a : gChange) (left : Int) : Int :=
  bif decide ((m_laws_szSetting a.Setting left) < 0) then (-1) else m_laws_szSetting a.Setting left

/-! ### laws_szChangeS -/
def m_laws_szChangeS_b1 (a : List gChange) (left : Int) (rec1 : (Int × Int) → Int) (k1 : (Int × Int) → Int) (x1 : Int × Int) : Int :=
  bif decide (x1.2 < (a.length : Int)) then bif decide ((m_laws_szChange (at' a x1.2) x1.1) < 0) then (-1) else rec1 (m_laws_szChange (at' a x1.2) x1.1, x1.2 + 1) else k1 (x1.1, x1.2)
def m_laws_szChangeS (a : List gChange) (left : Int) : Int :=
  bif decide ((IntKind.wrap .i64 (left - (a.length : Int))) < 0) then (-1) else LOOP (m_laws_szChangeS_b1 a left) (fun (x1 : Int × Int) => x1.1) (((a.length : Int) - 0 : Int).toNat + 1) (IntKind.wrap .i64 (left - (a.length : Int)), 0)

/-! ### spec_l01Small -/
def m_spec_l01Small (c_ : Int) : Bool :=
  (decide (97 ≤ c_)) && (decide (c_ ≤ 122))

/-! ### spec_l01Digit -/
def m_spec_l01Digit (c_ : Int) : Bool :=
  (decide (48 ≤ c_)) && (decide (c_ ≤ 57))

/-! ### spec_l01Name -/
def m_spec_l01Name_b1 (s_ : List UInt8) (rec1 : Int → Bool) (k1 : Int → Bool) (x1 : Int) : Bool :=
  bif decide (x1 < (s_.length : Int)) then bif (!(m_spec_l01Small (((s_.getD x1.toNat 0).toNat : Nat) : Int))) && (!(m_spec_l01Digit (((s_.getD x1.toNat 0).toNat : Nat) : Int))) then false else rec1 (x1 + 1) else k1 x1
def m_spec_l01Name (s_ : List UInt8) : Bool :=
  bif ((strB .eql s_ ([] : List UInt8)) || (decide (10 < (s_.length : Int)))) || (!(m_spec_l01Small (((s_.getD (0 : Int).toNat 0).toNat : Nat) : Int))) then false else LOOP (m_spec_l01Name_b1 s_) (fun (x1 : Int) => true) (((s_.length : Int) - 0 : Int).toNat + 1) 0

/-! ### spec_l00In -/
def m_spec_l00In (n_ : Int) (low : Int) (high : Int) : Bool :=
  (decide (low ≤ n_)) && (decide (n_ ≤ high))

/-! ### spec_l27Setting -/
def m_spec_l27Setting (e : gSetting) : Bool :=
  (m_spec_l01Name e.Name) && (m_spec_l00In e.Value 0 1000)

/-! ### spec_l27State -/
def m_spec_l27State_b1 (list : List gSetting) (rec1 : Int → Bool) (k1 : Int → Bool) (x1 : Int) : Bool :=
  bif decide (x1 < (list.length : Int)) then bif (!(m_spec_l27Setting (at' list x1))) || ((decide (0 < x1)) && (strB .geq (at' list (x1 - 1)).Name (at' list x1).Name)) then false else rec1 (x1 + 1) else k1 x1
def m_spec_l27State (list : List gSetting) : Bool :=
  LOOP (m_spec_l27State_b1 list) (fun (x1 : Int) => decide ((list.length : Int) ≤ 24)) (((list.length : Int) - 0 : Int).toNat + 1) 0

/-! ### spec_l27Change -/
def m_spec_l27Change (c_ : gChange) : Bool :=
  (m_spec_l00In c_.Kind 1 2) && (m_spec_l27Setting c_.Setting)

/-! ### spec_l27Set -/
def m_spec_l27Set_b1 (list : List gSetting) (e : gSetting) (rec1 : ((List gSetting) × Bool × Int) → (List gSetting)) (k1 : ((List gSetting) × Bool × Int) → (List gSetting)) (x1 : (List gSetting) × Bool × Int) : (List gSetting) :=
  bif decide (x1.2.2 < (list.length : Int)) then JN (fun j6 => bif !x1.2.1 && (strB .geq (at' list x1.2.2).Name e.Name) then j6 (x1.1 ++ ([e] : List gSetting), true) else j6 (x1.1, x1.2.1)) (fun (v5 : (List gSetting) × Bool) => bif strB .neq (at' list x1.2.2).Name e.Name then rec1 (v5.1 ++ ([at' list x1.2.2] : List gSetting), v5.2, x1.2.2 + 1) else rec1 (v5.1, v5.2, x1.2.2 + 1)) else k1 (x1.1, x1.2.1, x1.2.2)
def m_spec_l27Set (list : List gSetting) (e : gSetting) : (List gSetting) :=
  LOOP (m_spec_l27Set_b1 list e) (fun (x1 : (List gSetting) × Bool × Int) => bif !x1.2.1 then x1.1 ++ ([e] : List gSetting) else x1.1) (((list.length : Int) - 0 : Int).toNat + 1) (([] : List gSetting), false, 0)

/-! ### spec_l27At -/
def m_spec_l27At_b1 (list : List gSetting) (name : List UInt8) (rec1 : Int → Int) (k1 : Int → Int) (x1 : Int) : Int :=
  bif decide (x1 < (list.length : Int)) then bif strB .eql (at' list x1).Name name then x1 else rec1 (x1 + 1) else k1 x1
def m_spec_l27At (list : List gSetting) (name : List UInt8) : Int :=
  LOOP (m_spec_l27At_b1 list name) (fun (x1 : Int) => (-1)) (((list.length : Int) - 0 : Int).toNat + 1) 0

/-! ### spec_ApplyChanges -/
def m_spec_ApplyChanges_b2 (list : List gSetting) (changes : List gChange) (x1 : Int) (rec2 : ((List gSetting) × Int) → ((List gSetting) × Int)) (k2 : ((List gSetting) × Int) → ((List gSetting) × Int)) (x2 : (List gSetting) × Int) : (List gSetting) × Int :=
  bif decide (x2.2 < (changes.length : Int)) then bif (at' changes x2.2).Kind == 1 then bif decide (24 < ((m_spec_l27Set x2.1 (at' changes x2.2).Setting).length : Int)) then (([] : List gSetting), 5) else rec2 (m_spec_l27Set x2.1 (at' changes x2.2).Setting, x2.2 + 1) else bif decide ((m_spec_l27At x2.1 (at' changes x2.2).Setting.Name) < 0) then (([] : List gSetting), 3) else bif !((strB .eql (at' x2.1 (m_spec_l27At x2.1 (at' changes x2.2).Setting.Name)).Name (at' changes x2.2).Setting.Name) && (((at' x2.1 (m_spec_l27At x2.1 (at' changes x2.2).Setting.Name)).Value == (at' changes x2.2).Setting.Value) && true)) then (([] : List gSetting), 6) else rec2 ((([] : List gSetting) ++ (pre' x2.1 (m_spec_l27At x2.1 (at' changes x2.2).Setting.Name))) ++ (cut' x2.1 (IntKind.wrap .i64 ((m_spec_l27At x2.1 (at' changes x2.2).Setting.Name) + 1)) (x2.1.length : Int)), x2.2 + 1) else k2 (x2.1, x2.2)
def m_spec_ApplyChanges_b1 (list : List gSetting) (changes : List gChange) (rec1 : Int → ((List gSetting) × Int)) (k1 : Int → ((List gSetting) × Int)) (x1 : Int) : (List gSetting) × Int :=
  bif decide (x1 < (changes.length : Int)) then bif !(m_spec_l27Change (at' changes x1)) then (([] : List gSetting), 1) else rec1 (x1 + 1) else k1 x1
def m_spec_ApplyChanges (list : List gSetting) (changes : List gChange) : (List gSetting) × Int :=
  bif !(m_spec_l27State list) then (([] : List gSetting), 1) else LOOP (m_spec_ApplyChanges_b1 list changes) (fun (x1 : Int) => LOOP (m_spec_ApplyChanges_b2 list changes x1) (fun (x2 : (List gSetting) × Int) => (x2.1, 0)) (((changes.length : Int) - 0 : Int).toNat + 1) (([] : List gSetting) ++ list, 0)) (((changes.length : Int) - 0 : Int).toNat + 1) 0

/-! ### laws_toSetting -/
def m_laws_toSetting (a : gSetting) : gSetting :=
  a

/-! ### laws_toSettingS -/
def m_laws_toSettingS_b1 (a : List gSetting) (rec1 : ((List gSetting) × Int) → (List gSetting)) (k1 : ((List gSetting) × Int) → (List gSetting)) (x1 : (List gSetting) × Int) : (List gSetting) :=
  bif decide (x1.2 < (a.length : Int)) then rec1 (put' x1.1 x1.2 (m_laws_toSetting (at' a x1.2)), x1.2 + 1) else k1 (x1.1, x1.2)
def m_laws_toSettingS (a : List gSetting) : (List gSetting) :=
  LOOP (m_laws_toSettingS_b1 a) (fun (x1 : (List gSetting) × Int) => x1.1) (((a.length : Int) - 0 : Int).toNat + 1) (List.replicate ((a.length : Int) : Int).toNat (gSetting.mk ([] : List UInt8) 0 : gSetting), 0)

/-! ### laws_toChange -/
def m_laws_toChange (a : gChange) : gChange :=
  gChange.mk a.Kind (m_laws_toSetting a.Setting)

/-! ### laws_toChangeS -/
def m_laws_toChangeS_b1 (a : List gChange) (rec1 : ((List gChange) × Int) → (List gChange)) (k1 : ((List gChange) × Int) → (List gChange)) (x1 : (List gChange) × Int) : (List gChange) :=
  bif decide (x1.2 < (a.length : Int)) then rec1 (put' x1.1 x1.2 (m_laws_toChange (at' a x1.2)), x1.2 + 1) else k1 (x1.1, x1.2)
def m_laws_toChangeS (a : List gChange) : (List gChange) :=
  LOOP (m_laws_toChangeS_b1 a) (fun (x1 : (List gChange) × Int) => x1.1) (((a.length : Int) - 0 : Int).toNat + 1) (List.replicate ((a.length : Int) : Int).toNat (gChange.mk 0 (gSetting.mk ([] : List UInt8) 0) : gChange), 0)

/-! ### impl_onlyNameBytes -/
def m_impl_onlyNameBytes_b1 (s_ : List UInt8) (rec1 : Int → Bool) (k1 : Int → Bool) (x1 : Int) : Bool :=
  bif decide (x1 < (s_.length : Int)) then bif ((decide ((((s_.getD x1.toNat 0).toNat : Nat) : Int) < 97)) || (decide (122 < (((s_.getD x1.toNat 0).toNat : Nat) : Int)))) && ((decide ((((s_.getD x1.toNat 0).toNat : Nat) : Int) < 48)) || (decide (57 < (((s_.getD x1.toNat 0).toNat : Nat) : Int)))) then false else rec1 (x1 + 1) else k1 x1
def m_impl_onlyNameBytes (s_ : List UInt8) : Bool :=
  LOOP (m_impl_onlyNameBytes_b1 s_) (fun (x1 : Int) => true) (((s_.length : Int) - 0 : Int).toNat + 1) 0

/-! ### impl_IsName -/
def m_impl_IsName (s_ : List UInt8) : Bool :=
  bif (((decide ((s_.length : Int) < 1)) || (decide (10 < (s_.length : Int)))) || (decide ((((s_.getD (0 : Int).toNat 0).toNat : Nat) : Int) < 97))) || (decide (122 < (((s_.getD (0 : Int).toNat 0).toNat : Nat) : Int))) then false else m_impl_onlyNameBytes s_

/-! ### impl_within -/
def m_impl_within (n_ : Int) (low : Int) (high : Int) : Bool :=
  (decide (low ≤ n_)) && (decide (n_ ≤ high))

/-! ### impl_Setting_valid -/
def m_impl_Setting_valid (x_ : gSetting) : Bool :=
  (m_impl_IsName x_.Name) && (m_impl_within x_.Value 0 1000)

/-! ### impl_ApplyChanges_1 -/
def m_impl_ApplyChanges_1 (c_ : gChange) : Bool :=
  ((c_.Kind != 1) && (c_.Kind != 2)) || (!(m_impl_Setting_valid c_.Setting))

/-! ### impl_ValidState -/
def m_impl_ValidState_b1 (list : List gSetting) (rec1 : Int → Bool) (k1 : Int → Bool) (x1 : Int) : Bool :=
  bif decide (x1 < (list.length : Int)) then bif (!(m_impl_Setting_valid (at' list x1))) || ((decide (0 < x1)) && (strB .leq (at' list x1).Name (at' list (x1 - 1)).Name)) then false else rec1 (x1 + 1) else k1 x1
def m_impl_ValidState (list : List gSetting) : Bool :=
  bif decide (24 < (list.length : Int)) then false else LOOP (m_impl_ValidState_b1 list) (fun (x1 : Int) => true) (((list.length : Int) - 0 : Int).toNat + 1) 0

/-! ### slices_IndexFunc_impl_Change -/
def m_slices_IndexFunc_impl_Change_b1 (s_ : List gChange) (f : (gChange → Bool)) (rec1 : Int → Int) (k1 : Int → Int) (x1 : Int) : Int :=
  bif decide (x1 < (s_.length : Int)) then bif f (at' s_ x1) then x1 else rec1 (x1 + 1) else k1 x1
def m_slices_IndexFunc_impl_Change (s_ : List gChange) (f : gChange → Bool) : Int :=
  LOOP (m_slices_IndexFunc_impl_Change_b1 s_ f) (fun (x1 : Int) => (-1)) (((s_.length : Int) - 0 : Int).toNat + 1) 0

/-! ### slices_ContainsFunc_impl_Change -/
def m_slices_ContainsFunc_impl_Change (s_ : List gChange) (f : gChange → Bool) : Bool :=
  decide (0 ≤ (m_slices_IndexFunc_impl_Change s_ f))

/-! ### slices_Clone_impl_Setting -/
def m_slices_Clone_impl_Setting (s_ : List gSetting) : (List gSetting) :=
  ([] : List gSetting) ++ s_

/-! ### slices_BinarySearchFunc_impl_Setting -/
def m_slices_BinarySearchFunc_impl_Setting_b1 (x_ : List gSetting) (target : gSetting) (cmp : (gSetting → gSetting → Int)) (rec1 : (Int × Int) → (Int × Bool)) (k1 : (Int × Int) → (Int × Bool)) (x1 : Int × Int) : Int × Bool :=
  bif decide (x1.1 < x1.2) then bif decide ((cmp (at' x_ (IntKind.wrap .i64 (Int.fdiv (IntKind.wrap .u64 (IntKind.wrap .i64 (x1.1 + x1.2))) (2 ^ min (1 : Int).toNat 64)))) target) < 0) then rec1 (IntKind.wrap .i64 ((IntKind.wrap .i64 (Int.fdiv (IntKind.wrap .u64 (IntKind.wrap .i64 (x1.1 + x1.2))) (2 ^ min (1 : Int).toNat 64))) + 1), x1.2) else rec1 (x1.1, IntKind.wrap .i64 (Int.fdiv (IntKind.wrap .u64 (IntKind.wrap .i64 (x1.1 + x1.2))) (2 ^ min (1 : Int).toNat 64))) else k1 (x1.1, x1.2)
def m_slices_BinarySearchFunc_impl_Setting (x_ : List gSetting) (target : gSetting) (cmp : gSetting → gSetting → Int) : Int × Bool :=
  LOOP (m_slices_BinarySearchFunc_impl_Setting_b1 x_ target cmp) (fun (x1 : Int × Int) => (x1.1, (decide (x1.1 < (x_.length : Int))) && ((cmp (at' x_ x1.1) target) == 0))) (x_.length + 1) (0, (x_.length : Int))

/-! ### cmp_isNaN_string -/
def m_cmp_isNaN_string (x_ : List UInt8) : Bool :=
  strB .neq x_ x_

/-! ### cmp_Compare_string -/
def m_cmp_Compare_string (x_ : List UInt8) (y : List UInt8) : Int :=
  bif m_cmp_isNaN_string x_ then bif m_cmp_isNaN_string y then 0 else (-1) else bif m_cmp_isNaN_string y then 1 else bif strB .lss x_ y then (-1) else bif strB .gtr x_ y then 1 else 0

/-! ### impl_compareSettings -/
def m_impl_compareSettings (a : gSetting) (b : gSetting) : Int :=
  m_cmp_Compare_string a.Name b.Name

/-! ### slices_Reverse_impl_Setting -/
def m_slices_Reverse_impl_Setting_b1 (s_ : List gSetting) (rec1 : ((List gSetting) × Int × Int) → (List gSetting)) (k1 : ((List gSetting) × Int × Int) → (List gSetting)) (x1 : (List gSetting) × Int × Int) : (List gSetting) :=
  bif decide (x1.2.1 < x1.2.2) then rec1 (put' (put' x1.1 x1.2.1 (at' x1.1 x1.2.2)) x1.2.2 (at' x1.1 x1.2.1), x1.2.1 + 1, x1.2.2 - 1) else k1 (x1.1, x1.2.1, x1.2.2)
def m_slices_Reverse_impl_Setting (s_ : List gSetting) : (List gSetting) :=
  LOOP (m_slices_Reverse_impl_Setting_b1 s_) (fun (x1 : (List gSetting) × Int × Int) => x1.1) (s_.length + 1) (s_, 0, (s_.length : Int) - 1)

/-! ### slices_Insert_impl_Setting -/
def m_slices_Insert_impl_Setting (s_ : List gSetting) (i : Int) (v : List gSetting) : (List gSetting) × (List gSetting) :=
  bif (v.length : Int) == 0 then (s_, v) else bif i == (s_.length : Int) then (s_ ++ v, v) else (ins s_ i v, v)

/-! ### slices_Delete_impl_Setting -/
def m_slices_Delete_impl_Setting (s_ : List gSetting) (i : Int) (j : Int) : (List gSetting) × (List gSetting) :=
  bif i == j then (s_, s_) else (pre' (cpy (cpy s_ (pre' s_ i).length (cut' s_ j (s_.length : Int))) (((pre' (cpy s_ (pre' s_ i).length (cut' s_ j (s_.length : Int))) (((pre' s_ i).length : Int) + ((cut' s_ j (s_.length : Int)).length : Int))).length : Int).toNat) (List.replicate ((s_.length : Int).toNat - ((pre' (cpy s_ (pre' s_ i).length (cut' s_ j (s_.length : Int))) (((pre' s_ i).length : Int) + ((cut' s_ j (s_.length : Int)).length : Int))).length : Int).toNat) (gSetting.mk ([] : List UInt8) 0 : gSetting))) (((pre' s_ i).length : Int) + ((cut' s_ j (s_.length : Int)).length : Int)), pre' (cpy (cpy s_ (pre' s_ i).length (cut' s_ j (s_.length : Int))) (((pre' (cpy s_ (pre' s_ i).length (cut' s_ j (s_.length : Int))) (((pre' s_ i).length : Int) + ((cut' s_ j (s_.length : Int)).length : Int))).length : Int).toNat) (List.replicate ((s_.length : Int).toNat - ((pre' (cpy s_ (pre' s_ i).length (cut' s_ j (s_.length : Int))) (((pre' s_ i).length : Int) + ((cut' s_ j (s_.length : Int)).length : Int))).length : Int).toNat) (gSetting.mk ([] : List UInt8) 0 : gSetting))) (((pre' s_ i).length : Int) + ((cut' s_ j (s_.length : Int)).length : Int)))

/-! ### impl_ApplyChanges -/
def m_impl_ApplyChanges_b1 (list : List gSetting) (changes : List gChange) (rec1 : ((List gSetting) × Int) → ((List gSetting) × Int)) (k1 : ((List gSetting) × Int) → ((List gSetting) × Int)) (x1 : (List gSetting) × Int) : (List gSetting) × Int :=
  bif decide (x1.2 < (changes.length : Int)) then bif ((at' changes x1.2).Kind == 1) && (m_slices_BinarySearchFunc_impl_Setting x1.1 (at' changes x1.2).Setting (fun (a0 : gSetting) (a1 : gSetting) => m_impl_compareSettings a0 a1)).2 then rec1 (put' x1.1 (m_slices_BinarySearchFunc_impl_Setting x1.1 (at' changes x1.2).Setting (fun (a0 : gSetting) (a1 : gSetting) => m_impl_compareSettings a0 a1)).1 (at' changes x1.2).Setting, x1.2 + 1) else bif ((at' changes x1.2).Kind == 1) && ((x1.1.length : Int) == 24) then (([] : List gSetting), 5) else bif (at' changes x1.2).Kind == 1 then rec1 ((m_slices_Insert_impl_Setting x1.1 (m_slices_BinarySearchFunc_impl_Setting x1.1 (at' changes x1.2).Setting (fun (a0 : gSetting) (a1 : gSetting) => m_impl_compareSettings a0 a1)).1 ([(at' changes x1.2).Setting] : List gSetting)).1, x1.2 + 1) else bif !(m_slices_BinarySearchFunc_impl_Setting x1.1 (at' changes x1.2).Setting (fun (a0 : gSetting) (a1 : gSetting) => m_impl_compareSettings a0 a1)).2 then (([] : List gSetting), 3) else bif !((strB .eql (at' x1.1 (m_slices_BinarySearchFunc_impl_Setting x1.1 (at' changes x1.2).Setting (fun (a0 : gSetting) (a1 : gSetting) => m_impl_compareSettings a0 a1)).1).Name (at' changes x1.2).Setting.Name) && (((at' x1.1 (m_slices_BinarySearchFunc_impl_Setting x1.1 (at' changes x1.2).Setting (fun (a0 : gSetting) (a1 : gSetting) => m_impl_compareSettings a0 a1)).1).Value == (at' changes x1.2).Setting.Value) && true)) then (([] : List gSetting), 6) else rec1 ((m_slices_Delete_impl_Setting x1.1 (m_slices_BinarySearchFunc_impl_Setting x1.1 (at' changes x1.2).Setting (fun (a0 : gSetting) (a1 : gSetting) => m_impl_compareSettings a0 a1)).1 (IntKind.wrap .i64 ((m_slices_BinarySearchFunc_impl_Setting x1.1 (at' changes x1.2).Setting (fun (a0 : gSetting) (a1 : gSetting) => m_impl_compareSettings a0 a1)).1 + 1))).1, x1.2 + 1) else k1 (x1.1, x1.2)
def m_impl_ApplyChanges (list : List gSetting) (changes : List gChange) : (List gSetting) × Int :=
  bif (!(m_impl_ValidState list)) || (m_slices_ContainsFunc_impl_Change changes (fun (a0 : gChange) => m_impl_ApplyChanges_1 a0)) then (([] : List gSetting), 1) else LOOP (m_impl_ApplyChanges_b1 list changes) (fun (x1 : (List gSetting) × Int) => (x1.1, 0)) (((changes.length : Int) - 0 : Int).toNat + 1) (m_slices_Clone_impl_Setting list, 0)

/-! ### laws_eqSetting -/
def m_laws_eqSetting (a : gSetting) (b : gSetting) : Bool :=
  bif strB .neq a.Name b.Name then false else bif a.Value != b.Value then false else true

/-! ### laws_eqSettingS -/
def m_laws_eqSettingS_b1 (a : List gSetting) (b : List gSetting) (rec1 : Int → Bool) (k1 : Int → Bool) (x1 : Int) : Bool :=
  bif decide (x1 < (a.length : Int)) then bif !(m_laws_eqSetting (at' a x1) (at' b x1)) then false else rec1 (x1 + 1) else k1 x1
def m_laws_eqSettingS (a : List gSetting) (b : List gSetting) : Bool :=
  bif (a.length : Int) != (b.length : Int) then false else LOOP (m_laws_eqSettingS_b1 a b) (fun (x1 : Int) => true) (((a.length : Int) - 0 : Int).toNat + 1) 0

/-! ### laws_eqChange -/
def m_laws_eqChange (a : gChange) (b : gChange) : Bool :=
  bif a.Kind != b.Kind then false else bif !(m_laws_eqSetting a.Setting b.Setting) then false else true

/-! ### laws_eqChangeS -/
def m_laws_eqChangeS_b1 (a : List gChange) (b : List gChange) (rec1 : Int → Bool) (k1 : Int → Bool) (x1 : Int) : Bool :=
  bif decide (x1 < (a.length : Int)) then bif !(m_laws_eqChange (at' a x1) (at' b x1)) then false else rec1 (x1 + 1) else k1 x1
def m_laws_eqChangeS (a : List gChange) (b : List gChange) : Bool :=
  bif (a.length : Int) != (b.length : Int) then false else LOOP (m_laws_eqChangeS_b1 a b) (fun (x1 : Int) => true) (((a.length : Int) - 0 : Int).toNat + 1) 0

/-! ### laws_markText -/
def m_laws_markText_b1 (k_ : Int) (rec1 : (Int × (List UInt8)) → (List UInt8)) (k1 : (Int × (List UInt8)) → (List UInt8)) (x1 : Int × (List UInt8)) : (List UInt8) :=
  bif decide (0 < x1.1) then rec1 (IntKind.wrap .i64 (Int.tdiv x1.1 10), (chars ([IntKind.wrap .u8 (IntKind.wrap .i64 (48 + (Int.tmod x1.1 10)))] : List Int)) ++ x1.2) else k1 (x1.1, x1.2)
def m_laws_markText (k_ : Int) : (List UInt8) :=
  bif decide (k_ ≤ 0) then ([109, 48] : List UInt8) else LOOP (m_laws_markText_b1 k_) (fun (x1 : Int × (List UInt8)) => ([109] : List UInt8) ++ x1.2) (k_.toNat + 1) (k_, ([] : List UInt8))

/-! ### laws_markSettingS -/
def m_laws_markSettingS_b1 (a : List gSetting) (k_ : Int) (rec1 : ((List gSetting) × Int × Int) → (Int × (List gSetting))) (k1 : ((List gSetting) × Int × Int) → (Int × (List gSetting))) (x1 : (List gSetting) × Int × Int) : Int × (List gSetting) :=
  bif decide (x1.2.2 < (x1.1.length : Int)) then rec1 (put' x1.1 x1.2.2 (gSetting.mk (m_laws_markText x1.2.1) (IntKind.wrap .i64 (x1.2.1 + 1))), IntKind.wrap .i64 ((IntKind.wrap .i64 (x1.2.1 + 1)) + 1), x1.2.2 + 1) else k1 (x1.1, x1.2.1, x1.2.2)
def m_laws_markSettingS (a : List gSetting) (k_ : Int) : Int × (List gSetting) :=
  LOOP (m_laws_markSettingS_b1 a k_) (fun (x1 : (List gSetting) × Int × Int) => (x1.2.1, x1.1)) (((a.length : Int) - 0 : Int).toNat + 1) (a, k_, 0)

/-! ### laws_markChangeS -/
def m_laws_markChangeS_b1 (a : List gChange) (k_ : Int) (rec1 : ((List gChange) × Int × Int) → (Int × (List gChange))) (k1 : ((List gChange) × Int × Int) → (Int × (List gChange))) (x1 : (List gChange) × Int × Int) : Int × (List gChange) :=
  bif decide (x1.2.2 < (x1.1.length : Int)) then rec1 (put' x1.1 x1.2.2 (gChange.mk x1.2.1 (gSetting.mk (m_laws_markText (IntKind.wrap .i64 (x1.2.1 + 1))) (IntKind.wrap .i64 ((IntKind.wrap .i64 (x1.2.1 + 1)) + 1)))), IntKind.wrap .i64 ((IntKind.wrap .i64 ((IntKind.wrap .i64 (x1.2.1 + 1)) + 1)) + 1), x1.2.2 + 1) else k1 (x1.1, x1.2.1, x1.2.2)
def m_laws_markChangeS (a : List gChange) (k_ : Int) : Int × (List gChange) :=
  LOOP (m_laws_markChangeS_b1 a k_) (fun (x1 : (List gChange) × Int × Int) => (x1.2.1, x1.1)) (((a.length : Int) - 0 : Int).toNat + 1) (a, k_, 0)

/-! ### laws_heldSettingS -/
def m_laws_heldSettingS_b1 (a : List gSetting) (k_ : Int) (rec1 : (Int × Int) → Int) (k1 : (Int × Int) → Int) (x1 : Int × Int) : Int :=
  bif decide (x1.2 < (a.length : Int)) then bif strB .neq (at' a x1.2).Name (m_laws_markText x1.1) then (-1) else bif (at' a x1.2).Value != (IntKind.wrap .i64 (x1.1 + 1)) then (-1) else rec1 (IntKind.wrap .i64 ((IntKind.wrap .i64 (x1.1 + 1)) + 1), x1.2 + 1) else k1 (x1.1, x1.2)
def m_laws_heldSettingS (a : List gSetting) (k_ : Int) : Int :=
  LOOP (m_laws_heldSettingS_b1 a k_) (fun (x1 : Int × Int) => x1.1) (((a.length : Int) - 0 : Int).toNat + 1) (k_, 0)

/-! ### laws_FnExactApplyChanges -/
def m_laws_FnExactApplyChanges (aList : List gSetting) (aChanges : List gChange) : Bool :=
  bif decide ((m_laws_szSettingS aList 1048576) < 0) then true else bif decide ((m_laws_szChangeS aChanges (m_laws_szSettingS aList 1048576)) < 0) then true else bif (!(m_laws_eqSettingS (m_impl_ApplyChanges (m_laws_toSettingS aList) (m_laws_toChangeS aChanges)).1 (m_spec_ApplyChanges (m_laws_toSettingS aList) (m_laws_toChangeS aChanges)).1)) || ((m_impl_ApplyChanges (m_laws_toSettingS aList) (m_laws_toChangeS aChanges)).2 != (m_spec_ApplyChanges (m_laws_toSettingS aList) (m_laws_toChangeS aChanges)).2) then false else bif !(m_laws_eqSettingS (m_laws_toSettingS aList) (m_laws_toSettingS aList)) then false else bif !(m_laws_eqChangeS (m_laws_toChangeS aChanges) (m_laws_toChangeS aChanges)) then false else bif ((decide ((m_laws_markChangeS (m_laws_toChangeS aChanges) (m_laws_markSettingS (m_laws_toSettingS aList) 1).1).1 < 0)) || (!(m_laws_eqSettingS (m_impl_ApplyChanges (m_laws_toSettingS aList) (m_laws_toChangeS aChanges)).1 (m_spec_ApplyChanges (m_laws_toSettingS aList) (m_laws_toChangeS aChanges)).1))) || ((m_impl_ApplyChanges (m_laws_toSettingS aList) (m_laws_toChangeS aChanges)).2 != (m_spec_ApplyChanges (m_laws_toSettingS aList) (m_laws_toChangeS aChanges)).2) then false else bif decide ((m_laws_heldSettingS (m_laws_markSettingS (m_impl_ApplyChanges (m_laws_toSettingS aList) (m_laws_toChangeS aChanges)).1 1).2 1) < 0) then false else bif (m_laws_heldSettingS (m_laws_markSettingS (m_impl_ApplyChanges (m_laws_toSettingS aList) (m_laws_toChangeS aChanges)).1 1).2 1) != (m_laws_markSettingS (m_impl_ApplyChanges (m_laws_toSettingS aList) (m_laws_toChangeS aChanges)).1 1).1 then false else bif (!(m_laws_eqSettingS (m_impl_ApplyChanges (m_laws_toSettingS aList) (m_laws_toChangeS aChanges)).1 (m_spec_ApplyChanges (m_laws_toSettingS aList) (m_laws_toChangeS aChanges)).1)) || ((m_impl_ApplyChanges (m_laws_toSettingS aList) (m_laws_toChangeS aChanges)).2 != (m_spec_ApplyChanges (m_laws_toSettingS aList) (m_laws_toChangeS aChanges)).2) then false else bif decide ((m_laws_heldSettingS (m_laws_markSettingS (m_impl_ApplyChanges (m_laws_toSettingS aList) (m_laws_toChangeS aChanges)).1 1).2 1) < 0) then false else bif (m_laws_heldSettingS (m_laws_markSettingS (m_impl_ApplyChanges (m_laws_toSettingS aList) (m_laws_toChangeS aChanges)).1 1).2 1) != (m_laws_markSettingS (m_impl_ApplyChanges (m_laws_toSettingS aList) (m_laws_toChangeS aChanges)).1 1).1 then false else true

end Go.Proofs.Ytbflomopgofkgaa
