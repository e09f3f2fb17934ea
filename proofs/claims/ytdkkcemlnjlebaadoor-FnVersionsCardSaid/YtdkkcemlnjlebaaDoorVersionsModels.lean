/-
  PLAIN MODELS of the Go functions that the law reaches, printed by a program of this claim. Conditions: none; nothing is claimed here.
-/
import Derived.Test.YtdkkcemlnjlebaaDoorEngN
import Derived.Test.YtdkkcemlnjlebaaDoorEngW
import Derived.Lib.ItoaNum
import Derived.Lib.Join
set_option linter.unusedVariables false
set_option linter.unusedSimpArgs false
set_option linter.unusedSectionVars false
set_option linter.unnecessarySimpa false
namespace Go.Proofs.YtdkkcemlnjlebaaDoor
open Go Go.RowKit Go.Proofs Go.Proofs.YtdkkcemlnjlebaaDoor.E
structure gSetting where
  Name : List UInt8
  Value : Int
instance : Inhabited gSetting := ⟨gSetting.mk default default⟩
abbrev gSetting.v (x : gSetting) : V := .st [.str x.Name, .int .i64 x.Value]
structure gVersion where
  Number : Int
  Parent : Int
  Memo : List UInt8
  State : List gSetting
instance : Inhabited gVersion := ⟨gVersion.mk default default default default⟩
abbrev gVersion.v (x : gVersion) : V := .st [.int .i64 x.Number, .int .i64 x.Parent, .str x.Memo, .sl 2 (x.State.map gSetting.v)]
structure gl00Src where
  code : List Int
  at_ : Int
  seed : Int
instance : Inhabited gl00Src := ⟨gl00Src.mk default default default⟩
abbrev gl00Src.v (x : gl00Src) : V := .st [.sl 1 (x.code.map (V.int .u8)), .int .i64 x.at_, .int .u64 x.seed]
structure gChange where
  Kind : Int
  Setting : gSetting
instance : Inhabited gChange := ⟨gChange.mk default default⟩
abbrev gChange.v (x : gChange) : V := .st [.int .i64 x.Kind, .str x.Setting.Name, .int .i64 x.Setting.Value]

/-! ### impl_within -/
def m_impl_within (n_ : Int) (low : Int) (high : Int) : Bool :=
  (decide (low ≤ n_)) && (decide (n_ ≤ high))

/-! ### impl_onlyNameBytes -/
def m_impl_onlyNameBytes_b1 (s_ : List UInt8) (rec1 : Int → Bool) (k1 : Int → Bool) (x1 : Int) : Bool :=
  bif decide (x1 < (s_.length : Int)) then bif ((decide ((((s_.getD x1.toNat 0).toNat : Nat) : Int) < 97)) || (decide (122 < (((s_.getD x1.toNat 0).toNat : Nat) : Int)))) && ((decide ((((s_.getD x1.toNat 0).toNat : Nat) : Int) < 48)) || (decide (57 < (((s_.getD x1.toNat 0).toNat : Nat) : Int)))) then false else rec1 (x1 + 1) else k1 x1
def m_impl_onlyNameBytes (s_ : List UInt8) : Bool :=
  LOOP (m_impl_onlyNameBytes_b1 s_) (fun (x1 : Int) => true) (((s_.length : Int) - 0 : Int).toNat + 1) 0

/-! ### impl_IsName -/
def m_impl_IsName (s_ : List UInt8) : Bool :=
  bif (((decide ((s_.length : Int) < 1)) || (decide (10 < (s_.length : Int)))) || (decide ((((s_.getD (0 : Int).toNat 0).toNat : Nat) : Int) < 97))) || (decide (122 < (((s_.getD (0 : Int).toNat 0).toNat : Nat) : Int))) then false else m_impl_onlyNameBytes s_

/-! ### impl_Setting_valid -/
def m_impl_Setting_valid (x_ : gSetting) : Bool :=
  (m_impl_IsName x_.Name) && (m_impl_within x_.Value 0 1000)

/-! ### impl_ValidState -/
def m_impl_ValidState_b1 (list : List gSetting) (rec1 : Int → Bool) (k1 : Int → Bool) (x1 : Int) : Bool :=
  bif decide (x1 < (list.length : Int)) then bif (!(m_impl_Setting_valid (at' list x1))) || ((decide (0 < x1)) && (strB .leq (at' list x1).Name (at' list (x1 - 1)).Name)) then false else rec1 (x1 + 1) else k1 x1
def m_impl_ValidState (list : List gSetting) : Bool :=
  bif decide (24 < (list.length : Int)) then false else LOOP (m_impl_ValidState_b1 list) (fun (x1 : Int) => true) (((list.length : Int) - 0 : Int).toNat + 1) 0

/-! ### impl_bytesWithin -/
def m_impl_bytesWithin_b1 (s_ : List UInt8) (low : Int) (high : Int) (rec1 : Int → Bool) (k1 : Int → Bool) (x1 : Int) : Bool :=
  bif decide (x1 < (s_.length : Int)) then bif (decide ((((s_.getD x1.toNat 0).toNat : Nat) : Int) < low)) || (decide (high < (((s_.getD x1.toNat 0).toNat : Nat) : Int))) then false else rec1 (x1 + 1) else k1 x1
def m_impl_bytesWithin (s_ : List UInt8) (low : Int) (high : Int) : Bool :=
  LOOP (m_impl_bytesWithin_b1 s_ low high) (fun (x1 : Int) => true) (((s_.length : Int) - 0 : Int).toNat + 1) 0

/-! ### impl_memoValid -/
def m_impl_memoValid (memo : List UInt8) : Bool :=
  (decide ((memo.length : Int) ≤ 20)) && (m_impl_bytesWithin memo 32 126)

/-! ### impl_ValidHistory -/
def m_impl_ValidHistory_b1 (list : List gVersion) (rec1 : Int → Bool) (k1 : Int → Bool) (x1 : Int) : Bool :=
  bif decide (x1 < (list.length : Int)) then bif ((((at' list x1).Number != (x1 + 1)) || (!(m_impl_within (at' list x1).Parent 0 x1))) || (!(m_impl_memoValid (at' list x1).Memo))) || (!(m_impl_ValidState (at' list x1).State)) then false else rec1 (x1 + 1) else k1 x1
def m_impl_ValidHistory (list : List gVersion) : Bool :=
  bif decide (32 < (list.length : Int)) then false else LOOP (m_impl_ValidHistory_b1 list) (fun (x1 : Int) => true) (((list.length : Int) - 0 : Int).toNat + 1) 0

/-! ### slices_IndexFunc_int64 -/
def m_slices_IndexFunc_int64_b1 (s_ : List Int) (f : (Int → Bool)) (rec1 : Int → Int) (k1 : Int → Int) (x1 : Int) : Int :=
  bif decide (x1 < (s_.length : Int)) then bif f (at' s_ x1) then x1 else rec1 (x1 + 1) else k1 x1
def m_slices_IndexFunc_int64 (s_ : List Int) (f : Int → Bool) : Int :=
  LOOP (m_slices_IndexFunc_int64_b1 s_ f) (fun (x1 : Int) => (-1)) (((s_.length : Int) - 0 : Int).toNat + 1) 0

/-! ### slices_ContainsFunc_int64 -/
def m_slices_ContainsFunc_int64 (s_ : List Int) (f : Int → Bool) : Bool :=
  decide (0 ≤ (m_slices_IndexFunc_int64 s_ f))

/-! ### impl_allWithin_1 -/
def m_impl_allWithin_1 (n_ : Int) (p1 : Int) (p2 : Int) : Bool :=
  !(m_impl_within n_ p1 p2)

/-! ### impl_allWithin -/
def m_impl_allWithin (list : List Int) (low : Int) (high : Int) : Bool :=
  !(m_slices_ContainsFunc_int64 list (fun (a0 : Int) => m_impl_allWithin_1 a0 low high))

/-! ### impl_versionsCode -/
def m_impl_versionsCode (list : List gVersion) (numbers : List Int) : Int :=
  bif !(m_impl_ValidHistory list) then 1 else bif !(m_impl_allWithin numbers 1 (list.length : Int)) then 3 else 0

/-! ### slices_Clone_impl_Setting -/
def m_slices_Clone_impl_Setting (s_ : List gSetting) : (List gSetting) :=
  ([] : List gSetting) ++ s_

/-! ### slices_Clone_impl_Version -/
def m_slices_Clone_impl_Version (s_ : List gVersion) : (List gVersion) :=
  ([] : List gVersion) ++ s_

/-! ### impl_withVersion -/
def m_impl_withVersion_b1 (list : List gVersion) (parent : Int) (memo : List UInt8) (state : List gSetting) (rec1 : ((List gVersion) × Int) → ((List gVersion) × Int)) (k1 : ((List gVersion) × Int) → ((List gVersion) × Int)) (x1 : (List gVersion) × Int) : (List gVersion) × Int :=
  bif decide (x1.2 < (((m_slices_Clone_impl_Version list) ++ ([gVersion.mk ((list.length : Int) + 1) parent memo state] : List gVersion)).length : Int)) then rec1 (x1.1 ++ ([gVersion.mk (at' ((m_slices_Clone_impl_Version list) ++ ([gVersion.mk ((list.length : Int) + 1) parent memo state] : List gVersion)) x1.2).Number (at' ((m_slices_Clone_impl_Version list) ++ ([gVersion.mk ((list.length : Int) + 1) parent memo state] : List gVersion)) x1.2).Parent (at' ((m_slices_Clone_impl_Version list) ++ ([gVersion.mk ((list.length : Int) + 1) parent memo state] : List gVersion)) x1.2).Memo (m_slices_Clone_impl_Setting (at' ((m_slices_Clone_impl_Version list) ++ ([gVersion.mk ((list.length : Int) + 1) parent memo state] : List gVersion)) x1.2).State)] : List gVersion), x1.2 + 1) else k1 (x1.1, x1.2)
def m_impl_withVersion (list : List gVersion) (parent : Int) (memo : List UInt8) (state : List gSetting) : (List gVersion) × Int :=
  bif (list.length : Int) == 32 then (([] : List gVersion), 5) else LOOP (m_impl_withVersion_b1 list parent memo state) (fun (x1 : (List gVersion) × Int) => (x1.1, 0)) (((((m_slices_Clone_impl_Version list) ++ ([gVersion.mk ((list.length : Int) + 1) parent memo state] : List gVersion)).length : Int) - 0 : Int).toNat + 1) (([] : List gVersion), 0)

/-! ### strconv_FormatInt -/
def m_strconv_FormatInt (i : Int) (base : Int) : (List UInt8) := Lib.itoa i

/-! ### impl_Decimal -/
def m_impl_Decimal (n_ : Int) : (List UInt8) :=
  m_strconv_FormatInt n_ 10

/-! ### impl_versionState -/
def m_impl_versionState (list : List gVersion) (number : Int) : (List gSetting) :=
  bif number == 0 then ([] : List gSetting) else (at' list (IntKind.wrap .i64 (number - 1))).State

/-! ### impl_UndoVersion -/
def m_impl_UndoVersion (list : List gVersion) (number : Int) : (List gVersion) × Int :=
  bif (m_impl_versionsCode list ([number] : List Int)) != 0 then (([] : List gVersion), m_impl_versionsCode list ([number] : List Int)) else ((m_impl_withVersion list number (([117, 110, 100, 111, 32] : List UInt8) ++ (m_impl_Decimal number)) (m_impl_versionState list (at' list (IntKind.wrap .i64 (number - 1))).Parent)).1, (m_impl_withVersion list number (([117, 110, 100, 111, 32] : List UInt8) ++ (m_impl_Decimal number)) (m_impl_versionState list (at' list (IntKind.wrap .i64 (number - 1))).Parent)).2)

/-! ### laws_r8Long -/
def m_laws_r8Long (code : List Int) (more : List Int) : Bool :=
  (decide (1048576 < (code.length : Int))) || (decide (1048576 < (more.length : Int)))

/-! ### spec_l00From -/
def m_spec_l00From (code : List Int) : gl00Src :=
  gl00Src.mk code 0 0

/-! ### spec_l00Src_next -/
def m_spec_l00Src_next (s_ : gl00Src) : Int × gl00Src :=
  JN (fun j3 => bif decide (s_.at_ < (s_.code.length : Int)) then j3 (IntKind.wrap .i64 (at' s_.code s_.at_)) else j3 0) (fun (v2 : Int) => bif decide ((IntKind.wrap .i64 (s_.at_ + 1)) ≤ (s_.code.length : Int)) then (v2, gl00Src.mk s_.code (IntKind.wrap .i64 (s_.at_ + 1)) (IntKind.wrap .u64 ((IntKind.wrap .u64 ((IntKind.wrap .u64 (s_.seed * 6364136223846793005)) + (IntKind.wrap .u64 v2))) + 1442695040888963407))) else (IntKind.wrap .i64 (IntKind.wrap .u64 ((((BitVec.ofInt (IntKind.bits .u64) (Int.fdiv (IntKind.wrap .u64 ((IntKind.wrap .u64 ((IntKind.wrap .u64 (s_.seed * 6364136223846793005)) + (IntKind.wrap .u64 v2))) + 1442695040888963407)) (2 ^ min (40 : Int).toNat 64))) &&& (BitVec.ofInt (IntKind.bits .u64) 255)).toNat : Nat) : Int)), gl00Src.mk s_.code (IntKind.wrap .i64 (s_.at_ + 1)) (IntKind.wrap .u64 ((IntKind.wrap .u64 ((IntKind.wrap .u64 (s_.seed * 6364136223846793005)) + (IntKind.wrap .u64 v2))) + 1442695040888963407))))

/-! ### spec_l00Src_pick -/
def m_spec_l00Src_pick (s_ : gl00Src) (n_ : Int) : Int × gl00Src :=
  bif decide (n_ ≤ 1) then (0, s_) else bif decide (200 < n_) then (Int.tmod (IntKind.wrap .i64 ((IntKind.wrap .i64 ((m_spec_l00Src_next s_).1 * 256)) + (m_spec_l00Src_next (m_spec_l00Src_next s_).2).1)) n_, (m_spec_l00Src_next (m_spec_l00Src_next s_).2).2) else (Int.tmod (m_spec_l00Src_next s_).1 n_, (m_spec_l00Src_next s_).2)

/-! ### spec_l00Src_one -/
def m_spec_l00Src_one (s_ : gl00Src) (n_ : Int) : Bool × gl00Src :=
  ((m_spec_l00Src_pick s_ n_).1 == 0, (m_spec_l00Src_pick s_ n_).2)

/-! ### spec_l27DrawState -/
def m_spec_l27DrawState_b1 (s_ : gl00Src) (rec1 : ((List Int) × Int × Int × (List gSetting) × Int) → ((List gSetting) × gl00Src)) (k1 : ((List Int) × Int × Int × (List gSetting) × Int) → ((List gSetting) × gl00Src)) (x1 : (List Int) × Int × Int × (List gSetting) × Int) : (List gSetting) × gl00Src :=
  bif decide (x1.2.2.2.2 < 5) then bif (m_spec_l00Src_one (gl00Src.mk x1.1 x1.2.1 x1.2.2.1) 2).1 then rec1 ((m_spec_l00Src_pick (m_spec_l00Src_one (gl00Src.mk x1.1 x1.2.1 x1.2.2.1) 2).2 1001).2.code, (m_spec_l00Src_pick (m_spec_l00Src_one (gl00Src.mk x1.1 x1.2.1 x1.2.2.1) 2).2 1001).2.at_, (m_spec_l00Src_pick (m_spec_l00Src_one (gl00Src.mk x1.1 x1.2.1 x1.2.2.1) 2).2 1001).2.seed, x1.2.2.2.1 ++ ([gSetting.mk (at' ([([97] : List UInt8), ([98] : List UInt8), ([99] : List UInt8), ([100] : List UInt8), ([101] : List UInt8)] : List (List UInt8)) x1.2.2.2.2) (m_spec_l00Src_pick (m_spec_l00Src_one (gl00Src.mk x1.1 x1.2.1 x1.2.2.1) 2).2 1001).1] : List gSetting), x1.2.2.2.2 + 1) else rec1 ((m_spec_l00Src_one (gl00Src.mk x1.1 x1.2.1 x1.2.2.1) 2).2.code, (m_spec_l00Src_one (gl00Src.mk x1.1 x1.2.1 x1.2.2.1) 2).2.at_, (m_spec_l00Src_one (gl00Src.mk x1.1 x1.2.1 x1.2.2.1) 2).2.seed, x1.2.2.2.1, x1.2.2.2.2 + 1) else k1 (x1.1, x1.2.1, x1.2.2.1, x1.2.2.2.1, x1.2.2.2.2)
def m_spec_l27DrawState (s_ : gl00Src) : (List gSetting) × gl00Src :=
  LOOP (m_spec_l27DrawState_b1 s_) (fun (x1 : (List Int) × Int × Int × (List gSetting) × Int) => (x1.2.2.2.1, gl00Src.mk x1.1 x1.2.1 x1.2.2.1)) ((5 - 0 : Int).toNat + 1) (s_.code, s_.at_, s_.seed, ([] : List gSetting), 0)

/-! ### spec_l27At -/
def m_spec_l27At_b1 (list : List gSetting) (name : List UInt8) (rec1 : Int → Int) (k1 : Int → Int) (x1 : Int) : Int :=
  bif decide (x1 < (list.length : Int)) then bif strB .eql (at' list x1).Name name then x1 else rec1 (x1 + 1) else k1 x1
def m_spec_l27At (list : List gSetting) (name : List UInt8) : Int :=
  LOOP (m_spec_l27At_b1 list name) (fun (x1 : Int) => (-1)) (((list.length : Int) - 0 : Int).toNat + 1) 0

/-! ### spec_l27Set -/
def m_spec_l27Set_b1 (list : List gSetting) (e : gSetting) (rec1 : ((List gSetting) × Bool × Int) → (List gSetting)) (k1 : ((List gSetting) × Bool × Int) → (List gSetting)) (x1 : (List gSetting) × Bool × Int) : (List gSetting) :=
  bif decide (x1.2.2 < (list.length : Int)) then JN (fun j6 => bif !x1.2.1 && (strB .geq (at' list x1.2.2).Name e.Name) then j6 (x1.1 ++ ([e] : List gSetting), true) else j6 (x1.1, x1.2.1)) (fun (v5 : (List gSetting) × Bool) => bif strB .neq (at' list x1.2.2).Name e.Name then rec1 (v5.1 ++ ([at' list x1.2.2] : List gSetting), v5.2, x1.2.2 + 1) else rec1 (v5.1, v5.2, x1.2.2 + 1)) else k1 (x1.1, x1.2.1, x1.2.2)
def m_spec_l27Set (list : List gSetting) (e : gSetting) : (List gSetting) :=
  LOOP (m_spec_l27Set_b1 list e) (fun (x1 : (List gSetting) × Bool × Int) => bif !x1.2.1 then x1.1 ++ ([e] : List gSetting) else x1.1) (((list.length : Int) - 0 : Int).toNat + 1) (([] : List gSetting), false, 0)

/-! ### spec_l27Changed -/
def m_spec_l27Changed_b1 (s_ : gl00Src) (list : List gSetting) (rec1 : ((List Int) × Int × Int × (List gSetting) × Int) → ((List gSetting) × gl00Src)) (k1 : ((List Int) × Int × Int × (List gSetting) × Int) → ((List gSetting) × gl00Src)) (x1 : (List Int) × Int × Int × (List gSetting) × Int) : (List gSetting) × gl00Src :=
  bif decide (0 < x1.2.2.2.2) then bif (decide (0 ≤ (m_spec_l27At x1.2.2.2.1 (at' ([([97] : List UInt8), ([98] : List UInt8), ([99] : List UInt8), ([100] : List UInt8), ([101] : List UInt8), ([102] : List UInt8)] : List (List UInt8)) (m_spec_l00Src_pick (gl00Src.mk x1.1 x1.2.1 x1.2.2.1) 6).1)))) && (m_spec_l00Src_one (m_spec_l00Src_pick (gl00Src.mk x1.1 x1.2.1 x1.2.2.1) 6).2 2).1 then rec1 ((bif (decide (0 ≤ (m_spec_l27At x1.2.2.2.1 (at' ([([97] : List UInt8), ([98] : List UInt8), ([99] : List UInt8), ([100] : List UInt8), ([101] : List UInt8), ([102] : List UInt8)] : List (List UInt8)) (m_spec_l00Src_pick (gl00Src.mk x1.1 x1.2.1 x1.2.2.1) 6).1)))) then (m_spec_l00Src_one (m_spec_l00Src_pick (gl00Src.mk x1.1 x1.2.1 x1.2.2.1) 6).2 2).2 else (m_spec_l00Src_pick (gl00Src.mk x1.1 x1.2.1 x1.2.2.1) 6).2).code, (bif (decide (0 ≤ (m_spec_l27At x1.2.2.2.1 (at' ([([97] : List UInt8), ([98] : List UInt8), ([99] : List UInt8), ([100] : List UInt8), ([101] : List UInt8), ([102] : List UInt8)] : List (List UInt8)) (m_spec_l00Src_pick (gl00Src.mk x1.1 x1.2.1 x1.2.2.1) 6).1)))) then (m_spec_l00Src_one (m_spec_l00Src_pick (gl00Src.mk x1.1 x1.2.1 x1.2.2.1) 6).2 2).2 else (m_spec_l00Src_pick (gl00Src.mk x1.1 x1.2.1 x1.2.2.1) 6).2).at_, (bif (decide (0 ≤ (m_spec_l27At x1.2.2.2.1 (at' ([([97] : List UInt8), ([98] : List UInt8), ([99] : List UInt8), ([100] : List UInt8), ([101] : List UInt8), ([102] : List UInt8)] : List (List UInt8)) (m_spec_l00Src_pick (gl00Src.mk x1.1 x1.2.1 x1.2.2.1) 6).1)))) then (m_spec_l00Src_one (m_spec_l00Src_pick (gl00Src.mk x1.1 x1.2.1 x1.2.2.1) 6).2 2).2 else (m_spec_l00Src_pick (gl00Src.mk x1.1 x1.2.1 x1.2.2.1) 6).2).seed, (([] : List gSetting) ++ (pre' x1.2.2.2.1 (m_spec_l27At x1.2.2.2.1 (at' ([([97] : List UInt8), ([98] : List UInt8), ([99] : List UInt8), ([100] : List UInt8), ([101] : List UInt8), ([102] : List UInt8)] : List (List UInt8)) (m_spec_l00Src_pick (gl00Src.mk x1.1 x1.2.1 x1.2.2.1) 6).1)))) ++ (cut' x1.2.2.2.1 (IntKind.wrap .i64 ((m_spec_l27At x1.2.2.2.1 (at' ([([97] : List UInt8), ([98] : List UInt8), ([99] : List UInt8), ([100] : List UInt8), ([101] : List UInt8), ([102] : List UInt8)] : List (List UInt8)) (m_spec_l00Src_pick (gl00Src.mk x1.1 x1.2.1 x1.2.2.1) 6).1)) + 1)) (x1.2.2.2.1.length : Int)), x1.2.2.2.2 - 1) else rec1 ((m_spec_l00Src_pick (bif (decide (0 ≤ (m_spec_l27At x1.2.2.2.1 (at' ([([97] : List UInt8), ([98] : List UInt8), ([99] : List UInt8), ([100] : List UInt8), ([101] : List UInt8), ([102] : List UInt8)] : List (List UInt8)) (m_spec_l00Src_pick (gl00Src.mk x1.1 x1.2.1 x1.2.2.1) 6).1)))) then (m_spec_l00Src_one (m_spec_l00Src_pick (gl00Src.mk x1.1 x1.2.1 x1.2.2.1) 6).2 2).2 else (m_spec_l00Src_pick (gl00Src.mk x1.1 x1.2.1 x1.2.2.1) 6).2) 1001).2.code, (m_spec_l00Src_pick (bif (decide (0 ≤ (m_spec_l27At x1.2.2.2.1 (at' ([([97] : List UInt8), ([98] : List UInt8), ([99] : List UInt8), ([100] : List UInt8), ([101] : List UInt8), ([102] : List UInt8)] : List (List UInt8)) (m_spec_l00Src_pick (gl00Src.mk x1.1 x1.2.1 x1.2.2.1) 6).1)))) then (m_spec_l00Src_one (m_spec_l00Src_pick (gl00Src.mk x1.1 x1.2.1 x1.2.2.1) 6).2 2).2 else (m_spec_l00Src_pick (gl00Src.mk x1.1 x1.2.1 x1.2.2.1) 6).2) 1001).2.at_, (m_spec_l00Src_pick (bif (decide (0 ≤ (m_spec_l27At x1.2.2.2.1 (at' ([([97] : List UInt8), ([98] : List UInt8), ([99] : List UInt8), ([100] : List UInt8), ([101] : List UInt8), ([102] : List UInt8)] : List (List UInt8)) (m_spec_l00Src_pick (gl00Src.mk x1.1 x1.2.1 x1.2.2.1) 6).1)))) then (m_spec_l00Src_one (m_spec_l00Src_pick (gl00Src.mk x1.1 x1.2.1 x1.2.2.1) 6).2 2).2 else (m_spec_l00Src_pick (gl00Src.mk x1.1 x1.2.1 x1.2.2.1) 6).2) 1001).2.seed, m_spec_l27Set x1.2.2.2.1 (gSetting.mk (at' ([([97] : List UInt8), ([98] : List UInt8), ([99] : List UInt8), ([100] : List UInt8), ([101] : List UInt8), ([102] : List UInt8)] : List (List UInt8)) (m_spec_l00Src_pick (gl00Src.mk x1.1 x1.2.1 x1.2.2.1) 6).1) (m_spec_l00Src_pick (bif (decide (0 ≤ (m_spec_l27At x1.2.2.2.1 (at' ([([97] : List UInt8), ([98] : List UInt8), ([99] : List UInt8), ([100] : List UInt8), ([101] : List UInt8), ([102] : List UInt8)] : List (List UInt8)) (m_spec_l00Src_pick (gl00Src.mk x1.1 x1.2.1 x1.2.2.1) 6).1)))) then (m_spec_l00Src_one (m_spec_l00Src_pick (gl00Src.mk x1.1 x1.2.1 x1.2.2.1) 6).2 2).2 else (m_spec_l00Src_pick (gl00Src.mk x1.1 x1.2.1 x1.2.2.1) 6).2) 1001).1), x1.2.2.2.2 - 1) else k1 (x1.1, x1.2.1, x1.2.2.1, x1.2.2.2.1, x1.2.2.2.2)
def m_spec_l27Changed (s_ : gl00Src) (list : List gSetting) : (List gSetting) × gl00Src :=
  LOOP (m_spec_l27Changed_b1 s_ list) (fun (x1 : (List Int) × Int × Int × (List gSetting) × Int) => (x1.2.2.2.1, gl00Src.mk x1.1 x1.2.1 x1.2.2.1)) ((m_spec_l00Src_pick s_ 4).1.toNat + 1) ((m_spec_l00Src_pick s_ 4).2.code, (m_spec_l00Src_pick s_ 4).2.at_, (m_spec_l00Src_pick s_ 4).2.seed, ([] : List gSetting) ++ list, (m_spec_l00Src_pick s_ 4).1)

/-! ### spec_l00Src_text -/
def m_spec_l00Src_text (s_ : gl00Src) (list : List (List UInt8)) : (List UInt8) × gl00Src × (List (List UInt8)) :=
  (at' list (m_spec_l00Src_pick s_ (list.length : Int)).1, (m_spec_l00Src_pick s_ (list.length : Int)).2, list)

/-! ### spec_l27Draw -/
def m_spec_l27Draw_b1 (s_ : gl00Src) (rec1 : ((List Int) × Int × Int × (List gVersion) × Int) → ((List gVersion) × gl00Src)) (k1 : ((List Int) × Int × Int × (List gVersion) × Int) → ((List gVersion) × gl00Src)) (x1 : (List Int) × Int × Int × (List gVersion) × Int) : (List gVersion) × gl00Src :=
  bif decide (0 < x1.2.2.2.2) then JN (fun j5 => bif decide (0 < (m_spec_l00Src_pick (gl00Src.mk x1.1 x1.2.1 x1.2.2.1) (IntKind.wrap .i64 ((x1.2.2.2.1.length : Int) + 1))).1) then j5 ((m_spec_l27Changed (m_spec_l27DrawState (m_spec_l00Src_pick (gl00Src.mk x1.1 x1.2.1 x1.2.2.1) (IntKind.wrap .i64 ((x1.2.2.2.1.length : Int) + 1))).2).2 (at' x1.2.2.2.1 (IntKind.wrap .i64 ((m_spec_l00Src_pick (gl00Src.mk x1.1 x1.2.1 x1.2.2.1) (IntKind.wrap .i64 ((x1.2.2.2.1.length : Int) + 1))).1 - 1))).State).2.code, (m_spec_l27Changed (m_spec_l27DrawState (m_spec_l00Src_pick (gl00Src.mk x1.1 x1.2.1 x1.2.2.1) (IntKind.wrap .i64 ((x1.2.2.2.1.length : Int) + 1))).2).2 (at' x1.2.2.2.1 (IntKind.wrap .i64 ((m_spec_l00Src_pick (gl00Src.mk x1.1 x1.2.1 x1.2.2.1) (IntKind.wrap .i64 ((x1.2.2.2.1.length : Int) + 1))).1 - 1))).State).2.at_, (m_spec_l27Changed (m_spec_l27DrawState (m_spec_l00Src_pick (gl00Src.mk x1.1 x1.2.1 x1.2.2.1) (IntKind.wrap .i64 ((x1.2.2.2.1.length : Int) + 1))).2).2 (at' x1.2.2.2.1 (IntKind.wrap .i64 ((m_spec_l00Src_pick (gl00Src.mk x1.1 x1.2.1 x1.2.2.1) (IntKind.wrap .i64 ((x1.2.2.2.1.length : Int) + 1))).1 - 1))).State).2.seed, (m_spec_l27Changed (m_spec_l27DrawState (m_spec_l00Src_pick (gl00Src.mk x1.1 x1.2.1 x1.2.2.1) (IntKind.wrap .i64 ((x1.2.2.2.1.length : Int) + 1))).2).2 (at' x1.2.2.2.1 (IntKind.wrap .i64 ((m_spec_l00Src_pick (gl00Src.mk x1.1 x1.2.1 x1.2.2.1) (IntKind.wrap .i64 ((x1.2.2.2.1.length : Int) + 1))).1 - 1))).State).1) else j5 ((m_spec_l27DrawState (m_spec_l00Src_pick (gl00Src.mk x1.1 x1.2.1 x1.2.2.1) (IntKind.wrap .i64 ((x1.2.2.2.1.length : Int) + 1))).2).2.code, (m_spec_l27DrawState (m_spec_l00Src_pick (gl00Src.mk x1.1 x1.2.1 x1.2.2.1) (IntKind.wrap .i64 ((x1.2.2.2.1.length : Int) + 1))).2).2.at_, (m_spec_l27DrawState (m_spec_l00Src_pick (gl00Src.mk x1.1 x1.2.1 x1.2.2.1) (IntKind.wrap .i64 ((x1.2.2.2.1.length : Int) + 1))).2).2.seed, (m_spec_l27DrawState (m_spec_l00Src_pick (gl00Src.mk x1.1 x1.2.1 x1.2.2.1) (IntKind.wrap .i64 ((x1.2.2.2.1.length : Int) + 1))).2).1)) (fun (v4 : (List Int) × Int × Int × (List gSetting)) => rec1 ((m_spec_l00Src_text (gl00Src.mk v4.1 v4.2.1 v4.2.2.1) ([([] : List UInt8), ([110, 101, 119] : List UInt8), ([97, 32, 98] : List UInt8)] : List (List UInt8))).2.1.code, (m_spec_l00Src_text (gl00Src.mk v4.1 v4.2.1 v4.2.2.1) ([([] : List UInt8), ([110, 101, 119] : List UInt8), ([97, 32, 98] : List UInt8)] : List (List UInt8))).2.1.at_, (m_spec_l00Src_text (gl00Src.mk v4.1 v4.2.1 v4.2.2.1) ([([] : List UInt8), ([110, 101, 119] : List UInt8), ([97, 32, 98] : List UInt8)] : List (List UInt8))).2.1.seed, x1.2.2.2.1 ++ ([gVersion.mk (IntKind.wrap .i64 ((x1.2.2.2.1.length : Int) + 1)) (m_spec_l00Src_pick (gl00Src.mk x1.1 x1.2.1 x1.2.2.1) (IntKind.wrap .i64 ((x1.2.2.2.1.length : Int) + 1))).1 (m_spec_l00Src_text (gl00Src.mk v4.1 v4.2.1 v4.2.2.1) ([([] : List UInt8), ([110, 101, 119] : List UInt8), ([97, 32, 98] : List UInt8)] : List (List UInt8))).1 v4.2.2.2] : List gVersion), x1.2.2.2.2 - 1)) else k1 (x1.1, x1.2.1, x1.2.2.1, x1.2.2.2.1, x1.2.2.2.2)
def m_spec_l27Draw (s_ : gl00Src) : (List gVersion) × gl00Src :=
  LOOP (m_spec_l27Draw_b1 s_) (fun (x1 : (List Int) × Int × Int × (List gVersion) × Int) => (x1.2.2.2.1, gl00Src.mk x1.1 x1.2.1 x1.2.2.1)) ((m_spec_l00Src_pick s_ 6).1.toNat + 1) ((m_spec_l00Src_pick s_ 6).2.code, (m_spec_l00Src_pick s_ 6).2.at_, (m_spec_l00Src_pick s_ 6).2.seed, ([] : List gVersion), (m_spec_l00Src_pick s_ 6).1)

/-! ### spec_R8History -/
def m_spec_R8History (code : List Int) : (List gVersion) :=
  (m_spec_l27Draw (m_spec_l00From code)).1

/-! ### spec_R8State -/
def m_spec_R8State (code : List Int) : (List gSetting) :=
  (m_spec_l27DrawState (m_spec_l00From code)).1

/-! ### spec_R8Changed -/
def m_spec_R8Changed (code : List Int) (list : List gSetting) : (List gSetting) :=
  (m_spec_l27Changed (m_spec_l00From code) list).1

/-! ### impl_valueAt -/
def m_impl_valueAt_b1 (list : List gSetting) (name : List UInt8) (rec1 : Int → (Int × Bool)) (k1 : Int → (Int × Bool)) (x1 : Int) : Int × Bool :=
  bif decide (x1 < (list.length : Int)) then bif strB .eql (at' list x1).Name name then ((at' list x1).Value, true) else rec1 (x1 + 1) else k1 x1
def m_impl_valueAt (list : List gSetting) (name : List UInt8) : Int × Bool :=
  LOOP (m_impl_valueAt_b1 list name) (fun (x1 : Int) => (0, false)) (((list.length : Int) - 0 : Int).toNat + 1) 0

/-! ### impl_DiffStates -/
def m_impl_DiffStates_b2 (a : List gSetting) (b : List gSetting) (x1 : (List gChange) × Int) (rec2 : ((List gChange) × Int) → ((List gChange) × Int)) (k2 : ((List gChange) × Int) → ((List gChange) × Int)) (x2 : (List gChange) × Int) : (List gChange) × Int :=
  bif decide (x2.2 < (b.length : Int)) then bif (!(m_impl_valueAt a (at' b x2.2).Name).2) || ((m_impl_valueAt a (at' b x2.2).Name).1 != (at' b x2.2).Value) then rec2 (x2.1 ++ ([gChange.mk 1 (at' b x2.2)] : List gChange), x2.2 + 1) else rec2 (x2.1, x2.2 + 1) else k2 (x2.1, x2.2)
def m_impl_DiffStates_b1 (a : List gSetting) (b : List gSetting) (rec1 : ((List gChange) × Int) → ((List gChange) × Int)) (k1 : ((List gChange) × Int) → ((List gChange) × Int)) (x1 : (List gChange) × Int) : (List gChange) × Int :=
  bif decide (x1.2 < (a.length : Int)) then bif !(m_impl_valueAt b (at' a x1.2).Name).2 then rec1 (x1.1 ++ ([gChange.mk 2 (at' a x1.2)] : List gChange), x1.2 + 1) else rec1 (x1.1, x1.2 + 1) else k1 (x1.1, x1.2)
def m_impl_DiffStates (a : List gSetting) (b : List gSetting) : (List gChange) × Int :=
  bif (!(m_impl_ValidState a)) || (!(m_impl_ValidState b)) then (([] : List gChange), 1) else LOOP (m_impl_DiffStates_b1 a b) (fun (x1 : (List gChange) × Int) => LOOP (m_impl_DiffStates_b2 a b x1) (fun (x2 : (List gChange) × Int) => (x2.1, 0)) (((b.length : Int) - 0 : Int).toNat + 1) (x1.1, 0)) (((a.length : Int) - 0 : Int).toNat + 1) (([] : List gChange), 0)

/-! ### impl_ApplyChanges_1 -/
def m_impl_ApplyChanges_1 (c_ : gChange) : Bool :=
  ((c_.Kind != 1) && (c_.Kind != 2)) || (!(m_impl_Setting_valid c_.Setting))

/-! ### slices_IndexFunc_impl_Change -/
def m_slices_IndexFunc_impl_Change_b1 (s_ : List gChange) (f : (gChange → Bool)) (rec1 : Int → Int) (k1 : Int → Int) (x1 : Int) : Int :=
  bif decide (x1 < (s_.length : Int)) then bif f (at' s_ x1) then x1 else rec1 (x1 + 1) else k1 x1
def m_slices_IndexFunc_impl_Change (s_ : List gChange) (f : gChange → Bool) : Int :=
  LOOP (m_slices_IndexFunc_impl_Change_b1 s_ f) (fun (x1 : Int) => (-1)) (((s_.length : Int) - 0 : Int).toNat + 1) 0

/-! ### slices_ContainsFunc_impl_Change -/
def m_slices_ContainsFunc_impl_Change (s_ : List gChange) (f : gChange → Bool) : Bool :=
  decide (0 ≤ (m_slices_IndexFunc_impl_Change s_ f))

/-! ### slices_BinarySearchFunc_impl_Setting -/
def m_slices_BinarySearchFunc_impl_Setting_b1 (x_ : List gSetting) (target : gSetting) (cmp : (gSetting → gSetting → Int)) (rec1 : (Int × Int) → (Int × Bool)) (k1 : (Int × Int) → (Int × Bool)) (x1 : Int × Int) : Int × Bool :=
  bif decide (x1.1 < x1.2) then bif decide ((cmp (at' x_ (IntKind.wrap .i64 (Int.fdiv (IntKind.wrap .u64 (IntKind.wrap .i64 (x1.1 + x1.2))) (2 ^ min (1 : Int).toNat 64)))) target) < 0) then rec1 (IntKind.wrap .i64 ((IntKind.wrap .i64 (Int.fdiv (IntKind.wrap .u64 (IntKind.wrap .i64 (x1.1 + x1.2))) (2 ^ min (1 : Int).toNat 64))) + 1), x1.2) else rec1 (x1.1, IntKind.wrap .i64 (Int.fdiv (IntKind.wrap .u64 (IntKind.wrap .i64 (x1.1 + x1.2))) (2 ^ min (1 : Int).toNat 64))) else k1 (x1.1, x1.2)
def m_slices_BinarySearchFunc_impl_Setting (x_ : List gSetting) (target : gSetting) (cmp : gSetting → gSetting → Int) : Int × Bool :=
  LOOP (m_slices_BinarySearchFunc_impl_Setting_b1 x_ target cmp) (fun (x1 : Int × Int) => (x1.1, (decide (x1.1 < (x_.length : Int))) && ((cmp (at' x_ x1.1) target) == 0))) (x_.length + 1) (0, (x_.length : Int))

/-! ### cmp_isNaN_string -/
def m_cmp_isNaN_string (x_ : List UInt8) : Bool :=
  strB .neq x_ x_

/-! ### cmp_Compare_string -/
def m_cmp_Compare_string (x_ : List UInt8) (y : List UInt8) : Int :=
  bif m_cmp_isNaN_string x_ then bif m_cmp_isNaN_string y then 0 else (-1) else bif m_cmp_isNaN_string y then 1 else bif strB .lss x_ y then (-1) else bif strB .gtr x_ y then 1 else 0

/-! ### impl_compareSettings -/
def m_impl_compareSettings (a : gSetting) (b : gSetting) : Int :=
  m_cmp_Compare_string a.Name b.Name

/-! ### slices_Reverse_impl_Setting -/
def m_slices_Reverse_impl_Setting_b1 (s_ : List gSetting) (rec1 : ((List gSetting) × Int × Int) → (List gSetting)) (k1 : ((List gSetting) × Int × Int) → (List gSetting)) (x1 : (List gSetting) × Int × Int) : (List gSetting) :=
  bif decide (x1.2.1 < x1.2.2) then rec1 (put' (put' x1.1 x1.2.1 (at' x1.1 x1.2.2)) x1.2.2 (at' x1.1 x1.2.1), x1.2.1 + 1, x1.2.2 - 1) else k1 (x1.1, x1.2.1, x1.2.2)
def m_slices_Reverse_impl_Setting (s_ : List gSetting) : (List gSetting) :=
  LOOP (m_slices_Reverse_impl_Setting_b1 s_) (fun (x1 : (List gSetting) × Int × Int) => x1.1) (s_.length + 1) (s_, 0, (s_.length : Int) - 1)

/-! ### slices_Insert_impl_Setting -/
def m_slices_Insert_impl_Setting (s_ : List gSetting) (i : Int) (v : List gSetting) : (List gSetting) × (List gSetting) :=
  bif (v.length : Int) == 0 then (s_, v) else bif i == (s_.length : Int) then (s_ ++ v, v) else (ins s_ i v, v)

/-! ### slices_Delete_impl_Setting -/
def m_slices_Delete_impl_Setting (s_ : List gSetting) (i : Int) (j : Int) : (List gSetting) × (List gSetting) :=
  bif i == j then (s_, s_) else (pre' (cpy (cpy s_ (pre' s_ i).length (cut' s_ j (s_.length : Int))) (((pre' (cpy s_ (pre' s_ i).length (cut' s_ j (s_.length : Int))) (((pre' s_ i).length : Int) + ((cut' s_ j (s_.length : Int)).length : Int))).length : Int).toNat) (List.replicate ((s_.length : Int).toNat - ((pre' (cpy s_ (pre' s_ i).length (cut' s_ j (s_.length : Int))) (((pre' s_ i).length : Int) + ((cut' s_ j (s_.length : Int)).length : Int))).length : Int).toNat) (gSetting.mk ([] : List UInt8) 0 : gSetting))) (((pre' s_ i).length : Int) + ((cut' s_ j (s_.length : Int)).length : Int)), pre' (cpy (cpy s_ (pre' s_ i).length (cut' s_ j (s_.length : Int))) (((pre' (cpy s_ (pre' s_ i).length (cut' s_ j (s_.length : Int))) (((pre' s_ i).length : Int) + ((cut' s_ j (s_.length : Int)).length : Int))).length : Int).toNat) (List.replicate ((s_.length : Int).toNat - ((pre' (cpy s_ (pre' s_ i).length (cut' s_ j (s_.length : Int))) (((pre' s_ i).length : Int) + ((cut' s_ j (s_.length : Int)).length : Int))).length : Int).toNat) (gSetting.mk ([] : List UInt8) 0 : gSetting))) (((pre' s_ i).length : Int) + ((cut' s_ j (s_.length : Int)).length : Int)))

/-! ### impl_ApplyChanges -/
def m_impl_ApplyChanges_b1 (list : List gSetting) (changes : List gChange) (rec1 : ((List gSetting) × Int) → ((List gSetting) × Int)) (k1 : ((List gSetting) × Int) → ((List gSetting) × Int)) (x1 : (List gSetting) × Int) : (List gSetting) × Int :=
  bif decide (x1.2 < (changes.length : Int)) then bif ((at' changes x1.2).Kind == 1) && (m_slices_BinarySearchFunc_impl_Setting x1.1 (at' changes x1.2).Setting (fun (a0 : gSetting) (a1 : gSetting) => m_impl_compareSettings a0 a1)).2 then rec1 (put' x1.1 (m_slices_BinarySearchFunc_impl_Setting x1.1 (at' changes x1.2).Setting (fun (a0 : gSetting) (a1 : gSetting) => m_impl_compareSettings a0 a1)).1 (at' changes x1.2).Setting, x1.2 + 1) else bif ((at' changes x1.2).Kind == 1) && ((x1.1.length : Int) == 24) then (([] : List gSetting), 5) else bif (at' changes x1.2).Kind == 1 then rec1 ((m_slices_Insert_impl_Setting x1.1 (m_slices_BinarySearchFunc_impl_Setting x1.1 (at' changes x1.2).Setting (fun (a0 : gSetting) (a1 : gSetting) => m_impl_compareSettings a0 a1)).1 ([(at' changes x1.2).Setting] : List gSetting)).1, x1.2 + 1) else bif !(m_slices_BinarySearchFunc_impl_Setting x1.1 (at' changes x1.2).Setting (fun (a0 : gSetting) (a1 : gSetting) => m_impl_compareSettings a0 a1)).2 then (([] : List gSetting), 3) else bif !((strB .eql (at' x1.1 (m_slices_BinarySearchFunc_impl_Setting x1.1 (at' changes x1.2).Setting (fun (a0 : gSetting) (a1 : gSetting) => m_impl_compareSettings a0 a1)).1).Name (at' changes x1.2).Setting.Name) && (((at' x1.1 (m_slices_BinarySearchFunc_impl_Setting x1.1 (at' changes x1.2).Setting (fun (a0 : gSetting) (a1 : gSetting) => m_impl_compareSettings a0 a1)).1).Value == (at' changes x1.2).Setting.Value) && true)) then (([] : List gSetting), 6) else rec1 ((m_slices_Delete_impl_Setting x1.1 (m_slices_BinarySearchFunc_impl_Setting x1.1 (at' changes x1.2).Setting (fun (a0 : gSetting) (a1 : gSetting) => m_impl_compareSettings a0 a1)).1 (IntKind.wrap .i64 ((m_slices_BinarySearchFunc_impl_Setting x1.1 (at' changes x1.2).Setting (fun (a0 : gSetting) (a1 : gSetting) => m_impl_compareSettings a0 a1)).1 + 1))).1, x1.2 + 1) else k1 (x1.1, x1.2)
def m_impl_ApplyChanges (list : List gSetting) (changes : List gChange) : (List gSetting) × Int :=
  bif (!(m_impl_ValidState list)) || (m_slices_ContainsFunc_impl_Change changes (fun (a0 : gChange) => m_impl_ApplyChanges_1 a0)) then (([] : List gSetting), 1) else LOOP (m_impl_ApplyChanges_b1 list changes) (fun (x1 : (List gSetting) × Int) => (x1.1, 0)) (((changes.length : Int) - 0 : Int).toNat + 1) (m_slices_Clone_impl_Setting list, 0)

/-! ### spec_l27Same -/
def m_spec_l27Same_b1 (a : List gSetting) (b : List gSetting) (rec1 : Int → Bool) (k1 : Int → Bool) (x1 : Int) : Bool :=
  bif decide (x1 < (a.length : Int)) then bif !((strB .eql (at' a x1).Name (at' b x1).Name) && (((at' a x1).Value == (at' b x1).Value) && true)) then false else rec1 (x1 + 1) else k1 x1
def m_spec_l27Same (a : List gSetting) (b : List gSetting) : Bool :=
  bif (a.length : Int) != (b.length : Int) then false else LOOP (m_spec_l27Same_b1 a b) (fun (x1 : Int) => true) (((a.length : Int) - 0 : Int).toNat + 1) 0

/-! ### spec_SameState -/
def m_spec_SameState (a : List gSetting) (b : List gSetting) : Bool :=
  m_spec_l27Same a b

/-! ### laws_r8At -/
def m_laws_r8At (code : List Int) (k_ : Int) (n_ : Int) : Int :=
  bif (decide (n_ ≤ 1)) || (decide ((code.length : Int) ≤ k_)) then 0 else Int.tmod (IntKind.wrap .i64 (at' code k_)) n_

/-! ### impl_CommitState -/
def m_impl_CommitState (list : List gVersion) (parent : Int) (memo : List UInt8) (state : List gSetting) : (List gVersion) × Int :=
  bif ((!(m_impl_ValidHistory list)) || (!(m_impl_memoValid memo))) || (!(m_impl_ValidState state)) then (([] : List gVersion), 1) else bif !(m_impl_within parent 0 (list.length : Int)) then (([] : List gVersion), 3) else ((m_impl_withVersion list parent memo state).1, (m_impl_withVersion list parent memo state).2)

/-! ### impl_lineOf -/
def m_impl_lineOf_b1 (list : List gVersion) (number : Int) (rec1 : (Int × (List Int)) → (List Int)) (k1 : (Int × (List Int)) → (List Int)) (x1 : Int × (List Int)) : (List Int) :=
  bif decide (0 < x1.1) then rec1 ((at' list (IntKind.wrap .i64 (x1.1 - 1))).Parent, x1.2 ++ ([x1.1] : List Int)) else k1 (x1.1, x1.2)
def m_impl_lineOf (list : List gVersion) (number : Int) : (List Int) :=
  LOOP (m_impl_lineOf_b1 list number) (fun (x1 : Int × (List Int)) => x1.2) (number.toNat + 1) (number, ([] : List Int))

/-! ### impl_AncestorsOf -/
def m_impl_AncestorsOf (list : List gVersion) (number : Int) : (List Int) × Int :=
  bif (m_impl_versionsCode list ([number] : List Int)) != 0 then (([] : List Int), m_impl_versionsCode list ([number] : List Int)) else (cut' (m_impl_lineOf list number) 1 ((m_impl_lineOf list number).length : Int), 0)

/-! ### slices_IndexFunc_impl_Version -/
def m_slices_IndexFunc_impl_Version_b1 (s_ : List gVersion) (f : (gVersion → Bool)) (rec1 : Int → Int) (k1 : Int → Int) (x1 : Int) : Int :=
  bif decide (x1 < (s_.length : Int)) then bif f (at' s_ x1) then x1 else rec1 (x1 + 1) else k1 x1
def m_slices_IndexFunc_impl_Version (s_ : List gVersion) (f : gVersion → Bool) : Int :=
  LOOP (m_slices_IndexFunc_impl_Version_b1 s_ f) (fun (x1 : Int) => (-1)) (((s_.length : Int) - 0 : Int).toNat + 1) 0

/-! ### slices_ContainsFunc_impl_Version -/
def m_slices_ContainsFunc_impl_Version (s_ : List gVersion) (f : gVersion → Bool) : Bool :=
  decide (0 ≤ (m_slices_IndexFunc_impl_Version s_ f))

/-! ### impl_HeadsOf_1 -/
def m_impl_HeadsOf_1 (w_ : gVersion) (p1 : gVersion) : Bool :=
  w_.Parent == p1.Number

/-! ### impl_HeadsOf -/
def m_impl_HeadsOf_b1 (list : List gVersion) (rec1 : ((List Int) × Int) → ((List Int) × Int)) (k1 : ((List Int) × Int) → ((List Int) × Int)) (x1 : (List Int) × Int) : (List Int) × Int :=
  bif decide (x1.2 < (list.length : Int)) then bif !(m_slices_ContainsFunc_impl_Version list (fun (a0 : gVersion) => m_impl_HeadsOf_1 a0 (at' list x1.2))) then rec1 (x1.1 ++ ([(at' list x1.2).Number] : List Int), x1.2 + 1) else rec1 (x1.1, x1.2 + 1) else k1 (x1.1, x1.2)
def m_impl_HeadsOf (list : List gVersion) : (List Int) × Int :=
  bif !(m_impl_ValidHistory list) then (([] : List Int), 1) else LOOP (m_impl_HeadsOf_b1 list) (fun (x1 : (List Int) × Int) => (x1.1, 0)) (((list.length : Int) - 0 : Int).toNat + 1) (([] : List Int), 0)

/-! ### slices_Index_int64 -/
def m_slices_Index_int64_b1 (s_ : List Int) (v : Int) (rec1 : Int → Int) (k1 : Int → Int) (x1 : Int) : Int :=
  bif decide (x1 < (s_.length : Int)) then bif v == (at' s_ x1) then x1 else rec1 (x1 + 1) else k1 x1
def m_slices_Index_int64 (s_ : List Int) (v : Int) : Int :=
  LOOP (m_slices_Index_int64_b1 s_ v) (fun (x1 : Int) => (-1)) (((s_.length : Int) - 0 : Int).toNat + 1) 0

/-! ### slices_Contains_int64 -/
def m_slices_Contains_int64 (s_ : List Int) (v : Int) : Bool :=
  decide (0 ≤ (m_slices_Index_int64 s_ v))

/-! ### impl_commonAncestor -/
def m_impl_commonAncestor_b1 (list : List gVersion) (a : Int) (b : Int) (rec1 : Int → Int) (k1 : Int → Int) (x1 : Int) : Int :=
  bif decide (x1 < ((m_impl_lineOf list a).length : Int)) then bif m_slices_Contains_int64 (m_impl_lineOf list b) (at' (m_impl_lineOf list a) x1) then at' (m_impl_lineOf list a) x1 else rec1 (x1 + 1) else k1 x1
def m_impl_commonAncestor (list : List gVersion) (a : Int) (b : Int) : Int :=
  LOOP (m_impl_commonAncestor_b1 list a b) (fun (x1 : Int) => 0) ((((m_impl_lineOf list a).length : Int) - 0 : Int).toNat + 1) 0

/-! ### impl_CommonAncestor -/
def m_impl_CommonAncestor (list : List gVersion) (a : Int) (b : Int) : Int × Int :=
  bif (m_impl_versionsCode list ([a, b] : List Int)) != 0 then (0, m_impl_versionsCode list ([a, b] : List Int)) else (m_impl_commonAncestor list a b, 0)

/-! ### laws_r8Has -/
def m_laws_r8Has_b1 (list : List Int) (n_ : Int) (rec1 : Int → Bool) (k1 : Int → Bool) (x1 : Int) : Bool :=
  bif decide (x1 < (list.length : Int)) then bif (at' list x1) == n_ then true else rec1 (x1 + 1) else k1 x1
def m_laws_r8Has (list : List Int) (n_ : Int) : Bool :=
  LOOP (m_laws_r8Has_b1 list n_) (fun (x1 : Int) => false) (((list.length : Int) - 0 : Int).toNat + 1) 0

/-! ### spec_l00In -/
def m_spec_l00In (n_ : Int) (low : Int) (high : Int) : Bool :=
  (decide (low ≤ n_)) && (decide (n_ ≤ high))

/-! ### spec_l27Memo -/
def m_spec_l27Memo_b1 (s_ : List UInt8) (rec1 : Int → Bool) (k1 : Int → Bool) (x1 : Int) : Bool :=
  bif decide (x1 < (s_.length : Int)) then bif (decide ((((s_.getD x1.toNat 0).toNat : Nat) : Int) < 32)) || (decide (126 < (((s_.getD x1.toNat 0).toNat : Nat) : Int))) then false else rec1 (x1 + 1) else k1 x1
def m_spec_l27Memo (s_ : List UInt8) : Bool :=
  LOOP (m_spec_l27Memo_b1 s_) (fun (x1 : Int) => decide ((s_.length : Int) ≤ 20)) (((s_.length : Int) - 0 : Int).toNat + 1) 0

/-! ### spec_l01Small -/
def m_spec_l01Small (c_ : Int) : Bool :=
  (decide (97 ≤ c_)) && (decide (c_ ≤ 122))

/-! ### spec_l01Digit -/
def m_spec_l01Digit (c_ : Int) : Bool :=
  (decide (48 ≤ c_)) && (decide (c_ ≤ 57))

/-! ### spec_l01Name -/
def m_spec_l01Name_b1 (s_ : List UInt8) (rec1 : Int → Bool) (k1 : Int → Bool) (x1 : Int) : Bool :=
  bif decide (x1 < (s_.length : Int)) then bif (!(m_spec_l01Small (((s_.getD x1.toNat 0).toNat : Nat) : Int))) && (!(m_spec_l01Digit (((s_.getD x1.toNat 0).toNat : Nat) : Int))) then false else rec1 (x1 + 1) else k1 x1
def m_spec_l01Name (s_ : List UInt8) : Bool :=
  bif ((strB .eql s_ ([] : List UInt8)) || (decide (10 < (s_.length : Int)))) || (!(m_spec_l01Small (((s_.getD (0 : Int).toNat 0).toNat : Nat) : Int))) then false else LOOP (m_spec_l01Name_b1 s_) (fun (x1 : Int) => true) (((s_.length : Int) - 0 : Int).toNat + 1) 0

/-! ### spec_l27Setting -/
def m_spec_l27Setting (e : gSetting) : Bool :=
  (m_spec_l01Name e.Name) && (m_spec_l00In e.Value 0 1000)

/-! ### spec_l27State -/
def m_spec_l27State_b1 (list : List gSetting) (rec1 : Int → Bool) (k1 : Int → Bool) (x1 : Int) : Bool :=
  bif decide (x1 < (list.length : Int)) then bif (!(m_spec_l27Setting (at' list x1))) || ((decide (0 < x1)) && (strB .geq (at' list (x1 - 1)).Name (at' list x1).Name)) then false else rec1 (x1 + 1) else k1 x1
def m_spec_l27State (list : List gSetting) : Bool :=
  LOOP (m_spec_l27State_b1 list) (fun (x1 : Int) => decide ((list.length : Int) ≤ 24)) (((list.length : Int) - 0 : Int).toNat + 1) 0

/-! ### spec_l27Ok -/
def m_spec_l27Ok_b1 (list : List gVersion) (rec1 : Int → Bool) (k1 : Int → Bool) (x1 : Int) : Bool :=
  bif decide (x1 < (list.length : Int)) then bif ((((at' list x1).Number != (x1 + 1)) || (!(m_spec_l00In (at' list x1).Parent 0 x1))) || (!(m_spec_l27Memo (at' list x1).Memo))) || (!(m_spec_l27State (at' list x1).State)) then false else rec1 (x1 + 1) else k1 x1
def m_spec_l27Ok (list : List gVersion) : Bool :=
  LOOP (m_spec_l27Ok_b1 list) (fun (x1 : Int) => decide ((list.length : Int) ≤ 32)) (((list.length : Int) - 0 : Int).toNat + 1) 0

/-! ### spec_ValidHistory -/
def m_spec_ValidHistory (list : List gVersion) : Bool :=
  m_spec_l27Ok list

/-! ### impl_VersionText -/
def m_impl_VersionText_b1 (v : gVersion) (rec1 : ((List UInt8) × Int) → (List UInt8)) (k1 : ((List UInt8) × Int) → (List UInt8)) (x1 : (List UInt8) × Int) : (List UInt8) :=
  bif decide (x1.2 < (v.State.length : Int)) then rec1 (x1.1 ++ (((([32] : List UInt8) ++ (at' v.State x1.2).Name) ++ ([61] : List UInt8)) ++ (m_impl_Decimal (at' v.State x1.2).Value)), x1.2 + 1) else k1 (x1.1, x1.2)
def m_impl_VersionText (v : gVersion) : (List UInt8) :=
  bif (((!(m_impl_within v.Number 1 32)) || (!(m_impl_within v.Parent 0 (IntKind.wrap .i64 (v.Number - 1))))) || (!(m_impl_memoValid v.Memo))) || (!(m_impl_ValidState v.State)) then ([] : List UInt8) else LOOP (m_impl_VersionText_b1 v) (fun (x1 : (List UInt8) × Int) => bif strB .neq v.Memo ([] : List UInt8) then x1.1 ++ (([32, 35, 32] : List UInt8) ++ v.Memo) else x1.1) (((v.State.length : Int) - 0 : Int).toNat + 1) (((m_impl_Decimal v.Number) ++ ([60] : List UInt8)) ++ (m_impl_Decimal v.Parent), 0)

/-! ### laws_FnVersions -/
def m_laws_FnVersions_b1 (code : List Int) (more : List Int) (v7 : (List gSetting)) (rec1 : Int → Bool) (k1 : Int → Bool) (x1 : Int) : Bool :=
  bif decide (x1 < ((m_impl_AncestorsOf (m_impl_CommitState (m_spec_R8History code) (m_laws_r8At more 0 (IntKind.wrap .i64 (((m_spec_R8History code).length : Int) + 1))) ([110, 101, 120, 116] : List UInt8) (m_spec_R8State more)).1 (((m_spec_R8History code).length : Int) + 1)).1.length : Int)) then bif ((decide ((at' (m_impl_AncestorsOf (m_impl_CommitState (m_spec_R8History code) (m_laws_r8At more 0 (IntKind.wrap .i64 (((m_spec_R8History code).length : Int) + 1))) ([110, 101, 120, 116] : List UInt8) (m_spec_R8State more)).1 (((m_spec_R8History code).length : Int) + 1)).1 x1) < 1)) || (decide ((((m_spec_R8History code).length : Int) + 1) ≤ (at' (m_impl_AncestorsOf (m_impl_CommitState (m_spec_R8History code) (m_laws_r8At more 0 (IntKind.wrap .i64 (((m_spec_R8History code).length : Int) + 1))) ([110, 101, 120, 116] : List UInt8) (m_spec_R8State more)).1 (((m_spec_R8History code).length : Int) + 1)).1 x1)))) || ((decide (0 < x1)) && (decide ((at' (m_impl_AncestorsOf (m_impl_CommitState (m_spec_R8History code) (m_laws_r8At more 0 (IntKind.wrap .i64 (((m_spec_R8History code).length : Int) + 1))) ([110, 101, 120, 116] : List UInt8) (m_spec_R8State more)).1 (((m_spec_R8History code).length : Int) + 1)).1 (x1 - 1)) ≤ (at' (m_impl_AncestorsOf (m_impl_CommitState (m_spec_R8History code) (m_laws_r8At more 0 (IntKind.wrap .i64 (((m_spec_R8History code).length : Int) + 1))) ([110, 101, 120, 116] : List UInt8) (m_spec_R8State more)).1 (((m_spec_R8History code).length : Int) + 1)).1 x1)))) then false else rec1 (x1 + 1) else k1 x1
def m_laws_FnVersions (code : List Int) (more : List Int) : Bool :=
  bif m_laws_r8Long code more then true else bif (((m_impl_DiffStates (m_spec_R8State more) (m_spec_R8Changed code (m_spec_R8State more))).2 != 0) || ((m_impl_ApplyChanges (m_spec_R8State more) (m_impl_DiffStates (m_spec_R8State more) (m_spec_R8Changed code (m_spec_R8State more))).1).2 != 0)) || (!(m_spec_SameState (m_impl_ApplyChanges (m_spec_R8State more) (m_impl_DiffStates (m_spec_R8State more) (m_spec_R8Changed code (m_spec_R8State more))).1).1 (m_spec_R8Changed code (m_spec_R8State more)))) then false else bif ((((((((((m_impl_CommitState (m_spec_R8History code) (m_laws_r8At more 0 (IntKind.wrap .i64 (((m_spec_R8History code).length : Int) + 1))) ([110, 101, 120, 116] : List UInt8) (m_spec_R8State more)).2 != 0) || (((m_impl_CommitState (m_spec_R8History code) (m_laws_r8At more 0 (IntKind.wrap .i64 (((m_spec_R8History code).length : Int) + 1))) ([110, 101, 120, 116] : List UInt8) (m_spec_R8State more)).1.length : Int) != (((m_spec_R8History code).length : Int) + 1))) || ((m_impl_UndoVersion (m_impl_CommitState (m_spec_R8History code) (m_laws_r8At more 0 (IntKind.wrap .i64 (((m_spec_R8History code).length : Int) + 1))) ([110, 101, 120, 116] : List UInt8) (m_spec_R8State more)).1 (((m_spec_R8History code).length : Int) + 1)).2 != 0)) || (((m_impl_UndoVersion (m_impl_CommitState (m_spec_R8History code) (m_laws_r8At more 0 (IntKind.wrap .i64 (((m_spec_R8History code).length : Int) + 1))) ([110, 101, 120, 116] : List UInt8) (m_spec_R8State more)).1 (((m_spec_R8History code).length : Int) + 1)).1.length : Int) != (IntKind.wrap .i64 ((((m_spec_R8History code).length : Int) + 1) + 1)))) || ((m_impl_AncestorsOf (m_impl_CommitState (m_spec_R8History code) (m_laws_r8At more 0 (IntKind.wrap .i64 (((m_spec_R8History code).length : Int) + 1))) ([110, 101, 120, 116] : List UInt8) (m_spec_R8State more)).1 (((m_spec_R8History code).length : Int) + 1)).2 != 0)) || ((m_impl_HeadsOf (m_impl_CommitState (m_spec_R8History code) (m_laws_r8At more 0 (IntKind.wrap .i64 (((m_spec_R8History code).length : Int) + 1))) ([110, 101, 120, 116] : List UInt8) (m_spec_R8State more)).1).2 != 0)) || (!(m_laws_r8Has (m_impl_HeadsOf (m_impl_CommitState (m_spec_R8History code) (m_laws_r8At more 0 (IntKind.wrap .i64 (((m_spec_R8History code).length : Int) + 1))) ([110, 101, 120, 116] : List UInt8) (m_spec_R8State more)).1).1 (((m_spec_R8History code).length : Int) + 1)))) || ((m_impl_CommonAncestor (m_impl_CommitState (m_spec_R8History code) (m_laws_r8At more 0 (IntKind.wrap .i64 (((m_spec_R8History code).length : Int) + 1))) ([110, 101, 120, 116] : List UInt8) (m_spec_R8State more)).1 (((m_spec_R8History code).length : Int) + 1) (((m_spec_R8History code).length : Int) + 1)).2 != 0)) || ((m_impl_CommonAncestor (m_impl_CommitState (m_spec_R8History code) (m_laws_r8At more 0 (IntKind.wrap .i64 (((m_spec_R8History code).length : Int) + 1))) ([110, 101, 120, 116] : List UInt8) (m_spec_R8State more)).1 (((m_spec_R8History code).length : Int) + 1) (((m_spec_R8History code).length : Int) + 1)).1 != (((m_spec_R8History code).length : Int) + 1))) || (!(m_spec_ValidHistory (m_impl_UndoVersion (m_impl_CommitState (m_spec_R8History code) (m_laws_r8At more 0 (IntKind.wrap .i64 (((m_spec_R8History code).length : Int) + 1))) ([110, 101, 120, 116] : List UInt8) (m_spec_R8State more)).1 (((m_spec_R8History code).length : Int) + 1)).1)) then false else JN (fun j8 => bif decide (0 < (m_laws_r8At more 0 (IntKind.wrap .i64 (((m_spec_R8History code).length : Int) + 1)))) then j8 (at' (m_spec_R8History code) (IntKind.wrap .i64 ((m_laws_r8At more 0 (IntKind.wrap .i64 (((m_spec_R8History code).length : Int) + 1))) - 1))).State else j8 ([] : List gSetting)) (fun (v7 : (List gSetting)) => bif (!(m_spec_SameState (at' (m_impl_UndoVersion (m_impl_CommitState (m_spec_R8History code) (m_laws_r8At more 0 (IntKind.wrap .i64 (((m_spec_R8History code).length : Int) + 1))) ([110, 101, 120, 116] : List UInt8) (m_spec_R8State more)).1 (((m_spec_R8History code).length : Int) + 1)).1 (((m_spec_R8History code).length : Int) + 1)).State v7)) || ((decide (0 < (m_laws_r8At more 0 (IntKind.wrap .i64 (((m_spec_R8History code).length : Int) + 1))))) != (m_laws_r8Has (m_impl_AncestorsOf (m_impl_CommitState (m_spec_R8History code) (m_laws_r8At more 0 (IntKind.wrap .i64 (((m_spec_R8History code).length : Int) + 1))) ([110, 101, 120, 116] : List UInt8) (m_spec_R8State more)).1 (((m_spec_R8History code).length : Int) + 1)).1 (m_laws_r8At more 0 (IntKind.wrap .i64 (((m_spec_R8History code).length : Int) + 1))))) then false else LOOP (m_laws_FnVersions_b1 code more v7) (fun (x1 : Int) => strB .neq (m_impl_VersionText (at' (m_impl_CommitState (m_spec_R8History code) (m_laws_r8At more 0 (IntKind.wrap .i64 (((m_spec_R8History code).length : Int) + 1))) ([110, 101, 120, 116] : List UInt8) (m_spec_R8State more)).1 (IntKind.wrap .i64 ((((m_spec_R8History code).length : Int) + 1) - 1)))) ([] : List UInt8)) ((((m_impl_AncestorsOf (m_impl_CommitState (m_spec_R8History code) (m_laws_r8At more 0 (IntKind.wrap .i64 (((m_spec_R8History code).length : Int) + 1))) ([110, 101, 120, 116] : List UInt8) (m_spec_R8State more)).1 (((m_spec_R8History code).length : Int) + 1)).1.length : Int) - 0 : Int).toNat + 1) 0)

end Go.Proofs.YtdkkcemlnjlebaaDoor
