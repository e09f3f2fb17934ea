/-
  PLAIN MODELS of the Go functions that the law reaches, printed by a program of this claim. Conditions: none; nothing is claimed here.
-/
import Derived.Test.YtlbpjgeoaiiamaaEngN
import Derived.Lib.SlicesCompact
import Derived.Sort.Walk0
set_option linter.unusedVariables false
set_option linter.unusedSimpArgs false
set_option linter.unusedSectionVars false
set_option linter.unnecessarySimpa false
namespace Go.Proofs.Ytlbpjgeoaiiamaa
open Go Go.RowKit Go.Proofs Go.Proofs.Ytlbpjgeoaiiamaa.E
structure gl00Src where
  code : List Int
  at_ : Int
  seed : Int
instance : Inhabited gl00Src := ⟨gl00Src.mk default default default⟩
abbrev gl00Src.v (x : gl00Src) : V := .st [.sl 1 (x.code.map (V.int .u8)), .int .i64 x.at_, .int .u64 x.seed]
structure gSetting where
  Name : List UInt8
  Value : Int
instance : Inhabited gSetting := ⟨gSetting.mk default default⟩
abbrev gSetting.v (x : gSetting) : V := .st [.str x.Name, .int .i64 x.Value]
structure gthing where
  value : Int
  there : Bool
instance : Inhabited gthing := ⟨gthing.mk default default⟩
abbrev gthing.v (x : gthing) : V := .st [.int .i64 x.value, .bool x.there]
structure gVersion where
  Number : Int
  Parent : Int
  Memo : List UInt8
  State : List gSetting
instance : Inhabited gVersion := ⟨gVersion.mk default default default default⟩
abbrev gVersion.v (x : gVersion) : V := .st [.int .i64 x.Number, .int .i64 x.Parent, .str x.Memo, .sl 2 (x.State.map gSetting.v)]

/-! ### laws_r8Long -/
def m_laws_r8Long (code : List Int) (more : List Int) : Bool :=
  (decide (1048576 < (code.length : Int))) || (decide (1048576 < (more.length : Int)))

/-! ### laws_r8At -/
def m_laws_r8At (code : List Int) (k_ : Int) (n_ : Int) : Int :=
  bif (decide (n_ ≤ 1)) || (decide ((code.length : Int) ≤ k_)) then 0 else Int.tmod (IntKind.wrap .i64 (at' code k_)) n_

/-! ### spec_l00From -/
def m_spec_l00From (code : List Int) : gl00Src :=
  gl00Src.mk code 0 0

/-! ### spec_l00Src_next -/
def m_spec_l00Src_next (s_ : gl00Src) : Int × gl00Src :=
  JN (fun j3 => bif decide (s_.at_ < (s_.code.length : Int)) then j3 (IntKind.wrap .i64 (at' s_.code s_.at_)) else j3 0) (fun (v2 : Int) => bif decide ((IntKind.wrap .i64 (s_.at_ + 1)) ≤ (s_.code.length : Int)) then (v2, gl00Src.mk s_.code (IntKind.wrap .i64 (s_.at_ + 1)) (IntKind.wrap .u64 ((IntKind.wrap .u64 ((IntKind.wrap .u64 (s_.seed * 6364136223846793005)) + (IntKind.wrap .u64 v2))) + 1442695040888963407))) else (IntKind.wrap .i64 (IntKind.wrap .u64 ((((BitVec.ofInt (IntKind.bits .u64) (Int.fdiv (IntKind.wrap .u64 ((IntKind.wrap .u64 ((IntKind.wrap .u64 (s_.seed * 6364136223846793005)) + (IntKind.wrap .u64 v2))) + 1442695040888963407)) (2 ^ min (40 : Int).toNat 64))) &&& (BitVec.ofInt (IntKind.bits .u64) 255)).toNat : Nat) : Int)), gl00Src.mk s_.code (IntKind.wrap .i64 (s_.at_ + 1)) (IntKind.wrap .u64 ((IntKind.wrap .u64 ((IntKind.wrap .u64 (s_.seed * 6364136223846793005)) + (IntKind.wrap .u64 v2))) + 1442695040888963407))))

/-! ### spec_l00Src_pick -/
def m_spec_l00Src_pick (s_ : gl00Src) (n_ : Int) : Int × gl00Src :=
  bif decide (n_ ≤ 1) then (0, s_) else bif decide (200 < n_) then (Int.tmod (IntKind.wrap .i64 ((IntKind.wrap .i64 ((m_spec_l00Src_next s_).1 * 256)) + (m_spec_l00Src_next (m_spec_l00Src_next s_).2).1)) n_, (m_spec_l00Src_next (m_spec_l00Src_next s_).2).2) else (Int.tmod (m_spec_l00Src_next s_).1 n_, (m_spec_l00Src_next s_).2)

/-! ### spec_l00Src_one -/
def m_spec_l00Src_one (s_ : gl00Src) (n_ : Int) : Bool × gl00Src :=
  ((m_spec_l00Src_pick s_ n_).1 == 0, (m_spec_l00Src_pick s_ n_).2)

/-! ### spec_l27DrawState -/
def m_spec_l27DrawState_b1 (s_ : gl00Src) (rec1 : ((List Int) × Int × Int × (List gSetting) × Int) → ((List gSetting) × gl00Src)) (k1 : ((List Int) × Int × Int × (List gSetting) × Int) → ((List gSetting) × gl00Src)) (x1 : (List Int) × Int × Int × (List gSetting) × Int) : (List gSetting) × gl00Src :=
  bif decide (x1.2.2.2.2 < 5) then bif (m_spec_l00Src_one (gl00Src.mk x1.1 x1.2.1 x1.2.2.1) 2).1 then rec1 ((m_spec_l00Src_pick (m_spec_l00Src_one (gl00Src.mk x1.1 x1.2.1 x1.2.2.1) 2).2 1001).2.code, (m_spec_l00Src_pick (m_spec_l00Src_one (gl00Src.mk x1.1 x1.2.1 x1.2.2.1) 2).2 1001).2.at_, (m_spec_l00Src_pick (m_spec_l00Src_one (gl00Src.mk x1.1 x1.2.1 x1.2.2.1) 2).2 1001).2.seed, x1.2.2.2.1 ++ ([gSetting.mk (at' ([([97] : List UInt8), ([98] : List UInt8), ([99] : List UInt8), ([100] : List UInt8), ([101] : List UInt8)] : List (List UInt8)) x1.2.2.2.2) (m_spec_l00Src_pick (m_spec_l00Src_one (gl00Src.mk x1.1 x1.2.1 x1.2.2.1) 2).2 1001).1] : List gSetting), x1.2.2.2.2 + 1) else rec1 ((m_spec_l00Src_one (gl00Src.mk x1.1 x1.2.1 x1.2.2.1) 2).2.code, (m_spec_l00Src_one (gl00Src.mk x1.1 x1.2.1 x1.2.2.1) 2).2.at_, (m_spec_l00Src_one (gl00Src.mk x1.1 x1.2.1 x1.2.2.1) 2).2.seed, x1.2.2.2.1, x1.2.2.2.2 + 1) else k1 (x1.1, x1.2.1, x1.2.2.1, x1.2.2.2.1, x1.2.2.2.2)
def m_spec_l27DrawState (s_ : gl00Src) : (List gSetting) × gl00Src :=
  LOOP (m_spec_l27DrawState_b1 s_) (fun (x1 : (List Int) × Int × Int × (List gSetting) × Int) => (x1.2.2.2.1, gl00Src.mk x1.1 x1.2.1 x1.2.2.1)) ((5 - 0 : Int).toNat + 1) (s_.code, s_.at_, s_.seed, ([] : List gSetting), 0)

/-! ### spec_R8State -/
def m_spec_R8State (code : List Int) : (List gSetting) :=
  (m_spec_l27DrawState (m_spec_l00From code)).1

/-! ### spec_l27At -/
def m_spec_l27At_b1 (list : List gSetting) (name : List UInt8) (rec1 : Int → Int) (k1 : Int → Int) (x1 : Int) : Int :=
  bif decide (x1 < (list.length : Int)) then bif strB .eql (at' list x1).Name name then x1 else rec1 (x1 + 1) else k1 x1
def m_spec_l27At (list : List gSetting) (name : List UInt8) : Int :=
  LOOP (m_spec_l27At_b1 list name) (fun (x1 : Int) => (-1)) (((list.length : Int) - 0 : Int).toNat + 1) 0

/-! ### spec_l27Set -/
def m_spec_l27Set_b1 (list : List gSetting) (e : gSetting) (rec1 : ((List gSetting) × Bool × Int) → (List gSetting)) (k1 : ((List gSetting) × Bool × Int) → (List gSetting)) (x1 : (List gSetting) × Bool × Int) : (List gSetting) :=
  bif decide (x1.2.2 < (list.length : Int)) then JN (fun j6 => bif !x1.2.1 && (strB .geq (at' list x1.2.2).Name e.Name) then j6 (x1.1 ++ ([e] : List gSetting), true) else j6 (x1.1, x1.2.1)) (fun (v5 : (List gSetting) × Bool) => bif strB .neq (at' list x1.2.2).Name e.Name then rec1 (v5.1 ++ ([at' list x1.2.2] : List gSetting), v5.2, x1.2.2 + 1) else rec1 (v5.1, v5.2, x1.2.2 + 1)) else k1 (x1.1, x1.2.1, x1.2.2)
def m_spec_l27Set (list : List gSetting) (e : gSetting) : (List gSetting) :=
  LOOP (m_spec_l27Set_b1 list e) (fun (x1 : (List gSetting) × Bool × Int) => bif !x1.2.1 then x1.1 ++ ([e] : List gSetting) else x1.1) (((list.length : Int) - 0 : Int).toNat + 1) (([] : List gSetting), false, 0)

/-! ### spec_l27Changed -/
def m_spec_l27Changed_b1 (s_ : gl00Src) (list : List gSetting) (rec1 : ((List Int) × Int × Int × (List gSetting) × Int) → ((List gSetting) × gl00Src)) (k1 : ((List Int) × Int × Int × (List gSetting) × Int) → ((List gSetting) × gl00Src)) (x1 : (List Int) × Int × Int × (List gSetting) × Int) : (List gSetting) × gl00Src :=
  bif decide (0 < x1.2.2.2.2) then bif (decide (0 ≤ (m_spec_l27At x1.2.2.2.1 (at' ([([97] : List UInt8), ([98] : List UInt8), ([99] : List UInt8), ([100] : List UInt8), ([101] : List UInt8), ([102] : List UInt8)] : List (List UInt8)) (m_spec_l00Src_pick (gl00Src.mk x1.1 x1.2.1 x1.2.2.1) 6).1)))) && (m_spec_l00Src_one (m_spec_l00Src_pick (gl00Src.mk x1.1 x1.2.1 x1.2.2.1) 6).2 2).1 then rec1 ((bif (decide (0 ≤ (m_spec_l27At x1.2.2.2.1 (at' ([([97] : List UInt8), ([98] : List UInt8), ([99] : List UInt8), ([100] : List UInt8), ([101] : List UInt8), ([102] : List UInt8)] : List (List UInt8)) (m_spec_l00Src_pick (gl00Src.mk x1.1 x1.2.1 x1.2.2.1) 6).1)))) then (m_spec_l00Src_one (m_spec_l00Src_pick (gl00Src.mk x1.1 x1.2.1 x1.2.2.1) 6).2 2).2 else (m_spec_l00Src_pick (gl00Src.mk x1.1 x1.2.1 x1.2.2.1) 6).2).code, (bif (decide (0 ≤ (m_spec_l27At x1.2.2.2.1 (at' ([([97] : List UInt8), ([98] : List UInt8), ([99] : List UInt8), ([100] : List UInt8), ([101] : List UInt8), ([102] : List UInt8)] : List (List UInt8)) (m_spec_l00Src_pick (gl00Src.mk x1.1 x1.2.1 x1.2.2.1) 6).1)))) then (m_spec_l00Src_one (m_spec_l00Src_pick (gl00Src.mk x1.1 x1.2.1 x1.2.2.1) 6).2 2).2 else (m_spec_l00Src_pick (gl00Src.mk x1.1 x1.2.1 x1.2.2.1) 6).2).at_, (bif (decide (0 ≤ (m_spec_l27At x1.2.2.2.1 (at' ([([97] : List UInt8), ([98] : List UInt8), ([99] : List UInt8), ([100] : List UInt8), ([101] : List UInt8), ([102] : List UInt8)] : List (List UInt8)) (m_spec_l00Src_pick (gl00Src.mk x1.1 x1.2.1 x1.2.2.1) 6).1)))) then (m_spec_l00Src_one (m_spec_l00Src_pick (gl00Src.mk x1.1 x1.2.1 x1.2.2.1) 6).2 2).2 else (m_spec_l00Src_pick (gl00Src.mk x1.1 x1.2.1 x1.2.2.1) 6).2).seed, (([] : List gSetting) ++ (pre' x1.2.2.2.1 (m_spec_l27At x1.2.2.2.1 (at' ([([97] : List UInt8), ([98] : List UInt8), ([99] : List UInt8), ([100] : List UInt8), ([101] : List UInt8), ([102] : List UInt8)] : List (List UInt8)) (m_spec_l00Src_pick (gl00Src.mk x1.1 x1.2.1 x1.2.2.1) 6).1)))) ++ (cut' x1.2.2.2.1 (IntKind.wrap .i64 ((m_spec_l27At x1.2.2.2.1 (at' ([([97] : List UInt8), ([98] : List UInt8), ([99] : List UInt8), ([100] : List UInt8), ([101] : List UInt8), ([102] : List UInt8)] : List (List UInt8)) (m_spec_l00Src_pick (gl00Src.mk x1.1 x1.2.1 x1.2.2.1) 6).1)) + 1)) (x1.2.2.2.1.length : Int)), x1.2.2.2.2 - 1) else rec1 ((m_spec_l00Src_pick (bif (decide (0 ≤ (m_spec_l27At x1.2.2.2.1 (at' ([([97] : List UInt8), ([98] : List UInt8), ([99] : List UInt8), ([100] : List UInt8), ([101] : List UInt8), ([102] : List UInt8)] : List (List UInt8)) (m_spec_l00Src_pick (gl00Src.mk x1.1 x1.2.1 x1.2.2.1) 6).1)))) then (m_spec_l00Src_one (m_spec_l00Src_pick (gl00Src.mk x1.1 x1.2.1 x1.2.2.1) 6).2 2).2 else (m_spec_l00Src_pick (gl00Src.mk x1.1 x1.2.1 x1.2.2.1) 6).2) 1001).2.code, (m_spec_l00Src_pick (bif (decide (0 ≤ (m_spec_l27At x1.2.2.2.1 (at' ([([97] : List UInt8), ([98] : List UInt8), ([99] : List UInt8), ([100] : List UInt8), ([101] : List UInt8), ([102] : List UInt8)] : List (List UInt8)) (m_spec_l00Src_pick (gl00Src.mk x1.1 x1.2.1 x1.2.2.1) 6).1)))) then (m_spec_l00Src_one (m_spec_l00Src_pick (gl00Src.mk x1.1 x1.2.1 x1.2.2.1) 6).2 2).2 else (m_spec_l00Src_pick (gl00Src.mk x1.1 x1.2.1 x1.2.2.1) 6).2) 1001).2.at_, (m_spec_l00Src_pick (bif (decide (0 ≤ (m_spec_l27At x1.2.2.2.1 (at' ([([97] : List UInt8), ([98] : List UInt8), ([99] : List UInt8), ([100] : List UInt8), ([101] : List UInt8), ([102] : List UInt8)] : List (List UInt8)) (m_spec_l00Src_pick (gl00Src.mk x1.1 x1.2.1 x1.2.2.1) 6).1)))) then (m_spec_l00Src_one (m_spec_l00Src_pick (gl00Src.mk x1.1 x1.2.1 x1.2.2.1) 6).2 2).2 else (m_spec_l00Src_pick (gl00Src.mk x1.1 x1.2.1 x1.2.2.1) 6).2) 1001).2.seed, m_spec_l27Set x1.2.2.2.1 (gSetting.mk (at' ([([97] : List UInt8), ([98] : List UInt8), ([99] : List UInt8), ([100] : List UInt8), ([101] : List UInt8), ([102] : List UInt8)] : List (List UInt8)) (m_spec_l00Src_pick (gl00Src.mk x1.1 x1.2.1 x1.2.2.1) 6).1) (m_spec_l00Src_pick (bif (decide (0 ≤ (m_spec_l27At x1.2.2.2.1 (at' ([([97] : List UInt8), ([98] : List UInt8), ([99] : List UInt8), ([100] : List UInt8), ([101] : List UInt8), ([102] : List UInt8)] : List (List UInt8)) (m_spec_l00Src_pick (gl00Src.mk x1.1 x1.2.1 x1.2.2.1) 6).1)))) then (m_spec_l00Src_one (m_spec_l00Src_pick (gl00Src.mk x1.1 x1.2.1 x1.2.2.1) 6).2 2).2 else (m_spec_l00Src_pick (gl00Src.mk x1.1 x1.2.1 x1.2.2.1) 6).2) 1001).1), x1.2.2.2.2 - 1) else k1 (x1.1, x1.2.1, x1.2.2.1, x1.2.2.2.1, x1.2.2.2.2)
def m_spec_l27Changed (s_ : gl00Src) (list : List gSetting) : (List gSetting) × gl00Src :=
  LOOP (m_spec_l27Changed_b1 s_ list) (fun (x1 : (List Int) × Int × Int × (List gSetting) × Int) => (x1.2.2.2.1, gl00Src.mk x1.1 x1.2.1 x1.2.2.1)) ((m_spec_l00Src_pick s_ 4).1.toNat + 1) ((m_spec_l00Src_pick s_ 4).2.code, (m_spec_l00Src_pick s_ 4).2.at_, (m_spec_l00Src_pick s_ 4).2.seed, ([] : List gSetting) ++ list, (m_spec_l00Src_pick s_ 4).1)

/-! ### spec_R8Changed -/
def m_spec_R8Changed (code : List Int) (list : List gSetting) : (List gSetting) :=
  (m_spec_l27Changed (m_spec_l00From code) list).1

/-! ### impl_within -/
def m_impl_within (n_ : Int) (low : Int) (high : Int) : Bool :=
  (decide (low ≤ n_)) && (decide (n_ ≤ high))

/-! ### impl_onlyNameBytes -/
def m_impl_onlyNameBytes_b1 (s_ : List UInt8) (rec1 : Int → Bool) (k1 : Int → Bool) (x1 : Int) : Bool :=
  bif decide (x1 < (s_.length : Int)) then bif ((decide ((((s_.getD x1.toNat 0).toNat : Nat) : Int) < 97)) || (decide (122 < (((s_.getD x1.toNat 0).toNat : Nat) : Int)))) && ((decide ((((s_.getD x1.toNat 0).toNat : Nat) : Int) < 48)) || (decide (57 < (((s_.getD x1.toNat 0).toNat : Nat) : Int)))) then false else rec1 (x1 + 1) else k1 x1
def m_impl_onlyNameBytes (s_ : List UInt8) : Bool :=
  LOOP (m_impl_onlyNameBytes_b1 s_) (fun (x1 : Int) => true) (((s_.length : Int) - 0 : Int).toNat + 1) 0

/-! ### impl_IsName -/
def m_impl_IsName (s_ : List UInt8) : Bool :=
  bif (((decide ((s_.length : Int) < 1)) || (decide (10 < (s_.length : Int)))) || (decide ((((s_.getD (0 : Int).toNat 0).toNat : Nat) : Int) < 97))) || (decide (122 < (((s_.getD (0 : Int).toNat 0).toNat : Nat) : Int))) then false else m_impl_onlyNameBytes s_

/-! ### impl_Setting_valid -/
def m_impl_Setting_valid (x_ : gSetting) : Bool :=
  (m_impl_IsName x_.Name) && (m_impl_within x_.Value 0 1000)

/-! ### impl_ValidState -/
def m_impl_ValidState_b1 (list : List gSetting) (rec1 : Int → Bool) (k1 : Int → Bool) (x1 : Int) : Bool :=
  bif decide (x1 < (list.length : Int)) then bif (!(m_impl_Setting_valid (at' list x1))) || ((decide (0 < x1)) && (strB .leq (at' list x1).Name (at' list (x1 - 1)).Name)) then false else rec1 (x1 + 1) else k1 x1
def m_impl_ValidState (list : List gSetting) : Bool :=
  bif decide (24 < (list.length : Int)) then false else LOOP (m_impl_ValidState_b1 list) (fun (x1 : Int) => true) (((list.length : Int) - 0 : Int).toNat + 1) 0

/-! ### slices_Sort_string -/
def m_slices_Sort_string (x : List (List UInt8)) : (List (List UInt8)) := x.mergeSort fun x y => decide (x ≤ y)

/-! ### slices_Compact_string -/
def m_slices_Compact_string (s : List (List UInt8)) : (List (List UInt8)) := Lib.compact s

/-! ### impl_namesOf -/
def m_impl_namesOf_b2 (states : List (List gSetting)) (rec1 : ((List (List UInt8)) × Int) → (List (List UInt8))) (k1 : ((List (List UInt8)) × Int) → (List (List UInt8))) (x1 : (List (List UInt8)) × Int) (rec2 : ((List (List UInt8)) × Int) → (List (List UInt8))) (k2 : ((List (List UInt8)) × Int) → (List (List UInt8))) (x2 : (List (List UInt8)) × Int) : (List (List UInt8)) :=
  bif decide (x2.2 < ((at' states x1.2).length : Int)) then rec2 (x2.1 ++ ([(at' (at' states x1.2) x2.2).Name] : List (List UInt8)), x2.2 + 1) else k2 (x2.1, x2.2)
def m_impl_namesOf_b1 (states : List (List gSetting)) (rec1 : ((List (List UInt8)) × Int) → (List (List UInt8))) (k1 : ((List (List UInt8)) × Int) → (List (List UInt8))) (x1 : (List (List UInt8)) × Int) : (List (List UInt8)) :=
  bif decide (x1.2 < (states.length : Int)) then LOOP (m_impl_namesOf_b2 states rec1 k1 x1) (fun (x2 : (List (List UInt8)) × Int) => rec1 (x2.1, x1.2 + 1)) ((((at' states x1.2).length : Int) - 0 : Int).toNat + 1) (x1.1, 0) else k1 (x1.1, x1.2)
def m_impl_namesOf (states : List (List gSetting)) : (List (List UInt8)) :=
  LOOP (m_impl_namesOf_b1 states) (fun (x1 : (List (List UInt8)) × Int) => m_slices_Compact_string (m_slices_Sort_string x1.1)) (((states.length : Int) - 0 : Int).toNat + 1) (([] : List (List UInt8)), 0)

/-! ### slices_IndexFunc_string -/
def m_slices_IndexFunc_string_b1 (s_ : List (List UInt8)) (f : (List UInt8 → Bool)) (rec1 : Int → Int) (k1 : Int → Int) (x1 : Int) : Int :=
  bif decide (x1 < (s_.length : Int)) then bif f (at' s_ x1) then x1 else rec1 (x1 + 1) else k1 x1
def m_slices_IndexFunc_string (s_ : List (List UInt8)) (f : List UInt8 → Bool) : Int :=
  LOOP (m_slices_IndexFunc_string_b1 s_ f) (fun (x1 : Int) => (-1)) (((s_.length : Int) - 0 : Int).toNat + 1) 0

/-! ### slices_DeleteFunc_string -/
def m_slices_DeleteFunc_string_b1 (s_ : List (List UInt8)) (del : (List UInt8 → Bool)) (rec1 : ((List (List UInt8)) × Int × Int) → ((List (List UInt8)) × (List (List UInt8)))) (k1 : ((List (List UInt8)) × Int × Int) → ((List (List UInt8)) × (List (List UInt8)))) (x1 : (List (List UInt8)) × Int × Int) : (List (List UInt8)) × (List (List UInt8)) :=
  bif decide (x1.2.2 < (x1.1.length : Int)) then bif !(del (at' x1.1 x1.2.2)) then rec1 (put' x1.1 x1.2.1 (at' x1.1 x1.2.2), IntKind.wrap .i64 (x1.2.1 + 1), x1.2.2 + 1) else rec1 (x1.1, x1.2.1, x1.2.2 + 1) else k1 (x1.1, x1.2.1, x1.2.2)
def m_slices_DeleteFunc_string (s_ : List (List UInt8)) (del : List UInt8 → Bool) : (List (List UInt8)) × (List (List UInt8)) :=
  bif (m_slices_IndexFunc_string s_ del) == (-1) then (s_, s_) else LOOP (m_slices_DeleteFunc_string_b1 s_ del) (fun (x1 : (List (List UInt8)) × Int × Int) => (pre' (cpy x1.1 (x1.2.1.toNat) (List.replicate ((x1.1.length : Int).toNat - x1.2.1.toNat) (([] : List UInt8) : List UInt8))) x1.2.1, pre' (cpy x1.1 (x1.2.1.toNat) (List.replicate ((x1.1.length : Int).toNat - x1.2.1.toNat) (([] : List UInt8) : List UInt8))) x1.2.1)) (((s_.length : Int) - (IntKind.wrap .i64 ((m_slices_IndexFunc_string s_ del) + 1)) : Int).toNat + 1) (s_, m_slices_IndexFunc_string s_ del, IntKind.wrap .i64 ((m_slices_IndexFunc_string s_ del) + 1))

/-! ### impl_valueAt -/
def m_impl_valueAt_b1 (list : List gSetting) (name : List UInt8) (rec1 : Int → (Int × Bool)) (k1 : Int → (Int × Bool)) (x1 : Int) : Int × Bool :=
  bif decide (x1 < (list.length : Int)) then bif strB .eql (at' list x1).Name name then ((at' list x1).Value, true) else rec1 (x1 + 1) else k1 x1
def m_impl_valueAt (list : List gSetting) (name : List UInt8) : Int × Bool :=
  LOOP (m_impl_valueAt_b1 list name) (fun (x1 : Int) => (0, false)) (((list.length : Int) - 0 : Int).toNat + 1) 0

/-! ### impl_thingAt -/
def m_impl_thingAt (list : List gSetting) (name : List UInt8) : gthing :=
  gthing.mk (m_impl_valueAt list name).1 (m_impl_valueAt list name).2

/-! ### impl_conflictsOf_1 -/
def m_impl_conflictsOf_1 (name : List UInt8) (p1 : List gSetting) (p2 : List gSetting) (p3 : List gSetting) : Bool :=
  ((((m_impl_thingAt p2 name).value == (m_impl_thingAt p3 name).value) && (((m_impl_thingAt p2 name).there == (m_impl_thingAt p3 name).there) && true)) || (((m_impl_thingAt p2 name).value == (m_impl_thingAt p1 name).value) && (((m_impl_thingAt p2 name).there == (m_impl_thingAt p1 name).there) && true))) || (((m_impl_thingAt p3 name).value == (m_impl_thingAt p1 name).value) && (((m_impl_thingAt p3 name).there == (m_impl_thingAt p1 name).there) && true))

/-! ### impl_conflictsOf -/
def m_impl_conflictsOf (base : List gSetting) (a : List gSetting) (b : List gSetting) : (List (List UInt8)) :=
  (m_slices_DeleteFunc_string (m_impl_namesOf ([base, a, b] : List (List gSetting))) (fun (a0 : List UInt8) => m_impl_conflictsOf_1 a0 base a b)).1

/-! ### impl_MergeStates -/
def m_impl_MergeStates_b1 (base : List gSetting) (a : List gSetting) (b : List gSetting) (rec1 : ((List gSetting) × Int) → ((List gSetting) × Int)) (k1 : ((List gSetting) × Int) → ((List gSetting) × Int)) (x1 : (List gSetting) × Int) : (List gSetting) × Int :=
  bif decide (x1.2 < ((m_impl_namesOf ([base, a, b] : List (List gSetting))).length : Int)) then JN (fun j10 => bif (((m_impl_thingAt a (at' (m_impl_namesOf ([base, a, b] : List (List gSetting))) x1.2)).value == (m_impl_thingAt base (at' (m_impl_namesOf ([base, a, b] : List (List gSetting))) x1.2)).value) && (((m_impl_thingAt a (at' (m_impl_namesOf ([base, a, b] : List (List gSetting))) x1.2)).there == (m_impl_thingAt base (at' (m_impl_namesOf ([base, a, b] : List (List gSetting))) x1.2)).there) && true)) then j10 ((m_impl_thingAt b (at' (m_impl_namesOf ([base, a, b] : List (List gSetting))) x1.2)).value, (m_impl_thingAt b (at' (m_impl_namesOf ([base, a, b] : List (List gSetting))) x1.2)).there) else j10 ((m_impl_thingAt a (at' (m_impl_namesOf ([base, a, b] : List (List gSetting))) x1.2)).value, (m_impl_thingAt a (at' (m_impl_namesOf ([base, a, b] : List (List gSetting))) x1.2)).there)) (fun (v9 : Int × Bool) => bif v9.2 then rec1 (x1.1 ++ ([gSetting.mk (at' (m_impl_namesOf ([base, a, b] : List (List gSetting))) x1.2) v9.1] : List gSetting), x1.2 + 1) else rec1 (x1.1, x1.2 + 1)) else k1 (x1.1, x1.2)
def m_impl_MergeStates (base : List gSetting) (a : List gSetting) (b : List gSetting) : (List gSetting) × Int :=
  bif ((!(m_impl_ValidState base)) || (!(m_impl_ValidState a))) || (!(m_impl_ValidState b)) then (([] : List gSetting), 1) else bif decide (0 < ((m_impl_conflictsOf base a b).length : Int)) then (([] : List gSetting), 6) else LOOP (m_impl_MergeStates_b1 base a b) (fun (x1 : (List gSetting) × Int) => bif decide (24 < (x1.1.length : Int)) then (([] : List gSetting), 5) else (x1.1, 0)) ((((m_impl_namesOf ([base, a, b] : List (List gSetting))).length : Int) - 0 : Int).toNat + 1) (([] : List gSetting), 0)

/-! ### spec_l27Same -/
def m_spec_l27Same_b1 (a : List gSetting) (b : List gSetting) (rec1 : Int → Bool) (k1 : Int → Bool) (x1 : Int) : Bool :=
  bif decide (x1 < (a.length : Int)) then bif !((strB .eql (at' a x1).Name (at' b x1).Name) && (((at' a x1).Value == (at' b x1).Value) && true)) then false else rec1 (x1 + 1) else k1 x1
def m_spec_l27Same (a : List gSetting) (b : List gSetting) : Bool :=
  bif (a.length : Int) != (b.length : Int) then false else LOOP (m_spec_l27Same_b1 a b) (fun (x1 : Int) => true) (((a.length : Int) - 0 : Int).toNat + 1) 0

/-! ### spec_SameState -/
def m_spec_SameState (a : List gSetting) (b : List gSetting) : Bool :=
  m_spec_l27Same a b

/-! ### impl_ConflictsOf -/
def m_impl_ConflictsOf (base : List gSetting) (a : List gSetting) (b : List gSetting) : (List (List UInt8)) × Int :=
  bif ((!(m_impl_ValidState base)) || (!(m_impl_ValidState a))) || (!(m_impl_ValidState b)) then (([] : List (List UInt8)), 1) else (m_impl_conflictsOf base a b, 0)

/-! ### spec_l00In -/
def m_spec_l00In (n_ : Int) (low : Int) (high : Int) : Bool :=
  (decide (low ≤ n_)) && (decide (n_ ≤ high))

/-! ### spec_l01Small -/
def m_spec_l01Small (c_ : Int) : Bool :=
  (decide (97 ≤ c_)) && (decide (c_ ≤ 122))

/-! ### spec_l01Digit -/
def m_spec_l01Digit (c_ : Int) : Bool :=
  (decide (48 ≤ c_)) && (decide (c_ ≤ 57))

/-! ### spec_l01Name -/
def m_spec_l01Name_b1 (s_ : List UInt8) (rec1 : Int → Bool) (k1 : Int → Bool) (x1 : Int) : Bool :=
  bif decide (x1 < (s_.length : Int)) then bif (!(m_spec_l01Small (((s_.getD x1.toNat 0).toNat : Nat) : Int))) && (!(m_spec_l01Digit (((s_.getD x1.toNat 0).toNat : Nat) : Int))) then false else rec1 (x1 + 1) else k1 x1
def m_spec_l01Name (s_ : List UInt8) : Bool :=
  bif ((strB .eql s_ ([] : List UInt8)) || (decide (10 < (s_.length : Int)))) || (!(m_spec_l01Small (((s_.getD (0 : Int).toNat 0).toNat : Nat) : Int))) then false else LOOP (m_spec_l01Name_b1 s_) (fun (x1 : Int) => true) (((s_.length : Int) - 0 : Int).toNat + 1) 0

/-! ### spec_l27Setting -/
def m_spec_l27Setting (e : gSetting) : Bool :=
  (m_spec_l01Name e.Name) && (m_spec_l00In e.Value 0 1000)

/-! ### spec_l27State -/
def m_spec_l27State_b1 (list : List gSetting) (rec1 : Int → Bool) (k1 : Int → Bool) (x1 : Int) : Bool :=
  bif decide (x1 < (list.length : Int)) then bif (!(m_spec_l27Setting (at' list x1))) || ((decide (0 < x1)) && (strB .geq (at' list (x1 - 1)).Name (at' list x1).Name)) then false else rec1 (x1 + 1) else k1 x1
def m_spec_l27State (list : List gSetting) : Bool :=
  LOOP (m_spec_l27State_b1 list) (fun (x1 : Int) => decide ((list.length : Int) ≤ 24)) (((list.length : Int) - 0 : Int).toNat + 1) 0

/-! ### spec_ValidState -/
def m_spec_ValidState (list : List gSetting) : Bool :=
  m_spec_l27State list

/-! ### spec_l00Src_text -/
def m_spec_l00Src_text (s_ : gl00Src) (list : List (List UInt8)) : (List UInt8) × gl00Src × (List (List UInt8)) :=
  (at' list (m_spec_l00Src_pick s_ (list.length : Int)).1, (m_spec_l00Src_pick s_ (list.length : Int)).2, list)

/-! ### spec_l27Draw -/
def m_spec_l27Draw_b1 (s_ : gl00Src) (rec1 : ((List Int) × Int × Int × (List gVersion) × Int) → ((List gVersion) × gl00Src)) (k1 : ((List Int) × Int × Int × (List gVersion) × Int) → ((List gVersion) × gl00Src)) (x1 : (List Int) × Int × Int × (List gVersion) × Int) : (List gVersion) × gl00Src :=
  bif decide (0 < x1.2.2.2.2) then JN (fun j5 => bif decide (0 < (m_spec_l00Src_pick (gl00Src.mk x1.1 x1.2.1 x1.2.2.1) (IntKind.wrap .i64 ((x1.2.2.2.1.length : Int) + 1))).1) then j5 ((m_spec_l27Changed (m_spec_l27DrawState (m_spec_l00Src_pick (gl00Src.mk x1.1 x1.2.1 x1.2.2.1) (IntKind.wrap .i64 ((x1.2.2.2.1.length : Int) + 1))).2).2 (at' x1.2.2.2.1 (IntKind.wrap .i64 ((m_spec_l00Src_pick (gl00Src.mk x1.1 x1.2.1 x1.2.2.1) (IntKind.wrap .i64 ((x1.2.2.2.1.length : Int) + 1))).1 - 1))).State).2.code, (m_spec_l27Changed (m_spec_l27DrawState (m_spec_l00Src_pick (gl00Src.mk x1.1 x1.2.1 x1.2.2.1) (IntKind.wrap .i64 ((x1.2.2.2.1.length : Int) + 1))).2).2 (at' x1.2.2.2.1 (IntKind.wrap .i64 ((m_spec_l00Src_pick (gl00Src.mk x1.1 x1.2.1 x1.2.2.1) (IntKind.wrap .i64 ((x1.2.2.2.1.length : Int) + 1))).1 - 1))).State).2.at_, (m_spec_l27Changed (m_spec_l27DrawState (m_spec_l00Src_pick (gl00Src.mk x1.1 x1.2.1 x1.2.2.1) (IntKind.wrap .i64 ((x1.2.2.2.1.length : Int) + 1))).2).2 (at' x1.2.2.2.1 (IntKind.wrap .i64 ((m_spec_l00Src_pick (gl00Src.mk x1.1 x1.2.1 x1.2.2.1) (IntKind.wrap .i64 ((x1.2.2.2.1.length : Int) + 1))).1 - 1))).State).2.seed, (m_spec_l27Changed (m_spec_l27DrawState (m_spec_l00Src_pick (gl00Src.mk x1.1 x1.2.1 x1.2.2.1) (IntKind.wrap .i64 ((x1.2.2.2.1.length : Int) + 1))).2).2 (at' x1.2.2.2.1 (IntKind.wrap .i64 ((m_spec_l00Src_pick (gl00Src.mk x1.1 x1.2.1 x1.2.2.1) (IntKind.wrap .i64 ((x1.2.2.2.1.length : Int) + 1))).1 - 1))).State).1) else j5 ((m_spec_l27DrawState (m_spec_l00Src_pick (gl00Src.mk x1.1 x1.2.1 x1.2.2.1) (IntKind.wrap .i64 ((x1.2.2.2.1.length : Int) + 1))).2).2.code, (m_spec_l27DrawState (m_spec_l00Src_pick (gl00Src.mk x1.1 x1.2.1 x1.2.2.1) (IntKind.wrap .i64 ((x1.2.2.2.1.length : Int) + 1))).2).2.at_, (m_spec_l27DrawState (m_spec_l00Src_pick (gl00Src.mk x1.1 x1.2.1 x1.2.2.1) (IntKind.wrap .i64 ((x1.2.2.2.1.length : Int) + 1))).2).2.seed, (m_spec_l27DrawState (m_spec_l00Src_pick (gl00Src.mk x1.1 x1.2.1 x1.2.2.1) (IntKind.wrap .i64 ((x1.2.2.2.1.length : Int) + 1))).2).1)) (fun (v4 : (List Int) × Int × Int × (List gSetting)) => rec1 ((m_spec_l00Src_text (gl00Src.mk v4.1 v4.2.1 v4.2.2.1) ([([] : List UInt8), ([110, 101, 119] : List UInt8), ([97, 32, 98] : List UInt8)] : List (List UInt8))).2.1.code, (m_spec_l00Src_text (gl00Src.mk v4.1 v4.2.1 v4.2.2.1) ([([] : List UInt8), ([110, 101, 119] : List UInt8), ([97, 32, 98] : List UInt8)] : List (List UInt8))).2.1.at_, (m_spec_l00Src_text (gl00Src.mk v4.1 v4.2.1 v4.2.2.1) ([([] : List UInt8), ([110, 101, 119] : List UInt8), ([97, 32, 98] : List UInt8)] : List (List UInt8))).2.1.seed, x1.2.2.2.1 ++ ([gVersion.mk (IntKind.wrap .i64 ((x1.2.2.2.1.length : Int) + 1)) (m_spec_l00Src_pick (gl00Src.mk x1.1 x1.2.1 x1.2.2.1) (IntKind.wrap .i64 ((x1.2.2.2.1.length : Int) + 1))).1 (m_spec_l00Src_text (gl00Src.mk v4.1 v4.2.1 v4.2.2.1) ([([] : List UInt8), ([110, 101, 119] : List UInt8), ([97, 32, 98] : List UInt8)] : List (List UInt8))).1 v4.2.2.2] : List gVersion), x1.2.2.2.2 - 1)) else k1 (x1.1, x1.2.1, x1.2.2.1, x1.2.2.2.1, x1.2.2.2.2)
def m_spec_l27Draw (s_ : gl00Src) : (List gVersion) × gl00Src :=
  LOOP (m_spec_l27Draw_b1 s_) (fun (x1 : (List Int) × Int × Int × (List gVersion) × Int) => (x1.2.2.2.1, gl00Src.mk x1.1 x1.2.1 x1.2.2.1)) ((m_spec_l00Src_pick s_ 6).1.toNat + 1) ((m_spec_l00Src_pick s_ 6).2.code, (m_spec_l00Src_pick s_ 6).2.at_, (m_spec_l00Src_pick s_ 6).2.seed, ([] : List gVersion), (m_spec_l00Src_pick s_ 6).1)

/-! ### spec_R8History -/
def m_spec_R8History (code : List Int) : (List gVersion) :=
  (m_spec_l27Draw (m_spec_l00From code)).1

/-! ### slices_IndexFunc_int64 -/
def m_slices_IndexFunc_int64_b1 (s_ : List Int) (f : (Int → Bool)) (rec1 : Int → Int) (k1 : Int → Int) (x1 : Int) : Int :=
  bif decide (x1 < (s_.length : Int)) then bif f (at' s_ x1) then x1 else rec1 (x1 + 1) else k1 x1
def m_slices_IndexFunc_int64 (s_ : List Int) (f : Int → Bool) : Int :=
  LOOP (m_slices_IndexFunc_int64_b1 s_ f) (fun (x1 : Int) => (-1)) (((s_.length : Int) - 0 : Int).toNat + 1) 0

/-! ### slices_ContainsFunc_int64 -/
def m_slices_ContainsFunc_int64 (s_ : List Int) (f : Int → Bool) : Bool :=
  decide (0 ≤ (m_slices_IndexFunc_int64 s_ f))

/-! ### impl_allWithin_1 -/
def m_impl_allWithin_1 (n_ : Int) (p1 : Int) (p2 : Int) : Bool :=
  !(m_impl_within n_ p1 p2)

/-! ### impl_allWithin -/
def m_impl_allWithin (list : List Int) (low : Int) (high : Int) : Bool :=
  !(m_slices_ContainsFunc_int64 list (fun (a0 : Int) => m_impl_allWithin_1 a0 low high))

/-! ### impl_bytesWithin -/
def m_impl_bytesWithin_b1 (s_ : List UInt8) (low : Int) (high : Int) (rec1 : Int → Bool) (k1 : Int → Bool) (x1 : Int) : Bool :=
  bif decide (x1 < (s_.length : Int)) then bif (decide ((((s_.getD x1.toNat 0).toNat : Nat) : Int) < low)) || (decide (high < (((s_.getD x1.toNat 0).toNat : Nat) : Int))) then false else rec1 (x1 + 1) else k1 x1
def m_impl_bytesWithin (s_ : List UInt8) (low : Int) (high : Int) : Bool :=
  LOOP (m_impl_bytesWithin_b1 s_ low high) (fun (x1 : Int) => true) (((s_.length : Int) - 0 : Int).toNat + 1) 0

/-! ### impl_memoValid -/
def m_impl_memoValid (memo : List UInt8) : Bool :=
  (decide ((memo.length : Int) ≤ 20)) && (m_impl_bytesWithin memo 32 126)

/-! ### impl_ValidHistory -/
def m_impl_ValidHistory_b1 (list : List gVersion) (rec1 : Int → Bool) (k1 : Int → Bool) (x1 : Int) : Bool :=
  bif decide (x1 < (list.length : Int)) then bif ((((at' list x1).Number != (x1 + 1)) || (!(m_impl_within (at' list x1).Parent 0 x1))) || (!(m_impl_memoValid (at' list x1).Memo))) || (!(m_impl_ValidState (at' list x1).State)) then false else rec1 (x1 + 1) else k1 x1
def m_impl_ValidHistory (list : List gVersion) : Bool :=
  bif decide (32 < (list.length : Int)) then false else LOOP (m_impl_ValidHistory_b1 list) (fun (x1 : Int) => true) (((list.length : Int) - 0 : Int).toNat + 1) 0

/-! ### impl_versionsCode -/
def m_impl_versionsCode (list : List gVersion) (numbers : List Int) : Int :=
  bif !(m_impl_ValidHistory list) then 1 else bif !(m_impl_allWithin numbers 1 (list.length : Int)) then 3 else 0

/-! ### impl_lineOf -/
def m_impl_lineOf_b1 (list : List gVersion) (number : Int) (rec1 : (Int × (List Int)) → (List Int)) (k1 : (Int × (List Int)) → (List Int)) (x1 : Int × (List Int)) : (List Int) :=
  bif decide (0 < x1.1) then rec1 ((at' list (IntKind.wrap .i64 (x1.1 - 1))).Parent, x1.2 ++ ([x1.1] : List Int)) else k1 (x1.1, x1.2)
def m_impl_lineOf (list : List gVersion) (number : Int) : (List Int) :=
  LOOP (m_impl_lineOf_b1 list number) (fun (x1 : Int × (List Int)) => x1.2) (number.toNat + 1) (number, ([] : List Int))

/-! ### slices_Index_int64 -/
def m_slices_Index_int64_b1 (s_ : List Int) (v : Int) (rec1 : Int → Int) (k1 : Int → Int) (x1 : Int) : Int :=
  bif decide (x1 < (s_.length : Int)) then bif v == (at' s_ x1) then x1 else rec1 (x1 + 1) else k1 x1
def m_slices_Index_int64 (s_ : List Int) (v : Int) : Int :=
  LOOP (m_slices_Index_int64_b1 s_ v) (fun (x1 : Int) => (-1)) (((s_.length : Int) - 0 : Int).toNat + 1) 0

/-! ### slices_Contains_int64 -/
def m_slices_Contains_int64 (s_ : List Int) (v : Int) : Bool :=
  decide (0 ≤ (m_slices_Index_int64 s_ v))

/-! ### impl_commonAncestor -/
def m_impl_commonAncestor_b1 (list : List gVersion) (a : Int) (b : Int) (rec1 : Int → Int) (k1 : Int → Int) (x1 : Int) : Int :=
  bif decide (x1 < ((m_impl_lineOf list a).length : Int)) then bif m_slices_Contains_int64 (m_impl_lineOf list b) (at' (m_impl_lineOf list a) x1) then at' (m_impl_lineOf list a) x1 else rec1 (x1 + 1) else k1 x1
def m_impl_commonAncestor (list : List gVersion) (a : Int) (b : Int) : Int :=
  LOOP (m_impl_commonAncestor_b1 list a b) (fun (x1 : Int) => 0) ((((m_impl_lineOf list a).length : Int) - 0 : Int).toNat + 1) 0

/-! ### impl_CommonAncestor -/
def m_impl_CommonAncestor (list : List gVersion) (a : Int) (b : Int) : Int × Int :=
  bif (m_impl_versionsCode list ([a, b] : List Int)) != 0 then (0, m_impl_versionsCode list ([a, b] : List Int)) else (m_impl_commonAncestor list a b, 0)

/-! ### impl_versionState -/
def m_impl_versionState (list : List gVersion) (number : Int) : (List gSetting) :=
  bif number == 0 then ([] : List gSetting) else (at' list (IntKind.wrap .i64 (number - 1))).State

/-! ### slices_Clone_impl_Version -/
def m_slices_Clone_impl_Version (s_ : List gVersion) : (List gVersion) :=
  ([] : List gVersion) ++ s_

/-! ### slices_Clone_impl_Setting -/
def m_slices_Clone_impl_Setting (s_ : List gSetting) : (List gSetting) :=
  ([] : List gSetting) ++ s_

/-! ### impl_withVersion -/
def m_impl_withVersion_b1 (list : List gVersion) (parent : Int) (memo : List UInt8) (state : List gSetting) (rec1 : ((List gVersion) × Int) → ((List gVersion) × Int)) (k1 : ((List gVersion) × Int) → ((List gVersion) × Int)) (x1 : (List gVersion) × Int) : (List gVersion) × Int :=
  bif decide (x1.2 < (((m_slices_Clone_impl_Version list) ++ ([gVersion.mk ((list.length : Int) + 1) parent memo state] : List gVersion)).length : Int)) then rec1 (x1.1 ++ ([gVersion.mk (at' ((m_slices_Clone_impl_Version list) ++ ([gVersion.mk ((list.length : Int) + 1) parent memo state] : List gVersion)) x1.2).Number (at' ((m_slices_Clone_impl_Version list) ++ ([gVersion.mk ((list.length : Int) + 1) parent memo state] : List gVersion)) x1.2).Parent (at' ((m_slices_Clone_impl_Version list) ++ ([gVersion.mk ((list.length : Int) + 1) parent memo state] : List gVersion)) x1.2).Memo (m_slices_Clone_impl_Setting (at' ((m_slices_Clone_impl_Version list) ++ ([gVersion.mk ((list.length : Int) + 1) parent memo state] : List gVersion)) x1.2).State)] : List gVersion), x1.2 + 1) else k1 (x1.1, x1.2)
def m_impl_withVersion (list : List gVersion) (parent : Int) (memo : List UInt8) (state : List gSetting) : (List gVersion) × Int :=
  bif (list.length : Int) == 32 then (([] : List gVersion), 5) else LOOP (m_impl_withVersion_b1 list parent memo state) (fun (x1 : (List gVersion) × Int) => (x1.1, 0)) (((((m_slices_Clone_impl_Version list) ++ ([gVersion.mk ((list.length : Int) + 1) parent memo state] : List gVersion)).length : Int) - 0 : Int).toNat + 1) (([] : List gVersion), 0)

/-! ### impl_MergeVersions -/
def m_impl_MergeVersions (list : List gVersion) (a : Int) (b : Int) (memo : List UInt8) : (List gVersion) × Int :=
  bif ((m_impl_versionsCode list ([a, b] : List Int)) == 1) || (!(m_impl_memoValid memo)) then (([] : List gVersion), 1) else bif (m_impl_versionsCode list ([a, b] : List Int)) != 0 then (([] : List gVersion), m_impl_versionsCode list ([a, b] : List Int)) else bif (m_impl_MergeStates (m_impl_versionState list (m_impl_commonAncestor list a b)) (m_impl_versionState list a) (m_impl_versionState list b)).2 != 0 then (([] : List gVersion), (m_impl_MergeStates (m_impl_versionState list (m_impl_commonAncestor list a b)) (m_impl_versionState list a) (m_impl_versionState list b)).2) else ((m_impl_withVersion list a memo (m_impl_MergeStates (m_impl_versionState list (m_impl_commonAncestor list a b)) (m_impl_versionState list a) (m_impl_versionState list b)).1).1, (m_impl_withVersion list a memo (m_impl_MergeStates (m_impl_versionState list (m_impl_commonAncestor list a b)) (m_impl_versionState list a) (m_impl_versionState list b)).1).2)

/-! ### spec_l27Memo -/
def m_spec_l27Memo_b1 (s_ : List UInt8) (rec1 : Int → Bool) (k1 : Int → Bool) (x1 : Int) : Bool :=
  bif decide (x1 < (s_.length : Int)) then bif (decide ((((s_.getD x1.toNat 0).toNat : Nat) : Int) < 32)) || (decide (126 < (((s_.getD x1.toNat 0).toNat : Nat) : Int))) then false else rec1 (x1 + 1) else k1 x1
def m_spec_l27Memo (s_ : List UInt8) : Bool :=
  LOOP (m_spec_l27Memo_b1 s_) (fun (x1 : Int) => decide ((s_.length : Int) ≤ 20)) (((s_.length : Int) - 0 : Int).toNat + 1) 0

/-! ### spec_l27Ok -/
def m_spec_l27Ok_b1 (list : List gVersion) (rec1 : Int → Bool) (k1 : Int → Bool) (x1 : Int) : Bool :=
  bif decide (x1 < (list.length : Int)) then bif ((((at' list x1).Number != (x1 + 1)) || (!(m_spec_l00In (at' list x1).Parent 0 x1))) || (!(m_spec_l27Memo (at' list x1).Memo))) || (!(m_spec_l27State (at' list x1).State)) then false else rec1 (x1 + 1) else k1 x1
def m_spec_l27Ok (list : List gVersion) : Bool :=
  LOOP (m_spec_l27Ok_b1 list) (fun (x1 : Int) => decide ((list.length : Int) ≤ 32)) (((list.length : Int) - 0 : Int).toNat + 1) 0

/-! ### spec_ValidHistory -/
def m_spec_ValidHistory (list : List gVersion) : Bool :=
  m_spec_l27Ok list

/-! ### laws_FnMerges -/
def m_laws_FnMerges (code : List Int) (more : List Int) : Bool :=
  bif m_laws_r8Long code more then true else bif ((((((m_impl_MergeStates (m_spec_R8State code) (m_spec_R8Changed more (m_spec_R8State code)) (m_spec_R8State code)).2 != 0) || ((m_impl_MergeStates (m_spec_R8State code) (m_spec_R8State code) (m_spec_R8Changed more (m_spec_R8State code))).2 != 0)) || ((m_impl_MergeStates (m_spec_R8State code) (m_spec_R8Changed more (m_spec_R8State code)) (m_spec_R8Changed more (m_spec_R8State code))).2 != 0)) || (!(m_spec_SameState (m_impl_MergeStates (m_spec_R8State code) (m_spec_R8Changed more (m_spec_R8State code)) (m_spec_R8State code)).1 (m_spec_R8Changed more (m_spec_R8State code))))) || (!(m_spec_SameState (m_impl_MergeStates (m_spec_R8State code) (m_spec_R8State code) (m_spec_R8Changed more (m_spec_R8State code))).1 (m_spec_R8Changed more (m_spec_R8State code))))) || (!(m_spec_SameState (m_impl_MergeStates (m_spec_R8State code) (m_spec_R8Changed more (m_spec_R8State code)) (m_spec_R8Changed more (m_spec_R8State code))).1 (m_spec_R8Changed more (m_spec_R8State code)))) then false else bif ((((((m_impl_ConflictsOf (m_spec_R8State code) (m_spec_R8Changed more (m_spec_R8State code)) (m_spec_R8Changed code (m_spec_R8State code))).2 != 0) || ((m_impl_ConflictsOf (m_spec_R8State code) (m_spec_R8Changed code (m_spec_R8State code)) (m_spec_R8Changed more (m_spec_R8State code))).2 != 0)) || (((m_impl_ConflictsOf (m_spec_R8State code) (m_spec_R8Changed more (m_spec_R8State code)) (m_spec_R8Changed code (m_spec_R8State code))).1.length : Int) != ((m_impl_ConflictsOf (m_spec_R8State code) (m_spec_R8Changed code (m_spec_R8State code)) (m_spec_R8Changed more (m_spec_R8State code))).1.length : Int))) || ((m_impl_MergeStates (m_spec_R8State code) (m_spec_R8Changed more (m_spec_R8State code)) (m_spec_R8Changed code (m_spec_R8State code))).2 != (m_impl_MergeStates (m_spec_R8State code) (m_spec_R8Changed code (m_spec_R8State code)) (m_spec_R8Changed more (m_spec_R8State code))).2)) || (((m_impl_MergeStates (m_spec_R8State code) (m_spec_R8Changed more (m_spec_R8State code)) (m_spec_R8Changed code (m_spec_R8State code))).2 == 6) != (decide (0 < ((m_impl_ConflictsOf (m_spec_R8State code) (m_spec_R8Changed more (m_spec_R8State code)) (m_spec_R8Changed code (m_spec_R8State code))).1.length : Int))))) || (((m_impl_MergeStates (m_spec_R8State code) (m_spec_R8Changed more (m_spec_R8State code)) (m_spec_R8Changed code (m_spec_R8State code))).2 == 0) && ((!(m_spec_SameState (m_impl_MergeStates (m_spec_R8State code) (m_spec_R8Changed more (m_spec_R8State code)) (m_spec_R8Changed code (m_spec_R8State code))).1 (m_impl_MergeStates (m_spec_R8State code) (m_spec_R8Changed code (m_spec_R8State code)) (m_spec_R8Changed more (m_spec_R8State code))).1)) || (!(m_spec_ValidState (m_impl_MergeStates (m_spec_R8State code) (m_spec_R8Changed more (m_spec_R8State code)) (m_spec_R8Changed code (m_spec_R8State code))).1)))) then false else bif ((m_spec_R8History more).length : Int) == 0 then true else bif (((((m_impl_CommonAncestor (m_spec_R8History more) (IntKind.wrap .i64 (1 + (m_laws_r8At more 0 ((m_spec_R8History more).length : Int)))) (IntKind.wrap .i64 (1 + (m_laws_r8At more 1 ((m_spec_R8History more).length : Int))))).2 != 0) || ((m_impl_CommonAncestor (m_spec_R8History more) (IntKind.wrap .i64 (1 + (m_laws_r8At more 1 ((m_spec_R8History more).length : Int)))) (IntKind.wrap .i64 (1 + (m_laws_r8At more 0 ((m_spec_R8History more).length : Int))))).2 != 0)) || ((m_impl_CommonAncestor (m_spec_R8History more) (IntKind.wrap .i64 (1 + (m_laws_r8At more 0 ((m_spec_R8History more).length : Int)))) (IntKind.wrap .i64 (1 + (m_laws_r8At more 1 ((m_spec_R8History more).length : Int))))).1 != (m_impl_CommonAncestor (m_spec_R8History more) (IntKind.wrap .i64 (1 + (m_laws_r8At more 1 ((m_spec_R8History more).length : Int)))) (IntKind.wrap .i64 (1 + (m_laws_r8At more 0 ((m_spec_R8History more).length : Int))))).1)) || (decide ((m_impl_CommonAncestor (m_spec_R8History more) (IntKind.wrap .i64 (1 + (m_laws_r8At more 0 ((m_spec_R8History more).length : Int)))) (IntKind.wrap .i64 (1 + (m_laws_r8At more 1 ((m_spec_R8History more).length : Int))))).1 < 0))) || (decide ((if (IntKind.wrap .i64 (1 + (m_laws_r8At more 1 ((m_spec_R8History more).length : Int)))) < (IntKind.wrap .i64 (1 + (m_laws_r8At more 0 ((m_spec_R8History more).length : Int)))) then (IntKind.wrap .i64 (1 + (m_laws_r8At more 1 ((m_spec_R8History more).length : Int)))) else (IntKind.wrap .i64 (1 + (m_laws_r8At more 0 ((m_spec_R8History more).length : Int))))) < (m_impl_CommonAncestor (m_spec_R8History more) (IntKind.wrap .i64 (1 + (m_laws_r8At more 0 ((m_spec_R8History more).length : Int)))) (IntKind.wrap .i64 (1 + (m_laws_r8At more 1 ((m_spec_R8History more).length : Int))))).1)) then false else ((m_impl_MergeVersions (m_spec_R8History more) (IntKind.wrap .i64 (1 + (m_laws_r8At more 0 ((m_spec_R8History more).length : Int)))) (IntKind.wrap .i64 (1 + (m_laws_r8At more 1 ((m_spec_R8History more).length : Int)))) ([98, 111, 116, 104] : List UInt8)).2 != 0) || ((((m_impl_MergeVersions (m_spec_R8History more) (IntKind.wrap .i64 (1 + (m_laws_r8At more 0 ((m_spec_R8History more).length : Int)))) (IntKind.wrap .i64 (1 + (m_laws_r8At more 1 ((m_spec_R8History more).length : Int)))) ([98, 111, 116, 104] : List UInt8)).1.length : Int) == (IntKind.wrap .i64 (((m_spec_R8History more).length : Int) + 1))) && (m_spec_ValidHistory (m_impl_MergeVersions (m_spec_R8History more) (IntKind.wrap .i64 (1 + (m_laws_r8At more 0 ((m_spec_R8History more).length : Int)))) (IntKind.wrap .i64 (1 + (m_laws_r8At more 1 ((m_spec_R8History more).length : Int)))) ([98, 111, 116, 104] : List UInt8)).1))

end Go.Proofs.Ytlbpjgeoaiiamaa
