/-
  PLAIN MODELS of the Go functions that the law reaches, printed by a program of this claim. Conditions: none; nothing is claimed here.
-/
import Derived.Test.YtbeppnhplglocaaEngN
set_option linter.unusedVariables false
set_option linter.unusedSimpArgs false
set_option linter.unusedSectionVars false
set_option linter.unnecessarySimpa false
namespace Go.Proofs.Ytbeppnhplglocaa
open Go Go.RowKit Go.Proofs Go.Proofs.Ytbeppnhplglocaa.E
structure gCheck where
  Id : List UInt8
  Every : Int
  Last : Int
instance : Inhabited gCheck := ⟨gCheck.mk default default default⟩
abbrev gCheck.v (x : gCheck) : V := .st [.str x.Id, .int .i64 x.Every, .int .i64 x.Last]

/-! ### laws_szCheck -/
def m_laws_szCheck (a : gCheck) (left : Int) : Int :=
  bif decide ((IntKind.wrap .i64 (left - (a.Id.length : Int))) < 0) then (-1) else IntKind.wrap .i64 (left - (a.Id.length : Int))

/-! ### laws_szCheckS -/
def m_laws_szCheckS_b1 (a : List gCheck) (left : Int) (rec1 : (Int × Int) → Int) (k1 : (Int × Int) → Int) (x1 : Int × Int) : Int :=
  bif decide (x1.2 < (a.length : Int)) then bif decide ((m_laws_szCheck (at' a x1.2) x1.1) < 0) then (-1) else rec1 (m_laws_szCheck (at' a x1.2) x1.1, x1.2 + 1) else k1 (x1.1, x1.2)
def m_laws_szCheckS (a : List gCheck) (left : Int) : Int :=
  bif decide ((IntKind.wrap .i64 (left - (a.length : Int))) < 0) then (-1) else LOOP (m_laws_szCheckS_b1 a left) (fun (x1 : Int × Int) => x1.1) (((a.length : Int) - 0 : Int).toNat + 1) (IntKind.wrap .i64 (left - (a.length : Int)), 0)

/-! ### spec_l00In -/
def m_spec_l00In (n_ : Int) (low : Int) (high : Int) : Bool :=
  (decide (low ≤ n_)) && (decide (n_ ≤ high))

/-! ### spec_l01Small -/
def m_spec_l01Small (c_ : Int) : Bool :=
  (decide (97 ≤ c_)) && (decide (c_ ≤ 122))

/-! ### spec_l01Digit -/
def m_spec_l01Digit (c_ : Int) : Bool :=
  (decide (48 ≤ c_)) && (decide (c_ ≤ 57))

/-! ### spec_l01Name -/
def m_spec_l01Name_b1 (s_ : List UInt8) (rec1 : Int → Bool) (k1 : Int → Bool) (x1 : Int) : Bool :=
  bif decide (x1 < (s_.length : Int)) then bif (!(m_spec_l01Small (((s_.getD x1.toNat 0).toNat : Nat) : Int))) && (!(m_spec_l01Digit (((s_.getD x1.toNat 0).toNat : Nat) : Int))) then false else rec1 (x1 + 1) else k1 x1
def m_spec_l01Name (s_ : List UInt8) : Bool :=
  bif ((strB .eql s_ ([] : List UInt8)) || (decide (10 < (s_.length : Int)))) || (!(m_spec_l01Small (((s_.getD (0 : Int).toNat 0).toNat : Nat) : Int))) then false else LOOP (m_spec_l01Name_b1 s_) (fun (x1 : Int) => true) (((s_.length : Int) - 0 : Int).toNat + 1) 0

/-! ### spec_l25One -/
def m_spec_l25One (c_ : gCheck) : Bool :=
  ((m_spec_l01Name c_.Id) && (m_spec_l00In c_.Every 1 365)) && (m_spec_l00In c_.Last 0 100000)

/-! ### spec_l25Ok -/
def m_spec_l25Ok_b1 (list : List gCheck) (rec1 : Int → Bool) (k1 : Int → Bool) (x1 : Int) : Bool :=
  bif decide (x1 < (list.length : Int)) then bif (!(m_spec_l25One (at' list x1))) || ((decide (0 < x1)) && (strB .geq (at' list (x1 - 1)).Id (at' list x1).Id)) then false else rec1 (x1 + 1) else k1 x1
def m_spec_l25Ok (list : List gCheck) : Bool :=
  LOOP (m_spec_l25Ok_b1 list) (fun (x1 : Int) => decide ((list.length : Int) ≤ 16)) (((list.length : Int) - 0 : Int).toNat + 1) 0

/-! ### spec_l25Day -/
def m_spec_l25Day (n_ : Int) : Bool :=
  m_spec_l00In n_ 0 100000

/-! ### spec_l25Due -/
def m_spec_l25Due (c_ : gCheck) : Int :=
  IntKind.wrap .i64 (c_.Last + c_.Every)

/-! ### spec_l25Spread -/
def m_spec_l25Spread_b4 (list : List gCheck) (from_ : Int) (perDay : Int) (x1 : (List Int) × Int) (rec2 : ((List Int) × Int × Int) → ((List Int) × Bool)) (k2 : ((List Int) × Int × Int) → ((List Int) × Bool)) (x2 : (List Int) × Int × Int) (rec3 : ((List Int) × Int × Int) → ((List Int) × Bool)) (k3 : ((List Int) × Int × Int) → ((List Int) × Bool)) (x3 : (List Int) × Int × Int) (rec4 : (Int × Int) → ((List Int) × Bool)) (k4 : (Int × Int) → ((List Int) × Bool)) (x4 : Int × Int) : (List Int) × Bool :=
  bif decide (x4.2 < (list.length : Int)) then bif (decide ((at' x3.1 x4.2) < 0)) && ((decide (x4.1 < 0)) || (decide ((m_spec_l25Due (at' list x4.2)) < (m_spec_l25Due (at' list x4.1))))) then rec4 (x4.2, x4.2 + 1) else rec4 (x4.1, x4.2 + 1) else k4 (x4.1, x4.2)
def m_spec_l25Spread_b3 (list : List gCheck) (from_ : Int) (perDay : Int) (x1 : (List Int) × Int) (rec2 : ((List Int) × Int × Int) → ((List Int) × Bool)) (k2 : ((List Int) × Int × Int) → ((List Int) × Bool)) (x2 : (List Int) × Int × Int) (rec3 : ((List Int) × Int × Int) → ((List Int) × Bool)) (k3 : ((List Int) × Int × Int) → ((List Int) × Bool)) (x3 : (List Int) × Int × Int) : (List Int) × Bool :=
  bif (decide (x3.2.2 < perDay)) && (decide (0 < x3.2.1)) then LOOP (m_spec_l25Spread_b4 list from_ perDay x1 rec2 k2 x2 rec3 k3 x3) (fun (x4 : Int × Int) => bif decide ((m_spec_l25Due (at' list x4.1)) < x2.2.2) then (([] : List Int), false) else rec3 (put' x3.1 x4.1 x2.2.2, x3.2.1 - 1, x3.2.2 + 1)) (((list.length : Int) - 0 : Int).toNat + 1) ((-1), 0) else k3 (x3.1, x3.2.1, x3.2.2)
def m_spec_l25Spread_b2 (list : List gCheck) (from_ : Int) (perDay : Int) (x1 : (List Int) × Int) (rec2 : ((List Int) × Int × Int) → ((List Int) × Bool)) (k2 : ((List Int) × Int × Int) → ((List Int) × Bool)) (x2 : (List Int) × Int × Int) : (List Int) × Bool :=
  bif decide (0 < x2.2.1) then LOOP (m_spec_l25Spread_b3 list from_ perDay x1 rec2 k2 x2) (fun (x3 : (List Int) × Int × Int) => rec2 (x3.1, x3.2.1, x2.2.2 + 1)) ((perDay - 0 : Int).toNat + 1) (x2.1, x2.2.1, 0) else k2 (x2.1, x2.2.1, x2.2.2)
def m_spec_l25Spread_b1 (list : List gCheck) (from_ : Int) (perDay : Int) (rec1 : ((List Int) × Int) → ((List Int) × Bool)) (k1 : ((List Int) × Int) → ((List Int) × Bool)) (x1 : (List Int) × Int) : (List Int) × Bool :=
  bif decide (x1.2 < (list.length : Int)) then rec1 (x1.1 ++ ([(-1)] : List Int), x1.2 + 1) else k1 (x1.1, x1.2)
def m_spec_l25Spread (list : List gCheck) (from_ : Int) (perDay : Int) : (List Int) × Bool :=
  LOOP (m_spec_l25Spread_b1 list from_ perDay) (fun (x1 : (List Int) × Int) => LOOP (m_spec_l25Spread_b2 list from_ perDay x1) (fun (x2 : (List Int) × Int × Int) => (x2.1, true)) ((list.length : Int).toNat + 1) (x1.1, (list.length : Int), from_)) (((list.length : Int) - 0 : Int).toNat + 1) (([] : List Int), 0)

/-! ### spec_SpreadChecks -/
def m_spec_SpreadChecks (list : List gCheck) (from_ : Int) (perDay : Int) : (List Int) × Int :=
  bif !(m_spec_l25Ok list) then (([] : List Int), 1) else bif (!(m_spec_l25Day from_)) || (!(m_spec_l00In perDay 1 16)) then (([] : List Int), 2) else bif !(m_spec_l25Spread list from_ perDay).2 then (([] : List Int), 3) else ((m_spec_l25Spread list from_ perDay).1, 0)

/-! ### laws_toCheck -/
def m_laws_toCheck (a : gCheck) : gCheck :=
  a

/-! ### laws_toCheckS -/
def m_laws_toCheckS_b1 (a : List gCheck) (rec1 : ((List gCheck) × Int) → (List gCheck)) (k1 : ((List gCheck) × Int) → (List gCheck)) (x1 : (List gCheck) × Int) : (List gCheck) :=
  bif decide (x1.2 < (a.length : Int)) then rec1 (put' x1.1 x1.2 (m_laws_toCheck (at' a x1.2)), x1.2 + 1) else k1 (x1.1, x1.2)
def m_laws_toCheckS (a : List gCheck) : (List gCheck) :=
  LOOP (m_laws_toCheckS_b1 a) (fun (x1 : (List gCheck) × Int) => x1.1) (((a.length : Int) - 0 : Int).toNat + 1) (List.replicate ((a.length : Int) : Int).toNat (gCheck.mk ([] : List UInt8) 0 0 : gCheck), 0)

/-! ### impl_within -/
def m_impl_within (n_ : Int) (low : Int) (high : Int) : Bool :=
  (decide (low ≤ n_)) && (decide (n_ ≤ high))

/-! ### impl_checkDay -/
def m_impl_checkDay (n_ : Int) : Bool :=
  m_impl_within n_ 0 100000

/-! ### impl_onlyNameBytes -/
def m_impl_onlyNameBytes_b1 (s_ : List UInt8) (rec1 : Int → Bool) (k1 : Int → Bool) (x1 : Int) : Bool :=
  bif decide (x1 < (s_.length : Int)) then bif ((decide ((((s_.getD x1.toNat 0).toNat : Nat) : Int) < 97)) || (decide (122 < (((s_.getD x1.toNat 0).toNat : Nat) : Int)))) && ((decide ((((s_.getD x1.toNat 0).toNat : Nat) : Int) < 48)) || (decide (57 < (((s_.getD x1.toNat 0).toNat : Nat) : Int)))) then false else rec1 (x1 + 1) else k1 x1
def m_impl_onlyNameBytes (s_ : List UInt8) : Bool :=
  LOOP (m_impl_onlyNameBytes_b1 s_) (fun (x1 : Int) => true) (((s_.length : Int) - 0 : Int).toNat + 1) 0

/-! ### impl_IsName -/
def m_impl_IsName (s_ : List UInt8) : Bool :=
  bif (((decide ((s_.length : Int) < 1)) || (decide (10 < (s_.length : Int)))) || (decide ((((s_.getD (0 : Int).toNat 0).toNat : Nat) : Int) < 97))) || (decide (122 < (((s_.getD (0 : Int).toNat 0).toNat : Nat) : Int))) then false else m_impl_onlyNameBytes s_

/-! ### impl_Check_valid -/
def m_impl_Check_valid (c_ : gCheck) : Bool :=
  ((m_impl_IsName c_.Id) && (m_impl_within c_.Every 1 365)) && (m_impl_checkDay c_.Last)

/-! ### impl_ValidChecks -/
def m_impl_ValidChecks_b1 (list : List gCheck) (rec1 : Int → Bool) (k1 : Int → Bool) (x1 : Int) : Bool :=
  bif decide (x1 < (list.length : Int)) then bif (!(m_impl_Check_valid (at' list x1))) || ((decide (0 < x1)) && (strB .leq (at' list x1).Id (at' list (x1 - 1)).Id)) then false else rec1 (x1 + 1) else k1 x1
def m_impl_ValidChecks (list : List gCheck) : Bool :=
  bif decide (16 < (list.length : Int)) then false else LOOP (m_impl_ValidChecks_b1 list) (fun (x1 : Int) => true) (((list.length : Int) - 0 : Int).toNat + 1) 0

/-! ### slices_insertionSortCmpFunc_int -/
def m_slices_insertionSortCmpFunc_int_b2 (data : List Int) (a : Int) (b : Int) (cmp : (Int → Int → Int)) (rec1 : ((List Int) × Int) → (List Int)) (k1 : ((List Int) × Int) → (List Int)) (x1 : (List Int) × Int) (rec2 : ((List Int) × Int) → (List Int)) (k2 : ((List Int) × Int) → (List Int)) (x2 : (List Int) × Int) : (List Int) :=
  bif (decide (a < x2.2)) && (decide ((cmp (at' x2.1 x2.2) (at' x2.1 (x2.2 - 1))) < 0)) then rec2 (put' (put' x2.1 x2.2 (at' x2.1 (x2.2 - 1))) (x2.2 - 1) (at' x2.1 x2.2), x2.2 - 1) else k2 (x2.1, x2.2)
def m_slices_insertionSortCmpFunc_int_b1 (data : List Int) (a : Int) (b : Int) (cmp : (Int → Int → Int)) (rec1 : ((List Int) × Int) → (List Int)) (k1 : ((List Int) × Int) → (List Int)) (x1 : (List Int) × Int) : (List Int) :=
  bif decide (x1.2 < b) then LOOP (m_slices_insertionSortCmpFunc_int_b2 data a b cmp rec1 k1 x1) (fun (x2 : (List Int) × Int) => rec1 (x2.1, x1.2 + 1)) (x1.2.toNat + 1) (x1.1, x1.2) else k1 (x1.1, x1.2)
def m_slices_insertionSortCmpFunc_int (data : List Int) (a : Int) (b : Int) (cmp : Int → Int → Int) : (List Int) :=
  LOOP (m_slices_insertionSortCmpFunc_int_b1 data a b cmp) (fun (x1 : (List Int) × Int) => x1.1) ((b - (IntKind.wrap .i64 (a + 1)) : Int).toNat + 1) (data, IntKind.wrap .i64 (a + 1))

/-! ### slices_stableCmpFunc_int -/
def m_slices_stableCmpFunc_int_b2 (data : List Int) (n_ : Int) (cmp : (Int → Int → Int)) (x1 : Unit) (rec2 : Unit → (List Int)) (k2 : Unit → (List Int)) (x2 : Unit) : (List Int) :=
  k2 ()
def m_slices_stableCmpFunc_int_b1 (data : List Int) (n_ : Int) (cmp : (Int → Int → Int)) (rec1 : Unit → (List Int)) (k1 : Unit → (List Int)) (x1 : Unit) : (List Int) :=
  k1 ()
def m_slices_stableCmpFunc_int (data : List Int) (n_ : Int) (cmp : Int → Int → Int) : (List Int) :=
  LOOP (m_slices_stableCmpFunc_int_b1 data n_ cmp) (fun (x1 : Unit) => LOOP (m_slices_stableCmpFunc_int_b2 data n_ cmp x1) (fun (x2 : Unit) => m_slices_insertionSortCmpFunc_int data 0 n_ cmp) (1) ()) (1) ()

/-! ### slices_SortStableFunc_int -/
def m_slices_SortStableFunc_int (x_ : List Int) (cmp : Int → Int → Int) : (List Int) :=
  m_slices_stableCmpFunc_int x_ (x_.length : Int) cmp

/-! ### cmp_isNaN_int64 -/
def m_cmp_isNaN_int64 (x_ : Int) : Bool :=
  x_ != x_

/-! ### cmp_Compare_int64 -/
def m_cmp_Compare_int64 (x_ : Int) (y : Int) : Int :=
  bif m_cmp_isNaN_int64 x_ then bif m_cmp_isNaN_int64 y then 0 else (-1) else bif m_cmp_isNaN_int64 y then 1 else bif decide (x_ < y) then (-1) else bif decide (y < x_) then 1 else 0

/-! ### impl_Check_due -/
def m_impl_Check_due (c_ : gCheck) : Int :=
  IntKind.wrap .i64 (c_.Last + c_.Every)

/-! ### impl_spread_1 -/
def m_impl_spread_1 (a : Int) (b : Int) (p2 : List gCheck) : Int :=
  m_cmp_Compare_int64 (m_impl_Check_due (at' p2 a)) (m_impl_Check_due (at' p2 b))

/-! ### impl_spread -/
def m_impl_spread_b2 (list : List gCheck) (from_ : Int) (perDay : Int) (x1 : (List Int) × Int) (rec2 : ((List Int) × Int) → ((List Int) × Bool)) (k2 : ((List Int) × Int) → ((List Int) × Bool)) (x2 : (List Int) × Int) : (List Int) × Bool :=
  bif decide (x2.2 < (x1.1.length : Int)) then bif decide ((m_impl_Check_due (at' list (at' (m_slices_SortStableFunc_int x1.1 (fun (a0 : Int) (a1 : Int) => m_impl_spread_1 a0 a1 list)) x2.2))) < (at' (put' x2.1 (at' (m_slices_SortStableFunc_int x1.1 (fun (a0 : Int) (a1 : Int) => m_impl_spread_1 a0 a1 list)) x2.2) (IntKind.wrap .i64 (from_ + (IntKind.wrap .i64 (Int.tdiv x2.2 perDay))))) (at' (m_slices_SortStableFunc_int x1.1 (fun (a0 : Int) (a1 : Int) => m_impl_spread_1 a0 a1 list)) x2.2))) then (([] : List Int), false) else rec2 (put' x2.1 (at' (m_slices_SortStableFunc_int x1.1 (fun (a0 : Int) (a1 : Int) => m_impl_spread_1 a0 a1 list)) x2.2) (IntKind.wrap .i64 (from_ + (IntKind.wrap .i64 (Int.tdiv x2.2 perDay)))), x2.2 + 1) else k2 (x2.1, x2.2)
def m_impl_spread_b1 (list : List gCheck) (from_ : Int) (perDay : Int) (rec1 : ((List Int) × Int) → ((List Int) × Bool)) (k1 : ((List Int) × Int) → ((List Int) × Bool)) (x1 : (List Int) × Int) : (List Int) × Bool :=
  bif decide (x1.2 < ((List.replicate ((list.length : Int) : Int).toNat (0 : Int)).length : Int)) then rec1 (put' x1.1 x1.2 x1.2, x1.2 + 1) else k1 (x1.1, x1.2)
def m_impl_spread (list : List gCheck) (from_ : Int) (perDay : Int) : (List Int) × Bool :=
  LOOP (m_impl_spread_b1 list from_ perDay) (fun (x1 : (List Int) × Int) => LOOP (m_impl_spread_b2 list from_ perDay x1) (fun (x2 : (List Int) × Int) => (x2.1, true)) (((x1.1.length : Int) - 0 : Int).toNat + 1) (List.replicate ((list.length : Int) : Int).toNat (0 : Int), 0)) ((((List.replicate ((list.length : Int) : Int).toNat (0 : Int)).length : Int) - 0 : Int).toNat + 1) (List.replicate ((list.length : Int) : Int).toNat (0 : Int), 0)

/-! ### impl_SpreadChecks -/
def m_impl_SpreadChecks (list : List gCheck) (from_ : Int) (perDay : Int) : (List Int) × Int :=
  bif !(m_impl_ValidChecks list) then (([] : List Int), 1) else bif (!(m_impl_checkDay from_)) || (!(m_impl_within perDay 1 16)) then (([] : List Int), 2) else bif !(m_impl_spread list from_ perDay).2 then (([] : List Int), 3) else ((m_impl_spread list from_ perDay).1, 0)

/-! ### laws_eqInt64S -/
def m_laws_eqInt64S_b1 (a : List Int) (b : List Int) (rec1 : Int → Bool) (k1 : Int → Bool) (x1 : Int) : Bool :=
  bif decide (x1 < (a.length : Int)) then bif (at' a x1) != (at' b x1) then false else rec1 (x1 + 1) else k1 x1
def m_laws_eqInt64S (a : List Int) (b : List Int) : Bool :=
  bif (a.length : Int) != (b.length : Int) then false else LOOP (m_laws_eqInt64S_b1 a b) (fun (x1 : Int) => true) (((a.length : Int) - 0 : Int).toNat + 1) 0

/-! ### laws_eqCheck -/
def m_laws_eqCheck (a : gCheck) (b : gCheck) : Bool :=
  bif strB .neq a.Id b.Id then false else bif a.Every != b.Every then false else bif a.Last != b.Last then false else true

/-! ### laws_eqCheckS -/
def m_laws_eqCheckS_b1 (a : List gCheck) (b : List gCheck) (rec1 : Int → Bool) (k1 : Int → Bool) (x1 : Int) : Bool :=
  bif decide (x1 < (a.length : Int)) then bif !(m_laws_eqCheck (at' a x1) (at' b x1)) then false else rec1 (x1 + 1) else k1 x1
def m_laws_eqCheckS (a : List gCheck) (b : List gCheck) : Bool :=
  bif (a.length : Int) != (b.length : Int) then false else LOOP (m_laws_eqCheckS_b1 a b) (fun (x1 : Int) => true) (((a.length : Int) - 0 : Int).toNat + 1) 0

/-! ### laws_markText -/
def m_laws_markText_b1 (k_ : Int) (rec1 : (Int × (List UInt8)) → (List UInt8)) (k1 : (Int × (List UInt8)) → (List UInt8)) (x1 : Int × (List UInt8)) : (List UInt8) :=
  bif decide (0 < x1.1) then rec1 (IntKind.wrap .i64 (Int.tdiv x1.1 10), (chars ([IntKind.wrap .u8 (IntKind.wrap .i64 (48 + (Int.tmod x1.1 10)))] : List Int)) ++ x1.2) else k1 (x1.1, x1.2)
def m_laws_markText (k_ : Int) : (List UInt8) :=
  bif decide (k_ ≤ 0) then ([109, 48] : List UInt8) else LOOP (m_laws_markText_b1 k_) (fun (x1 : Int × (List UInt8)) => ([109] : List UInt8) ++ x1.2) (k_.toNat + 1) (k_, ([] : List UInt8))

/-! ### laws_markCheckS -/
def m_laws_markCheckS_b1 (a : List gCheck) (k_ : Int) (rec1 : ((List gCheck) × Int × Int) → (Int × (List gCheck))) (k1 : ((List gCheck) × Int × Int) → (Int × (List gCheck))) (x1 : (List gCheck) × Int × Int) : Int × (List gCheck) :=
  bif decide (x1.2.2 < (x1.1.length : Int)) then rec1 (put' x1.1 x1.2.2 (gCheck.mk (m_laws_markText x1.2.1) (IntKind.wrap .i64 (x1.2.1 + 1)) (IntKind.wrap .i64 ((IntKind.wrap .i64 (x1.2.1 + 1)) + 1))), IntKind.wrap .i64 ((IntKind.wrap .i64 ((IntKind.wrap .i64 (x1.2.1 + 1)) + 1)) + 1), x1.2.2 + 1) else k1 (x1.1, x1.2.1, x1.2.2)
def m_laws_markCheckS (a : List gCheck) (k_ : Int) : Int × (List gCheck) :=
  LOOP (m_laws_markCheckS_b1 a k_) (fun (x1 : (List gCheck) × Int × Int) => (x1.2.1, x1.1)) (((a.length : Int) - 0 : Int).toNat + 1) (a, k_, 0)

/-! ### laws_markInt64S -/
def m_laws_markInt64S_b1 (a : List Int) (k_ : Int) (rec1 : ((List Int) × Int × Int) → (Int × (List Int))) (k1 : ((List Int) × Int × Int) → (Int × (List Int))) (x1 : (List Int) × Int × Int) : Int × (List Int) :=
  bif decide (x1.2.2 < (x1.1.length : Int)) then rec1 (put' x1.1 x1.2.2 x1.2.1, IntKind.wrap .i64 (x1.2.1 + 1), x1.2.2 + 1) else k1 (x1.1, x1.2.1, x1.2.2)
def m_laws_markInt64S (a : List Int) (k_ : Int) : Int × (List Int) :=
  LOOP (m_laws_markInt64S_b1 a k_) (fun (x1 : (List Int) × Int × Int) => (x1.2.1, x1.1)) (((a.length : Int) - 0 : Int).toNat + 1) (a, k_, 0)

/-! ### laws_heldInt64S -/
def m_laws_heldInt64S_b1 (a : List Int) (k_ : Int) (rec1 : (Int × Int) → Int) (k1 : (Int × Int) → Int) (x1 : Int × Int) : Int :=
  bif decide (x1.2 < (a.length : Int)) then bif (at' a x1.2) != x1.1 then (-1) else rec1 (IntKind.wrap .i64 (x1.1 + 1), x1.2 + 1) else k1 (x1.1, x1.2)
def m_laws_heldInt64S (a : List Int) (k_ : Int) : Int :=
  LOOP (m_laws_heldInt64S_b1 a k_) (fun (x1 : Int × Int) => x1.1) (((a.length : Int) - 0 : Int).toNat + 1) (k_, 0)

/-! ### laws_FnExactSpreadChecks -/
def m_laws_FnExactSpreadChecks (aList : List gCheck) (aFrom : Int) (aPerDay : Int) : Bool :=
  bif decide ((m_laws_szCheckS aList 1048576) < 0) then true else bif (!(m_laws_eqInt64S (m_impl_SpreadChecks (m_laws_toCheckS aList) aFrom aPerDay).1 (m_spec_SpreadChecks (m_laws_toCheckS aList) aFrom aPerDay).1)) || ((m_impl_SpreadChecks (m_laws_toCheckS aList) aFrom aPerDay).2 != (m_spec_SpreadChecks (m_laws_toCheckS aList) aFrom aPerDay).2) then false else bif !(m_laws_eqCheckS (m_laws_toCheckS aList) (m_laws_toCheckS aList)) then false else bif ((decide ((m_laws_markCheckS (m_laws_toCheckS aList) 1).1 < 0)) || (!(m_laws_eqInt64S (m_impl_SpreadChecks (m_laws_toCheckS aList) aFrom aPerDay).1 (m_spec_SpreadChecks (m_laws_toCheckS aList) aFrom aPerDay).1))) || ((m_impl_SpreadChecks (m_laws_toCheckS aList) aFrom aPerDay).2 != (m_spec_SpreadChecks (m_laws_toCheckS aList) aFrom aPerDay).2) then false else bif decide ((m_laws_heldInt64S (m_laws_markInt64S (m_impl_SpreadChecks (m_laws_toCheckS aList) aFrom aPerDay).1 1).2 1) < 0) then false else bif (m_laws_heldInt64S (m_laws_markInt64S (m_impl_SpreadChecks (m_laws_toCheckS aList) aFrom aPerDay).1 1).2 1) != (m_laws_markInt64S (m_impl_SpreadChecks (m_laws_toCheckS aList) aFrom aPerDay).1 1).1 then false else bif (!(m_laws_eqInt64S (m_impl_SpreadChecks (m_laws_toCheckS aList) aFrom aPerDay).1 (m_spec_SpreadChecks (m_laws_toCheckS aList) aFrom aPerDay).1)) || ((m_impl_SpreadChecks (m_laws_toCheckS aList) aFrom aPerDay).2 != (m_spec_SpreadChecks (m_laws_toCheckS aList) aFrom aPerDay).2) then false else bif decide ((m_laws_heldInt64S (m_laws_markInt64S (m_impl_SpreadChecks (m_laws_toCheckS aList) aFrom aPerDay).1 1).2 1) < 0) then false else bif (m_laws_heldInt64S (m_laws_markInt64S (m_impl_SpreadChecks (m_laws_toCheckS aList) aFrom aPerDay).1 1).2 1) != (m_laws_markInt64S (m_impl_SpreadChecks (m_laws_toCheckS aList) aFrom aPerDay).1 1).1 then false else true

end Go.Proofs.Ytbeppnhplglocaa
