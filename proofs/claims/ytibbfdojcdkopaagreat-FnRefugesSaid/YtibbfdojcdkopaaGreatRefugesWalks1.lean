/-
  THE WALKS: each Go function computes its model. Conditions: as each theorem states them (hp1, hp2 ..).
-/
import Derived.Test.YtibbfdojcdkopaaGreatRefugesPlain15
import Derived.Test.YtibbfdojcdkopaaGreatProg
import Derived.Test.YtibbfdojcdkopaaGreatEngP
import Derived.Test.YtibbfdojcdkopaaGreatEngQ
import Derived.Test.YtibbfdojcdkopaaGreatEngR
import Derived.Test.YtibbfdojcdkopaaGreatEngU
import Derived.Test.YtibbfdojcdkopaaGreatEngZ
set_option linter.unusedVariables false
set_option linter.unusedSimpArgs false
set_option linter.unusedSectionVars false
set_option linter.unnecessarySimpa false
namespace Go.Proofs.YtibbfdojcdkopaaGreat
open Go Go.RowKit Go.Proofs Go.Proofs.YtibbfdojcdkopaaGreat.E
theorem tst : (∀ a b : Bool, ((a && b) = true) = (a = true ∧ b = true)) ∧ (∀ a b : Bool, ((a || b) = true) = (a = true ∨ b = true)) ∧ (∀ a : Bool, ((!a) = true) = (a = false)) ∧ (∀ a b : Bool, (a && b) = false ↔ a = false ∨ b = false) ∧ (∀ a b : Bool, (a || b) = false ↔ a = false ∧ b = false) ∧ (∀ a : Bool, ((!a) = false) = (a = true)) ∧ (∀ (p : Prop) [Decidable p], (decide p = true) = p) ∧ (∀ (p : Prop) [Decidable p], decide p = false ↔ ¬p) ∧
    (∀ (α : Type) [BEq α] [LawfulBEq α] (a b : α), (a == b) = true ↔ a = b) ∧ (∀ (α : Type) [BEq α] [LawfulBEq α] (a b : α), (a != b) = true ↔ a ≠ b) ∧ (∀ (α : Type) [BEq α] [LawfulBEq α] (a b : α), (a == b) = false ↔ a ≠ b) ∧ (∀ (α : Type) [BEq α] [LawfulBEq α] (a b : α), (a != b) = false ↔ a = b) ∧ (∀ a : Bool, (true && a) = a) ∧ (∀ (α : Type) (a b : α), (a ≠ b) = ¬ (a = b)) ∧ (∀ (p : Prop) [Decidable p], ¬¬p ↔ p) ∧
    (∀ a b : Int, ¬ a < b ↔ b ≤ a) ∧ (∀ a b : Int, ¬ a ≤ b ↔ b < a) ∧ (∀ a b : Nat, ¬ a < b ↔ b ≤ a) ∧ (∀ a b : Nat, ¬ a ≤ b ↔ b < a) ∧ (∀ s : List UInt8, (strB .eql s [] = false) ↔ 0 < s.length) ∧ (∀ s : List UInt8, (strB .eql s [] = true) ↔ s.length = 0) ∧ (∀ s : List UInt8, (strB .neq s [] = true) ↔ 0 < s.length) ∧ (∀ s : List UInt8, (strB .neq s [] = false) ↔ s.length = 0) :=
  ⟨Bool.and_eq_true, Bool.or_eq_true, Bool.not_eq_true', fun _ _ => Bool.and_eq_false_iff, fun _ _ => Bool.or_eq_false_iff, Bool.not_eq_false', fun _ _ => decide_eq_true_eq, fun _ _ => decide_eq_false_iff_not, fun _ _ _ _ _ => beq_iff_eq, fun _ _ _ _ _ => bne_iff_ne, fun _ _ _ _ _ => beq_eq_false_iff_ne, fun _ _ _ _ _ => bne_eq_false_iff_eq, Bool.true_and, fun _ a b => ne_eq a b, fun _ _ => Decidable.not_not, fun _ _ => Int.not_lt, fun _ _ => Int.not_le, fun _ _ => Nat.not_lt, fun _ _ => Nat.not_le, fun _ => strB_nil, fun _ => strB_nil', fun _ => strB_nnil, fun _ => strB_nnil'⟩
theorem lens : (∀ (α : Type) (a b : List α), (a ++ b).length = a.length + b.length) ∧ (∀ (α : Type) (a : α) (l : List α), (a :: l).length = l.length + 1) ∧ (∀ α : Type, ([] : List α).length = 0) ∧ (∀ (α : Type) (n : Nat) (a : α), (List.replicate n a).length = n) ∧ (∀ (α : Type) (a : List α) (k : Int) (v : α), (put' a k v).length = a.length) :=
  ⟨fun _ _ _ => List.length_append, fun _ _ _ => List.length_cons, fun _ => List.length_nil, fun _ _ _ => List.length_replicate, fun _ a k v => put_len⟩
theorem ss_22 : (slEl Tryz.prog 22).isSome = true := by kernel_rfl
theorem zv_100 : zeroV Tryz.prog 100 = some (.st [.nls, .int .i64 0, .int .u64 0]) := by kernel_rfl
theorem pl_100 : places Tryz.prog 100 = some [(0, 1), (1, 1), (2, 1)] := by kernel_rfl
theorem fo_100_1 : fldOff Tryz.prog 100 1 = some 1 := by kernel_rfl
theorem ic_3 : isCell Tryz.prog 3 = true := by kernel_rfl
theorem fo_100_0 : fldOff Tryz.prog 100 0 = some 0 := by kernel_rfl
theorem ic_22 : isCell Tryz.prog 22 = true := by kernel_rfl
theorem fmo : Tryz.prog.follows .mixedOrders = true := by kernel_rfl
theorem sl_22 : slEl Tryz.prog 22 = some (5, 1) := by kernel_rfl
theorem ic_5 : isCell Tryz.prog 5 = true := by kernel_rfl
theorem cv_5_3 : cvInt Tryz.prog 5 3 = some .i64 := by kernel_rfl
theorem ts_3 : tySz Tryz.prog 3 = some 1 := by kernel_rfl
theorem fo_100_2 : fldOff Tryz.prog 100 2 = some 2 := by kernel_rfl
theorem ic_98 : isCell Tryz.prog 98 = true := by kernel_rfl
theorem cv_3_98 : cvInt Tryz.prog 3 98 = some .u64 := by kernel_rfl
theorem ts_98 : tySz Tryz.prog 98 = some 1 := by kernel_rfl
theorem cv_98_2 : cvInt Tryz.prog 98 2 = some .i64 := by kernel_rfl
theorem en_57 : entB Tryz.prog 57 = true := by kernel_rfl
theorem ss_27 : (slEl Tryz.prog 27).isSome = true := by kernel_rfl
theorem en_22 : entB Tryz.prog 22 = true := by kernel_rfl
theorem sl_27 : slEl Tryz.prog 27 = some (2, 1) := by kernel_rfl
theorem ic_2 : isCell Tryz.prog 2 = true := by kernel_rfl
theorem zv_112 : zeroV Tryz.prog 112 = some (.st [.str ([] : List UInt8), .int .i64 0, .int .i64 0, .int .i64 0, .int .i64 0, .int .i64 0, .int .i64 0]) := by kernel_rfl
theorem pl_112 : places Tryz.prog 112 = some [(0, 1), (1, 1), (2, 1), (3, 1), (4, 1), (5, 1), (6, 1)] := by kernel_rfl
theorem ts_112 : tySz Tryz.prog 112 = some 7 := by kernel_rfl
theorem fo_112_4 : fldOff Tryz.prog 112 4 = some 4 := by kernel_rfl
theorem ts_2 : tySz Tryz.prog 2 = some 1 := by kernel_rfl
theorem fo_112_5 : fldOff Tryz.prog 112 5 = some 5 := by kernel_rfl
theorem fo_112_6 : fldOff Tryz.prog 112 6 = some 6 := by kernel_rfl
theorem ag_112 : aggSz Tryz.prog 112 = some 7 := by kernel_rfl
theorem zv_26 : zeroV Tryz.prog 26 = some (.st [.int .i64 0, .nls]) := by kernel_rfl
theorem si_103 : slInfo Tryz.prog 103 = some (9, 1, 16) := by kernel_rfl
theorem zv_9 : zeroV Tryz.prog 9 = some (.str ([] : List UInt8)) := by kernel_rfl
theorem si_24 : slInfo Tryz.prog 24 = some (112, 7, 64) := by kernel_rfl
theorem pl_26 : places Tryz.prog 26 = some [(0, 1), (1, 1)] := by kernel_rfl
theorem ts_26 : tySz Tryz.prog 26 = some 2 := by kernel_rfl
theorem ss_103 : (slEl Tryz.prog 103).isSome = true := by kernel_rfl
theorem en_23 : entB Tryz.prog 23 = true := by kernel_rfl
theorem fo_26_0 : fldOff Tryz.prog 26 0 = some 0 := by kernel_rfl
theorem fo_26_1 : fldOff Tryz.prog 26 1 = some 1 := by kernel_rfl
theorem ic_24 : isCell Tryz.prog 24 = true := by kernel_rfl
theorem sl_103 : slEl Tryz.prog 103 = some (9, 1) := by kernel_rfl
theorem ic_9 : isCell Tryz.prog 9 = true := by kernel_rfl
theorem en_83 : entB Tryz.prog 83 = true := by kernel_rfl
theorem ts_24 : tySz Tryz.prog 24 = some 1 := by kernel_rfl
theorem ag_26 : aggSz Tryz.prog 26 = some 2 := by kernel_rfl
theorem en_95 : entB Tryz.prog 95 = true := by kernel_rfl
theorem fo_112_1 : fldOff Tryz.prog 112 1 = some 1 := by kernel_rfl
theorem si_27 : slInfo Tryz.prog 27 = some (2, 1, 8) := by kernel_rfl
theorem zv_2 : zeroV Tryz.prog 2 = some (.int .i64 0) := by kernel_rfl
theorem en_24 : entB Tryz.prog 24 = true := by kernel_rfl
theorem fo_112_2 : fldOff Tryz.prog 112 2 = some 2 := by kernel_rfl
theorem fo_112_3 : fldOff Tryz.prog 112 3 = some 3 := by kernel_rfl
theorem en_81 : entB Tryz.prog 81 = true := by kernel_rfl
theorem en_82 : entB Tryz.prog 82 = true := by kernel_rfl
theorem cv_2_5 : cvInt Tryz.prog 2 5 = some .u8 := by kernel_rfl
theorem si_22 : slInfo Tryz.prog 22 = some (5, 1, 1) := by kernel_rfl
theorem zv_5 : zeroV Tryz.prog 5 = some (.int .u8 0) := by kernel_rfl
theorem bs_22_9 : b2sOk Tryz.prog 22 9 = true := by kernel_rfl
theorem en_72 : entB Tryz.prog 72 = true := by kernel_rfl
theorem st_9 : isStr Tryz.prog 9 = true := by kernel_rfl
theorem en_111 : entB Tryz.prog 111 = true := by kernel_rfl
theorem en_112 : entB Tryz.prog 112 = true := by kernel_rfl
theorem fo_112_0 : fldOff Tryz.prog 112 0 = some 0 := by kernel_rfl
theorem en_100 : entB Tryz.prog 100 = true := by kernel_rfl
theorem ss_24 : (slEl Tryz.prog 24).isSome = true := by kernel_rfl
theorem sl_24 : slEl Tryz.prog 24 = some (112, 7) := by kernel_rfl
theorem en_88 : entB Tryz.prog 88 = true := by kernel_rfl
theorem en_51 : entB Tryz.prog 51 = true := by kernel_rfl
theorem en_94 : entB Tryz.prog 94 = true := by kernel_rfl
theorem en_59 : entB Tryz.prog 59 = true := by kernel_rfl
theorem en_119 : entB Tryz.prog 119 = true := by kernel_rfl
theorem en_113 : entB Tryz.prog 113 = true := by kernel_rfl
theorem si_71 : slInfo Tryz.prog 71 = some (27, 1, 24) := by kernel_rfl
theorem zv_27 : zeroV Tryz.prog 27 = some (.nls) := by kernel_rfl
theorem en_114 : entB Tryz.prog 114 = true := by kernel_rfl
theorem en_115 : entB Tryz.prog 115 = true := by kernel_rfl
theorem en_50 : entB Tryz.prog 50 = true := by kernel_rfl
theorem en_102 : entB Tryz.prog 102 = true := by kernel_rfl
theorem ss_71 : (slEl Tryz.prog 71).isSome = true := by kernel_rfl
theorem sl_71 : slEl Tryz.prog 71 = some (27, 1) := by kernel_rfl
theorem ic_27 : isCell Tryz.prog 27 = true := by kernel_rfl
theorem en_103 : entB Tryz.prog 103 = true := by kernel_rfl
theorem zv_135 : zeroV Tryz.prog 135 = some (.st [.int .i64 0, .int .i64 0, .int .i64 0]) := by kernel_rfl
theorem pl_135 : places Tryz.prog 135 = some [(0, 1), (1, 1), (2, 1)] := by kernel_rfl
theorem ts_135 : tySz Tryz.prog 135 = some 3 := by kernel_rfl
theorem fo_135_0 : fldOff Tryz.prog 135 0 = some 0 := by kernel_rfl
theorem fo_135_1 : fldOff Tryz.prog 135 1 = some 1 := by kernel_rfl
theorem ag_135 : aggSz Tryz.prog 135 = some 3 := by kernel_rfl
theorem fo_135_2 : fldOff Tryz.prog 135 2 = some 2 := by kernel_rfl
theorem en_116 : entB Tryz.prog 116 = true := by kernel_rfl
theorem en_117 : entB Tryz.prog 117 = true := by kernel_rfl
theorem en_104 : entB Tryz.prog 104 = true := by kernel_rfl
theorem en_105 : entB Tryz.prog 105 = true := by kernel_rfl
theorem en_118 : entB Tryz.prog 118 = true := by kernel_rfl
theorem en_107 : entB Tryz.prog 107 = true := by kernel_rfl
theorem en_106 : entB Tryz.prog 106 = true := by kernel_rfl
theorem en_108 : entB Tryz.prog 108 = true := by kernel_rfl
theorem en_90 : entB Tryz.prog 90 = true := by kernel_rfl
theorem en_91 : entB Tryz.prog 91 = true := by kernel_rfl
theorem en_92 : entB Tryz.prog 92 = true := by kernel_rfl
theorem en_93 : entB Tryz.prog 93 = true := by kernel_rfl
theorem zv_37 : zeroV Tryz.prog 37 = some (.st [.str ([] : List UInt8), .int .i64 0, .int .i64 0]) := by kernel_rfl
theorem pl_37 : places Tryz.prog 37 = some [(0, 1), (1, 1), (2, 1)] := by kernel_rfl
theorem ts_37 : tySz Tryz.prog 37 = some 3 := by kernel_rfl
theorem fo_37_1 : fldOff Tryz.prog 37 1 = some 1 := by kernel_rfl
theorem ag_37 : aggSz Tryz.prog 37 = some 3 := by kernel_rfl
theorem fo_37_2 : fldOff Tryz.prog 37 2 = some 2 := by kernel_rfl
theorem en_39 : entB Tryz.prog 39 = true := by kernel_rfl
theorem en_55 : entB Tryz.prog 55 = true := by kernel_rfl
theorem en_56 : entB Tryz.prog 56 = true := by kernel_rfl
theorem si_28 : slInfo Tryz.prog 28 = some (37, 3, 32) := by kernel_rfl
theorem fo_37_0 : fldOff Tryz.prog 37 0 = some 0 := by kernel_rfl
theorem ts_9 : tySz Tryz.prog 9 = some 1 := by kernel_rfl
theorem zv_39 : zeroV Tryz.prog 39 = some (.st [.str ([] : List UInt8), .int .i64 0, .int .i64 0, .int .i64 0]) := by kernel_rfl
theorem pl_39 : places Tryz.prog 39 = some [(0, 1), (1, 1), (2, 1), (3, 1)] := by kernel_rfl
theorem ts_39 : tySz Tryz.prog 39 = some 4 := by kernel_rfl
theorem fo_39_3 : fldOff Tryz.prog 39 3 = some 3 := by kernel_rfl
theorem ag_39 : aggSz Tryz.prog 39 = some 4 := by kernel_rfl
theorem fo_39_1 : fldOff Tryz.prog 39 1 = some 1 := by kernel_rfl
theorem fo_39_2 : fldOff Tryz.prog 39 2 = some 2 := by kernel_rfl
theorem fo_39_0 : fldOff Tryz.prog 39 0 = some 0 := by kernel_rfl
theorem si_29 : slInfo Tryz.prog 29 = some (39, 4, 40) := by kernel_rfl
theorem en_58 : entB Tryz.prog 58 = true := by kernel_rfl
theorem en_60 : entB Tryz.prog 60 = true := by kernel_rfl
theorem en_61 : entB Tryz.prog 61 = true := by kernel_rfl
theorem en_19 : entB Tryz.prog 19 = true := by kernel_rfl
theorem en_20 : entB Tryz.prog 20 = true := by kernel_rfl
theorem en_21 : entB Tryz.prog 21 = true := by kernel_rfl
theorem ss_28 : (slEl Tryz.prog 28).isSome = true := by kernel_rfl
theorem en_25 : entB Tryz.prog 25 = true := by kernel_rfl
theorem en_86 : entB Tryz.prog 86 = true := by kernel_rfl
theorem en_37 : entB Tryz.prog 37 = true := by kernel_rfl
theorem en_64 : entB Tryz.prog 64 = true := by kernel_rfl
theorem en_47 : entB Tryz.prog 47 = true := by kernel_rfl
theorem en_101 : entB Tryz.prog 101 = true := by kernel_rfl
theorem en_79 : entB Tryz.prog 79 = true := by kernel_rfl
theorem en_80 : entB Tryz.prog 80 = true := by kernel_rfl
theorem en_43 : entB Tryz.prog 43 = true := by kernel_rfl
theorem en_84 : entB Tryz.prog 84 = true := by kernel_rfl
theorem en_85 : entB Tryz.prog 85 = true := by kernel_rfl
theorem en_42 : entB Tryz.prog 42 = true := by kernel_rfl
theorem sl_28 : slEl Tryz.prog 28 = some (37, 3) := by kernel_rfl
theorem en_96 : entB Tryz.prog 96 = true := by kernel_rfl
theorem en_97 : entB Tryz.prog 97 = true := by kernel_rfl
theorem en_29 : entB Tryz.prog 29 = true := by kernel_rfl
theorem zv_67 : zeroV Tryz.prog 67 = some (.st [.int .i64 0, .nls, .nls, .int .i64 0]) := by kernel_rfl
theorem en_62 : entB Tryz.prog 62 = true := by kernel_rfl
theorem pl_67 : places Tryz.prog 67 = some [(0, 2), (2, 1), (3, 1)] := by kernel_rfl
theorem ts_67 : tySz Tryz.prog 67 = some 4 := by kernel_rfl
theorem en_63 : entB Tryz.prog 63 = true := by kernel_rfl
theorem ag_67 : aggSz Tryz.prog 67 = some 4 := by kernel_rfl
theorem ss_29 : (slEl Tryz.prog 29).isSome = true := by kernel_rfl
theorem sl_29 : slEl Tryz.prog 29 = some (39, 4) := by kernel_rfl
theorem en_36 : entB Tryz.prog 36 = true := by kernel_rfl
theorem cv_147_98 : cvInt Tryz.prog 147 98 = some .u64 := by kernel_rfl
theorem cv_98_147 : cvInt Tryz.prog 98 147 = some .u32 := by kernel_rfl
theorem cv_141_147 : cvInt Tryz.prog 141 147 = some .u32 := by kernel_rfl
theorem en_109 : entB Tryz.prog 109 = true := by kernel_rfl
theorem cv_147_141 : cvInt Tryz.prog 147 141 = some .u64 := by kernel_rfl
theorem en_110 : entB Tryz.prog 110 = true := by kernel_rfl
theorem cv_3_141 : cvInt Tryz.prog 3 141 = some .u64 := by kernel_rfl
theorem en_98 : entB Tryz.prog 98 = true := by kernel_rfl
theorem cv_141_3 : cvInt Tryz.prog 141 3 = some .i64 := by kernel_rfl
theorem fo_67_1 : fldOff Tryz.prog 67 1 = some 2 := by kernel_rfl
theorem en_99 : entB Tryz.prog 99 = true := by kernel_rfl
theorem fo_67_0 : fldOff Tryz.prog 67 0 = some 0 := by kernel_rfl
theorem en_65 : entB Tryz.prog 65 = true := by kernel_rfl
theorem en_66 : entB Tryz.prog 66 = true := by kernel_rfl
theorem zv_113 : zeroV Tryz.prog 113 = some (.st [.int .i64 0, .int .i64 0]) := by kernel_rfl
theorem ae_113 : arrEl Tryz.prog 113 = some (2, 2, 1) := by kernel_rfl
theorem zv_114 : zeroV Tryz.prog 114 = some (.st [.int .i64 0, .int .i64 0, .int .i64 0, .int .i64 0]) := by kernel_rfl
theorem ae_114 : arrEl Tryz.prog 114 = some (2, 113, 2) := by kernel_rfl
theorem ag_113 : aggSz Tryz.prog 113 = some 2 := by kernel_rfl
theorem ts_113 : tySz Tryz.prog 113 = some 2 := by kernel_rfl
theorem en_67 : entB Tryz.prog 67 = true := by kernel_rfl
theorem fo_67_2 : fldOff Tryz.prog 67 2 = some 3 := by kernel_rfl
theorem us_27 : Tryz.prog.underlying 27 = some (.slice 2) := by kernel_rfl
theorem fo_73_3 : fldOff Tryz.prog 73 3 = some 3 := by kernel_rfl
theorem fo_73_4 : fldOff Tryz.prog 73 4 = some 4 := by kernel_rfl
theorem ts_27 : tySz Tryz.prog 27 = some 1 := by kernel_rfl
theorem en_31 : entB Tryz.prog 31 = true := by kernel_rfl
theorem fo_73_0 : fldOff Tryz.prog 73 0 = some 0 := by kernel_rfl
theorem en_68 : entB Tryz.prog 68 = true := by kernel_rfl
theorem fo_73_5 : fldOff Tryz.prog 73 5 = some 5 := by kernel_rfl
theorem fo_73_6 : fldOff Tryz.prog 73 6 = some 6 := by kernel_rfl
theorem en_69 : entB Tryz.prog 69 = true := by kernel_rfl
theorem fo_73_1 : fldOff Tryz.prog 73 1 = some 1 := by kernel_rfl
theorem ic_71 : isCell Tryz.prog 71 = true := by kernel_rfl
theorem fo_73_2 : fldOff Tryz.prog 73 2 = some 2 := by kernel_rfl
theorem en_70 : entB Tryz.prog 70 = true := by kernel_rfl
theorem en_26 : entB Tryz.prog 26 = true := by kernel_rfl
theorem en_27 : entB Tryz.prog 27 = true := by kernel_rfl
theorem en_28 : entB Tryz.prog 28 = true := by kernel_rfl
theorem zv_73 : zeroV Tryz.prog 73 = some (.st [.nls, .nls, .nls, .int .i64 0, .nls, .nls, .int .i64 0]) := by kernel_rfl
theorem pl_73 : places Tryz.prog 73 = some [(0, 1), (1, 1), (2, 1), (3, 1), (4, 1), (5, 1), (6, 1)] := by kernel_rfl
theorem ts_73 : tySz Tryz.prog 73 = some 7 := by kernel_rfl
theorem en_30 : entB Tryz.prog 30 = true := by kernel_rfl
theorem ts_71 : tySz Tryz.prog 71 = some 1 := by kernel_rfl
theorem en_71 : entB Tryz.prog 71 = true := by kernel_rfl
theorem en_73 : entB Tryz.prog 73 = true := by kernel_rfl
theorem en_74 : entB Tryz.prog 74 = true := by kernel_rfl
theorem en_75 : entB Tryz.prog 75 = true := by kernel_rfl
theorem en_76 : entB Tryz.prog 76 = true := by kernel_rfl
theorem en_77 : entB Tryz.prog 77 = true := by kernel_rfl
theorem en_32 : entB Tryz.prog 32 = true := by kernel_rfl
theorem en_33 : entB Tryz.prog 33 = true := by kernel_rfl
theorem en_78 : entB Tryz.prog 78 = true := by kernel_rfl
theorem en_35 : entB Tryz.prog 35 = true := by kernel_rfl
theorem en_34 : entB Tryz.prog 34 = true := by kernel_rfl
theorem en_38 : entB Tryz.prog 38 = true := by kernel_rfl
theorem en_40 : entB Tryz.prog 40 = true := by kernel_rfl
theorem en_41 : entB Tryz.prog 41 = true := by kernel_rfl
theorem en_44 : entB Tryz.prog 44 = true := by kernel_rfl
theorem en_5 : entB Tryz.prog 5 = true := by kernel_rfl
theorem en_6 : entB Tryz.prog 6 = true := by kernel_rfl
theorem en_7 : entB Tryz.prog 7 = true := by kernel_rfl
theorem en_8 : entB Tryz.prog 8 = true := by kernel_rfl
theorem en_9 : entB Tryz.prog 9 = true := by kernel_rfl
theorem en_10 : entB Tryz.prog 10 = true := by kernel_rfl
theorem en_11 : entB Tryz.prog 11 = true := by kernel_rfl

/-! ### laws_b10Long -/
theorem c_laws_b10Long (code : List Int) : Con Tryz.prog 5 [.sl 1 (code.map (V.int .u8))] [] (.bool (C1 code)) ([]) := by
  refine con_intro (out := fun r : Bool => ((.bool r : V), ([] : List (Nat × Option O)))) (r := (C1 code)) Tryz.func5 rfl Tryz.ntmps5 rfl ?_
  refine Bo (t := 0) rfl fun hl => ?_
  have l1 := hl; clear hl; simp only [List.length_map] at l1
  refine Ae ?_
  refine Ad (Ag .n (.c rfl) rfl <| Lex.nil) ?_
  refine Ae ?_
  refine Ad (Af .n (.t rfl) rfl <| BD .n (.t rfl) rfl len_map ss_22 rfl <| AK .n (.t rfl) (.c rfl) rfl rfl <| Ag .n (.t rfl) rfl <| Lex.nil) ?_
  exact Ay [] (.cons (.t rfl rfl) .nil) rfl trivial rfl

/-! ### spec_l00From -/
theorem c_spec_l00From (code : List Int) : Con Tryz.prog 19 [.sl 1 (code.map (V.int .u8))] [] (.op 100 0 0 0) ([(100, some (.box 100 [.sl 1 ((Ap code).code.map (V.int .u8)), .int .i64 (Ap code).at_, .int .u64 (Ap code).seed]))]) := by
  refine con_intro (out := fun r : Aj => ((.op 100 0 0 0 : V), ([(100, some (.box 100 [.sl 1 (r.code.map (V.int .u8)), .int .i64 r.at_, .int .u64 r.seed]))] : List (Nat × Option O)))) (r := (Ap code)) Tryz.func19 rfl Tryz.ntmps19 rfl ?_
  refine Bo (t := 0) rfl fun hl => ?_
  have l1 := hl; clear hl; simp only [List.length_map] at l1
  refine Ae ?_
  refine Ad (q_unread .n rfl rfl <| Lex.nil) ?_
  refine Ae ?_
  refine Ad (Af .n (.t rfl) rfl <| Dw (us := [.sl 1 (code.map (V.int .u8)), .int .i64 0, .int .u64 0]) .n (.cons (.t rfl) .nil) zv_100 pl_100 rfl rfl rfl <| q_box (l := 200) .n rfl (.t rfl) rfl rfl rfl rfl <| Ag .n (.t rfl) rfl <| Lex.nil) ?_
  exact Ay [(100, 200)] (.cons (.t rfl rfl) .nil) rfl ⟨rfl, trivial⟩ rfl

/-! ### spec_l00Src_next -/
theorem c_spec_l00Src_next (s_ : Aj) (hp1 : Lim s_ 1000000) : Con Tryz.prog 57 [.op 0 0 0 0] [(0, some (.box 100 [.sl 1 (s_.code.map (V.int .u8)), .int .i64 s_.at_, .int .u64 s_.seed]))] (.int .i64 (Be s_).1) ([(0, some (.box 100 [.sl 1 ((Be s_).2.code.map (V.int .u8)), .int .i64 (Be s_).2.at_, .int .u64 (Be s_).2.seed]))]) := by
  refine con_intro (out := fun r : Int × Aj => ((.int .i64 r.1 : V), ([(0, some (.box 100 [.sl 1 (r.2.code.map (V.int .u8)), .int .i64 r.2.at_, .int .u64 r.2.seed]))] : List (Nat × Option O)))) (r := (Be s_)) Tryz.func57 rfl Tryz.ntmps57 rfl ?_
  have hL := hp1.2 (by decide)
  refine Ae ?_
  refine Ad (Ag .n (.c rfl) rfl <| Lex.nil) ?_
  refine Ae ?_
  refine Ad (Ag .n (.c rfl) rfl <| Lex.nil) ?_
  refine Ae ?_
  refine Ae ?_
  refine Bl fmo (Af .n (.t rfl) rfl <| Bt .n (.t rfl) rfl <| AE .n (.t rfl) fo_100_1 rfl <| AP .n (.t rfl) rfl (.inr rfl) (fun _ => rfl) rfl ic_3 rfl <| Af .n (.t rfl) rfl <| Bt .n (.t rfl) rfl <| AE .n (.t rfl) fo_100_0 rfl <| AP .n (.t rfl) rfl (.inr rfl) (fun _ => rfl) rfl ic_22 rfl <| BD .n (.t rfl) rfl len_map ss_22 rfl <| AK .n (.t rfl) (.t rfl) rfl rfl <| Lex.nil) (by kernel_rfl) ?_
  refine Bo (t := 11) rfl fun hl => ?_
  have l1 := hl; clear hl; simp only [List.length_map] at l1
  refine C7 _ _ rfl (fun v2 : Int => True) (fun v2 => ⟨[(0, some (true, .op 0 0 0 0)), (3, some (true, .int .i64 v2))], [(0, some (.box 100 [.sl 1 (s_.code.map (V.int .u8)), .int .i64 s_.at_, .int .u64 s_.seed]))]⟩) (fun v2 _ => ?_) (fun j3 hj4 => ?_)
  · refine Ae ?_
    refine Ad (Af .n (.t rfl) rfl <| Bt .n (.t rfl) rfl <| AE .n (.t rfl) fo_100_1 rfl <| AP .n (.t rfl) rfl (.inr rfl) (fun _ => rfl) rfl ic_3 rfl <| AK .n (.t rfl) (.c rfl) rfl rfl <| Bt .n (.t rfl) rfl <| AE .n (.t rfl) fo_100_1 rfl <| AL [.sl 1 (s_.code.map (V.int .u8)), .int .i64 (IntKind.wrap .i64 (s_.at_ + 1)), .int .u64 s_.seed] .n rfl (.t rfl) (.t rfl) rfl ts_3 rfl rfl <| Lex.nil) ?_
    refine Ae ?_
    refine Ad (Af .n (.t rfl) rfl <| Af .n (.t rfl) rfl <| Bt .n (.t rfl) rfl <| AE .n (.t rfl) fo_100_2 rfl <| AP .n (.t rfl) rfl (.inr rfl) (fun _ => rfl) rfl ic_98 rfl <| AK .n (.t rfl) (.c rfl) rfl rfl <| Af .n (.t rfl) rfl <| q_conv .n (.t rfl) cv_3_98 rfl <| AK .n (.t rfl) (.t rfl) rfl rfl <| AK .n (.t rfl) (.c rfl) rfl rfl <| Bt .n (.t rfl) rfl <| AE .n (.t rfl) fo_100_2 rfl <| AL [.sl 1 (s_.code.map (V.int .u8)), .int .i64 (IntKind.wrap .i64 (s_.at_ + 1)), .int .u64 (IntKind.wrap .u64 ((IntKind.wrap .u64 ((IntKind.wrap .u64 (s_.seed * 6364136223846793005)) + (IntKind.wrap .u64 v2))) + 1442695040888963407))] .n rfl (.t rfl) (.t rfl) rfl ts_98 rfl rfl <| Lex.nil) ?_
    refine Ae ?_
    refine Ae ?_
    refine Bl fmo (Af .n (.t rfl) rfl <| Bt .n (.t rfl) rfl <| AE .n (.t rfl) fo_100_1 rfl <| AP .n (.t rfl) rfl (.inr rfl) (fun _ => rfl) rfl ic_3 rfl <| Af .n (.t rfl) rfl <| Bt .n (.t rfl) rfl <| AE .n (.t rfl) fo_100_0 rfl <| AP .n (.t rfl) rfl (.inr rfl) (fun _ => rfl) rfl ic_22 rfl <| BD .n (.t rfl) rfl len_map ss_22 rfl <| AK .n (.t rfl) (.t rfl) rfl rfl <| Lex.nil) (by kernel_rfl) ?_
    refine As (.t rfl) rfl (fun h6 => ?_) (fun h6 => ?_)
    · try simp only [tst] at h6
      refine Ae ?_
      refine Ad (Af .n (.t rfl) rfl <| Ag .n (.t rfl) rfl <| Lex.nil) ?_
      exact Ay [] (.cons (.t rfl rfl) .nil) rfl ⟨rfl, trivial⟩ rfl
    · try simp only [tst] at h6
      refine Aw ?_
      refine Ae ?_
      refine Ad (Af .n (.t rfl) rfl <| Bt .n (.t rfl) rfl <| AE .n (.t rfl) fo_100_2 rfl <| AP .n (.t rfl) rfl (.inr rfl) (fun _ => rfl) rfl ic_98 rfl <| q_shr .n (.t rfl) (.c rfl) (fun _ => by omega) rfl <| AK .n (.t rfl) (.c rfl) rfl rfl <| q_conv .n (.t rfl) cv_98_2 rfl <| Ag .n (.t rfl) rfl <| Lex.nil) ?_
      exact Ay [] (.cons (.t rfl rfl) .nil) rfl ⟨rfl, trivial⟩ rfl
  · refine As (.t rfl) rfl (fun h5 => ?_) (fun h5 => ?_)
    · try simp only [tst] at h5
      refine Bl fmo (Af .n (.t rfl) rfl <| Bt .n (.t rfl) rfl <| AE .n (.t rfl) fo_100_0 rfl <| AP .n (.t rfl) rfl (.inr rfl) (fun _ => rfl) rfl ic_22 rfl <| Af .n (.t rfl) rfl <| Bt .n (.t rfl) rfl <| AE .n (.t rfl) fo_100_1 rfl <| AP .n (.t rfl) rfl (.inr rfl) (fun _ => rfl) rfl ic_3 rfl <| Bc .n (.t rfl) (.t rfl) sl_22 (fun _ => by omega) rfl <| Az .n (.t rfl) rfl ic_5 rfl <| q_conv .n (.t rfl) cv_5_3 rfl <| Ag .n (.t rfl) rfl <| Lex.nil) (by kernel_rfl) ?_
      exact AY hj4 (IntKind.wrap .i64 (at' s_.code s_.at_)) trivial (sub_of [] ⟨rfl, rfl, trivial⟩ ⟨rfl, trivial⟩ rfl)
    · try simp only [tst] at h5
      refine Aw ?_
      exact AY hj4 0 trivial (sub_of [] ⟨rfl, rfl, trivial⟩ ⟨rfl, trivial⟩ rfl)

/-! ### spec_l00Src_pick -/
theorem AJ (s_ : Aj) (n_ : Int) (hp1 : Lim s_ 900000) : Con Tryz.prog 22 [.op 0 0 0 0, .int .i64 n_] [(0, some (.box 100 [.sl 1 (s_.code.map (V.int .u8)), .int .i64 s_.at_, .int .u64 s_.seed]))] (.int .i64 (Aa s_ n_).1) ([(0, some (.box 100 [.sl 1 ((Aa s_ n_).2.code.map (V.int .u8)), .int .i64 (Aa s_ n_).2.at_, .int .u64 (Aa s_ n_).2.seed]))]) := by
  refine con_intro (out := fun r : Int × Aj => ((.int .i64 r.1 : V), ([(0, some (.box 100 [.sl 1 (r.2.code.map (V.int .u8)), .int .i64 r.2.at_, .int .u64 r.2.seed]))] : List (Nat × Option O)))) (r := (Aa s_ n_)) Tryz.func22 rfl Tryz.ntmps22 rfl ?_
  refine Ae ?_
  refine Ad (Ag .n (.c rfl) rfl <| Lex.nil) ?_
  refine Ae ?_
  refine Ae ?_
  refine Ad (Af .n (.t rfl) rfl <| AK .n (.t rfl) (.c rfl) rfl rfl <| Lex.nil) ?_
  refine As (.t rfl) rfl (fun h1 => ?_) (fun h1 => ?_)
  · try simp only [tst] at h1
    refine Ae ?_
    refine Ad (Ag .n (.c rfl) rfl <| Lex.nil) ?_
    exact Ay [] (.cons (.t rfl rfl) .nil) rfl ⟨rfl, trivial⟩ rfl
  · try simp only [tst] at h1
    refine Aw ?_
    refine Ae ?_
    refine Ad (Af .n (.t rfl) rfl <| AV (full := false) [(0, 0)] [] .n rfl .f en_57 (.cons (.t rfl) .nil) (.cons (.b (.mutp rfl)) .nil) (c_spec_l00Src_next s_ (by (try dsimp only); (with_reducible (first | apply Lim.mono | apply Lim.out | apply LimA.mono)); (repeat (with_reducible (first | assumption | apply Lim.pick | apply Lim.next | apply Lim.mk))); omega)) ⟨rfl, trivial⟩ rfl rfl (fun h => Bool.noConfusion h) (fun h => Bool.noConfusion h) rfl <| Ag .n (.t rfl) rfl <| Lex.nil) ?_
    refine Ae ?_
    refine Ae ?_
    refine Ad (Af .n (.t rfl) rfl <| AK .n (.t rfl) (.c rfl) rfl rfl <| Lex.nil) ?_
    refine As (.t rfl) rfl (fun h2 => ?_) (fun h2 => ?_)
    · try simp only [tst] at h2
      refine Ad (Af .n (.t rfl) rfl <| AK .n (.t rfl) (.c rfl) rfl rfl <| Af .n (.t rfl) rfl <| AV (full := false) [(0, 0)] [] .n rfl .f en_57 (.cons (.t rfl) .nil) (.cons (.b (.mutp rfl)) .nil) (c_spec_l00Src_next (Be s_).2 (by (try dsimp only); (with_reducible (first | apply Lim.mono | apply Lim.out | apply LimA.mono)); (repeat (with_reducible (first | assumption | apply Lim.pick | apply Lim.next | apply Lim.mk))); omega)) ⟨rfl, trivial⟩ rfl rfl (fun h => Bool.noConfusion h) (fun h => Bool.noConfusion h) rfl <| AK .n (.t rfl) (.t rfl) rfl rfl <| Ag .n (.t rfl) rfl <| Lex.nil) ?_
      refine Ae ?_
      refine Ad (Af .n (.t rfl) rfl <| Af .n (.t rfl) rfl <| q_rem .n (.t rfl) (.t rfl) (fun hg => by omega) rfl <| Ag .n (.t rfl) rfl <| Lex.nil) ?_
      exact Ay [] (.cons (.t rfl rfl) .nil) rfl ⟨rfl, trivial⟩ rfl
    · try simp only [tst] at h2
      refine Aw ?_
      refine Ae ?_
      refine Ad (Af .n (.t rfl) rfl <| Af .n (.t rfl) rfl <| q_rem .n (.t rfl) (.t rfl) (fun hg => by omega) rfl <| Ag .n (.t rfl) rfl <| Lex.nil) ?_
      exact Ay [] (.cons (.t rfl rfl) .nil) rfl ⟨rfl, trivial⟩ rfl

/-! ### spec_l00Src_among -/
theorem A1 (s_ : Aj) (list : List Int) (hp1 : Lim s_ 800000) (hp2 : 0 < list.length) : Con Tryz.prog 24 [.op 0 0 0 0, .os 1 list.length] [(0, some (.box 100 [.sl 1 (s_.code.map (V.int .u8)), .int .i64 s_.at_, .int .u64 s_.seed])), (1, some (.row 2 1 (list.map (V.int .i64))))] (.int .i64 (Ak s_ list).1) ([(0, some (.box 100 [.sl 1 ((Ak s_ list).2.1.code.map (V.int .u8)), .int .i64 (Ak s_ list).2.1.at_, .int .u64 (Ak s_ list).2.1.seed])), (1, some (.row 2 1 ((Ak s_ list).2.2.map (V.int .i64))))]) := by
  refine con_intro (out := fun r : Int × Aj × (List Int) => ((.int .i64 r.1 : V), ([(0, some (.box 100 [.sl 1 (r.2.1.code.map (V.int .u8)), .int .i64 r.2.1.at_, .int .u64 r.2.1.seed])), (1, some (.row 2 1 (r.2.2.map (V.int .i64))))] : List (Nat × Option O)))) (r := (Ak s_ list)) Tryz.func24 rfl Tryz.ntmps24 rfl ?_
  have hN := hp1.num (k := (list.length : Int))
  refine CZ (l := 1) rfl fun hl => ?_
  have l1 := hl; clear hl; simp only [List.length_map] at l1
  refine Ae ?_
  refine Ad (Ag .n (.c rfl) rfl <| Lex.nil) ?_
  refine Ae ?_
  refine Ad (Af .n (.t rfl) rfl <| Af .n (.t rfl) rfl <| Af .n (.t rfl) rfl <| BD .n (.t rfl) rfl rfl ss_27 rfl <| AV (full := false) [(0, 0)] [] .n rfl .f en_22 (.cons (.t rfl) (.cons (.t rfl) .nil)) (.cons (.b (.mutp rfl)) (.cons (.b (.a (.same rfl))) .nil)) (AJ s_ (list.length : Int) (by (try dsimp only); (with_reducible (first | apply Lim.mono | apply Lim.out | apply LimA.mono)); (repeat (with_reducible (first | assumption | apply Lim.mk))); omega)) ⟨rfl, trivial⟩ rfl rfl (fun h => Bool.noConfusion h) (fun h => Bool.noConfusion h) rfl <| AX .n (.t rfl) (.t rfl) sl_27 (fun _ => by omega) rfl <| A3 .n (.t rfl) rfl (fun _ => by omega) rfl rfl rfl ic_2 rfl <| Ag .n (.t rfl) rfl <| Lex.nil) ?_
  exact Ay [] (.cons (.t rfl rfl) .nil) rfl ⟨rfl, rfl, trivial⟩ rfl

/-! ### spec_l00Src_one -/
theorem BS (s_ : Aj) (n_ : Int) (hp1 : Lim s_ 800000) : Con Tryz.prog 23 [.op 0 0 0 0, .int .i64 n_] [(0, some (.box 100 [.sl 1 (s_.code.map (V.int .u8)), .int .i64 s_.at_, .int .u64 s_.seed]))] (.bool (Ai s_ n_).1) ([(0, some (.box 100 [.sl 1 ((Ai s_ n_).2.code.map (V.int .u8)), .int .i64 (Ai s_ n_).2.at_, .int .u64 (Ai s_ n_).2.seed]))]) := by
  refine con_intro (out := fun r : Bool × Aj => ((.bool r.1 : V), ([(0, some (.box 100 [.sl 1 (r.2.code.map (V.int .u8)), .int .i64 r.2.at_, .int .u64 r.2.seed]))] : List (Nat × Option O)))) (r := (Ai s_ n_)) Tryz.func23 rfl Tryz.ntmps23 rfl ?_
  refine Ae ?_
  refine Ad (Ag .n (.c rfl) rfl <| Lex.nil) ?_
  refine Ae ?_
  refine Ad (Af .n (.t rfl) rfl <| Af .n (.t rfl) rfl <| AV (full := false) [(0, 0)] [] .n rfl .f en_22 (.cons (.t rfl) (.cons (.t rfl) .nil)) (.cons (.b (.mutp rfl)) (.cons (.b (.a (.same rfl))) .nil)) (AJ s_ n_ (by (try dsimp only); (with_reducible (first | apply Lim.mono | apply Lim.out | apply LimA.mono)); (repeat (with_reducible (first | assumption | apply Lim.mk))); omega)) ⟨rfl, trivial⟩ rfl rfl (fun h => Bool.noConfusion h) (fun h => Bool.noConfusion h) rfl <| AK .n (.t rfl) (.c rfl) rfl rfl <| Ag .n (.t rfl) rfl <| Lex.nil) ?_
  exact Ay [] (.cons (.t rfl rfl) .nil) rfl ⟨rfl, trivial⟩ rfl

/-! ### spec_l03DrawOk -/
theorem c_spec_l03DrawOk (s_ : Aj) (id : List UInt8) (from_ : Int) (to : Int) (hp1 : Lim s_ 700000) : Con Tryz.prog 83 [.op 0 0 0 0, .str id, .int .i64 from_, .int .i64 to] [(0, some (.box 100 [.sl 1 (s_.code.map (V.int .u8)), .int .i64 s_.at_, .int .u64 s_.seed]))] (.st [.str (Ah s_ id from_ to).1.Id, .int .i64 (Ah s_ id from_ to).1.From, .int .i64 (Ah s_ id from_ to).1.To, .int .i64 (Ah s_ id from_ to).1.Length, .int .i64 (Ah s_ id from_ to).1.Section, .int .i64 (Ah s_ id from_ to).1.Friction, .int .i64 (Ah s_ id from_ to).1.Shock]) ([(0, some (.box 100 [.sl 1 ((Ah s_ id from_ to).2.code.map (V.int .u8)), .int .i64 (Ah s_ id from_ to).2.at_, .int .u64 (Ah s_ id from_ to).2.seed]))]) := by
  refine con_intro (out := fun r : Au × Aj => ((.st [.str r.1.Id, .int .i64 r.1.From, .int .i64 r.1.To, .int .i64 r.1.Length, .int .i64 r.1.Section, .int .i64 r.1.Friction, .int .i64 r.1.Shock] : V), ([(0, some (.box 100 [.sl 1 (r.2.code.map (V.int .u8)), .int .i64 r.2.at_, .int .u64 r.2.seed]))] : List (Nat × Option O)))) (r := (Ah s_ id from_ to)) Tryz.func83 rfl Tryz.ntmps83 rfl ?_
  refine Ae ?_
  refine Ad (BG (l := 200) .n rfl zv_112 rfl rfl <| Lex.nil) ?_
  refine Ae ?_
  refine Ad (Af .n (.t rfl) rfl <| Af .n (.t rfl) rfl <| Af .n (.t rfl) rfl <| Af .n (.t rfl) rfl <| AV (full := false) [(0, 0)] [] .n rfl .f en_22 (.cons (.t rfl) (.cons (.c rfl) .nil)) (.cons (.b (.mutp rfl)) (.cons (.b (.a (.same rfl))) .nil)) (AJ s_ 900 (by (try dsimp only); (with_reducible (first | apply Lim.mono | apply Lim.out | apply LimA.mono)); (repeat (with_reducible (first | assumption | apply Lim.pick | apply Lim.mk))); omega)) ⟨rfl, trivial⟩ rfl rfl (fun h => Bool.noConfusion h) (fun h => Bool.noConfusion h) rfl <| AK .n (.c rfl) (.t rfl) rfl rfl <| Dw (us := [.str id, .int .i64 from_, .int .i64 to, .int .i64 (IntKind.wrap .i64 (20 + (Aa s_ 900).1)), .int .i64 0, .int .i64 0, .int .i64 0]) .n (.cons (.t rfl) (.cons (.t rfl) (.cons (.t rfl) (.cons (.t rfl) .nil)))) zv_112 pl_112 rfl rfl rfl <| BG (l := 201) .n rfl zv_112 rfl rfl <| AL [.str id, .int .i64 from_, .int .i64 to, .int .i64 (IntKind.wrap .i64 (20 + (Aa s_ 900).1)), .int .i64 0, .int .i64 0, .int .i64 0] .n rfl (.t rfl) (.t rfl) rfl ts_112 rfl rfl <| Lex.nil) ?_
  refine Ae ?_
  refine Ad (Af .n (.t rfl) rfl <| AV (full := false) [(0, 0)] [] .n rfl .f en_22 (.cons (.t rfl) (.cons (.c rfl) .nil)) (.cons (.b (.mutp rfl)) (.cons (.b (.a (.same rfl))) .nil)) (AJ (Aa s_ 900).2 1500 (by (try dsimp only); (with_reducible (first | apply Lim.mono | apply Lim.out | apply LimA.mono)); (repeat (with_reducible (first | assumption | apply Lim.pick | apply Lim.mk))); omega)) ⟨rfl, trivial⟩ rfl rfl (fun h => Bool.noConfusion h) (fun h => Bool.noConfusion h) rfl <| AK .n (.c rfl) (.t rfl) rfl rfl <| AE .n (.t rfl) fo_112_4 rfl <| AL [.str id, .int .i64 from_, .int .i64 to, .int .i64 (IntKind.wrap .i64 (20 + (Aa s_ 900).1)), .int .i64 (IntKind.wrap .i64 (300 + (Aa (Aa s_ 900).2 1500).1)), .int .i64 0, .int .i64 0] .n rfl (.t rfl) (.t rfl) rfl ts_2 rfl rfl <| Lex.nil) ?_
  refine Ae ?_
  refine Ad (Af .n (.t rfl) rfl <| AV (full := false) [(0, 0)] [] .n rfl .f en_22 (.cons (.t rfl) (.cons (.c rfl) .nil)) (.cons (.b (.mutp rfl)) (.cons (.b (.a (.same rfl))) .nil)) (AJ (Aa (Aa s_ 900).2 1500).2 200 (by (try dsimp only); (with_reducible (first | apply Lim.mono | apply Lim.out | apply LimA.mono)); (repeat (with_reducible (first | assumption | apply Lim.pick | apply Lim.mk))); omega)) ⟨rfl, trivial⟩ rfl rfl (fun h => Bool.noConfusion h) (fun h => Bool.noConfusion h) rfl <| AK .n (.c rfl) (.t rfl) rfl rfl <| AE .n (.t rfl) fo_112_5 rfl <| AL [.str id, .int .i64 from_, .int .i64 to, .int .i64 (IntKind.wrap .i64 (20 + (Aa s_ 900).1)), .int .i64 (IntKind.wrap .i64 (300 + (Aa (Aa s_ 900).2 1500).1)), .int .i64 (IntKind.wrap .i64 (20 + (Aa (Aa (Aa s_ 900).2 1500).2 200).1)), .int .i64 0] .n rfl (.t rfl) (.t rfl) rfl ts_2 rfl rfl <| Lex.nil) ?_
  refine Ae ?_
  refine Ad (Af .n (.t rfl) rfl <| AV (full := false) [(0, 0)] [] .n rfl .f en_22 (.cons (.t rfl) (.cons (.c rfl) .nil)) (.cons (.b (.mutp rfl)) (.cons (.b (.a (.same rfl))) .nil)) (AJ (Aa (Aa (Aa s_ 900).2 1500).2 200).2 60 (by (try dsimp only); (with_reducible (first | apply Lim.mono | apply Lim.out | apply LimA.mono)); (repeat (with_reducible (first | assumption | apply Lim.pick | apply Lim.mk))); omega)) ⟨rfl, trivial⟩ rfl rfl (fun h => Bool.noConfusion h) (fun h => Bool.noConfusion h) rfl <| AE .n (.t rfl) fo_112_6 rfl <| AL [.str id, .int .i64 from_, .int .i64 to, .int .i64 (IntKind.wrap .i64 (20 + (Aa s_ 900).1)), .int .i64 (IntKind.wrap .i64 (300 + (Aa (Aa s_ 900).2 1500).1)), .int .i64 (IntKind.wrap .i64 (20 + (Aa (Aa (Aa s_ 900).2 1500).2 200).1)), .int .i64 (Aa (Aa (Aa (Aa s_ 900).2 1500).2 200).2 60).1] .n rfl (.t rfl) (.t rfl) rfl ts_2 rfl rfl <| Lex.nil) ?_
  refine Ae ?_
  refine Ad (Bb .n (.t rfl) rfl (.inr rfl) ag_112 (fun _ => rfl) rfl rfl <| AL [.str id, .int .i64 from_, .int .i64 to, .int .i64 (IntKind.wrap .i64 (20 + (Aa s_ 900).1)), .int .i64 (IntKind.wrap .i64 (300 + (Aa (Aa s_ 900).2 1500).1)), .int .i64 (IntKind.wrap .i64 (20 + (Aa (Aa (Aa s_ 900).2 1500).2 200).1)), .int .i64 (Aa (Aa (Aa (Aa s_ 900).2 1500).2 200).2 60).1] .n rfl (.t rfl) (.t rfl) rfl ts_112 rfl rfl <| Lex.nil) ?_
  exact Ay [] (.cons (.cN rfl rfl ag_112 rfl rfl) .nil) (by first | rfl | (simp only [put_len]; rfl)) ⟨rfl, trivial⟩ rfl

/-! ### spec_l04DrawOk -/
set_option maxRecDepth 100000 in
set_option maxHeartbeats 4000000 in
theorem c_spec_l04DrawOk (s_ : Aj) (hp1 : Lim s_ 600000) : Con Tryz.prog 81 [.op 0 0 0 0] [(0, some (.box 100 [.sl 1 (s_.code.map (V.int .u8)), .int .i64 s_.at_, .int .u64 s_.seed]))] (.st [.int .i64 (AB s_).1.Junctions, .os 100 (AB s_).1.Airways.length]) ([(100, some (.row 112 7 ((AB s_).1.Airways.map Au.v))), (0, some (.box 100 [.sl 1 ((AB s_).2.code.map (V.int .u8)), .int .i64 (AB s_).2.at_, .int .u64 (AB s_).2.seed]))]) := by
  refine con_intro (out := fun r : AH × Aj => ((.st [.int .i64 r.1.Junctions, .os 100 r.1.Airways.length] : V), ([(100, some (.row 112 7 (r.1.Airways.map Au.v))), (0, some (.box 100 [.sl 1 (r.2.code.map (V.int .u8)), .int .i64 r.2.at_, .int .u64 r.2.seed]))] : List (Nat × Option O)))) (r := (AB s_)) Tryz.func81 rfl Tryz.ntmps81 rfl ?_
  have hJ := Lim.num (k := 5) hp1
  have hW := wr64 (n := 2 + (Aa s_ 5).1) (by omega)
  refine Ae ?_
  refine Ad (BG (l := 200) .n rfl zv_26 rfl rfl <| Lex.nil) ?_
  refine Ae ?_
  refine Ad (AW K_2 (f := V.str) (l := 201) .n rfl rfl (.cons (.c rfl) (.cons (.c rfl) (.cons (.c rfl) (.cons (.c rfl) (.cons (.c rfl) (.cons (.c rfl) (.cons (.c rfl) (.cons (.c rfl) .nil)))))))) rfl si_103 zv_9 rfl rfl rfl <| Ag .n (.t rfl) rfl <| Lex.nil) ?_
  refine Ae ?_
  refine Ad (Af .n (.t rfl) rfl <| AV (full := false) [(0, 0)] [] .n rfl .f en_22 (.cons (.t rfl) (.cons (.c rfl) .nil)) (.cons (.b (.mutp rfl)) (.cons (.b (.a (.same rfl))) .nil)) (AJ s_ 5 (by (try dsimp only); (with_reducible (first | apply Lim.mono | apply Lim.out | apply LimA.mono)); (repeat (with_reducible (first | assumption | apply Lim.bif1 | apply Lim.one | apply Lim.pick | apply Lim.draw3 | apply Lim.mk))); omega)) ⟨rfl, trivial⟩ rfl rfl (fun h => Bool.noConfusion h) (fun h => Bool.noConfusion h) rfl <| AK .n (.c rfl) (.t rfl) rfl rfl <| AW ([] : List Au) (f := Au.v) (l := 202) .n rfl rfl .nil rfl si_24 zv_112 rfl rfl rfl <| Dw (us := [.int .i64 (IntKind.wrap .i64 (2 + (Aa s_ 5).1)), .os 202 ([] : List Au).length]) .n (.cons (.t rfl) (.cons (.t rfl) .nil)) zv_26 pl_26 rfl rfl rfl <| BG (l := 203) .n rfl zv_26 rfl rfl <| AL [.int .i64 (IntKind.wrap .i64 (2 + (Aa s_ 5).1)), .os 202 ([] : List Au).length] .n rfl (.t rfl) (.t rfl) rfl ts_26 rfl rfl <| Lex.nil) ?_
  refine Ae ?_
  refine Ae ?_
  refine Ad (Ag .n (.c rfl) rfl <| Lex.nil) ?_
  refine AC ?_
  refine Bp (Dt s_) _ _ _ rfl (fun (x1 : (List Int) × Int × Int × Int × (List Au)) => 0 ≤ x1.2.2.2.1 ∧ x1.2.2.2.1 ≤ (K_2.length : Int) ∧ (x1.2.2.2.2.length : Int) + 0 ≤ x1.2.2.2.1 + (([] : List Au).length : Int) ∧ x1.2.2.2.1 ≤ 8 ∧ (x1.2.2.2.2.length : Int) ≤ x1.2.2.2.1 ∧ LimA x1.1 x1.2.1 (600002 + 20 * x1.2.2.2.1)) (fun x1 => 0 ≤ x1.2.2.2.1 ∧ x1.2.2.2.1 ≤ (K_2.length : Int) ∧ (x1.2.2.2.2.length : Int) + 0 ≤ x1.2.2.2.1 + (([] : List Au).length : Int) ∧ x1.2.2.2.1 ≤ 8 ∧ (x1.2.2.2.2.length : Int) ≤ x1.2.2.2.1 ∧ LimA x1.1 x1.2.1 (600002 + 20 * x1.2.2.2.1) ∧ (K_2.length : Int) ≤ x1.2.2.2.1) (fun x1 => ((K_2.length : Int) - x1.2.2.2.1 : Int).toNat) (fun x1 => ⟨[(0, some (true, .op 0 0 0 0)), (2, some (true, .op 200 0 0 0)), (3, some (true, .os 201 K_2.length)), (4, some (true, .op 203 0 0 0)), (5, some (true, .int .i64 x1.2.2.2.1))], [(0, some (.box 100 [.sl 1 (x1.1.map (V.int .u8)), .int .i64 x1.2.1, .int .u64 x1.2.2.1])), (200, some (.box 26 [.int .i64 0, .nls])), (201, some (.row 9 1 (K_2.map V.str))), (202, some (.row 112 7 (x1.2.2.2.2.map Au.v))), (203, some (.box 26 [.int .i64 (IntKind.wrap .i64 (2 + (Aa s_ 5).1)), .os 202 x1.2.2.2.2.length]))]⟩) (fun x1 => ⟨[(2, some (true, .op 200 0 0 0)), (4, some (true, .op 203 0 0 0))], [(0, some (.box 100 [.sl 1 (x1.1.map (V.int .u8)), .int .i64 x1.2.1, .int .u64 x1.2.2.1])), (200, some (.box 26 [.int .i64 0, .nls])), (202, some (.row 112 7 (x1.2.2.2.2.map Au.v))), (203, some (.box 26 [.int .i64 (IntKind.wrap .i64 (2 + (Aa s_ 5).1)), .os 202 x1.2.2.2.2.length]))]⟩) ⟨by (simp only [lens] at * <;> omega), by (simp only [lens] at * <;> omega), by (simp only [lens] at * <;> omega), by (simp only [lens] at * <;> omega), by (simp only [lens] at * <;> omega), by (try dsimp only); (with_reducible (first | apply Lim.mono | apply Lim.out | apply LimA.mono)); (repeat (with_reducible (first | assumption | apply Lim.bif1 | apply Lim.one | apply Lim.pick | apply Lim.draw3 | apply Lim.mk))); omega⟩ (by (simp only [lens] at * <;> omega)) (sub_of [] ⟨rfl, rfl, rfl, rfl, rfl, trivial⟩ ⟨rfl, rfl, rfl, rfl, rfl, trivial⟩ rfl) ?_ ?_
  · intro x1 i15
    obtain ⟨e16, e17, e18, e19, e20, e21, e22⟩ := i15
    try dsimp only at *
    refine Ae ?_
    refine Ad (Bb .n (.t rfl) rfl (.inr rfl) ag_26 (fun _ => rfl) rfl rfl <| AL [.int .i64 (IntKind.wrap .i64 (2 + (Aa s_ 5).1)), .os 202 x1.2.2.2.2.length] .n rfl (.t rfl) (.t rfl) rfl ts_26 rfl rfl <| Lex.nil) ?_
    exact Ay [(100, 202)] (.cons (.cN rfl rfl ag_26 rfl rfl) .nil) (by first | rfl | (simp only [put_len]; rfl)) ⟨rfl, rfl, trivial⟩ rfl
  · intro rec1 k1 hk1 x1 i2
    obtain ⟨e23, e24, e25, e26, e27, e28⟩ := i2
    try dsimp only at *
    refine Ae ?_
    refine Ae ?_
    refine Ad (Af .n (.t rfl) rfl <| Af .n (.t rfl) rfl <| BD .n (.t rfl) rfl rfl ss_103 rfl <| AK .n (.t rfl) (.t rfl) rfl rfl <| Lex.nil) ?_
    refine As (.t rfl) rfl (fun h3 => ?_) (fun h3 => ?_)
    · try simp only [tst] at h3
      refine Aw ?_
      refine Ae ?_
      refine AC ?_
      refine Ae ?_
      refine Ae ?_
      refine Ad (Af .n (.t rfl) rfl <| AV (full := false) [(0, 0)] [] .n rfl .f en_23 (.cons (.t rfl) (.cons (.c rfl) .nil)) (.cons (.b (.mutp rfl)) (.cons (.b (.a (.same rfl))) .nil)) (BS (Aj.mk x1.1 x1.2.1 x1.2.2.1) 5 (by (try dsimp only); (with_reducible (first | apply Lim.mono | apply Lim.out | apply LimA.mono)); (repeat (with_reducible (first | assumption | apply Lim.bif1 | apply Lim.one | apply Lim.pick | apply Lim.draw3 | apply Lim.mk))); omega)) ⟨rfl, trivial⟩ rfl rfl (fun h => Bool.noConfusion h) (fun h => Bool.noConfusion h) rfl <| Lex.nil) ?_
      refine As (.t rfl) rfl (fun h4 => ?_) (fun h4 => ?_)
      · try simp only [tst] at h4
        refine Ba rfl ?_
        refine Ad (Af .n (.t rfl) rfl <| BQ .n (.t rfl) (.c rfl) (fun _ => by omega) rfl <| Ag .n (.t rfl) rfl <| Lex.nil) ?_
        exact A6 ((Ai (Aj.mk x1.1 x1.2.1 x1.2.2.1) 5).2.code, (Ai (Aj.mk x1.1 x1.2.1 x1.2.2.1) 5).2.at_, (Ai (Aj.mk x1.1 x1.2.1 x1.2.2.1) 5).2.seed, x1.2.2.2.1 + 1, x1.2.2.2.2) ⟨by (simp only [lens] at * <;> omega), by assumption, by (simp only [lens] at * <;> omega), by assumption, by (simp only [lens] at * <;> omega), by (try dsimp only); (with_reducible (first | apply Lim.mono | apply Lim.out | apply LimA.mono)); (repeat (with_reducible (first | assumption | apply Lim.bif1 | apply Lim.one | apply Lim.pick | apply Lim.draw3 | apply Lim.mk))); omega⟩ (by (simp only [lens] at * <;> omega)) (sub_of [] ⟨rfl, rfl, rfl, rfl, rfl, trivial⟩ ⟨rfl, rfl, rfl, rfl, rfl, trivial⟩ rfl)
      · try simp only [tst] at h4
        refine Aw ?_
        refine Ae ?_
        refine Ad (Af .n (.t rfl) rfl <| AE .n (.t rfl) fo_26_0 rfl <| AP .n (.t rfl) rfl (.inr rfl) (fun _ => rfl) rfl ic_2 rfl <| q_rem .n (.t rfl) (.t rfl) (fun hg => by omega) rfl <| Ag .n (.t rfl) rfl <| Lex.nil) ?_
        refine Ae ?_
        refine Ae ?_
        refine Ad (Af .n (.t rfl) rfl <| AV (full := false) [(0, 0)] [] .n rfl .f en_23 (.cons (.t rfl) (.cons (.c rfl) .nil)) (.cons (.b (.mutp rfl)) (.cons (.b (.a (.same rfl))) .nil)) (BS (Ai (Aj.mk x1.1 x1.2.1 x1.2.2.1) 5).2 2 (by (try dsimp only); (with_reducible (first | apply Lim.mono | apply Lim.out | apply LimA.mono)); (repeat (with_reducible (first | assumption | apply Lim.bif1 | apply Lim.one | apply Lim.pick | apply Lim.draw3 | apply Lim.mk))); omega)) ⟨rfl, trivial⟩ rfl rfl (fun h => Bool.noConfusion h) (fun h => Bool.noConfusion h) rfl <| Lex.nil) ?_
        refine C7 _ _ rfl (fun v5 : (List Int) × Int × Int × Int => LimA v5.1 v5.2.1 (600008 + 20 * x1.2.2.2.1)) (fun v5 => ⟨[(0, some (true, .op 0 0 0 0)), (2, some (true, .op 200 0 0 0)), (3, some (true, .os 201 K_2.length)), (4, some (true, .op 203 0 0 0)), (5, some (true, .int .i64 x1.2.2.2.1)), (6, some (true, .int .i64 v5.2.2.2))], [(0, some (.box 100 [.sl 1 (v5.1.map (V.int .u8)), .int .i64 v5.2.1, .int .u64 v5.2.2.1])), (200, some (.box 26 [.int .i64 0, .nls])), (201, some (.row 9 1 (K_2.map V.str))), (202, some (.row 112 7 (x1.2.2.2.2.map Au.v))), (203, some (.box 26 [.int .i64 (IntKind.wrap .i64 (2 + (Aa s_ 5).1)), .os 202 x1.2.2.2.2.length]))]⟩) (fun v5 hv13 => ?_) (fun j6 hj7 => ?_)
        · have e14 := hv13
          refine Ae ?_
          refine Bl fmo (Af .n (.t rfl) rfl <| AK .n (.t rfl) (.c rfl) rfl rfl <| Af .n (.t rfl) rfl <| AE .n (.t rfl) fo_26_0 rfl <| AP .n (.t rfl) rfl (.inr rfl) (fun _ => rfl) rfl ic_2 rfl <| AK .n (.t rfl) (.c rfl) rfl rfl <| AV (full := false) [(0, 0)] [] .n rfl .f en_22 (.cons (.t rfl) (.cons (.t rfl) .nil)) (.cons (.b (.mutp rfl)) (.cons (.b (.a (.same rfl))) .nil)) (AJ (Aj.mk v5.1 v5.2.1 v5.2.2.1) (IntKind.wrap .i64 ((IntKind.wrap .i64 (2 + (Aa s_ 5).1)) - 1)) (by (try dsimp only); (with_reducible (first | apply Lim.mono | apply Lim.out | apply LimA.mono)); (repeat (with_reducible (first | assumption | apply Lim.bif1 | apply Lim.one | apply Lim.pick | apply Lim.draw3 | apply Lim.mk))); omega)) ⟨rfl, trivial⟩ rfl rfl (fun h => Bool.noConfusion h) (fun h => Bool.noConfusion h) rfl <| AK .n (.t rfl) (.t rfl) rfl rfl <| AE .n (.t rfl) fo_26_0 rfl <| AP .n (.t rfl) rfl (.inr rfl) (fun _ => rfl) rfl ic_2 rfl <| q_rem .n (.t rfl) (.t rfl) (fun hg => by omega) rfl <| Ag .n (.t rfl) rfl <| Lex.nil) (by kernel_rfl) ?_
          refine Ae ?_
          refine Ae ?_
          refine Ad (Af .n (.t rfl) rfl <| AE .n (.t rfl) fo_26_0 rfl <| AP .n (.t rfl) rfl (.inr rfl) (fun _ => rfl) rfl ic_2 rfl <| AK .n (.t rfl) (.c rfl) rfl rfl <| AK .n (.t rfl) (.t rfl) rfl rfl <| Af .n (.t rfl) rfl <| Af (.t rfl rfl) (.t rfl) rfl <| q_callGM (full := false) (m0 := 0) (L := 0) (v := .bool (Ai (Aa (Aj.mk v5.1 v5.2.1 v5.2.2.1) (IntKind.wrap .i64 ((IntKind.wrap .i64 (2 + (Aa s_ 5).1)) - 1))).2 4).1) (o' := .box 100 [.sl 1 ((bif (decide (x1.2.2.2.1 < (IntKind.wrap .i64 ((IntKind.wrap .i64 (2 + (Aa s_ 5).1)) - 1)))) then (Ai (Aa (Aj.mk v5.1 v5.2.1 v5.2.2.1) (IntKind.wrap .i64 ((IntKind.wrap .i64 (2 + (Aa s_ 5).1)) - 1))).2 4).2 else (Aa (Aj.mk v5.1 v5.2.1 v5.2.2.1) (IntKind.wrap .i64 ((IntKind.wrap .i64 (2 + (Aa s_ 5).1)) - 1))).2).code.map (V.int .u8)), .int .i64 (bif (decide (x1.2.2.2.1 < (IntKind.wrap .i64 ((IntKind.wrap .i64 (2 + (Aa s_ 5).1)) - 1)))) then (Ai (Aa (Aj.mk v5.1 v5.2.1 v5.2.2.1) (IntKind.wrap .i64 ((IntKind.wrap .i64 (2 + (Aa s_ 5).1)) - 1))).2 4).2 else (Aa (Aj.mk v5.1 v5.2.1 v5.2.2.1) (IntKind.wrap .i64 ((IntKind.wrap .i64 (2 + (Aa s_ 5).1)) - 1))).2).at_, .int .u64 (bif (decide (x1.2.2.2.1 < (IntKind.wrap .i64 ((IntKind.wrap .i64 (2 + (Aa s_ 5).1)) - 1)))) then (Ai (Aa (Aj.mk v5.1 v5.2.1 v5.2.2.1) (IntKind.wrap .i64 ((IntKind.wrap .i64 (2 + (Aa s_ 5).1)) - 1))).2 4).2 else (Aa (Aj.mk v5.1 v5.2.1 v5.2.2.1) (IntKind.wrap .i64 ((IntKind.wrap .i64 (2 + (Aa s_ 5).1)) - 1))).2).seed]) (.t rfl rfl) (fun hg => .f) en_23 (fun hg => (.cons (.u rfl (fun _ => id hg)) (.cons (.c rfl) .nil))) (.cons (.b (.mutp rfl)) (.cons (.b (.a (.same rfl))) .nil)) (fun hg => BS (Aa (Aj.mk v5.1 v5.2.1 v5.2.2.1) (IntKind.wrap .i64 ((IntKind.wrap .i64 (2 + (Aa s_ 5).1)) - 1))).2 4 (by (try dsimp only); (with_reducible (first | apply Lim.mono | apply Lim.out | apply LimA.mono)); (repeat (with_reducible (first | assumption | apply Lim.bif1 | apply Lim.one | apply Lim.pick | apply Lim.draw3 | apply Lim.mk))); omega)) ⟨rfl, trivial⟩ rfl (fun h => Bool.noConfusion h) (fun h => Bool.noConfusion h) rfl (fun hg => by simp only [Bool.true_and] at hg; rw [hg]; exact ⟨rfl, rfl⟩) (fun hg => by simp only [Bool.true_and] at hg; rw [hg]; rfl) <| Cr (.t rfl rfl) (.u rfl id) rfl <| Cz .n (.t rfl) (.u rfl id) rfl <| Lex.nil) ?_
          refine C7 _ _ rfl (fun v9 : Int × Int => True) (fun v9 => ⟨[(0, some (true, .op 0 0 0 0)), (2, some (true, .op 200 0 0 0)), (3, some (true, .os 201 K_2.length)), (4, some (true, .op 203 0 0 0)), (5, some (true, .int .i64 x1.2.2.2.1)), (6, some (true, .int .i64 v9.1)), (7, some (true, .int .i64 v9.2))], [(0, some (.box 100 [.sl 1 ((bif (decide (x1.2.2.2.1 < (IntKind.wrap .i64 ((IntKind.wrap .i64 (2 + (Aa s_ 5).1)) - 1)))) then (Ai (Aa (Aj.mk v5.1 v5.2.1 v5.2.2.1) (IntKind.wrap .i64 ((IntKind.wrap .i64 (2 + (Aa s_ 5).1)) - 1))).2 4).2 else (Aa (Aj.mk v5.1 v5.2.1 v5.2.2.1) (IntKind.wrap .i64 ((IntKind.wrap .i64 (2 + (Aa s_ 5).1)) - 1))).2).code.map (V.int .u8)), .int .i64 (bif (decide (x1.2.2.2.1 < (IntKind.wrap .i64 ((IntKind.wrap .i64 (2 + (Aa s_ 5).1)) - 1)))) then (Ai (Aa (Aj.mk v5.1 v5.2.1 v5.2.2.1) (IntKind.wrap .i64 ((IntKind.wrap .i64 (2 + (Aa s_ 5).1)) - 1))).2 4).2 else (Aa (Aj.mk v5.1 v5.2.1 v5.2.2.1) (IntKind.wrap .i64 ((IntKind.wrap .i64 (2 + (Aa s_ 5).1)) - 1))).2).at_, .int .u64 (bif (decide (x1.2.2.2.1 < (IntKind.wrap .i64 ((IntKind.wrap .i64 (2 + (Aa s_ 5).1)) - 1)))) then (Ai (Aa (Aj.mk v5.1 v5.2.1 v5.2.2.1) (IntKind.wrap .i64 ((IntKind.wrap .i64 (2 + (Aa s_ 5).1)) - 1))).2 4).2 else (Aa (Aj.mk v5.1 v5.2.1 v5.2.2.1) (IntKind.wrap .i64 ((IntKind.wrap .i64 (2 + (Aa s_ 5).1)) - 1))).2).seed])), (200, some (.box 26 [.int .i64 0, .nls])), (201, some (.row 9 1 (K_2.map V.str))), (202, some (.row 112 7 (x1.2.2.2.2.map Au.v))), (203, some (.box 26 [.int .i64 (IntKind.wrap .i64 (2 + (Aa s_ 5).1)), .os 202 x1.2.2.2.2.length]))]⟩) (fun v9 _ => ?_) (fun j10 hj11 => ?_)
          · refine Bl fmo (AE .n (.t rfl) fo_26_1 rfl <| AP .n (.t rfl) rfl (.inr rfl) (fun _ => rfl) rfl ic_24 rfl <| Af .n (.t rfl) rfl <| Af .n (.t rfl) rfl <| Af .n (.t rfl) rfl <| AX .n (.t rfl) (.t rfl) sl_103 (fun _ => by omega) rfl <| A3 .n (.t rfl) rfl (fun _ => by omega) rfl rfl rfl ic_9 rfl <| Af .n (.t rfl) rfl <| Af .n (.t rfl) rfl <| AV (full := false) [(0, 0)] [] .n rfl .f en_83 (.cons (.t rfl) (.cons (.t rfl) (.cons (.t rfl) (.cons (.t rfl) .nil)))) (.cons (.b (.mutp rfl)) (.cons (.b (.a (.same rfl))) (.cons (.b (.a (.same rfl))) (.cons (.b (.a (.same rfl))) .nil)))) (c_spec_l03DrawOk (bif (decide (x1.2.2.2.1 < (IntKind.wrap .i64 ((IntKind.wrap .i64 (2 + (Aa s_ 5).1)) - 1)))) then (Ai (Aa (Aj.mk v5.1 v5.2.1 v5.2.2.1) (IntKind.wrap .i64 ((IntKind.wrap .i64 (2 + (Aa s_ 5).1)) - 1))).2 4).2 else (Aa (Aj.mk v5.1 v5.2.1 v5.2.2.1) (IntKind.wrap .i64 ((IntKind.wrap .i64 (2 + (Aa s_ 5).1)) - 1))).2) (at' K_2 x1.2.2.2.1) v9.1 v9.2 (by (try dsimp only); (with_reducible (first | apply Lim.mono | apply Lim.out | apply LimA.mono)); (repeat (with_reducible (first | assumption | apply Lim.bif1 | apply Lim.one | apply Lim.pick | apply Lim.draw3 | apply Lim.mk))); omega)) ⟨rfl, trivial⟩ rfl rfl (fun h => Bool.noConfusion h) (fun h => Bool.noConfusion h) rfl <| AW ([(Ah (bif (decide (x1.2.2.2.1 < (IntKind.wrap .i64 ((IntKind.wrap .i64 (2 + (Aa s_ 5).1)) - 1)))) then (Ai (Aa (Aj.mk v5.1 v5.2.1 v5.2.2.1) (IntKind.wrap .i64 ((IntKind.wrap .i64 (2 + (Aa s_ 5).1)) - 1))).2 4).2 else (Aa (Aj.mk v5.1 v5.2.1 v5.2.2.1) (IntKind.wrap .i64 ((IntKind.wrap .i64 (2 + (Aa s_ 5).1)) - 1))).2) (at' K_2 x1.2.2.2.1) v9.1 v9.2).1] : List Au) (f := Au.v) (l := 204) .n rfl rfl (.cons (.t rfl) .nil) rfl si_24 zv_112 rfl rfl rfl <| CD (xs := x1.2.2.2.2) (ys := ([(Ah (bif (decide (x1.2.2.2.1 < (IntKind.wrap .i64 ((IntKind.wrap .i64 (2 + (Aa s_ 5).1)) - 1)))) then (Ai (Aa (Aj.mk v5.1 v5.2.1 v5.2.2.1) (IntKind.wrap .i64 ((IntKind.wrap .i64 (2 + (Aa s_ 5).1)) - 1))).2 4).2 else (Aa (Aj.mk v5.1 v5.2.1 v5.2.2.1) (IntKind.wrap .i64 ((IntKind.wrap .i64 (2 + (Aa s_ 5).1)) - 1))).2) (at' K_2 x1.2.2.2.1) v9.1 v9.2).1] : List Au)) (f := Au.v) (l := 205) .n rfl (.ow (.t rfl) rfl (take_all (by simp only [len_map, put_len] <;> rfl)) (by simp only [len_map, put_len] <;> rfl)) (.ow (.t rfl) rfl (take_all (by simp only [len_map, put_len] <;> rfl)) (by simp only [len_map, put_len] <;> rfl)) si_24 zv_112 rfl (by (simp only [lens] at * <;> omega)) rfl rfl <| AE .n (.t rfl) fo_26_1 rfl <| AL [.int .i64 (IntKind.wrap .i64 (2 + (Aa s_ 5).1)), .os 205 (x1.2.2.2.2 ++ ([(Ah (bif (decide (x1.2.2.2.1 < (IntKind.wrap .i64 ((IntKind.wrap .i64 (2 + (Aa s_ 5).1)) - 1)))) then (Ai (Aa (Aj.mk v5.1 v5.2.1 v5.2.2.1) (IntKind.wrap .i64 ((IntKind.wrap .i64 (2 + (Aa s_ 5).1)) - 1))).2 4).2 else (Aa (Aj.mk v5.1 v5.2.1 v5.2.2.1) (IntKind.wrap .i64 ((IntKind.wrap .i64 (2 + (Aa s_ 5).1)) - 1))).2) (at' K_2 x1.2.2.2.1) v9.1 v9.2).1] : List Au)).length] .n rfl (.t rfl) (.t rfl) rfl ts_24 rfl rfl <| Lex.nil) (by kernel_rfl) ?_
            refine AS ?_
            refine Ad (Af .n (.t rfl) rfl <| BQ .n (.t rfl) (.c rfl) (fun _ => by omega) rfl <| Ag .n (.t rfl) rfl <| Lex.nil) ?_
            exact A6 ((Ah (bif (decide (x1.2.2.2.1 < (IntKind.wrap .i64 ((IntKind.wrap .i64 (2 + (Aa s_ 5).1)) - 1)))) then (Ai (Aa (Aj.mk v5.1 v5.2.1 v5.2.2.1) (IntKind.wrap .i64 ((IntKind.wrap .i64 (2 + (Aa s_ 5).1)) - 1))).2 4).2 else (Aa (Aj.mk v5.1 v5.2.1 v5.2.2.1) (IntKind.wrap .i64 ((IntKind.wrap .i64 (2 + (Aa s_ 5).1)) - 1))).2) (at' K_2 x1.2.2.2.1) v9.1 v9.2).2.code, (Ah (bif (decide (x1.2.2.2.1 < (IntKind.wrap .i64 ((IntKind.wrap .i64 (2 + (Aa s_ 5).1)) - 1)))) then (Ai (Aa (Aj.mk v5.1 v5.2.1 v5.2.2.1) (IntKind.wrap .i64 ((IntKind.wrap .i64 (2 + (Aa s_ 5).1)) - 1))).2 4).2 else (Aa (Aj.mk v5.1 v5.2.1 v5.2.2.1) (IntKind.wrap .i64 ((IntKind.wrap .i64 (2 + (Aa s_ 5).1)) - 1))).2) (at' K_2 x1.2.2.2.1) v9.1 v9.2).2.at_, (Ah (bif (decide (x1.2.2.2.1 < (IntKind.wrap .i64 ((IntKind.wrap .i64 (2 + (Aa s_ 5).1)) - 1)))) then (Ai (Aa (Aj.mk v5.1 v5.2.1 v5.2.2.1) (IntKind.wrap .i64 ((IntKind.wrap .i64 (2 + (Aa s_ 5).1)) - 1))).2 4).2 else (Aa (Aj.mk v5.1 v5.2.1 v5.2.2.1) (IntKind.wrap .i64 ((IntKind.wrap .i64 (2 + (Aa s_ 5).1)) - 1))).2) (at' K_2 x1.2.2.2.1) v9.1 v9.2).2.seed, x1.2.2.2.1 + 1, x1.2.2.2.2 ++ ([(Ah (bif (decide (x1.2.2.2.1 < (IntKind.wrap .i64 ((IntKind.wrap .i64 (2 + (Aa s_ 5).1)) - 1)))) then (Ai (Aa (Aj.mk v5.1 v5.2.1 v5.2.2.1) (IntKind.wrap .i64 ((IntKind.wrap .i64 (2 + (Aa s_ 5).1)) - 1))).2 4).2 else (Aa (Aj.mk v5.1 v5.2.1 v5.2.2.1) (IntKind.wrap .i64 ((IntKind.wrap .i64 (2 + (Aa s_ 5).1)) - 1))).2) (at' K_2 x1.2.2.2.1) v9.1 v9.2).1] : List Au)) ⟨by (simp only [lens] at * <;> omega), by assumption, by (simp only [lens] at * <;> omega), by assumption, by (simp only [lens] at * <;> omega), by (try dsimp only); (with_reducible (first | apply Lim.mono | apply Lim.out | apply LimA.mono)); (repeat (with_reducible (first | assumption | apply Lim.bif1 | apply Lim.one | apply Lim.pick | apply Lim.draw3 | apply Lim.mk))); omega⟩ (by (simp only [lens] at * <;> omega)) (sub_of [(202, 205)] ⟨rfl, rfl, rfl, rfl, rfl, trivial⟩ ⟨rfl, rfl, rfl, rfl, rfl, trivial⟩ rfl)
          · refine As (.t rfl) rfl (fun h12 => ?_) (fun h12 => ?_)
            · try simp only [tst] at h12
              refine Ae ?_
              refine Ad (Af .n (.t rfl) rfl <| Ag .n (.t rfl) rfl <| Lex.nil) ?_
              refine Ad (Af .n (.t rfl) rfl <| BQ .n (.t rfl) (.c rfl) (fun _ => by omega) rfl <| Ag .n (.t rfl) rfl <| Lex.nil) ?_
              exact AY hj11 (x1.2.2.2.1, x1.2.2.2.1 + 1) trivial (sub_of [] ⟨rfl, rfl, rfl, rfl, rfl, rfl, rfl, trivial⟩ ⟨rfl, rfl, rfl, rfl, rfl, trivial⟩ rfl)
            · try simp only [tst] at h12
              refine Aw ?_
              exact AY hj11 (v5.2.2.2, Int.tmod (IntKind.wrap .i64 ((IntKind.wrap .i64 (v5.2.2.2 + 1)) + (Aa (Aj.mk v5.1 v5.2.1 v5.2.2.1) (IntKind.wrap .i64 ((IntKind.wrap .i64 (2 + (Aa s_ 5).1)) - 1))).1)) (IntKind.wrap .i64 (2 + (Aa s_ 5).1))) trivial (sub_of [] ⟨rfl, rfl, rfl, rfl, rfl, rfl, rfl, trivial⟩ ⟨rfl, rfl, rfl, rfl, rfl, trivial⟩ rfl)
        · refine As (.t rfl) rfl (fun h8 => ?_) (fun h8 => ?_)
          · try simp only [tst] at h8
            refine Ad (Af .n (.t rfl) rfl <| AE .n (.t rfl) fo_26_0 rfl <| AP .n (.t rfl) rfl (.inr rfl) (fun _ => rfl) rfl ic_2 rfl <| AV (full := false) [(0, 0)] [] .n rfl .f en_22 (.cons (.t rfl) (.cons (.t rfl) .nil)) (.cons (.b (.mutp rfl)) (.cons (.b (.a (.same rfl))) .nil)) (AJ (Ai (Ai (Aj.mk x1.1 x1.2.1 x1.2.2.1) 5).2 2).2 (IntKind.wrap .i64 (2 + (Aa s_ 5).1)) (by (try dsimp only); (with_reducible (first | apply Lim.mono | apply Lim.out | apply LimA.mono)); (repeat (with_reducible (first | assumption | apply Lim.bif1 | apply Lim.one | apply Lim.pick | apply Lim.draw3 | apply Lim.mk))); omega)) ⟨rfl, trivial⟩ rfl rfl (fun h => Bool.noConfusion h) (fun h => Bool.noConfusion h) rfl <| Ag .n (.t rfl) rfl <| Lex.nil) ?_
            exact AY hj7 ((Aa (Ai (Ai (Aj.mk x1.1 x1.2.1 x1.2.2.1) 5).2 2).2 (IntKind.wrap .i64 (2 + (Aa s_ 5).1))).2.code, (Aa (Ai (Ai (Aj.mk x1.1 x1.2.1 x1.2.2.1) 5).2 2).2 (IntKind.wrap .i64 (2 + (Aa s_ 5).1))).2.at_, (Aa (Ai (Ai (Aj.mk x1.1 x1.2.1 x1.2.2.1) 5).2 2).2 (IntKind.wrap .i64 (2 + (Aa s_ 5).1))).2.seed, (Aa (Ai (Ai (Aj.mk x1.1 x1.2.1 x1.2.2.1) 5).2 2).2 (IntKind.wrap .i64 (2 + (Aa s_ 5).1))).1) (by (try dsimp only); (with_reducible (first | apply Lim.mono | apply Lim.out | apply LimA.mono)); (repeat (with_reducible (first | assumption | apply Lim.bif1 | apply Lim.one | apply Lim.pick | apply Lim.draw3 | apply Lim.mk))); omega) (sub_of [] ⟨rfl, rfl, rfl, rfl, rfl, rfl, trivial⟩ ⟨rfl, rfl, rfl, rfl, rfl, trivial⟩ rfl)
          · try simp only [tst] at h8
            refine Aw ?_
            exact AY hj7 ((Ai (Ai (Aj.mk x1.1 x1.2.1 x1.2.2.1) 5).2 2).2.code, (Ai (Ai (Aj.mk x1.1 x1.2.1 x1.2.2.1) 5).2 2).2.at_, (Ai (Ai (Aj.mk x1.1 x1.2.1 x1.2.2.1) 5).2 2).2.seed, Int.tmod x1.2.2.2.1 (IntKind.wrap .i64 (2 + (Aa s_ 5).1))) (by (try dsimp only); (with_reducible (first | apply Lim.mono | apply Lim.out | apply LimA.mono)); (repeat (with_reducible (first | assumption | apply Lim.bif1 | apply Lim.one | apply Lim.pick | apply Lim.draw3 | apply Lim.mk))); omega) (sub_of [] ⟨rfl, rfl, rfl, rfl, rfl, rfl, trivial⟩ ⟨rfl, rfl, rfl, rfl, rfl, trivial⟩ rfl)
    · try simp only [tst] at h3
      refine Ba rfl ?_
      exact AY hk1 (x1.1, x1.2.1, x1.2.2.1, x1.2.2.2.1, x1.2.2.2.2) ⟨by omega, by omega, by omega, by omega, by omega, by (try dsimp only); (with_reducible (first | apply Lim.mono | apply Lim.out | apply LimA.mono)); (repeat (with_reducible (first | assumption | apply Lim.bif1 | apply Lim.one | apply Lim.pick | apply Lim.draw3 | apply Lim.mk))); omega, by omega⟩ (sub_of [] ⟨rfl, rfl, trivial⟩ ⟨rfl, rfl, rfl, rfl, trivial⟩ rfl)

/-! ### spec_l00Src_text -/
theorem DD (s_ : Aj) (list : List (List UInt8)) (hp1 : Lim s_ 800000) (hp2 : 0 < list.length) : Con Tryz.prog 95 [.op 0 0 0 0, .os 1 list.length] [(0, some (.box 100 [.sl 1 (s_.code.map (V.int .u8)), .int .i64 s_.at_, .int .u64 s_.seed])), (1, some (.row 9 1 (list.map V.str)))] (.str (Ab s_ list).1) ([(0, some (.box 100 [.sl 1 ((Ab s_ list).2.1.code.map (V.int .u8)), .int .i64 (Ab s_ list).2.1.at_, .int .u64 (Ab s_ list).2.1.seed])), (1, some (.row 9 1 ((Ab s_ list).2.2.map V.str)))]) := by
  refine con_intro (out := fun r : (List UInt8) × Aj × (List (List UInt8)) => ((.str r.1 : V), ([(0, some (.box 100 [.sl 1 (r.2.1.code.map (V.int .u8)), .int .i64 r.2.1.at_, .int .u64 r.2.1.seed])), (1, some (.row 9 1 (r.2.2.map V.str)))] : List (Nat × Option O)))) (r := (Ab s_ list)) Tryz.func95 rfl Tryz.ntmps95 rfl ?_
  have hN := hp1.num (k := (list.length : Int))
  refine CZ (l := 1) rfl fun hl => ?_
  have l1 := hl; clear hl; simp only [List.length_map] at l1
  refine Ae ?_
  refine Ad (Ag .n (.c rfl) rfl <| Lex.nil) ?_
  refine Ae ?_
  refine Ad (Af .n (.t rfl) rfl <| Af .n (.t rfl) rfl <| Af .n (.t rfl) rfl <| BD .n (.t rfl) rfl rfl ss_103 rfl <| AV (full := false) [(0, 0)] [] .n rfl .f en_22 (.cons (.t rfl) (.cons (.t rfl) .nil)) (.cons (.b (.mutp rfl)) (.cons (.b (.a (.same rfl))) .nil)) (AJ s_ (list.length : Int) (by (try dsimp only); (with_reducible (first | apply Lim.mono | apply Lim.out | apply LimA.mono)); (repeat (with_reducible (first | assumption | apply Lim.mk))); omega)) ⟨rfl, trivial⟩ rfl rfl (fun h => Bool.noConfusion h) (fun h => Bool.noConfusion h) rfl <| AX .n (.t rfl) (.t rfl) sl_103 (fun _ => by omega) rfl <| A3 .n (.t rfl) rfl (fun _ => by omega) rfl rfl rfl ic_9 rfl <| Ag .n (.t rfl) rfl <| Lex.nil) ?_
  exact Ay [] (.cons (.t rfl rfl) .nil) rfl ⟨rfl, rfl, trivial⟩ rfl

/-! ### spec_l03Bent -/
set_option maxRecDepth 100000 in
set_option maxHeartbeats 4000000 in
theorem c_spec_l03Bent (s_ : Aj) (hp1 : Lim s_ 650000) : Con Tryz.prog 82 [.op 0 0 0 0] [(0, some (.box 100 [.sl 1 (s_.code.map (V.int .u8)), .int .i64 s_.at_, .int .u64 s_.seed]))] (.st [.str (Bq s_).1.Id, .int .i64 (Bq s_).1.From, .int .i64 (Bq s_).1.To, .int .i64 (Bq s_).1.Length, .int .i64 (Bq s_).1.Section, .int .i64 (Bq s_).1.Friction, .int .i64 (Bq s_).1.Shock]) ([(0, some (.box 100 [.sl 1 ((Bq s_).2.code.map (V.int .u8)), .int .i64 (Bq s_).2.at_, .int .u64 (Bq s_).2.seed]))]) := by
  refine con_intro (out := fun r : Au × Aj => ((.st [.str r.1.Id, .int .i64 r.1.From, .int .i64 r.1.To, .int .i64 r.1.Length, .int .i64 r.1.Section, .int .i64 r.1.Friction, .int .i64 r.1.Shock] : V), ([(0, some (.box 100 [.sl 1 (r.2.code.map (V.int .u8)), .int .i64 r.2.at_, .int .u64 r.2.seed]))] : List (Nat × Option O)))) (r := (Bq s_)) Tryz.func82 rfl Tryz.ntmps82 rfl ?_
  refine Ae ?_
  refine Ad (BG (l := 200) .n rfl zv_112 rfl rfl <| Lex.nil) ?_
  refine Ae ?_
  refine Ad (Af .n (.t rfl) rfl <| AW K_0 (f := V.str) (l := 201) .n rfl rfl (.cons (.c rfl) (.cons (.c rfl) (.cons (.c rfl) (.cons (.c rfl) .nil)))) rfl si_103 zv_9 rfl rfl rfl <| AV (full := false) [(0, 0), (1, 201)] [] .n rfl .f en_95 (.cons (.t rfl) (.cons (.t rfl) .nil)) (.cons (.b (.mutp rfl)) (.cons (.b (.muts rfl)) .nil)) (DD s_ K_0 (by (try dsimp only); (with_reducible (first | apply Lim.mono | apply Lim.out | apply LimA.mono)); (repeat (with_reducible (first | assumption | apply Lim.among | apply Lim.text | apply Lim.pick | apply Lim.draw3 | apply Lim.mk))); omega) (by (simp only [lens] at * <;> omega))) ⟨rfl, rfl, trivial⟩ rfl rfl (fun h => Bool.noConfusion h) (fun h => Bool.noConfusion h) rfl <| Ag .n (.t rfl) rfl <| Lex.nil) ?_
  refine Ae ?_
  refine Ad (Af .n (.t rfl) rfl <| AV (full := false) [(0, 0)] [] .n rfl .f en_22 (.cons (.t rfl) (.cons (.c rfl) .nil)) (.cons (.b (.mutp rfl)) (.cons (.b (.a (.same rfl))) .nil)) (AJ (Ab s_ K_0).2.1 8 (by (try dsimp only); (with_reducible (first | apply Lim.mono | apply Lim.out | apply LimA.mono)); (repeat (with_reducible (first | assumption | apply Lim.among | apply Lim.text | apply Lim.pick | apply Lim.draw3 | apply Lim.mk))); omega)) ⟨rfl, trivial⟩ rfl rfl (fun h => Bool.noConfusion h) (fun h => Bool.noConfusion h) rfl <| Ag .n (.t rfl) rfl <| Lex.nil) ?_
  refine Ae ?_
  refine Ad (Af .n (.t rfl) rfl <| Af .n (.t rfl) rfl <| Af .n (.t rfl) rfl <| Af .n (.t rfl) rfl <| AK .n (.t rfl) (.c rfl) rfl rfl <| Af .n (.t rfl) rfl <| AV (full := false) [(0, 0)] [] .n rfl .f en_22 (.cons (.t rfl) (.cons (.c rfl) .nil)) (.cons (.b (.mutp rfl)) (.cons (.b (.a (.same rfl))) .nil)) (AJ (Aa (Ab s_ K_0).2.1 8).2 7 (by (try dsimp only); (with_reducible (first | apply Lim.mono | apply Lim.out | apply LimA.mono)); (repeat (with_reducible (first | assumption | apply Lim.among | apply Lim.text | apply Lim.pick | apply Lim.draw3 | apply Lim.mk))); omega)) ⟨rfl, trivial⟩ rfl rfl (fun h => Bool.noConfusion h) (fun h => Bool.noConfusion h) rfl <| AK .n (.t rfl) (.t rfl) rfl rfl <| q_rem .n (.t rfl) (.c rfl) (fun _ => by decide) rfl <| AV (full := false) [(0, 0)] [] .n rfl .f en_83 (.cons (.t rfl) (.cons (.t rfl) (.cons (.t rfl) (.cons (.t rfl) .nil)))) (.cons (.b (.mutp rfl)) (.cons (.b (.a (.same rfl))) (.cons (.b (.a (.same rfl))) (.cons (.b (.a (.same rfl))) .nil)))) (c_spec_l03DrawOk (Aa (Aa (Ab s_ K_0).2.1 8).2 7).2 (Ab s_ K_0).1 (Aa (Ab s_ K_0).2.1 8).1 (Int.tmod (IntKind.wrap .i64 ((IntKind.wrap .i64 ((Aa (Ab s_ K_0).2.1 8).1 + 1)) + (Aa (Aa (Ab s_ K_0).2.1 8).2 7).1)) 8) (by (try dsimp only); (with_reducible (first | apply Lim.mono | apply Lim.out | apply LimA.mono)); (repeat (with_reducible (first | assumption | apply Lim.among | apply Lim.text | apply Lim.pick | apply Lim.draw3 | apply Lim.mk))); omega)) ⟨rfl, trivial⟩ rfl rfl (fun h => Bool.noConfusion h) (fun h => Bool.noConfusion h) rfl <| BG (l := 202) .n rfl zv_112 rfl rfl <| AL [.str (Ah (Aa (Aa (Ab s_ K_0).2.1 8).2 7).2 (Ab s_ K_0).1 (Aa (Ab s_ K_0).2.1 8).1 (Int.tmod (IntKind.wrap .i64 ((IntKind.wrap .i64 ((Aa (Ab s_ K_0).2.1 8).1 + 1)) + (Aa (Aa (Ab s_ K_0).2.1 8).2 7).1)) 8)).1.Id, .int .i64 (Ah (Aa (Aa (Ab s_ K_0).2.1 8).2 7).2 (Ab s_ K_0).1 (Aa (Ab s_ K_0).2.1 8).1 (Int.tmod (IntKind.wrap .i64 ((IntKind.wrap .i64 ((Aa (Ab s_ K_0).2.1 8).1 + 1)) + (Aa (Aa (Ab s_ K_0).2.1 8).2 7).1)) 8)).1.From, .int .i64 (Ah (Aa (Aa (Ab s_ K_0).2.1 8).2 7).2 (Ab s_ K_0).1 (Aa (Ab s_ K_0).2.1 8).1 (Int.tmod (IntKind.wrap .i64 ((IntKind.wrap .i64 ((Aa (Ab s_ K_0).2.1 8).1 + 1)) + (Aa (Aa (Ab s_ K_0).2.1 8).2 7).1)) 8)).1.To, .int .i64 (Ah (Aa (Aa (Ab s_ K_0).2.1 8).2 7).2 (Ab s_ K_0).1 (Aa (Ab s_ K_0).2.1 8).1 (Int.tmod (IntKind.wrap .i64 ((IntKind.wrap .i64 ((Aa (Ab s_ K_0).2.1 8).1 + 1)) + (Aa (Aa (Ab s_ K_0).2.1 8).2 7).1)) 8)).1.Length, .int .i64 (Ah (Aa (Aa (Ab s_ K_0).2.1 8).2 7).2 (Ab s_ K_0).1 (Aa (Ab s_ K_0).2.1 8).1 (Int.tmod (IntKind.wrap .i64 ((IntKind.wrap .i64 ((Aa (Ab s_ K_0).2.1 8).1 + 1)) + (Aa (Aa (Ab s_ K_0).2.1 8).2 7).1)) 8)).1.Section, .int .i64 (Ah (Aa (Aa (Ab s_ K_0).2.1 8).2 7).2 (Ab s_ K_0).1 (Aa (Ab s_ K_0).2.1 8).1 (Int.tmod (IntKind.wrap .i64 ((IntKind.wrap .i64 ((Aa (Ab s_ K_0).2.1 8).1 + 1)) + (Aa (Aa (Ab s_ K_0).2.1 8).2 7).1)) 8)).1.Friction, .int .i64 (Ah (Aa (Aa (Ab s_ K_0).2.1 8).2 7).2 (Ab s_ K_0).1 (Aa (Ab s_ K_0).2.1 8).1 (Int.tmod (IntKind.wrap .i64 ((IntKind.wrap .i64 ((Aa (Ab s_ K_0).2.1 8).1 + 1)) + (Aa (Aa (Ab s_ K_0).2.1 8).2 7).1)) 8)).1.Shock] .n rfl (.t rfl) (.t rfl) rfl ts_112 rfl rfl <| Lex.nil) ?_
  refine Ae ?_
  refine Ae ?_
  refine Ad (Af .n (.t rfl) rfl <| AV (full := false) [(0, 0)] [] .n rfl .f en_22 (.cons (.t rfl) (.cons (.c rfl) .nil)) (.cons (.b (.mutp rfl)) (.cons (.b (.a (.same rfl))) .nil)) (AJ (Ah (Aa (Aa (Ab s_ K_0).2.1 8).2 7).2 (Ab s_ K_0).1 (Aa (Ab s_ K_0).2.1 8).1 (Int.tmod (IntKind.wrap .i64 ((IntKind.wrap .i64 ((Aa (Ab s_ K_0).2.1 8).1 + 1)) + (Aa (Aa (Ab s_ K_0).2.1 8).2 7).1)) 8)).2 20 (by (try dsimp only); (with_reducible (first | apply Lim.mono | apply Lim.out | apply LimA.mono)); (repeat (with_reducible (first | assumption | apply Lim.among | apply Lim.text | apply Lim.pick | apply Lim.draw3 | apply Lim.mk))); omega)) ⟨rfl, trivial⟩ rfl rfl (fun h => Bool.noConfusion h) (fun h => Bool.noConfusion h) rfl <| Lex.nil) ?_
  refine AC ?_
  refine Ae ?_
  refine Ad (AK .n (.t rfl) (.c rfl) rfl rfl <| Ag .n (.t rfl) rfl <| Lex.nil) ?_
  refine As (.t rfl) rfl (fun h1 => ?_) (fun h1 => ?_)
  · try simp only [tst] at h1
    refine Ad (Af .n (.t rfl) rfl <| AE .n (.t rfl) fo_112_1 rfl <| AP .n (.t rfl) rfl (.inr rfl) (fun _ => rfl) rfl ic_2 rfl <| AW ([(Ah (Aa (Aa (Ab s_ K_0).2.1 8).2 7).2 (Ab s_ K_0).1 (Aa (Ab s_ K_0).2.1 8).1 (Int.tmod (IntKind.wrap .i64 ((IntKind.wrap .i64 ((Aa (Ab s_ K_0).2.1 8).1 + 1)) + (Aa (Aa (Ab s_ K_0).2.1 8).2 7).1)) 8)).1.From, 15, 16, (-1)] : List Int) (f := V.int .i64) (l := 203) .n rfl rfl (.cons (.t rfl) (.cons (.c rfl) (.cons (.c rfl) (.cons (.c rfl) .nil)))) rfl si_27 zv_2 rfl rfl rfl <| AV (full := false) [(0, 0), (1, 203)] [] .n rfl .f en_24 (.cons (.t rfl) (.cons (.t rfl) .nil)) (.cons (.b (.mutp rfl)) (.cons (.b (.muts rfl)) .nil)) (A1 (Aa (Ah (Aa (Aa (Ab s_ K_0).2.1 8).2 7).2 (Ab s_ K_0).1 (Aa (Ab s_ K_0).2.1 8).1 (Int.tmod (IntKind.wrap .i64 ((IntKind.wrap .i64 ((Aa (Ab s_ K_0).2.1 8).1 + 1)) + (Aa (Aa (Ab s_ K_0).2.1 8).2 7).1)) 8)).2 20).2 ([(Ah (Aa (Aa (Ab s_ K_0).2.1 8).2 7).2 (Ab s_ K_0).1 (Aa (Ab s_ K_0).2.1 8).1 (Int.tmod (IntKind.wrap .i64 ((IntKind.wrap .i64 ((Aa (Ab s_ K_0).2.1 8).1 + 1)) + (Aa (Aa (Ab s_ K_0).2.1 8).2 7).1)) 8)).1.From, 15, 16, (-1)] : List Int) (by (try dsimp only); (with_reducible (first | apply Lim.mono | apply Lim.out | apply LimA.mono)); (repeat (with_reducible (first | assumption | apply Lim.among | apply Lim.text | apply Lim.pick | apply Lim.draw3 | apply Lim.mk))); omega) (by (simp only [lens] at * <;> omega))) ⟨rfl, rfl, trivial⟩ rfl rfl (fun h => Bool.noConfusion h) (fun h => Bool.noConfusion h) rfl <| AE .n (.t rfl) fo_112_2 rfl <| AL [.str (Ah (Aa (Aa (Ab s_ K_0).2.1 8).2 7).2 (Ab s_ K_0).1 (Aa (Ab s_ K_0).2.1 8).1 (Int.tmod (IntKind.wrap .i64 ((IntKind.wrap .i64 ((Aa (Ab s_ K_0).2.1 8).1 + 1)) + (Aa (Aa (Ab s_ K_0).2.1 8).2 7).1)) 8)).1.Id, .int .i64 (Ah (Aa (Aa (Ab s_ K_0).2.1 8).2 7).2 (Ab s_ K_0).1 (Aa (Ab s_ K_0).2.1 8).1 (Int.tmod (IntKind.wrap .i64 ((IntKind.wrap .i64 ((Aa (Ab s_ K_0).2.1 8).1 + 1)) + (Aa (Aa (Ab s_ K_0).2.1 8).2 7).1)) 8)).1.From, .int .i64 (Ak (Aa (Ah (Aa (Aa (Ab s_ K_0).2.1 8).2 7).2 (Ab s_ K_0).1 (Aa (Ab s_ K_0).2.1 8).1 (Int.tmod (IntKind.wrap .i64 ((IntKind.wrap .i64 ((Aa (Ab s_ K_0).2.1 8).1 + 1)) + (Aa (Aa (Ab s_ K_0).2.1 8).2 7).1)) 8)).2 20).2 ([(Ah (Aa (Aa (Ab s_ K_0).2.1 8).2 7).2 (Ab s_ K_0).1 (Aa (Ab s_ K_0).2.1 8).1 (Int.tmod (IntKind.wrap .i64 ((IntKind.wrap .i64 ((Aa (Ab s_ K_0).2.1 8).1 + 1)) + (Aa (Aa (Ab s_ K_0).2.1 8).2 7).1)) 8)).1.From, 15, 16, (-1)] : List Int)).1, .int .i64 (Ah (Aa (Aa (Ab s_ K_0).2.1 8).2 7).2 (Ab s_ K_0).1 (Aa (Ab s_ K_0).2.1 8).1 (Int.tmod (IntKind.wrap .i64 ((IntKind.wrap .i64 ((Aa (Ab s_ K_0).2.1 8).1 + 1)) + (Aa (Aa (Ab s_ K_0).2.1 8).2 7).1)) 8)).1.Length, .int .i64 (Ah (Aa (Aa (Ab s_ K_0).2.1 8).2 7).2 (Ab s_ K_0).1 (Aa (Ab s_ K_0).2.1 8).1 (Int.tmod (IntKind.wrap .i64 ((IntKind.wrap .i64 ((Aa (Ab s_ K_0).2.1 8).1 + 1)) + (Aa (Aa (Ab s_ K_0).2.1 8).2 7).1)) 8)).1.Section, .int .i64 (Ah (Aa (Aa (Ab s_ K_0).2.1 8).2 7).2 (Ab s_ K_0).1 (Aa (Ab s_ K_0).2.1 8).1 (Int.tmod (IntKind.wrap .i64 ((IntKind.wrap .i64 ((Aa (Ab s_ K_0).2.1 8).1 + 1)) + (Aa (Aa (Ab s_ K_0).2.1 8).2 7).1)) 8)).1.Friction, .int .i64 (Ah (Aa (Aa (Ab s_ K_0).2.1 8).2 7).2 (Ab s_ K_0).1 (Aa (Ab s_ K_0).2.1 8).1 (Int.tmod (IntKind.wrap .i64 ((IntKind.wrap .i64 ((Aa (Ab s_ K_0).2.1 8).1 + 1)) + (Aa (Aa (Ab s_ K_0).2.1 8).2 7).1)) 8)).1.Shock] .n rfl (.t rfl) (.t rfl) rfl ts_2 rfl rfl <| Lex.nil) ?_
    refine AS ?_
    refine Ae ?_
    refine Ad (Bb .n (.t rfl) rfl (.inr rfl) ag_112 (fun _ => rfl) rfl rfl <| AL [.str (Ah (Aa (Aa (Ab s_ K_0).2.1 8).2 7).2 (Ab s_ K_0).1 (Aa (Ab s_ K_0).2.1 8).1 (Int.tmod (IntKind.wrap .i64 ((IntKind.wrap .i64 ((Aa (Ab s_ K_0).2.1 8).1 + 1)) + (Aa (Aa (Ab s_ K_0).2.1 8).2 7).1)) 8)).1.Id, .int .i64 (Ah (Aa (Aa (Ab s_ K_0).2.1 8).2 7).2 (Ab s_ K_0).1 (Aa (Ab s_ K_0).2.1 8).1 (Int.tmod (IntKind.wrap .i64 ((IntKind.wrap .i64 ((Aa (Ab s_ K_0).2.1 8).1 + 1)) + (Aa (Aa (Ab s_ K_0).2.1 8).2 7).1)) 8)).1.From, .int .i64 (Ak (Aa (Ah (Aa (Aa (Ab s_ K_0).2.1 8).2 7).2 (Ab s_ K_0).1 (Aa (Ab s_ K_0).2.1 8).1 (Int.tmod (IntKind.wrap .i64 ((IntKind.wrap .i64 ((Aa (Ab s_ K_0).2.1 8).1 + 1)) + (Aa (Aa (Ab s_ K_0).2.1 8).2 7).1)) 8)).2 20).2 ([(Ah (Aa (Aa (Ab s_ K_0).2.1 8).2 7).2 (Ab s_ K_0).1 (Aa (Ab s_ K_0).2.1 8).1 (Int.tmod (IntKind.wrap .i64 ((IntKind.wrap .i64 ((Aa (Ab s_ K_0).2.1 8).1 + 1)) + (Aa (Aa (Ab s_ K_0).2.1 8).2 7).1)) 8)).1.From, 15, 16, (-1)] : List Int)).1, .int .i64 (Ah (Aa (Aa (Ab s_ K_0).2.1 8).2 7).2 (Ab s_ K_0).1 (Aa (Ab s_ K_0).2.1 8).1 (Int.tmod (IntKind.wrap .i64 ((IntKind.wrap .i64 ((Aa (Ab s_ K_0).2.1 8).1 + 1)) + (Aa (Aa (Ab s_ K_0).2.1 8).2 7).1)) 8)).1.Length, .int .i64 (Ah (Aa (Aa (Ab s_ K_0).2.1 8).2 7).2 (Ab s_ K_0).1 (Aa (Ab s_ K_0).2.1 8).1 (Int.tmod (IntKind.wrap .i64 ((IntKind.wrap .i64 ((Aa (Ab s_ K_0).2.1 8).1 + 1)) + (Aa (Aa (Ab s_ K_0).2.1 8).2 7).1)) 8)).1.Section, .int .i64 (Ah (Aa (Aa (Ab s_ K_0).2.1 8).2 7).2 (Ab s_ K_0).1 (Aa (Ab s_ K_0).2.1 8).1 (Int.tmod (IntKind.wrap .i64 ((IntKind.wrap .i64 ((Aa (Ab s_ K_0).2.1 8).1 + 1)) + (Aa (Aa (Ab s_ K_0).2.1 8).2 7).1)) 8)).1.Friction, .int .i64 (Ah (Aa (Aa (Ab s_ K_0).2.1 8).2 7).2 (Ab s_ K_0).1 (Aa (Ab s_ K_0).2.1 8).1 (Int.tmod (IntKind.wrap .i64 ((IntKind.wrap .i64 ((Aa (Ab s_ K_0).2.1 8).1 + 1)) + (Aa (Aa (Ab s_ K_0).2.1 8).2 7).1)) 8)).1.Shock] .n rfl (.t rfl) (.t rfl) rfl ts_112 rfl rfl <| Lex.nil) ?_
    exact Ay [] (.cons (.cN rfl rfl ag_112 rfl rfl) .nil) (by first | rfl | (simp only [put_len]; rfl)) ⟨rfl, trivial⟩ rfl
  · try simp only [tst] at h1
    refine Ae ?_
    refine Ad (AK .n (.t rfl) (.c rfl) rfl rfl <| Ag .n (.t rfl) rfl <| Lex.nil) ?_
    refine As (.t rfl) rfl (fun h2 => ?_) (fun h2 => ?_)
    · try simp only [tst] at h2
      refine Ad (Af .n (.t rfl) rfl <| AW ([0, 1, 10000, 10001] : List Int) (f := V.int .i64) (l := 204) .n rfl rfl (.cons (.c rfl) (.cons (.c rfl) (.cons (.c rfl) (.cons (.c rfl) .nil)))) rfl si_27 zv_2 rfl rfl rfl <| AV (full := false) [(0, 0), (1, 204)] [] .n rfl .f en_24 (.cons (.t rfl) (.cons (.t rfl) .nil)) (.cons (.b (.mutp rfl)) (.cons (.b (.muts rfl)) .nil)) (A1 (Aa (Ah (Aa (Aa (Ab s_ K_0).2.1 8).2 7).2 (Ab s_ K_0).1 (Aa (Ab s_ K_0).2.1 8).1 (Int.tmod (IntKind.wrap .i64 ((IntKind.wrap .i64 ((Aa (Ab s_ K_0).2.1 8).1 + 1)) + (Aa (Aa (Ab s_ K_0).2.1 8).2 7).1)) 8)).2 20).2 ([0, 1, 10000, 10001] : List Int) (by (try dsimp only); (with_reducible (first | apply Lim.mono | apply Lim.out | apply LimA.mono)); (repeat (with_reducible (first | assumption | apply Lim.among | apply Lim.text | apply Lim.pick | apply Lim.draw3 | apply Lim.mk))); omega) (by (simp only [lens] at * <;> omega))) ⟨rfl, rfl, trivial⟩ rfl rfl (fun h => Bool.noConfusion h) (fun h => Bool.noConfusion h) rfl <| AE .n (.t rfl) fo_112_3 rfl <| AL [.str (Ah (Aa (Aa (Ab s_ K_0).2.1 8).2 7).2 (Ab s_ K_0).1 (Aa (Ab s_ K_0).2.1 8).1 (Int.tmod (IntKind.wrap .i64 ((IntKind.wrap .i64 ((Aa (Ab s_ K_0).2.1 8).1 + 1)) + (Aa (Aa (Ab s_ K_0).2.1 8).2 7).1)) 8)).1.Id, .int .i64 (Ah (Aa (Aa (Ab s_ K_0).2.1 8).2 7).2 (Ab s_ K_0).1 (Aa (Ab s_ K_0).2.1 8).1 (Int.tmod (IntKind.wrap .i64 ((IntKind.wrap .i64 ((Aa (Ab s_ K_0).2.1 8).1 + 1)) + (Aa (Aa (Ab s_ K_0).2.1 8).2 7).1)) 8)).1.From, .int .i64 (Ah (Aa (Aa (Ab s_ K_0).2.1 8).2 7).2 (Ab s_ K_0).1 (Aa (Ab s_ K_0).2.1 8).1 (Int.tmod (IntKind.wrap .i64 ((IntKind.wrap .i64 ((Aa (Ab s_ K_0).2.1 8).1 + 1)) + (Aa (Aa (Ab s_ K_0).2.1 8).2 7).1)) 8)).1.To, .int .i64 (Ak (Aa (Ah (Aa (Aa (Ab s_ K_0).2.1 8).2 7).2 (Ab s_ K_0).1 (Aa (Ab s_ K_0).2.1 8).1 (Int.tmod (IntKind.wrap .i64 ((IntKind.wrap .i64 ((Aa (Ab s_ K_0).2.1 8).1 + 1)) + (Aa (Aa (Ab s_ K_0).2.1 8).2 7).1)) 8)).2 20).2 ([0, 1, 10000, 10001] : List Int)).1, .int .i64 (Ah (Aa (Aa (Ab s_ K_0).2.1 8).2 7).2 (Ab s_ K_0).1 (Aa (Ab s_ K_0).2.1 8).1 (Int.tmod (IntKind.wrap .i64 ((IntKind.wrap .i64 ((Aa (Ab s_ K_0).2.1 8).1 + 1)) + (Aa (Aa (Ab s_ K_0).2.1 8).2 7).1)) 8)).1.Section, .int .i64 (Ah (Aa (Aa (Ab s_ K_0).2.1 8).2 7).2 (Ab s_ K_0).1 (Aa (Ab s_ K_0).2.1 8).1 (Int.tmod (IntKind.wrap .i64 ((IntKind.wrap .i64 ((Aa (Ab s_ K_0).2.1 8).1 + 1)) + (Aa (Aa (Ab s_ K_0).2.1 8).2 7).1)) 8)).1.Friction, .int .i64 (Ah (Aa (Aa (Ab s_ K_0).2.1 8).2 7).2 (Ab s_ K_0).1 (Aa (Ab s_ K_0).2.1 8).1 (Int.tmod (IntKind.wrap .i64 ((IntKind.wrap .i64 ((Aa (Ab s_ K_0).2.1 8).1 + 1)) + (Aa (Aa (Ab s_ K_0).2.1 8).2 7).1)) 8)).1.Shock] .n rfl (.t rfl) (.t rfl) rfl ts_2 rfl rfl <| Lex.nil) ?_
      refine AS ?_
      refine Ae ?_
      refine Ad (Bb .n (.t rfl) rfl (.inr rfl) ag_112 (fun _ => rfl) rfl rfl <| AL [.str (Ah (Aa (Aa (Ab s_ K_0).2.1 8).2 7).2 (Ab s_ K_0).1 (Aa (Ab s_ K_0).2.1 8).1 (Int.tmod (IntKind.wrap .i64 ((IntKind.wrap .i64 ((Aa (Ab s_ K_0).2.1 8).1 + 1)) + (Aa (Aa (Ab s_ K_0).2.1 8).2 7).1)) 8)).1.Id, .int .i64 (Ah (Aa (Aa (Ab s_ K_0).2.1 8).2 7).2 (Ab s_ K_0).1 (Aa (Ab s_ K_0).2.1 8).1 (Int.tmod (IntKind.wrap .i64 ((IntKind.wrap .i64 ((Aa (Ab s_ K_0).2.1 8).1 + 1)) + (Aa (Aa (Ab s_ K_0).2.1 8).2 7).1)) 8)).1.From, .int .i64 (Ah (Aa (Aa (Ab s_ K_0).2.1 8).2 7).2 (Ab s_ K_0).1 (Aa (Ab s_ K_0).2.1 8).1 (Int.tmod (IntKind.wrap .i64 ((IntKind.wrap .i64 ((Aa (Ab s_ K_0).2.1 8).1 + 1)) + (Aa (Aa (Ab s_ K_0).2.1 8).2 7).1)) 8)).1.To, .int .i64 (Ak (Aa (Ah (Aa (Aa (Ab s_ K_0).2.1 8).2 7).2 (Ab s_ K_0).1 (Aa (Ab s_ K_0).2.1 8).1 (Int.tmod (IntKind.wrap .i64 ((IntKind.wrap .i64 ((Aa (Ab s_ K_0).2.1 8).1 + 1)) + (Aa (Aa (Ab s_ K_0).2.1 8).2 7).1)) 8)).2 20).2 ([0, 1, 10000, 10001] : List Int)).1, .int .i64 (Ah (Aa (Aa (Ab s_ K_0).2.1 8).2 7).2 (Ab s_ K_0).1 (Aa (Ab s_ K_0).2.1 8).1 (Int.tmod (IntKind.wrap .i64 ((IntKind.wrap .i64 ((Aa (Ab s_ K_0).2.1 8).1 + 1)) + (Aa (Aa (Ab s_ K_0).2.1 8).2 7).1)) 8)).1.Section, .int .i64 (Ah (Aa (Aa (Ab s_ K_0).2.1 8).2 7).2 (Ab s_ K_0).1 (Aa (Ab s_ K_0).2.1 8).1 (Int.tmod (IntKind.wrap .i64 ((IntKind.wrap .i64 ((Aa (Ab s_ K_0).2.1 8).1 + 1)) + (Aa (Aa (Ab s_ K_0).2.1 8).2 7).1)) 8)).1.Friction, .int .i64 (Ah (Aa (Aa (Ab s_ K_0).2.1 8).2 7).2 (Ab s_ K_0).1 (Aa (Ab s_ K_0).2.1 8).1 (Int.tmod (IntKind.wrap .i64 ((IntKind.wrap .i64 ((Aa (Ab s_ K_0).2.1 8).1 + 1)) + (Aa (Aa (Ab s_ K_0).2.1 8).2 7).1)) 8)).1.Shock] .n rfl (.t rfl) (.t rfl) rfl ts_112 rfl rfl <| Lex.nil) ?_
      exact Ay [] (.cons (.cN rfl rfl ag_112 rfl rfl) .nil) (by first | rfl | (simp only [put_len]; rfl)) ⟨rfl, trivial⟩ rfl
    · try simp only [tst] at h2
      refine Ae ?_
      refine Ad (AK .n (.t rfl) (.c rfl) rfl rfl <| Ag .n (.t rfl) rfl <| Lex.nil) ?_
      refine As (.t rfl) rfl (fun h3 => ?_) (fun h3 => ?_)
      · try simp only [tst] at h3
        refine Ad (Af .n (.t rfl) rfl <| AW ([49, 50, 5000, 5001] : List Int) (f := V.int .i64) (l := 205) .n rfl rfl (.cons (.c rfl) (.cons (.c rfl) (.cons (.c rfl) (.cons (.c rfl) .nil)))) rfl si_27 zv_2 rfl rfl rfl <| AV (full := false) [(0, 0), (1, 205)] [] .n rfl .f en_24 (.cons (.t rfl) (.cons (.t rfl) .nil)) (.cons (.b (.mutp rfl)) (.cons (.b (.muts rfl)) .nil)) (A1 (Aa (Ah (Aa (Aa (Ab s_ K_0).2.1 8).2 7).2 (Ab s_ K_0).1 (Aa (Ab s_ K_0).2.1 8).1 (Int.tmod (IntKind.wrap .i64 ((IntKind.wrap .i64 ((Aa (Ab s_ K_0).2.1 8).1 + 1)) + (Aa (Aa (Ab s_ K_0).2.1 8).2 7).1)) 8)).2 20).2 ([49, 50, 5000, 5001] : List Int) (by (try dsimp only); (with_reducible (first | apply Lim.mono | apply Lim.out | apply LimA.mono)); (repeat (with_reducible (first | assumption | apply Lim.among | apply Lim.text | apply Lim.pick | apply Lim.draw3 | apply Lim.mk))); omega) (by (simp only [lens] at * <;> omega))) ⟨rfl, rfl, trivial⟩ rfl rfl (fun h => Bool.noConfusion h) (fun h => Bool.noConfusion h) rfl <| AE .n (.t rfl) fo_112_4 rfl <| AL [.str (Ah (Aa (Aa (Ab s_ K_0).2.1 8).2 7).2 (Ab s_ K_0).1 (Aa (Ab s_ K_0).2.1 8).1 (Int.tmod (IntKind.wrap .i64 ((IntKind.wrap .i64 ((Aa (Ab s_ K_0).2.1 8).1 + 1)) + (Aa (Aa (Ab s_ K_0).2.1 8).2 7).1)) 8)).1.Id, .int .i64 (Ah (Aa (Aa (Ab s_ K_0).2.1 8).2 7).2 (Ab s_ K_0).1 (Aa (Ab s_ K_0).2.1 8).1 (Int.tmod (IntKind.wrap .i64 ((IntKind.wrap .i64 ((Aa (Ab s_ K_0).2.1 8).1 + 1)) + (Aa (Aa (Ab s_ K_0).2.1 8).2 7).1)) 8)).1.From, .int .i64 (Ah (Aa (Aa (Ab s_ K_0).2.1 8).2 7).2 (Ab s_ K_0).1 (Aa (Ab s_ K_0).2.1 8).1 (Int.tmod (IntKind.wrap .i64 ((IntKind.wrap .i64 ((Aa (Ab s_ K_0).2.1 8).1 + 1)) + (Aa (Aa (Ab s_ K_0).2.1 8).2 7).1)) 8)).1.To, .int .i64 (Ah (Aa (Aa (Ab s_ K_0).2.1 8).2 7).2 (Ab s_ K_0).1 (Aa (Ab s_ K_0).2.1 8).1 (Int.tmod (IntKind.wrap .i64 ((IntKind.wrap .i64 ((Aa (Ab s_ K_0).2.1 8).1 + 1)) + (Aa (Aa (Ab s_ K_0).2.1 8).2 7).1)) 8)).1.Length, .int .i64 (Ak (Aa (Ah (Aa (Aa (Ab s_ K_0).2.1 8).2 7).2 (Ab s_ K_0).1 (Aa (Ab s_ K_0).2.1 8).1 (Int.tmod (IntKind.wrap .i64 ((IntKind.wrap .i64 ((Aa (Ab s_ K_0).2.1 8).1 + 1)) + (Aa (Aa (Ab s_ K_0).2.1 8).2 7).1)) 8)).2 20).2 ([49, 50, 5000, 5001] : List Int)).1, .int .i64 (Ah (Aa (Aa (Ab s_ K_0).2.1 8).2 7).2 (Ab s_ K_0).1 (Aa (Ab s_ K_0).2.1 8).1 (Int.tmod (IntKind.wrap .i64 ((IntKind.wrap .i64 ((Aa (Ab s_ K_0).2.1 8).1 + 1)) + (Aa (Aa (Ab s_ K_0).2.1 8).2 7).1)) 8)).1.Friction, .int .i64 (Ah (Aa (Aa (Ab s_ K_0).2.1 8).2 7).2 (Ab s_ K_0).1 (Aa (Ab s_ K_0).2.1 8).1 (Int.tmod (IntKind.wrap .i64 ((IntKind.wrap .i64 ((Aa (Ab s_ K_0).2.1 8).1 + 1)) + (Aa (Aa (Ab s_ K_0).2.1 8).2 7).1)) 8)).1.Shock] .n rfl (.t rfl) (.t rfl) rfl ts_2 rfl rfl <| Lex.nil) ?_
        refine AS ?_
        refine Ae ?_
        refine Ad (Bb .n (.t rfl) rfl (.inr rfl) ag_112 (fun _ => rfl) rfl rfl <| AL [.str (Ah (Aa (Aa (Ab s_ K_0).2.1 8).2 7).2 (Ab s_ K_0).1 (Aa (Ab s_ K_0).2.1 8).1 (Int.tmod (IntKind.wrap .i64 ((IntKind.wrap .i64 ((Aa (Ab s_ K_0).2.1 8).1 + 1)) + (Aa (Aa (Ab s_ K_0).2.1 8).2 7).1)) 8)).1.Id, .int .i64 (Ah (Aa (Aa (Ab s_ K_0).2.1 8).2 7).2 (Ab s_ K_0).1 (Aa (Ab s_ K_0).2.1 8).1 (Int.tmod (IntKind.wrap .i64 ((IntKind.wrap .i64 ((Aa (Ab s_ K_0).2.1 8).1 + 1)) + (Aa (Aa (Ab s_ K_0).2.1 8).2 7).1)) 8)).1.From, .int .i64 (Ah (Aa (Aa (Ab s_ K_0).2.1 8).2 7).2 (Ab s_ K_0).1 (Aa (Ab s_ K_0).2.1 8).1 (Int.tmod (IntKind.wrap .i64 ((IntKind.wrap .i64 ((Aa (Ab s_ K_0).2.1 8).1 + 1)) + (Aa (Aa (Ab s_ K_0).2.1 8).2 7).1)) 8)).1.To, .int .i64 (Ah (Aa (Aa (Ab s_ K_0).2.1 8).2 7).2 (Ab s_ K_0).1 (Aa (Ab s_ K_0).2.1 8).1 (Int.tmod (IntKind.wrap .i64 ((IntKind.wrap .i64 ((Aa (Ab s_ K_0).2.1 8).1 + 1)) + (Aa (Aa (Ab s_ K_0).2.1 8).2 7).1)) 8)).1.Length, .int .i64 (Ak (Aa (Ah (Aa (Aa (Ab s_ K_0).2.1 8).2 7).2 (Ab s_ K_0).1 (Aa (Ab s_ K_0).2.1 8).1 (Int.tmod (IntKind.wrap .i64 ((IntKind.wrap .i64 ((Aa (Ab s_ K_0).2.1 8).1 + 1)) + (Aa (Aa (Ab s_ K_0).2.1 8).2 7).1)) 8)).2 20).2 ([49, 50, 5000, 5001] : List Int)).1, .int .i64 (Ah (Aa (Aa (Ab s_ K_0).2.1 8).2 7).2 (Ab s_ K_0).1 (Aa (Ab s_ K_0).2.1 8).1 (Int.tmod (IntKind.wrap .i64 ((IntKind.wrap .i64 ((Aa (Ab s_ K_0).2.1 8).1 + 1)) + (Aa (Aa (Ab s_ K_0).2.1 8).2 7).1)) 8)).1.Friction, .int .i64 (Ah (Aa (Aa (Ab s_ K_0).2.1 8).2 7).2 (Ab s_ K_0).1 (Aa (Ab s_ K_0).2.1 8).1 (Int.tmod (IntKind.wrap .i64 ((IntKind.wrap .i64 ((Aa (Ab s_ K_0).2.1 8).1 + 1)) + (Aa (Aa (Ab s_ K_0).2.1 8).2 7).1)) 8)).1.Shock] .n rfl (.t rfl) (.t rfl) rfl ts_112 rfl rfl <| Lex.nil) ?_
        exact Ay [] (.cons (.cN rfl rfl ag_112 rfl rfl) .nil) (by first | rfl | (simp only [put_len]; rfl)) ⟨rfl, trivial⟩ rfl
      · try simp only [tst] at h3
        refine Ae ?_
        refine Ad (AK .n (.t rfl) (.c rfl) rfl rfl <| Ag .n (.t rfl) rfl <| Lex.nil) ?_
        refine As (.t rfl) rfl (fun h4 => ?_) (fun h4 => ?_)
        · try simp only [tst] at h4
          refine Ad (Af .n (.t rfl) rfl <| AW ([0, 1, 1000, 1001] : List Int) (f := V.int .i64) (l := 206) .n rfl rfl (.cons (.c rfl) (.cons (.c rfl) (.cons (.c rfl) (.cons (.c rfl) .nil)))) rfl si_27 zv_2 rfl rfl rfl <| AV (full := false) [(0, 0), (1, 206)] [] .n rfl .f en_24 (.cons (.t rfl) (.cons (.t rfl) .nil)) (.cons (.b (.mutp rfl)) (.cons (.b (.muts rfl)) .nil)) (A1 (Aa (Ah (Aa (Aa (Ab s_ K_0).2.1 8).2 7).2 (Ab s_ K_0).1 (Aa (Ab s_ K_0).2.1 8).1 (Int.tmod (IntKind.wrap .i64 ((IntKind.wrap .i64 ((Aa (Ab s_ K_0).2.1 8).1 + 1)) + (Aa (Aa (Ab s_ K_0).2.1 8).2 7).1)) 8)).2 20).2 ([0, 1, 1000, 1001] : List Int) (by (try dsimp only); (with_reducible (first | apply Lim.mono | apply Lim.out | apply LimA.mono)); (repeat (with_reducible (first | assumption | apply Lim.among | apply Lim.text | apply Lim.pick | apply Lim.draw3 | apply Lim.mk))); omega) (by (simp only [lens] at * <;> omega))) ⟨rfl, rfl, trivial⟩ rfl rfl (fun h => Bool.noConfusion h) (fun h => Bool.noConfusion h) rfl <| AE .n (.t rfl) fo_112_5 rfl <| AL [.str (Ah (Aa (Aa (Ab s_ K_0).2.1 8).2 7).2 (Ab s_ K_0).1 (Aa (Ab s_ K_0).2.1 8).1 (Int.tmod (IntKind.wrap .i64 ((IntKind.wrap .i64 ((Aa (Ab s_ K_0).2.1 8).1 + 1)) + (Aa (Aa (Ab s_ K_0).2.1 8).2 7).1)) 8)).1.Id, .int .i64 (Ah (Aa (Aa (Ab s_ K_0).2.1 8).2 7).2 (Ab s_ K_0).1 (Aa (Ab s_ K_0).2.1 8).1 (Int.tmod (IntKind.wrap .i64 ((IntKind.wrap .i64 ((Aa (Ab s_ K_0).2.1 8).1 + 1)) + (Aa (Aa (Ab s_ K_0).2.1 8).2 7).1)) 8)).1.From, .int .i64 (Ah (Aa (Aa (Ab s_ K_0).2.1 8).2 7).2 (Ab s_ K_0).1 (Aa (Ab s_ K_0).2.1 8).1 (Int.tmod (IntKind.wrap .i64 ((IntKind.wrap .i64 ((Aa (Ab s_ K_0).2.1 8).1 + 1)) + (Aa (Aa (Ab s_ K_0).2.1 8).2 7).1)) 8)).1.To, .int .i64 (Ah (Aa (Aa (Ab s_ K_0).2.1 8).2 7).2 (Ab s_ K_0).1 (Aa (Ab s_ K_0).2.1 8).1 (Int.tmod (IntKind.wrap .i64 ((IntKind.wrap .i64 ((Aa (Ab s_ K_0).2.1 8).1 + 1)) + (Aa (Aa (Ab s_ K_0).2.1 8).2 7).1)) 8)).1.Length, .int .i64 (Ah (Aa (Aa (Ab s_ K_0).2.1 8).2 7).2 (Ab s_ K_0).1 (Aa (Ab s_ K_0).2.1 8).1 (Int.tmod (IntKind.wrap .i64 ((IntKind.wrap .i64 ((Aa (Ab s_ K_0).2.1 8).1 + 1)) + (Aa (Aa (Ab s_ K_0).2.1 8).2 7).1)) 8)).1.Section, .int .i64 (Ak (Aa (Ah (Aa (Aa (Ab s_ K_0).2.1 8).2 7).2 (Ab s_ K_0).1 (Aa (Ab s_ K_0).2.1 8).1 (Int.tmod (IntKind.wrap .i64 ((IntKind.wrap .i64 ((Aa (Ab s_ K_0).2.1 8).1 + 1)) + (Aa (Aa (Ab s_ K_0).2.1 8).2 7).1)) 8)).2 20).2 ([0, 1, 1000, 1001] : List Int)).1, .int .i64 (Ah (Aa (Aa (Ab s_ K_0).2.1 8).2 7).2 (Ab s_ K_0).1 (Aa (Ab s_ K_0).2.1 8).1 (Int.tmod (IntKind.wrap .i64 ((IntKind.wrap .i64 ((Aa (Ab s_ K_0).2.1 8).1 + 1)) + (Aa (Aa (Ab s_ K_0).2.1 8).2 7).1)) 8)).1.Shock] .n rfl (.t rfl) (.t rfl) rfl ts_2 rfl rfl <| Lex.nil) ?_
          refine AS ?_
          refine Ae ?_
          refine Ad (Bb .n (.t rfl) rfl (.inr rfl) ag_112 (fun _ => rfl) rfl rfl <| AL [.str (Ah (Aa (Aa (Ab s_ K_0).2.1 8).2 7).2 (Ab s_ K_0).1 (Aa (Ab s_ K_0).2.1 8).1 (Int.tmod (IntKind.wrap .i64 ((IntKind.wrap .i64 ((Aa (Ab s_ K_0).2.1 8).1 + 1)) + (Aa (Aa (Ab s_ K_0).2.1 8).2 7).1)) 8)).1.Id, .int .i64 (Ah (Aa (Aa (Ab s_ K_0).2.1 8).2 7).2 (Ab s_ K_0).1 (Aa (Ab s_ K_0).2.1 8).1 (Int.tmod (IntKind.wrap .i64 ((IntKind.wrap .i64 ((Aa (Ab s_ K_0).2.1 8).1 + 1)) + (Aa (Aa (Ab s_ K_0).2.1 8).2 7).1)) 8)).1.From, .int .i64 (Ah (Aa (Aa (Ab s_ K_0).2.1 8).2 7).2 (Ab s_ K_0).1 (Aa (Ab s_ K_0).2.1 8).1 (Int.tmod (IntKind.wrap .i64 ((IntKind.wrap .i64 ((Aa (Ab s_ K_0).2.1 8).1 + 1)) + (Aa (Aa (Ab s_ K_0).2.1 8).2 7).1)) 8)).1.To, .int .i64 (Ah (Aa (Aa (Ab s_ K_0).2.1 8).2 7).2 (Ab s_ K_0).1 (Aa (Ab s_ K_0).2.1 8).1 (Int.tmod (IntKind.wrap .i64 ((IntKind.wrap .i64 ((Aa (Ab s_ K_0).2.1 8).1 + 1)) + (Aa (Aa (Ab s_ K_0).2.1 8).2 7).1)) 8)).1.Length, .int .i64 (Ah (Aa (Aa (Ab s_ K_0).2.1 8).2 7).2 (Ab s_ K_0).1 (Aa (Ab s_ K_0).2.1 8).1 (Int.tmod (IntKind.wrap .i64 ((IntKind.wrap .i64 ((Aa (Ab s_ K_0).2.1 8).1 + 1)) + (Aa (Aa (Ab s_ K_0).2.1 8).2 7).1)) 8)).1.Section, .int .i64 (Ak (Aa (Ah (Aa (Aa (Ab s_ K_0).2.1 8).2 7).2 (Ab s_ K_0).1 (Aa (Ab s_ K_0).2.1 8).1 (Int.tmod (IntKind.wrap .i64 ((IntKind.wrap .i64 ((Aa (Ab s_ K_0).2.1 8).1 + 1)) + (Aa (Aa (Ab s_ K_0).2.1 8).2 7).1)) 8)).2 20).2 ([0, 1, 1000, 1001] : List Int)).1, .int .i64 (Ah (Aa (Aa (Ab s_ K_0).2.1 8).2 7).2 (Ab s_ K_0).1 (Aa (Ab s_ K_0).2.1 8).1 (Int.tmod (IntKind.wrap .i64 ((IntKind.wrap .i64 ((Aa (Ab s_ K_0).2.1 8).1 + 1)) + (Aa (Aa (Ab s_ K_0).2.1 8).2 7).1)) 8)).1.Shock] .n rfl (.t rfl) (.t rfl) rfl ts_112 rfl rfl <| Lex.nil) ?_
          exact Ay [] (.cons (.cN rfl rfl ag_112 rfl rfl) .nil) (by first | rfl | (simp only [put_len]; rfl)) ⟨rfl, trivial⟩ rfl
        · try simp only [tst] at h4
          refine Ae ?_
          refine Ad (AK .n (.t rfl) (.c rfl) rfl rfl <| Ag .n (.t rfl) rfl <| Lex.nil) ?_
          refine As (.t rfl) rfl (fun h5 => ?_) (fun h5 => ?_)
          · try simp only [tst] at h5
            refine Ad (Af .n (.t rfl) rfl <| AW ([(-1), 1000, 1001] : List Int) (f := V.int .i64) (l := 207) .n rfl rfl (.cons (.c rfl) (.cons (.c rfl) (.cons (.c rfl) .nil))) rfl si_27 zv_2 rfl rfl rfl <| AV (full := false) [(0, 0), (1, 207)] [] .n rfl .f en_24 (.cons (.t rfl) (.cons (.t rfl) .nil)) (.cons (.b (.mutp rfl)) (.cons (.b (.muts rfl)) .nil)) (A1 (Aa (Ah (Aa (Aa (Ab s_ K_0).2.1 8).2 7).2 (Ab s_ K_0).1 (Aa (Ab s_ K_0).2.1 8).1 (Int.tmod (IntKind.wrap .i64 ((IntKind.wrap .i64 ((Aa (Ab s_ K_0).2.1 8).1 + 1)) + (Aa (Aa (Ab s_ K_0).2.1 8).2 7).1)) 8)).2 20).2 ([(-1), 1000, 1001] : List Int) (by (try dsimp only); (with_reducible (first | apply Lim.mono | apply Lim.out | apply LimA.mono)); (repeat (with_reducible (first | assumption | apply Lim.among | apply Lim.text | apply Lim.pick | apply Lim.draw3 | apply Lim.mk))); omega) (by (simp only [lens] at * <;> omega))) ⟨rfl, rfl, trivial⟩ rfl rfl (fun h => Bool.noConfusion h) (fun h => Bool.noConfusion h) rfl <| AE .n (.t rfl) fo_112_6 rfl <| AL [.str (Ah (Aa (Aa (Ab s_ K_0).2.1 8).2 7).2 (Ab s_ K_0).1 (Aa (Ab s_ K_0).2.1 8).1 (Int.tmod (IntKind.wrap .i64 ((IntKind.wrap .i64 ((Aa (Ab s_ K_0).2.1 8).1 + 1)) + (Aa (Aa (Ab s_ K_0).2.1 8).2 7).1)) 8)).1.Id, .int .i64 (Ah (Aa (Aa (Ab s_ K_0).2.1 8).2 7).2 (Ab s_ K_0).1 (Aa (Ab s_ K_0).2.1 8).1 (Int.tmod (IntKind.wrap .i64 ((IntKind.wrap .i64 ((Aa (Ab s_ K_0).2.1 8).1 + 1)) + (Aa (Aa (Ab s_ K_0).2.1 8).2 7).1)) 8)).1.From, .int .i64 (Ah (Aa (Aa (Ab s_ K_0).2.1 8).2 7).2 (Ab s_ K_0).1 (Aa (Ab s_ K_0).2.1 8).1 (Int.tmod (IntKind.wrap .i64 ((IntKind.wrap .i64 ((Aa (Ab s_ K_0).2.1 8).1 + 1)) + (Aa (Aa (Ab s_ K_0).2.1 8).2 7).1)) 8)).1.To, .int .i64 (Ah (Aa (Aa (Ab s_ K_0).2.1 8).2 7).2 (Ab s_ K_0).1 (Aa (Ab s_ K_0).2.1 8).1 (Int.tmod (IntKind.wrap .i64 ((IntKind.wrap .i64 ((Aa (Ab s_ K_0).2.1 8).1 + 1)) + (Aa (Aa (Ab s_ K_0).2.1 8).2 7).1)) 8)).1.Length, .int .i64 (Ah (Aa (Aa (Ab s_ K_0).2.1 8).2 7).2 (Ab s_ K_0).1 (Aa (Ab s_ K_0).2.1 8).1 (Int.tmod (IntKind.wrap .i64 ((IntKind.wrap .i64 ((Aa (Ab s_ K_0).2.1 8).1 + 1)) + (Aa (Aa (Ab s_ K_0).2.1 8).2 7).1)) 8)).1.Section, .int .i64 (Ah (Aa (Aa (Ab s_ K_0).2.1 8).2 7).2 (Ab s_ K_0).1 (Aa (Ab s_ K_0).2.1 8).1 (Int.tmod (IntKind.wrap .i64 ((IntKind.wrap .i64 ((Aa (Ab s_ K_0).2.1 8).1 + 1)) + (Aa (Aa (Ab s_ K_0).2.1 8).2 7).1)) 8)).1.Friction, .int .i64 (Ak (Aa (Ah (Aa (Aa (Ab s_ K_0).2.1 8).2 7).2 (Ab s_ K_0).1 (Aa (Ab s_ K_0).2.1 8).1 (Int.tmod (IntKind.wrap .i64 ((IntKind.wrap .i64 ((Aa (Ab s_ K_0).2.1 8).1 + 1)) + (Aa (Aa (Ab s_ K_0).2.1 8).2 7).1)) 8)).2 20).2 ([(-1), 1000, 1001] : List Int)).1] .n rfl (.t rfl) (.t rfl) rfl ts_2 rfl rfl <| Lex.nil) ?_
            refine AS ?_
            refine Ae ?_
            refine Ad (Bb .n (.t rfl) rfl (.inr rfl) ag_112 (fun _ => rfl) rfl rfl <| AL [.str (Ah (Aa (Aa (Ab s_ K_0).2.1 8).2 7).2 (Ab s_ K_0).1 (Aa (Ab s_ K_0).2.1 8).1 (Int.tmod (IntKind.wrap .i64 ((IntKind.wrap .i64 ((Aa (Ab s_ K_0).2.1 8).1 + 1)) + (Aa (Aa (Ab s_ K_0).2.1 8).2 7).1)) 8)).1.Id, .int .i64 (Ah (Aa (Aa (Ab s_ K_0).2.1 8).2 7).2 (Ab s_ K_0).1 (Aa (Ab s_ K_0).2.1 8).1 (Int.tmod (IntKind.wrap .i64 ((IntKind.wrap .i64 ((Aa (Ab s_ K_0).2.1 8).1 + 1)) + (Aa (Aa (Ab s_ K_0).2.1 8).2 7).1)) 8)).1.From, .int .i64 (Ah (Aa (Aa (Ab s_ K_0).2.1 8).2 7).2 (Ab s_ K_0).1 (Aa (Ab s_ K_0).2.1 8).1 (Int.tmod (IntKind.wrap .i64 ((IntKind.wrap .i64 ((Aa (Ab s_ K_0).2.1 8).1 + 1)) + (Aa (Aa (Ab s_ K_0).2.1 8).2 7).1)) 8)).1.To, .int .i64 (Ah (Aa (Aa (Ab s_ K_0).2.1 8).2 7).2 (Ab s_ K_0).1 (Aa (Ab s_ K_0).2.1 8).1 (Int.tmod (IntKind.wrap .i64 ((IntKind.wrap .i64 ((Aa (Ab s_ K_0).2.1 8).1 + 1)) + (Aa (Aa (Ab s_ K_0).2.1 8).2 7).1)) 8)).1.Length, .int .i64 (Ah (Aa (Aa (Ab s_ K_0).2.1 8).2 7).2 (Ab s_ K_0).1 (Aa (Ab s_ K_0).2.1 8).1 (Int.tmod (IntKind.wrap .i64 ((IntKind.wrap .i64 ((Aa (Ab s_ K_0).2.1 8).1 + 1)) + (Aa (Aa (Ab s_ K_0).2.1 8).2 7).1)) 8)).1.Section, .int .i64 (Ah (Aa (Aa (Ab s_ K_0).2.1 8).2 7).2 (Ab s_ K_0).1 (Aa (Ab s_ K_0).2.1 8).1 (Int.tmod (IntKind.wrap .i64 ((IntKind.wrap .i64 ((Aa (Ab s_ K_0).2.1 8).1 + 1)) + (Aa (Aa (Ab s_ K_0).2.1 8).2 7).1)) 8)).1.Friction, .int .i64 (Ak (Aa (Ah (Aa (Aa (Ab s_ K_0).2.1 8).2 7).2 (Ab s_ K_0).1 (Aa (Ab s_ K_0).2.1 8).1 (Int.tmod (IntKind.wrap .i64 ((IntKind.wrap .i64 ((Aa (Ab s_ K_0).2.1 8).1 + 1)) + (Aa (Aa (Ab s_ K_0).2.1 8).2 7).1)) 8)).2 20).2 ([(-1), 1000, 1001] : List Int)).1] .n rfl (.t rfl) (.t rfl) rfl ts_112 rfl rfl <| Lex.nil) ?_
            exact Ay [] (.cons (.cN rfl rfl ag_112 rfl rfl) .nil) (by first | rfl | (simp only [put_len]; rfl)) ⟨rfl, trivial⟩ rfl
          · try simp only [tst] at h5
            refine Aw ?_
            refine AS ?_
            refine Ae ?_
            refine Ad (Bb .n (.t rfl) rfl (.inr rfl) ag_112 (fun _ => rfl) rfl rfl <| AL [.str (Ah (Aa (Aa (Ab s_ K_0).2.1 8).2 7).2 (Ab s_ K_0).1 (Aa (Ab s_ K_0).2.1 8).1 (Int.tmod (IntKind.wrap .i64 ((IntKind.wrap .i64 ((Aa (Ab s_ K_0).2.1 8).1 + 1)) + (Aa (Aa (Ab s_ K_0).2.1 8).2 7).1)) 8)).1.Id, .int .i64 (Ah (Aa (Aa (Ab s_ K_0).2.1 8).2 7).2 (Ab s_ K_0).1 (Aa (Ab s_ K_0).2.1 8).1 (Int.tmod (IntKind.wrap .i64 ((IntKind.wrap .i64 ((Aa (Ab s_ K_0).2.1 8).1 + 1)) + (Aa (Aa (Ab s_ K_0).2.1 8).2 7).1)) 8)).1.From, .int .i64 (Ah (Aa (Aa (Ab s_ K_0).2.1 8).2 7).2 (Ab s_ K_0).1 (Aa (Ab s_ K_0).2.1 8).1 (Int.tmod (IntKind.wrap .i64 ((IntKind.wrap .i64 ((Aa (Ab s_ K_0).2.1 8).1 + 1)) + (Aa (Aa (Ab s_ K_0).2.1 8).2 7).1)) 8)).1.To, .int .i64 (Ah (Aa (Aa (Ab s_ K_0).2.1 8).2 7).2 (Ab s_ K_0).1 (Aa (Ab s_ K_0).2.1 8).1 (Int.tmod (IntKind.wrap .i64 ((IntKind.wrap .i64 ((Aa (Ab s_ K_0).2.1 8).1 + 1)) + (Aa (Aa (Ab s_ K_0).2.1 8).2 7).1)) 8)).1.Length, .int .i64 (Ah (Aa (Aa (Ab s_ K_0).2.1 8).2 7).2 (Ab s_ K_0).1 (Aa (Ab s_ K_0).2.1 8).1 (Int.tmod (IntKind.wrap .i64 ((IntKind.wrap .i64 ((Aa (Ab s_ K_0).2.1 8).1 + 1)) + (Aa (Aa (Ab s_ K_0).2.1 8).2 7).1)) 8)).1.Section, .int .i64 (Ah (Aa (Aa (Ab s_ K_0).2.1 8).2 7).2 (Ab s_ K_0).1 (Aa (Ab s_ K_0).2.1 8).1 (Int.tmod (IntKind.wrap .i64 ((IntKind.wrap .i64 ((Aa (Ab s_ K_0).2.1 8).1 + 1)) + (Aa (Aa (Ab s_ K_0).2.1 8).2 7).1)) 8)).1.Friction, .int .i64 (Ah (Aa (Aa (Ab s_ K_0).2.1 8).2 7).2 (Ab s_ K_0).1 (Aa (Ab s_ K_0).2.1 8).1 (Int.tmod (IntKind.wrap .i64 ((IntKind.wrap .i64 ((Aa (Ab s_ K_0).2.1 8).1 + 1)) + (Aa (Aa (Ab s_ K_0).2.1 8).2 7).1)) 8)).1.Shock] .n rfl (.t rfl) (.t rfl) rfl ts_112 rfl rfl <| Lex.nil) ?_
            exact Ay [] (.cons (.cN rfl rfl ag_112 rfl rfl) .nil) (by first | rfl | (simp only [put_len]; rfl)) ⟨rfl, trivial⟩ rfl


end Go.Proofs.YtibbfdojcdkopaaGreat
