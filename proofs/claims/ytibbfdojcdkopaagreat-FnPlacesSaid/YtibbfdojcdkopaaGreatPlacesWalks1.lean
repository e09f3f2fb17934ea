/-
  THE WALKS: each Go function computes its model. Conditions: as each theorem states them (hp1, hp2 ..).
-/
import Derived.Test.YtibbfdojcdkopaaGreatPlacesPlain11
import Derived.Test.YtibbfdojcdkopaaGreatProg
import Derived.Test.YtibbfdojcdkopaaGreatEngP
import Derived.Test.YtibbfdojcdkopaaGreatEngQ
import Derived.Test.YtibbfdojcdkopaaGreatEngR
import Derived.Test.YtibbfdojcdkopaaGreatEngU
import Derived.Test.YtibbfdojcdkopaaGreatEngX
import Derived.Test.YtibbfdojcdkopaaGreatEngZ
set_option linter.unusedVariables false
set_option linter.unusedSimpArgs false
set_option linter.unusedSectionVars false
set_option linter.unnecessarySimpa false
namespace Go.Proofs.YtibbfdojcdkopaaGreat
open Go Go.RowKit Go.Proofs Go.Proofs.YtibbfdojcdkopaaGreat.E
theorem tst : (∀ a b : Bool, ((a && b) = true) = (a = true ∧ b = true)) ∧ (∀ a b : Bool, ((a || b) = true) = (a = true ∨ b = true)) ∧ (∀ a : Bool, ((!a) = true) = (a = false)) ∧ (∀ a b : Bool, (a && b) = false ↔ a = false ∨ b = false) ∧ (∀ a b : Bool, (a || b) = false ↔ a = false ∧ b = false) ∧ (∀ a : Bool, ((!a) = false) = (a = true)) ∧ (∀ (p : Prop) [Decidable p], (decide p = true) = p) ∧ (∀ (p : Prop) [Decidable p], decide p = false ↔ ¬p) ∧
    (∀ (α : Type) [BEq α] [LawfulBEq α] (a b : α), (a == b) = true ↔ a = b) ∧ (∀ (α : Type) [BEq α] [LawfulBEq α] (a b : α), (a != b) = true ↔ a ≠ b) ∧ (∀ (α : Type) [BEq α] [LawfulBEq α] (a b : α), (a == b) = false ↔ a ≠ b) ∧ (∀ (α : Type) [BEq α] [LawfulBEq α] (a b : α), (a != b) = false ↔ a = b) ∧ (∀ a : Bool, (true && a) = a) ∧ (∀ (α : Type) (a b : α), (a ≠ b) = ¬ (a = b)) ∧ (∀ (p : Prop) [Decidable p], ¬¬p ↔ p) ∧
    (∀ a b : Int, ¬ a < b ↔ b ≤ a) ∧ (∀ a b : Int, ¬ a ≤ b ↔ b < a) ∧ (∀ a b : Nat, ¬ a < b ↔ b ≤ a) ∧ (∀ a b : Nat, ¬ a ≤ b ↔ b < a) ∧ (∀ s : List UInt8, (strB .eql s [] = false) ↔ 0 < s.length) ∧ (∀ s : List UInt8, (strB .eql s [] = true) ↔ s.length = 0) ∧ (∀ s : List UInt8, (strB .neq s [] = true) ↔ 0 < s.length) ∧ (∀ s : List UInt8, (strB .neq s [] = false) ↔ s.length = 0) :=
  ⟨Bool.and_eq_true, Bool.or_eq_true, Bool.not_eq_true', fun _ _ => Bool.and_eq_false_iff, fun _ _ => Bool.or_eq_false_iff, Bool.not_eq_false', fun _ _ => decide_eq_true_eq, fun _ _ => decide_eq_false_iff_not, fun _ _ _ _ _ => beq_iff_eq, fun _ _ _ _ _ => bne_iff_ne, fun _ _ _ _ _ => beq_eq_false_iff_ne, fun _ _ _ _ _ => bne_eq_false_iff_eq, Bool.true_and, fun _ a b => ne_eq a b, fun _ _ => Decidable.not_not, fun _ _ => Int.not_lt, fun _ _ => Int.not_le, fun _ _ => Nat.not_lt, fun _ _ => Nat.not_le, fun _ => strB_nil, fun _ => strB_nil', fun _ => strB_nnil, fun _ => strB_nnil'⟩
theorem lens : (∀ (α : Type) (a b : List α), (a ++ b).length = a.length + b.length) ∧ (∀ (α : Type) (a : α) (l : List α), (a :: l).length = l.length + 1) ∧ (∀ α : Type, ([] : List α).length = 0) ∧ (∀ (α : Type) (n : Nat) (a : α), (List.replicate n a).length = n) ∧ (∀ (α : Type) (a : List α) (k : Int) (v : α), (put' a k v).length = a.length) :=
  ⟨fun _ _ _ => List.length_append, fun _ _ _ => List.length_cons, fun _ => List.length_nil, fun _ _ _ => List.length_replicate, fun _ a k v => put_len⟩
theorem ss_22 : (slEl Tryz.prog 22).isSome = true := by kernel_rfl
theorem fo_26_0 : fldOff Tryz.prog 26 0 = some 0 := by kernel_rfl
theorem ic_2 : isCell Tryz.prog 2 = true := by kernel_rfl
theorem en_72 : entB Tryz.prog 72 = true := by kernel_rfl
theorem st_9 : isStr Tryz.prog 9 = true := by kernel_rfl
theorem en_111 : entB Tryz.prog 111 = true := by kernel_rfl
theorem en_112 : entB Tryz.prog 112 = true := by kernel_rfl
theorem fo_112_0 : fldOff Tryz.prog 112 0 = some 0 := by kernel_rfl
theorem ic_9 : isCell Tryz.prog 9 = true := by kernel_rfl
theorem en_100 : entB Tryz.prog 100 = true := by kernel_rfl
theorem fo_112_1 : fldOff Tryz.prog 112 1 = some 1 := by kernel_rfl
theorem fo_112_2 : fldOff Tryz.prog 112 2 = some 2 := by kernel_rfl
theorem fmo : Tryz.prog.follows .mixedOrders = true := by kernel_rfl
theorem fo_112_3 : fldOff Tryz.prog 112 3 = some 3 := by kernel_rfl
theorem fo_112_4 : fldOff Tryz.prog 112 4 = some 4 := by kernel_rfl
theorem fo_112_5 : fldOff Tryz.prog 112 5 = some 5 := by kernel_rfl
theorem fo_112_6 : fldOff Tryz.prog 112 6 = some 6 := by kernel_rfl
theorem fo_26_1 : fldOff Tryz.prog 26 1 = some 1 := by kernel_rfl
theorem ic_24 : isCell Tryz.prog 24 = true := by kernel_rfl
theorem ss_24 : (slEl Tryz.prog 24).isSome = true := by kernel_rfl
theorem sl_24 : slEl Tryz.prog 24 = some (112, 7) := by kernel_rfl
theorem en_88 : entB Tryz.prog 88 = true := by kernel_rfl
theorem en_51 : entB Tryz.prog 51 = true := by kernel_rfl
theorem fo_37_0 : fldOff Tryz.prog 37 0 = some 0 := by kernel_rfl
theorem fo_37_1 : fldOff Tryz.prog 37 1 = some 1 := by kernel_rfl
theorem fo_37_2 : fldOff Tryz.prog 37 2 = some 2 := by kernel_rfl
theorem ss_27 : (slEl Tryz.prog 27).isSome = true := by kernel_rfl
theorem sl_27 : slEl Tryz.prog 27 = some (2, 1) := by kernel_rfl
theorem en_50 : entB Tryz.prog 50 = true := by kernel_rfl
theorem en_71 : entB Tryz.prog 71 = true := by kernel_rfl
theorem en_73 : entB Tryz.prog 73 = true := by kernel_rfl
theorem en_74 : entB Tryz.prog 74 = true := by kernel_rfl
theorem en_75 : entB Tryz.prog 75 = true := by kernel_rfl
theorem ts_2 : tySz Tryz.prog 2 = some 1 := by kernel_rfl
theorem si_27 : slInfo Tryz.prog 27 = some (2, 1, 8) := by kernel_rfl
theorem zv_2 : zeroV Tryz.prog 2 = some (.int .i64 0) := by kernel_rfl
theorem en_76 : entB Tryz.prog 76 = true := by kernel_rfl
theorem en_77 : entB Tryz.prog 77 = true := by kernel_rfl
theorem en_32 : entB Tryz.prog 32 = true := by kernel_rfl
theorem en_33 : entB Tryz.prog 33 = true := by kernel_rfl
theorem zv_100 : zeroV Tryz.prog 100 = some (.st [.nls, .int .i64 0, .int .u64 0]) := by kernel_rfl
theorem pl_100 : places Tryz.prog 100 = some [(0, 1), (1, 1), (2, 1)] := by kernel_rfl
theorem fo_100_1 : fldOff Tryz.prog 100 1 = some 1 := by kernel_rfl
theorem ic_3 : isCell Tryz.prog 3 = true := by kernel_rfl
theorem fo_100_0 : fldOff Tryz.prog 100 0 = some 0 := by kernel_rfl
theorem ic_22 : isCell Tryz.prog 22 = true := by kernel_rfl
theorem sl_22 : slEl Tryz.prog 22 = some (5, 1) := by kernel_rfl
theorem ic_5 : isCell Tryz.prog 5 = true := by kernel_rfl
theorem cv_5_3 : cvInt Tryz.prog 5 3 = some .i64 := by kernel_rfl
theorem ts_3 : tySz Tryz.prog 3 = some 1 := by kernel_rfl
theorem fo_100_2 : fldOff Tryz.prog 100 2 = some 2 := by kernel_rfl
theorem ic_98 : isCell Tryz.prog 98 = true := by kernel_rfl
theorem cv_3_98 : cvInt Tryz.prog 3 98 = some .u64 := by kernel_rfl
theorem ts_98 : tySz Tryz.prog 98 = some 1 := by kernel_rfl
theorem cv_98_2 : cvInt Tryz.prog 98 2 = some .i64 := by kernel_rfl
theorem en_57 : entB Tryz.prog 57 = true := by kernel_rfl
theorem en_22 : entB Tryz.prog 22 = true := by kernel_rfl
theorem zv_112 : zeroV Tryz.prog 112 = some (.st [.str ([] : List UInt8), .int .i64 0, .int .i64 0, .int .i64 0, .int .i64 0, .int .i64 0, .int .i64 0]) := by kernel_rfl
theorem pl_112 : places Tryz.prog 112 = some [(0, 1), (1, 1), (2, 1), (3, 1), (4, 1), (5, 1), (6, 1)] := by kernel_rfl
theorem ts_112 : tySz Tryz.prog 112 = some 7 := by kernel_rfl
theorem ag_112 : aggSz Tryz.prog 112 = some 7 := by kernel_rfl
theorem zv_26 : zeroV Tryz.prog 26 = some (.st [.int .i64 0, .nls]) := by kernel_rfl
theorem si_103 : slInfo Tryz.prog 103 = some (9, 1, 16) := by kernel_rfl
theorem zv_9 : zeroV Tryz.prog 9 = some (.str ([] : List UInt8)) := by kernel_rfl
theorem si_24 : slInfo Tryz.prog 24 = some (112, 7, 64) := by kernel_rfl
theorem pl_26 : places Tryz.prog 26 = some [(0, 1), (1, 1)] := by kernel_rfl
theorem ts_26 : tySz Tryz.prog 26 = some 2 := by kernel_rfl
theorem ss_103 : (slEl Tryz.prog 103).isSome = true := by kernel_rfl
theorem en_23 : entB Tryz.prog 23 = true := by kernel_rfl
theorem sl_103 : slEl Tryz.prog 103 = some (9, 1) := by kernel_rfl
theorem en_83 : entB Tryz.prog 83 = true := by kernel_rfl
theorem ts_24 : tySz Tryz.prog 24 = some 1 := by kernel_rfl
theorem ag_26 : aggSz Tryz.prog 26 = some 2 := by kernel_rfl
theorem en_95 : entB Tryz.prog 95 = true := by kernel_rfl
theorem en_24 : entB Tryz.prog 24 = true := by kernel_rfl
theorem en_81 : entB Tryz.prog 81 = true := by kernel_rfl
theorem en_82 : entB Tryz.prog 82 = true := by kernel_rfl
theorem cv_2_5 : cvInt Tryz.prog 2 5 = some .u8 := by kernel_rfl
theorem si_22 : slInfo Tryz.prog 22 = some (5, 1, 1) := by kernel_rfl
theorem zv_5 : zeroV Tryz.prog 5 = some (.int .u8 0) := by kernel_rfl
theorem bs_22_9 : b2sOk Tryz.prog 22 9 = true := by kernel_rfl
theorem en_19 : entB Tryz.prog 19 = true := by kernel_rfl
theorem en_39 : entB Tryz.prog 39 = true := by kernel_rfl
theorem en_41 : entB Tryz.prog 41 = true := by kernel_rfl
theorem en_37 : entB Tryz.prog 37 = true := by kernel_rfl
theorem en_101 : entB Tryz.prog 101 = true := by kernel_rfl
theorem en_79 : entB Tryz.prog 79 = true := by kernel_rfl
theorem en_80 : entB Tryz.prog 80 = true := by kernel_rfl
theorem en_43 : entB Tryz.prog 43 = true := by kernel_rfl
theorem en_84 : entB Tryz.prog 84 = true := by kernel_rfl
theorem en_85 : entB Tryz.prog 85 = true := by kernel_rfl
theorem cv_147_98 : cvInt Tryz.prog 147 98 = some .u64 := by kernel_rfl
theorem cv_98_147 : cvInt Tryz.prog 98 147 = some .u32 := by kernel_rfl
theorem cv_141_147 : cvInt Tryz.prog 141 147 = some .u32 := by kernel_rfl
theorem en_109 : entB Tryz.prog 109 = true := by kernel_rfl
theorem cv_147_141 : cvInt Tryz.prog 147 141 = some .u64 := by kernel_rfl
theorem en_110 : entB Tryz.prog 110 = true := by kernel_rfl
theorem cv_3_141 : cvInt Tryz.prog 3 141 = some .u64 := by kernel_rfl
theorem en_98 : entB Tryz.prog 98 = true := by kernel_rfl
theorem cv_141_3 : cvInt Tryz.prog 141 3 = some .i64 := by kernel_rfl
theorem fo_67_1 : fldOff Tryz.prog 67 1 = some 2 := by kernel_rfl
theorem ic_27 : isCell Tryz.prog 27 = true := by kernel_rfl
theorem en_99 : entB Tryz.prog 99 = true := by kernel_rfl
theorem fo_67_0 : fldOff Tryz.prog 67 0 = some 0 := by kernel_rfl
theorem en_65 : entB Tryz.prog 65 = true := by kernel_rfl
theorem ag_67 : aggSz Tryz.prog 67 = some 4 := by kernel_rfl
theorem en_66 : entB Tryz.prog 66 = true := by kernel_rfl
theorem zv_113 : zeroV Tryz.prog 113 = some (.st [.int .i64 0, .int .i64 0]) := by kernel_rfl
theorem ae_113 : arrEl Tryz.prog 113 = some (2, 2, 1) := by kernel_rfl
theorem zv_114 : zeroV Tryz.prog 114 = some (.st [.int .i64 0, .int .i64 0, .int .i64 0, .int .i64 0]) := by kernel_rfl
theorem ae_114 : arrEl Tryz.prog 114 = some (2, 113, 2) := by kernel_rfl
theorem ag_113 : aggSz Tryz.prog 113 = some 2 := by kernel_rfl
theorem ts_113 : tySz Tryz.prog 113 = some 2 := by kernel_rfl
theorem en_67 : entB Tryz.prog 67 = true := by kernel_rfl
theorem fo_67_2 : fldOff Tryz.prog 67 2 = some 3 := by kernel_rfl
theorem zv_67 : zeroV Tryz.prog 67 = some (.st [.int .i64 0, .nls, .nls, .int .i64 0]) := by kernel_rfl
theorem pl_67 : places Tryz.prog 67 = some [(0, 2), (2, 1), (3, 1)] := by kernel_rfl
theorem ts_67 : tySz Tryz.prog 67 = some 4 := by kernel_rfl
theorem zv_37 : zeroV Tryz.prog 37 = some (.st [.str ([] : List UInt8), .int .i64 0, .int .i64 0]) := by kernel_rfl
theorem pl_37 : places Tryz.prog 37 = some [(0, 1), (1, 1), (2, 1)] := by kernel_rfl
theorem en_30 : entB Tryz.prog 30 = true := by kernel_rfl
theorem en_86 : entB Tryz.prog 86 = true := by kernel_rfl
theorem ic_71 : isCell Tryz.prog 71 = true := by kernel_rfl
theorem sl_71 : slEl Tryz.prog 71 = some (27, 1) := by kernel_rfl
theorem en_48 : entB Tryz.prog 48 = true := by kernel_rfl
theorem en_47 : entB Tryz.prog 47 = true := by kernel_rfl
theorem en_46 : entB Tryz.prog 46 = true := by kernel_rfl
theorem fo_91_2 : fldOff Tryz.prog 91 2 = some 2 := by kernel_rfl
theorem fo_91_1 : fldOff Tryz.prog 91 1 = some 1 := by kernel_rfl
theorem ic_89 : isCell Tryz.prog 89 = true := by kernel_rfl
theorem fo_91_3 : fldOff Tryz.prog 91 3 = some 3 := by kernel_rfl
theorem en_45 : entB Tryz.prog 45 = true := by kernel_rfl
theorem fo_91_0 : fldOff Tryz.prog 91 0 = some 0 := by kernel_rfl
theorem ts_27 : tySz Tryz.prog 27 = some 1 := by kernel_rfl
theorem en_87 : entB Tryz.prog 87 = true := by kernel_rfl
theorem en_42 : entB Tryz.prog 42 = true := by kernel_rfl
theorem en_28 : entB Tryz.prog 28 = true := by kernel_rfl
theorem zv_27 : zeroV Tryz.prog 27 = some (.nls) := by kernel_rfl
theorem zv_71 : zeroV Tryz.prog 71 = some (.nls) := by kernel_rfl
theorem en_44 : entB Tryz.prog 44 = true := by kernel_rfl
theorem si_71 : slInfo Tryz.prog 71 = some (27, 1, 24) := by kernel_rfl
theorem ts_71 : tySz Tryz.prog 71 = some 1 := by kernel_rfl
theorem zv_91 : zeroV Tryz.prog 91 = some (.st [.nls, .any, .int .i64 0, .nls]) := by kernel_rfl
theorem pl_91 : places Tryz.prog 91 = some [(0, 1), (1, 1), (2, 1), (3, 1)] := by kernel_rfl
theorem ts_91 : tySz Tryz.prog 91 = some 4 := by kernel_rfl
theorem ts_89 : tySz Tryz.prog 89 = some 1 := by kernel_rfl
theorem en_49 : entB Tryz.prog 49 = true := by kernel_rfl
theorem en_52 : entB Tryz.prog 52 = true := by kernel_rfl
theorem en_53 : entB Tryz.prog 53 = true := by kernel_rfl
theorem en_94 : entB Tryz.prog 94 = true := by kernel_rfl
theorem en_59 : entB Tryz.prog 59 = true := by kernel_rfl
theorem en_119 : entB Tryz.prog 119 = true := by kernel_rfl
theorem en_113 : entB Tryz.prog 113 = true := by kernel_rfl
theorem en_114 : entB Tryz.prog 114 = true := by kernel_rfl
theorem en_115 : entB Tryz.prog 115 = true := by kernel_rfl
theorem en_102 : entB Tryz.prog 102 = true := by kernel_rfl
theorem ss_71 : (slEl Tryz.prog 71).isSome = true := by kernel_rfl
theorem en_103 : entB Tryz.prog 103 = true := by kernel_rfl
theorem zv_135 : zeroV Tryz.prog 135 = some (.st [.int .i64 0, .int .i64 0, .int .i64 0]) := by kernel_rfl
theorem pl_135 : places Tryz.prog 135 = some [(0, 1), (1, 1), (2, 1)] := by kernel_rfl
theorem ts_135 : tySz Tryz.prog 135 = some 3 := by kernel_rfl
theorem fo_135_0 : fldOff Tryz.prog 135 0 = some 0 := by kernel_rfl
theorem fo_135_1 : fldOff Tryz.prog 135 1 = some 1 := by kernel_rfl
theorem ag_135 : aggSz Tryz.prog 135 = some 3 := by kernel_rfl
theorem fo_135_2 : fldOff Tryz.prog 135 2 = some 2 := by kernel_rfl
theorem en_116 : entB Tryz.prog 116 = true := by kernel_rfl
theorem en_117 : entB Tryz.prog 117 = true := by kernel_rfl
theorem en_104 : entB Tryz.prog 104 = true := by kernel_rfl
theorem en_105 : entB Tryz.prog 105 = true := by kernel_rfl
theorem en_118 : entB Tryz.prog 118 = true := by kernel_rfl
theorem en_107 : entB Tryz.prog 107 = true := by kernel_rfl
theorem en_106 : entB Tryz.prog 106 = true := by kernel_rfl
theorem en_108 : entB Tryz.prog 108 = true := by kernel_rfl
theorem en_90 : entB Tryz.prog 90 = true := by kernel_rfl
theorem en_91 : entB Tryz.prog 91 = true := by kernel_rfl
theorem en_92 : entB Tryz.prog 92 = true := by kernel_rfl
theorem en_93 : entB Tryz.prog 93 = true := by kernel_rfl
theorem ts_37 : tySz Tryz.prog 37 = some 3 := by kernel_rfl
theorem ag_37 : aggSz Tryz.prog 37 = some 3 := by kernel_rfl
theorem en_55 : entB Tryz.prog 55 = true := by kernel_rfl
theorem en_56 : entB Tryz.prog 56 = true := by kernel_rfl
theorem zv_39 : zeroV Tryz.prog 39 = some (.st [.str ([] : List UInt8), .int .i64 0, .int .i64 0, .int .i64 0]) := by kernel_rfl
theorem pl_39 : places Tryz.prog 39 = some [(0, 1), (1, 1), (2, 1), (3, 1)] := by kernel_rfl
theorem ts_39 : tySz Tryz.prog 39 = some 4 := by kernel_rfl
theorem fo_39_3 : fldOff Tryz.prog 39 3 = some 3 := by kernel_rfl
theorem ag_39 : aggSz Tryz.prog 39 = some 4 := by kernel_rfl
theorem fo_39_1 : fldOff Tryz.prog 39 1 = some 1 := by kernel_rfl
theorem fo_39_2 : fldOff Tryz.prog 39 2 = some 2 := by kernel_rfl
theorem fo_39_0 : fldOff Tryz.prog 39 0 = some 0 := by kernel_rfl
theorem ts_9 : tySz Tryz.prog 9 = some 1 := by kernel_rfl
theorem si_29 : slInfo Tryz.prog 29 = some (39, 4, 40) := by kernel_rfl
theorem en_58 : entB Tryz.prog 58 = true := by kernel_rfl
theorem en_60 : entB Tryz.prog 60 = true := by kernel_rfl
theorem en_61 : entB Tryz.prog 61 = true := by kernel_rfl
theorem en_20 : entB Tryz.prog 20 = true := by kernel_rfl
theorem en_25 : entB Tryz.prog 25 = true := by kernel_rfl
theorem en_64 : entB Tryz.prog 64 = true := by kernel_rfl
theorem ss_28 : (slEl Tryz.prog 28).isSome = true := by kernel_rfl
theorem sl_28 : slEl Tryz.prog 28 = some (37, 3) := by kernel_rfl
theorem en_96 : entB Tryz.prog 96 = true := by kernel_rfl
theorem en_97 : entB Tryz.prog 97 = true := by kernel_rfl
theorem en_29 : entB Tryz.prog 29 = true := by kernel_rfl
theorem en_62 : entB Tryz.prog 62 = true := by kernel_rfl
theorem en_63 : entB Tryz.prog 63 = true := by kernel_rfl
theorem ss_29 : (slEl Tryz.prog 29).isSome = true := by kernel_rfl
theorem sl_29 : slEl Tryz.prog 29 = some (39, 4) := by kernel_rfl
theorem en_36 : entB Tryz.prog 36 = true := by kernel_rfl
theorem si_28 : slInfo Tryz.prog 28 = some (37, 3, 32) := by kernel_rfl
theorem en_26 : entB Tryz.prog 26 = true := by kernel_rfl
theorem en_27 : entB Tryz.prog 27 = true := by kernel_rfl
theorem en_89 : entB Tryz.prog 89 = true := by kernel_rfl
theorem en_54 : entB Tryz.prog 54 = true := by kernel_rfl
theorem en_5 : entB Tryz.prog 5 = true := by kernel_rfl
theorem en_12 : entB Tryz.prog 12 = true := by kernel_rfl
theorem en_13 : entB Tryz.prog 13 = true := by kernel_rfl
theorem en_14 : entB Tryz.prog 14 = true := by kernel_rfl
theorem si_50 : slInfo Tryz.prog 50 = some (3, 1, 8) := by kernel_rfl
theorem zv_3 : zeroV Tryz.prog 3 = some (.int .i64 0) := by kernel_rfl
theorem en_15 : entB Tryz.prog 15 = true := by kernel_rfl
theorem sl_50 : slEl Tryz.prog 50 = some (3, 1) := by kernel_rfl
theorem ss_50 : (slEl Tryz.prog 50).isSome = true := by kernel_rfl
theorem en_16 : entB Tryz.prog 16 = true := by kernel_rfl
theorem en_17 : entB Tryz.prog 17 = true := by kernel_rfl
theorem en_8 : entB Tryz.prog 8 = true := by kernel_rfl
theorem en_18 : entB Tryz.prog 18 = true := by kernel_rfl

/-! ### laws_b10Long -/
theorem c_laws_b10Long (code : List Int) : Con Tryz.prog 5 [.sl 1 (code.map (V.int .u8))] [] (.bool (CY code)) ([]) := by
  refine con_intro (out := fun r : Bool => ((.bool r : V), ([] : List (Nat × Option O)))) (r := (CY code)) Tryz.func5 rfl Tryz.ntmps5 rfl ?_
  refine Br (t := 0) rfl fun hl => ?_
  have l1 := hl; clear hl; simp only [List.length_map] at l1
  refine Af ?_
  refine Ad (Ah .n (.c rfl) rfl <| Lex.nil) ?_
  refine Af ?_
  refine Ad (Ag .n (.t rfl) rfl <| BS .n (.t rfl) rfl len_map ss_22 rfl <| AF .n (.t rfl) (.c rfl) rfl rfl <| Ah .n (.t rfl) rfl <| Lex.nil) ?_
  exact Au [] (.cons (.t rfl rfl) .nil) rfl trivial rfl

/-! ### spec_l00In -/
theorem Bt (n_ : Int) (low : Int) (high : Int) : Con Tryz.prog 72 [.int .i64 n_, .int .i64 low, .int .i64 high] [] (.bool (AR n_ low high)) ([]) := by
  refine con_intro (out := fun r : Bool => ((.bool r : V), ([] : List (Nat × Option O)))) (r := (AR n_ low high)) Tryz.func72 rfl Tryz.ntmps72 rfl ?_
  refine Af ?_
  refine Ad (Ah .n (.c rfl) rfl <| Lex.nil) ?_
  refine Af ?_
  refine Ad (Ag .n (.t rfl) rfl <| Ag .n (.t rfl) rfl <| AF .n (.t rfl) (.t rfl) rfl rfl <| Ag .n (.t rfl) rfl <| Ag (.t rfl rfl) (.t rfl) rfl <| Ag (.t rfl rfl) (.t rfl) rfl <| AF (.t rfl rfl) (.u rfl id) (.u rfl id) rfl rfl <| B4 .n (.t rfl) (.u rfl id) rfl <| Ah .n (.t rfl) rfl <| Lex.nil) ?_
  exact Au [] (.cons (.t rfl rfl) .nil) rfl trivial rfl

/-! ### spec_l04Junction -/
theorem DE (m_ : AB) (j : Int) : Con Tryz.prog 51 [.rp [.int .i64 m_.Junctions, .sl 7 (m_.Airways.map Ar.v)], .int .i64 j] [] (.bool (Bx m_ j)) ([]) := by
  refine con_intro (out := fun r : Bool => ((.bool r : V), ([] : List (Nat × Option O)))) (r := (Bx m_ j)) Tryz.func51 rfl Tryz.ntmps51 rfl ?_
  refine BH (t := 0) 1 rfl rfl fun hl => ?_
  have l1 := hl; clear hl; simp only [List.length_map] at l1
  refine Af ?_
  refine Ad (Ah .n (.c rfl) rfl <| Lex.nil) ?_
  refine Af ?_
  refine Ad (Ag .n (.t rfl) rfl <| Ag .n (.t rfl) rfl <| Av .n (.t rfl) rfl <| Az .n (.t rfl) fo_26_0 rfl <| Ap .n (.t rfl) rfl ic_2 rfl <| AF .n (.t rfl) (.c rfl) rfl rfl <| AJ (full := false) .n .f en_72 (.cons (.t rfl) (.cons (.c rfl) (.cons (.t rfl) .nil))) (.cons (.b (.a (.same rfl))) (.cons (.b (.a (.same rfl))) (.cons (.b (.a (.same rfl))) .nil))) (fun hg => Bt j 0 (IntKind.wrap .i64 (m_.Junctions - 1))) rfl (fun h => Bool.noConfusion h) rfl <| Ah .n (.t rfl) rfl <| Lex.nil) ?_
  exact Au [] (.cons (.t rfl rfl) .nil) rfl trivial rfl

/-! ### spec_l01Small -/
theorem c_spec_l01Small (c_ : Int) : Con Tryz.prog 111 [.int .u8 c_] [] (.bool (Cy c_)) ([]) := by
  refine con_intro (out := fun r : Bool => ((.bool r : V), ([] : List (Nat × Option O)))) (r := (Cy c_)) Tryz.func111 rfl Tryz.ntmps111 rfl ?_
  refine Af ?_
  refine Ad (Ah .n (.c rfl) rfl <| Lex.nil) ?_
  refine Af ?_
  refine Ad (Ag .n (.t rfl) rfl <| AF .n (.t rfl) (.c rfl) rfl rfl <| Ag .n (.t rfl) rfl <| Ag (.t rfl rfl) (.t rfl) rfl <| AF (.t rfl rfl) (.u rfl id) (.c rfl) rfl rfl <| B4 .n (.t rfl) (.u rfl id) rfl <| Ah .n (.t rfl) rfl <| Lex.nil) ?_
  exact Au [] (.cons (.t rfl rfl) .nil) rfl trivial rfl

/-! ### spec_l01Digit -/
theorem c_spec_l01Digit (c_ : Int) : Con Tryz.prog 112 [.int .u8 c_] [] (.bool (Db c_)) ([]) := by
  refine con_intro (out := fun r : Bool => ((.bool r : V), ([] : List (Nat × Option O)))) (r := (Db c_)) Tryz.func112 rfl Tryz.ntmps112 rfl ?_
  refine Af ?_
  refine Ad (Ah .n (.c rfl) rfl <| Lex.nil) ?_
  refine Af ?_
  refine Ad (Ag .n (.t rfl) rfl <| AF .n (.t rfl) (.c rfl) rfl rfl <| Ag .n (.t rfl) rfl <| Ag (.t rfl rfl) (.t rfl) rfl <| AF (.t rfl rfl) (.u rfl id) (.c rfl) rfl rfl <| B4 .n (.t rfl) (.u rfl id) rfl <| Ah .n (.t rfl) rfl <| Lex.nil) ?_
  exact Au [] (.cons (.t rfl rfl) .nil) rfl trivial rfl

/-! ### spec_l01Name -/
theorem c_spec_l01Name (s_ : List UInt8) : Con Tryz.prog 100 [.str s_] [] (.bool (Cb s_)) ([]) := by
  refine con_intro (out := fun r : Bool => ((.bool r : V), ([] : List (Nat × Option O)))) (r := (Cb s_)) Tryz.func100 rfl Tryz.ntmps100 rfl ?_
  refine Af ?_
  refine Ad (Ah .n (.c rfl) rfl <| Lex.nil) ?_
  refine Af ?_
  refine Af ?_
  refine Ad (Ag .n (.t rfl) rfl <| q_strcmp .n (.t rfl) (.c rfl) rfl rfl <| Ag .n (.t rfl) rfl <| Ag (.f rfl rfl) (.t rfl) rfl <| BS (.f rfl rfl) (.u rfl id) rfl rfl st_9 rfl <| AF (.f rfl rfl) (.u rfl id) (.c rfl) rfl rfl <| q_or .n (.t rfl) (.u rfl id) rfl <| Ag .n (.t rfl) rfl <| Ag (.f rfl rfl) (.t rfl) rfl <| q_strat (.f rfl rfl) (.u rfl id) (.c rfl) st_9 (fun hg => by simp only [tst] at hg; omega) rfl <| AJ (full := false) (.f rfl rfl) .f en_111 (.cons (.u rfl id) .nil) (.cons (.b (.a (.same rfl))) .nil) (fun hg => c_spec_l01Small (((s_.getD (0 : Int).toNat 0).toNat : Nat) : Int)) rfl (fun h => Bool.noConfusion h) rfl <| Cg (.f rfl rfl) (.u rfl id) rfl <| q_or .n (.t rfl) (.u rfl id) rfl <| Lex.nil) ?_
  refine Aq (.t rfl) rfl (fun h1 => ?_) (fun h1 => ?_)
  · try simp only [tst] at h1
    refine Af ?_
    refine Ad (Ah .n (.c rfl) rfl <| Lex.nil) ?_
    exact Au [] (.cons (.t rfl rfl) .nil) rfl trivial rfl
  · try simp only [tst] at h1
    refine As ?_
    refine Af ?_
    refine Af ?_
    refine Ad (Ah .n (.c rfl) rfl <| Lex.nil) ?_
    refine Aw ?_
    refine Bp (m_spec_l01Name_b1 s_) _ _ _ rfl (fun (x1 : Int) => 0 ≤ x1 ∧ x1 ≤ (s_.length : Int)) (fun x1 => 0 ≤ x1 ∧ x1 ≤ (s_.length : Int) ∧ (s_.length : Int) ≤ x1) (fun x1 => ((s_.length : Int) - x1 : Int).toNat) (fun x1 => ⟨[(0, some (true, .str s_)), (3, some (true, .int .i64 x1))], []⟩) (fun x1 => ⟨[], []⟩) ⟨by omega, by omega⟩ (by omega) (sub_of [] ⟨rfl, rfl, trivial⟩ trivial rfl) ?_ ?_
    · intro x1 i6
      obtain ⟨e7, e8, e9⟩ := i6
      try dsimp only at *
      refine Af ?_
      refine Ad (Ah .n (.c rfl) rfl <| Lex.nil) ?_
      exact Au [] (.cons (.t rfl rfl) .nil) rfl trivial rfl
    · intro rec1 k1 hk2 x1 i3
      obtain ⟨e10, e11⟩ := i3
      try dsimp only at *
      refine Af ?_
      refine Af ?_
      refine Ad (Ag .n (.t rfl) rfl <| Ag .n (.t rfl) rfl <| BS .n (.t rfl) rfl rfl st_9 rfl <| AF .n (.t rfl) (.t rfl) rfl rfl <| Lex.nil) ?_
      refine Aq (.t rfl) rfl (fun h4 => ?_) (fun h4 => ?_)
      · try simp only [tst] at h4
        refine As ?_
        refine Af ?_
        refine Aw ?_
        refine Af ?_
        refine Ad (Ag .n (.t rfl) rfl <| Ag .n (.t rfl) rfl <| q_strat .n (.t rfl) (.t rfl) st_9 (fun _ => by omega) rfl <| AJ (full := false) .n .f en_111 (.cons (.t rfl) .nil) (.cons (.b (.a (.same rfl))) .nil) (fun hg => c_spec_l01Small (((s_.getD x1.toNat 0).toNat : Nat) : Int)) rfl (fun h => Bool.noConfusion h) rfl <| Cg .n (.t rfl) rfl <| Ag .n (.t rfl) rfl <| Ag (.t rfl rfl) (.t rfl) rfl <| Ag (.t rfl rfl) (.t rfl) rfl <| q_strat (.t rfl rfl) (.u rfl id) (.u rfl id) st_9 (fun hg => by simp only [tst] at hg; omega) rfl <| AJ (full := false) (.t rfl rfl) .f en_112 (.cons (.u rfl id) .nil) (.cons (.b (.a (.same rfl))) .nil) (fun hg => c_spec_l01Digit (((s_.getD x1.toNat 0).toNat : Nat) : Int)) rfl (fun h => Bool.noConfusion h) rfl <| Cg (.t rfl rfl) (.u rfl id) rfl <| B4 .n (.t rfl) (.u rfl id) rfl <| Lex.nil) ?_
        refine Aq (.t rfl) rfl (fun h5 => ?_) (fun h5 => ?_)
        · try simp only [tst] at h5
          refine Af ?_
          refine Ad (Ah .n (.c rfl) rfl <| Lex.nil) ?_
          exact Au [] (.cons (.t rfl rfl) .nil) rfl trivial rfl
        · try simp only [tst] at h5
          refine As ?_
          refine AK ?_
          refine Ad (Ag .n (.t rfl) rfl <| BM .n (.t rfl) (.c rfl) (fun _ => by omega) rfl <| Ah .n (.t rfl) rfl <| Lex.nil) ?_
          exact A5 (x1 + 1) ⟨by omega, by omega⟩ (by omega) (sub_of [] ⟨rfl, rfl, trivial⟩ trivial rfl)
      · try simp only [tst] at h4
        refine Bb rfl ?_
        exact AY hk2 x1 ⟨by omega, by omega, by omega⟩ (sub_of [] trivial trivial rfl)

/-! ### spec_l03Ok -/
theorem c_spec_l03Ok (a : Ar) : Con Tryz.prog 88 [.rp [.str a.Id, .int .i64 a.From, .int .i64 a.To, .int .i64 a.Length, .int .i64 a.Section, .int .i64 a.Friction, .int .i64 a.Shock]] [] (.bool (Dc a)) ([]) := by
  refine con_intro (out := fun r : Bool => ((.bool r : V), ([] : List (Nat × Option O)))) (r := (Dc a)) Tryz.func88 rfl Tryz.ntmps88 rfl ?_
  refine Af ?_
  refine Ad (Ah .n (.c rfl) rfl <| Lex.nil) ?_
  refine Af ?_
  refine Af ?_
  refine Bk fmo (Ag .n (.t rfl) rfl <| Av .n (.t rfl) rfl <| Az .n (.t rfl) fo_112_0 rfl <| Ap .n (.t rfl) rfl ic_9 rfl <| AJ (full := false) .n .f en_100 (.cons (.t rfl) .nil) (.cons (.b (.a (.same rfl))) .nil) (fun hg => c_spec_l01Name a.Id) rfl (fun h => Bool.noConfusion h) rfl <| Cg .n (.t rfl) rfl <| Ag .n (.t rfl) rfl <| Ag (.f rfl rfl) (.t rfl) rfl <| Av (.f rfl rfl) (.u rfl id) rfl <| Az (.f rfl rfl) (.u rfl id) fo_112_1 rfl <| Ap (.f rfl rfl) (.u rfl id) rfl ic_2 rfl <| AJ (full := false) (.f rfl rfl) .f en_72 (.cons (.u rfl id) (.cons (.c rfl) (.cons (.c rfl) .nil))) (.cons (.b (.a (.same rfl))) (.cons (.b (.a (.same rfl))) (.cons (.b (.a (.same rfl))) .nil))) (fun hg => Bt a.From 0 15) rfl (fun h => Bool.noConfusion h) rfl <| Cg (.f rfl rfl) (.u rfl id) rfl <| q_or .n (.t rfl) (.u rfl id) rfl <| Ag .n (.t rfl) rfl <| Ag (.f rfl rfl) (.t rfl) rfl <| Av (.f rfl rfl) (.u rfl id) rfl <| Az (.f rfl rfl) (.u rfl id) fo_112_2 rfl <| Ap (.f rfl rfl) (.u rfl id) rfl ic_2 rfl <| AJ (full := false) (.f rfl rfl) .f en_72 (.cons (.u rfl id) (.cons (.c rfl) (.cons (.c rfl) .nil))) (.cons (.b (.a (.same rfl))) (.cons (.b (.a (.same rfl))) (.cons (.b (.a (.same rfl))) .nil))) (fun hg => Bt a.To 0 15) rfl (fun h => Bool.noConfusion h) rfl <| Cg (.f rfl rfl) (.u rfl id) rfl <| q_or .n (.t rfl) (.u rfl id) rfl <| Ag .n (.t rfl) rfl <| Ag (.f rfl rfl) (.t rfl) rfl <| Av (.f rfl rfl) (.u rfl id) rfl <| Az (.f rfl rfl) (.u rfl id) fo_112_1 rfl <| Ap (.f rfl rfl) (.u rfl id) rfl ic_2 rfl <| Ag (.f rfl rfl) (.t rfl) rfl <| Av (.f rfl rfl) (.u rfl id) rfl <| Az (.f rfl rfl) (.u rfl id) fo_112_2 rfl <| Ap (.f rfl rfl) (.u rfl id) rfl ic_2 rfl <| AF (.f rfl rfl) (.u rfl id) (.u rfl id) rfl rfl <| q_or .n (.t rfl) (.u rfl id) rfl <| Lex.nil) (by kernel_rfl) ?_
  refine Aq (.t rfl) rfl (fun h1 => ?_) (fun h1 => ?_)
  · try simp only [tst] at h1
    try have hf0h1 := l00In_imp h1
    try have hf1h1 := l00In_imp h1.1
    try have hf2h1 := l00In_imp h1.2
    try have hf3h1 := l00In_imp h1.1.1
    try have hf4h1 := l00In_imp h1.1.2
    try have hf5h1 := l00In_imp h1.2.1
    try have hf6h1 := l00In_imp h1.2.2
    try have hf7h1 := l00In_imp h1.1.1.1
    try have hf8h1 := l00In_imp h1.1.1.2
    refine Af ?_
    refine Ad (Ah .n (.c rfl) rfl <| Lex.nil) ?_
    exact Au [] (.cons (.t rfl rfl) .nil) rfl trivial rfl
  · try simp only [tst] at h1
    try have hf0h1 := l00In_imp h1
    try have hf1h1 := l00In_imp h1.1
    try have hf2h1 := l00In_imp h1.2
    try have hf3h1 := l00In_imp h1.1.1
    try have hf4h1 := l00In_imp h1.1.2
    try have hf5h1 := l00In_imp h1.2.1
    try have hf6h1 := l00In_imp h1.2.2
    try have hf7h1 := l00In_imp h1.1.1.1
    try have hf8h1 := l00In_imp h1.1.1.2
    refine As ?_
    refine Af ?_
    refine Ad (Ag .n (.t rfl) rfl <| Av .n (.t rfl) rfl <| Az .n (.t rfl) fo_112_3 rfl <| Ap .n (.t rfl) rfl ic_2 rfl <| AJ (full := false) .n .f en_72 (.cons (.t rfl) (.cons (.c rfl) (.cons (.c rfl) .nil))) (.cons (.b (.a (.same rfl))) (.cons (.b (.a (.same rfl))) (.cons (.b (.a (.same rfl))) .nil))) (fun hg => Bt a.Length 1 10000) rfl (fun h => Bool.noConfusion h) rfl <| Ag .n (.t rfl) rfl <| Ag (.t rfl rfl) (.t rfl) rfl <| Av (.t rfl rfl) (.u rfl id) rfl <| Az (.t rfl rfl) (.u rfl id) fo_112_4 rfl <| Ap (.t rfl rfl) (.u rfl id) rfl ic_2 rfl <| AJ (full := false) (.t rfl rfl) .f en_72 (.cons (.u rfl id) (.cons (.c rfl) (.cons (.c rfl) .nil))) (.cons (.b (.a (.same rfl))) (.cons (.b (.a (.same rfl))) (.cons (.b (.a (.same rfl))) .nil))) (fun hg => Bt a.Section 50 5000) rfl (fun h => Bool.noConfusion h) rfl <| B4 .n (.t rfl) (.u rfl id) rfl <| Ag .n (.t rfl) rfl <| Ag (.t rfl rfl) (.t rfl) rfl <| Av (.t rfl rfl) (.u rfl id) rfl <| Az (.t rfl rfl) (.u rfl id) fo_112_5 rfl <| Ap (.t rfl rfl) (.u rfl id) rfl ic_2 rfl <| AJ (full := false) (.t rfl rfl) .f en_72 (.cons (.u rfl id) (.cons (.c rfl) (.cons (.c rfl) .nil))) (.cons (.b (.a (.same rfl))) (.cons (.b (.a (.same rfl))) (.cons (.b (.a (.same rfl))) .nil))) (fun hg => Bt a.Friction 1 1000) rfl (fun h => Bool.noConfusion h) rfl <| B4 .n (.t rfl) (.u rfl id) rfl <| Ag .n (.t rfl) rfl <| Ag (.t rfl rfl) (.t rfl) rfl <| Av (.t rfl rfl) (.u rfl id) rfl <| Az (.t rfl rfl) (.u rfl id) fo_112_6 rfl <| Ap (.t rfl rfl) (.u rfl id) rfl ic_2 rfl <| AJ (full := false) (.t rfl rfl) .f en_72 (.cons (.u rfl id) (.cons (.c rfl) (.cons (.c rfl) .nil))) (.cons (.b (.a (.same rfl))) (.cons (.b (.a (.same rfl))) (.cons (.b (.a (.same rfl))) .nil))) (fun hg => Bt a.Shock 0 1000) rfl (fun h => Bool.noConfusion h) rfl <| B4 .n (.t rfl) (.u rfl id) rfl <| Ah .n (.t rfl) rfl <| Lex.nil) ?_
    exact Au [] (.cons (.t rfl rfl) .nil) rfl trivial rfl

/-! ### spec_l04Ok -/
theorem Dt (m_ : AB) : Con Tryz.prog 50 [.rp [.int .i64 m_.Junctions, .sl 7 (m_.Airways.map Ar.v)]] [] (.bool (AD m_)) ([]) := by
  refine con_intro (out := fun r : Bool => ((.bool r : V), ([] : List (Nat × Option O)))) (r := (AD m_)) Tryz.func50 rfl Tryz.ntmps50 rfl ?_
  refine BH (t := 0) 1 rfl rfl fun hl => ?_
  have l1 := hl; clear hl; simp only [List.length_map] at l1
  refine Af ?_
  refine Ad (Ah .n (.c rfl) rfl <| Lex.nil) ?_
  refine Af ?_
  refine Af ?_
  refine Ad (Ag .n (.t rfl) rfl <| Av .n (.t rfl) rfl <| Az .n (.t rfl) fo_26_0 rfl <| Ap .n (.t rfl) rfl ic_2 rfl <| AJ (full := false) .n .f en_72 (.cons (.t rfl) (.cons (.c rfl) (.cons (.c rfl) .nil))) (.cons (.b (.a (.same rfl))) (.cons (.b (.a (.same rfl))) (.cons (.b (.a (.same rfl))) .nil))) (fun hg => Bt m_.Junctions 1 16) rfl (fun h => Bool.noConfusion h) rfl <| Cg .n (.t rfl) rfl <| Lex.nil) ?_
  refine Aq (.t rfl) rfl (fun h2 => ?_) (fun h2 => ?_)
  · try simp only [tst] at h2
    try have hf0h2 := l00In_imp h2
    try have hf1h2 := l00In_imp h2.1
    try have hf2h2 := l00In_imp h2.2
    try have hf3h2 := l00In_imp h2.1.1
    try have hf4h2 := l00In_imp h2.1.2
    try have hf5h2 := l00In_imp h2.2.1
    try have hf6h2 := l00In_imp h2.2.2
    refine Af ?_
    refine Ad (Ah .n (.c rfl) rfl <| Lex.nil) ?_
    exact Au [] (.cons (.t rfl rfl) .nil) rfl trivial rfl
  · try simp only [tst] at h2
    try have hf0h2 := l00In_imp h2
    try have hf1h2 := l00In_imp h2.1
    try have hf2h2 := l00In_imp h2.2
    try have hf3h2 := l00In_imp h2.1.1
    try have hf4h2 := l00In_imp h2.1.2
    try have hf5h2 := l00In_imp h2.2.1
    try have hf6h2 := l00In_imp h2.2.2
    refine As ?_
    refine Af ?_
    refine Af ?_
    refine Ad (Ah .n (.c rfl) rfl <| Lex.nil) ?_
    refine Aw ?_
    refine Bp (Dx m_) _ _ _ rfl (fun (x1 : Int) => 0 ≤ x1 ∧ x1 ≤ (m_.Airways.length : Int)) (fun x1 => 0 ≤ x1 ∧ x1 ≤ (m_.Airways.length : Int) ∧ (m_.Airways.length : Int) ≤ x1) (fun x1 => ((m_.Airways.length : Int) - x1 : Int).toNat) (fun x1 => ⟨[(0, some (true, .rp [.int .i64 m_.Junctions, .sl 7 (m_.Airways.map Ar.v)])), (3, some (true, .int .i64 x1))], []⟩) (fun x1 => ⟨[(0, some (true, .rp [.int .i64 m_.Junctions, .sl 7 (m_.Airways.map Ar.v)]))], []⟩) ⟨by omega, by omega⟩ (by omega) (sub_of [] ⟨rfl, rfl, trivial⟩ trivial rfl) ?_ ?_
    · intro x1 i7
      obtain ⟨e8, e9, e10⟩ := i7
      try dsimp only at *
      refine Af ?_
      refine Ad (Ag .n (.t rfl) rfl <| Av .n (.t rfl) rfl <| Az .n (.t rfl) fo_26_1 rfl <| Ap .n (.t rfl) rfl ic_24 rfl <| BS .n (.t rfl) rfl len_map ss_24 rfl <| AF .n (.t rfl) (.c rfl) rfl rfl <| Ah .n (.t rfl) rfl <| Lex.nil) ?_
      exact Au [] (.cons (.t rfl rfl) .nil) rfl trivial rfl
    · intro rec1 k1 hk3 x1 i4
      obtain ⟨e11, e12⟩ := i4
      try dsimp only at *
      refine Af ?_
      refine Af ?_
      refine Ad (Ag .n (.t rfl) rfl <| Ag .n (.t rfl) rfl <| Av .n (.t rfl) rfl <| Az .n (.t rfl) fo_26_1 rfl <| Ap .n (.t rfl) rfl ic_24 rfl <| BS .n (.t rfl) rfl len_map ss_24 rfl <| AF .n (.t rfl) (.t rfl) rfl rfl <| Lex.nil) ?_
      refine Aq (.t rfl) rfl (fun h5 => ?_) (fun h5 => ?_)
      · try simp only [tst] at h5
        refine As ?_
        refine Af ?_
        refine Aw ?_
        refine Af ?_
        refine Ad (Ag .n (.t rfl) rfl <| Av .n (.t rfl) rfl <| Az .n (.t rfl) fo_26_1 rfl <| Ap .n (.t rfl) rfl ic_24 rfl <| Ag .n (.t rfl) rfl <| A8 .n (.t rfl) (.t rfl) sl_24 (fun _ => by omega) rfl <| Ah .n (.t rfl) rfl <| Lex.nil) ?_
        refine Af ?_
        refine Bk fmo (Ag .n (.t rfl) rfl <| AJ (full := false) .n .f en_88 (.cons (.t rfl) .nil) (.cons (.b (.a (.same rfl))) .nil) (fun hg => c_spec_l03Ok (at' m_.Airways x1)) rfl (fun h => Bool.noConfusion h) rfl <| Cg .n (.t rfl) rfl <| Ag .n (.t rfl) rfl <| Ag (.f rfl rfl) (.t rfl) rfl <| Ag (.f rfl rfl) (.t rfl) rfl <| Av (.f rfl rfl) (.u rfl id) rfl <| Az (.f rfl rfl) (.u rfl id) fo_112_1 rfl <| Ap (.f rfl rfl) (.u rfl id) rfl ic_2 rfl <| AJ (full := false) (.f rfl rfl) .f en_51 (.cons (.u rfl id) (.cons (.u rfl id) .nil)) (.cons (.b (.a (.same rfl))) (.cons (.b (.a (.same rfl))) .nil)) (fun hg => DE m_ (at' m_.Airways x1).From) rfl (fun h => Bool.noConfusion h) rfl <| Cg (.f rfl rfl) (.u rfl id) rfl <| q_or .n (.t rfl) (.u rfl id) rfl <| Ag .n (.t rfl) rfl <| Ag (.f rfl rfl) (.t rfl) rfl <| Ag (.f rfl rfl) (.t rfl) rfl <| Av (.f rfl rfl) (.u rfl id) rfl <| Az (.f rfl rfl) (.u rfl id) fo_112_2 rfl <| Ap (.f rfl rfl) (.u rfl id) rfl ic_2 rfl <| AJ (full := false) (.f rfl rfl) .f en_51 (.cons (.u rfl id) (.cons (.u rfl id) .nil)) (.cons (.b (.a (.same rfl))) (.cons (.b (.a (.same rfl))) .nil)) (fun hg => DE m_ (at' m_.Airways x1).To) rfl (fun h => Bool.noConfusion h) rfl <| Cg (.f rfl rfl) (.u rfl id) rfl <| q_or .n (.t rfl) (.u rfl id) rfl <| Ag .n (.t rfl) rfl <| Ag (.f rfl rfl) (.t rfl) rfl <| AF (.f rfl rfl) (.u rfl id) (.c rfl) rfl rfl <| Ag (.f rfl rfl) (.u rfl id) rfl <| Ag (.t rfl rfl) (.t rfl) rfl <| Av (.t rfl rfl) (.u rfl id) rfl <| Az (.t rfl rfl) (.u rfl id) fo_26_1 rfl <| Ap (.t rfl rfl) (.u rfl id) rfl ic_24 rfl <| Ag (.t rfl rfl) (.t rfl) rfl <| q_sub (.t rfl rfl) (.u rfl id) (.c rfl) (fun hg => by simp only [tst] at hg; omega) rfl <| A8 (.t rfl rfl) (.u rfl id) (.u rfl id) sl_24 (fun hg => by simp only [tst] at hg; omega) rfl <| Az (.t rfl rfl) (.u rfl id) fo_112_0 rfl <| Ap (.t rfl rfl) (.u rfl id) rfl ic_9 rfl <| Ag (.t rfl rfl) (.t rfl) rfl <| Av (.t rfl rfl) (.u rfl id) rfl <| Az (.t rfl rfl) (.u rfl id) fo_112_0 rfl <| Ap (.t rfl rfl) (.u rfl id) rfl ic_9 rfl <| q_strcmp (.t rfl rfl) (.u rfl id) (.u rfl id) rfl rfl <| B4 (.f rfl rfl) (.u rfl id) (.u rfl id) rfl <| q_or .n (.t rfl) (.u rfl id) rfl <| Lex.nil) (by kernel_rfl) ?_
        refine Aq (.t rfl) rfl (fun h6 => ?_) (fun h6 => ?_)
        · try simp only [tst] at h6
          refine Af ?_
          refine Ad (Ah .n (.c rfl) rfl <| Lex.nil) ?_
          exact Au [] (.cons (.t rfl rfl) .nil) rfl trivial rfl
        · try simp only [tst] at h6
          refine As ?_
          refine AK ?_
          refine Ad (Ag .n (.t rfl) rfl <| BM .n (.t rfl) (.c rfl) (fun _ => by omega) rfl <| Ah .n (.t rfl) rfl <| Lex.nil) ?_
          exact A5 (x1 + 1) ⟨by omega, by omega⟩ (by omega) (sub_of [] ⟨rfl, rfl, trivial⟩ trivial rfl)
      · try simp only [tst] at h5
        refine Bb rfl ?_
        exact AY hk3 x1 ⟨by omega, by omega, by omega⟩ (sub_of [] ⟨rfl, trivial⟩ trivial rfl)

/-! ### spec_l19One -/
theorem c_spec_l19One (c_ : Bu) : Con Tryz.prog 71 [.rp [.str c_.Id, .int .i64 c_.Junction, .int .i64 c_.Speed]] [] (.bool (BV c_)) ([]) := by
  refine con_intro (out := fun r : Bool => ((.bool r : V), ([] : List (Nat × Option O)))) (r := (BV c_)) Tryz.func71 rfl Tryz.ntmps71 rfl ?_
  refine Af ?_
  refine Ad (Ah .n (.c rfl) rfl <| Lex.nil) ?_
  refine Af ?_
  refine Ad (Ag .n (.t rfl) rfl <| Av .n (.t rfl) rfl <| Az .n (.t rfl) fo_37_0 rfl <| Ap .n (.t rfl) rfl ic_9 rfl <| AJ (full := false) .n .f en_100 (.cons (.t rfl) .nil) (.cons (.b (.a (.same rfl))) .nil) (fun hg => c_spec_l01Name c_.Id) rfl (fun h => Bool.noConfusion h) rfl <| Ag .n (.t rfl) rfl <| Ag (.t rfl rfl) (.t rfl) rfl <| Av (.t rfl rfl) (.u rfl id) rfl <| Az (.t rfl rfl) (.u rfl id) fo_37_1 rfl <| Ap (.t rfl rfl) (.u rfl id) rfl ic_2 rfl <| AJ (full := false) (.t rfl rfl) .f en_72 (.cons (.u rfl id) (.cons (.c rfl) (.cons (.c rfl) .nil))) (.cons (.b (.a (.same rfl))) (.cons (.b (.a (.same rfl))) (.cons (.b (.a (.same rfl))) .nil))) (fun hg => Bt c_.Junction 0 15) rfl (fun h => Bool.noConfusion h) rfl <| B4 .n (.t rfl) (.u rfl id) rfl <| Ag .n (.t rfl) rfl <| Ag (.t rfl rfl) (.t rfl) rfl <| Av (.t rfl rfl) (.u rfl id) rfl <| Az (.t rfl rfl) (.u rfl id) fo_37_2 rfl <| Ap (.t rfl rfl) (.u rfl id) rfl ic_2 rfl <| AJ (full := false) (.t rfl rfl) .f en_72 (.cons (.u rfl id) (.cons (.c rfl) (.cons (.c rfl) .nil))) (.cons (.b (.a (.same rfl))) (.cons (.b (.a (.same rfl))) (.cons (.b (.a (.same rfl))) .nil))) (fun hg => Bt c_.Speed 10 300) rfl (fun h => Bool.noConfusion h) rfl <| B4 .n (.t rfl) (.u rfl id) rfl <| Ah .n (.t rfl) rfl <| Lex.nil) ?_
  exact Au [] (.cons (.t rfl rfl) .nil) rfl trivial rfl

/-! ### spec_l17Time -/
theorem c_spec_l17Time (t : Int) : Con Tryz.prog 73 [.int .i64 t] [] (.bool (Dl t)) ([]) := by
  refine con_intro (out := fun r : Bool => ((.bool r : V), ([] : List (Nat × Option O)))) (r := (Dl t)) Tryz.func73 rfl Tryz.ntmps73 rfl ?_
  refine Af ?_
  refine Ad (Ah .n (.c rfl) rfl <| Lex.nil) ?_
  refine Af ?_
  refine Ad (Ag .n (.t rfl) rfl <| AJ (full := false) .n .f en_72 (.cons (.t rfl) (.cons (.c rfl) (.cons (.c rfl) .nil))) (.cons (.b (.a (.same rfl))) (.cons (.b (.a (.same rfl))) (.cons (.b (.a (.same rfl))) .nil))) (fun hg => Bt t 0 36000) rfl (fun h => Bool.noConfusion h) rfl <| Ah .n (.t rfl) rfl <| Lex.nil) ?_
  exact Au [] (.cons (.t rfl rfl) .nil) rfl trivial rfl

/-! ### spec_l19Arrivals -/
theorem c_spec_l19Arrivals (m_ : AB) (arrivals : List Int) : Con Tryz.prog 74 [.rp [.int .i64 m_.Junctions, .sl 7 (m_.Airways.map Ar.v)], .sl 1 (arrivals.map (V.int .i64))] [] (.bool (CD m_ arrivals)) ([]) := by
  refine con_intro (out := fun r : Bool => ((.bool r : V), ([] : List (Nat × Option O)))) (r := (CD m_ arrivals)) Tryz.func74 rfl Tryz.ntmps74 rfl ?_
  refine BH (t := 0) 1 rfl rfl fun hl => ?_
  have l1 := hl; clear hl; simp only [List.length_map] at l1
  refine Br (t := 1) rfl fun hl => ?_
  have l2 := hl; clear hl; simp only [List.length_map] at l2
  refine Af ?_
  refine Ad (Ah .n (.c rfl) rfl <| Lex.nil) ?_
  refine Af ?_
  refine Af ?_
  refine Ad (Ah .n (.c rfl) rfl <| Lex.nil) ?_
  refine Aw ?_
  refine Bp (Dd m_ arrivals) _ _ _ rfl (fun (x1 : Int) => 0 ≤ x1 ∧ x1 ≤ (arrivals.length : Int)) (fun x1 => 0 ≤ x1 ∧ x1 ≤ (arrivals.length : Int) ∧ (arrivals.length : Int) ≤ x1) (fun x1 => ((arrivals.length : Int) - x1 : Int).toNat) (fun x1 => ⟨[(0, some (true, .rp [.int .i64 m_.Junctions, .sl 7 (m_.Airways.map Ar.v)])), (1, some (true, .sl 1 (arrivals.map (V.int .i64)))), (5, some (true, .int .i64 x1))], []⟩) (fun x1 => ⟨[(0, some (true, .rp [.int .i64 m_.Junctions, .sl 7 (m_.Airways.map Ar.v)])), (1, some (true, .sl 1 (arrivals.map (V.int .i64))))], []⟩) ⟨by omega, by omega⟩ (by omega) (sub_of [] ⟨rfl, rfl, rfl, trivial⟩ trivial rfl) ?_ ?_
  · intro x1 i7
    obtain ⟨e8, e9, e10⟩ := i7
    try dsimp only at *
    refine Af ?_
    refine Ad (Ag .n (.t rfl) rfl <| BS .n (.t rfl) rfl len_map ss_27 rfl <| Ag .n (.t rfl) rfl <| Av .n (.t rfl) rfl <| Az .n (.t rfl) fo_26_0 rfl <| Ap .n (.t rfl) rfl ic_2 rfl <| AF .n (.t rfl) (.t rfl) rfl rfl <| Ah .n (.t rfl) rfl <| Lex.nil) ?_
    exact Au [] (.cons (.t rfl rfl) .nil) rfl trivial rfl
  · intro rec1 k1 hk3 x1 i4
    obtain ⟨e11, e12⟩ := i4
    try dsimp only at *
    refine Af ?_
    refine Af ?_
    refine Ad (Ag .n (.t rfl) rfl <| Ag .n (.t rfl) rfl <| BS .n (.t rfl) rfl len_map ss_27 rfl <| AF .n (.t rfl) (.t rfl) rfl rfl <| Lex.nil) ?_
    refine Aq (.t rfl) rfl (fun h5 => ?_) (fun h5 => ?_)
    · try simp only [tst] at h5
      refine As ?_
      refine Af ?_
      refine Aw ?_
      refine Af ?_
      refine Ad (Ag .n (.t rfl) rfl <| Ag .n (.t rfl) rfl <| A8 .n (.t rfl) (.t rfl) sl_27 (fun _ => by omega) rfl <| Ap .n (.t rfl) rfl ic_2 rfl <| AJ (full := false) .n .f en_72 (.cons (.t rfl) (.cons (.c rfl) (.cons (.c rfl) .nil))) (.cons (.b (.a (.same rfl))) (.cons (.b (.a (.same rfl))) (.cons (.b (.a (.same rfl))) .nil))) (fun hg => Bt (at' arrivals x1) (-1) 1000000000000) rfl (fun h => Bool.noConfusion h) rfl <| Cg .n (.t rfl) rfl <| Lex.nil) ?_
      refine Aq (.t rfl) rfl (fun h6 => ?_) (fun h6 => ?_)
      · try simp only [tst] at h6
        try have hf0h6 := l00In_imp h6
        try have hf1h6 := l00In_imp h6.1
        try have hf2h6 := l00In_imp h6.2
        try have hf3h6 := l00In_imp h6.1.1
        try have hf4h6 := l00In_imp h6.1.2
        try have hf5h6 := l00In_imp h6.2.1
        try have hf6h6 := l00In_imp h6.2.2
        refine Af ?_
        refine Ad (Ah .n (.c rfl) rfl <| Lex.nil) ?_
        exact Au [] (.cons (.t rfl rfl) .nil) rfl trivial rfl
      · try simp only [tst] at h6
        try have hf0h6 := l00In_imp h6
        try have hf1h6 := l00In_imp h6.1
        try have hf2h6 := l00In_imp h6.2
        try have hf3h6 := l00In_imp h6.1.1
        try have hf4h6 := l00In_imp h6.1.2
        try have hf5h6 := l00In_imp h6.2.1
        try have hf6h6 := l00In_imp h6.2.2
        refine As ?_
        refine AK ?_
        refine Ad (Ag .n (.t rfl) rfl <| BM .n (.t rfl) (.c rfl) (fun _ => by omega) rfl <| Ah .n (.t rfl) rfl <| Lex.nil) ?_
        exact A5 (x1 + 1) ⟨by omega, by omega⟩ (by omega) (sub_of [] ⟨rfl, rfl, rfl, trivial⟩ trivial rfl)
    · try simp only [tst] at h5
      refine Bb rfl ?_
      exact AY hk3 x1 ⟨by omega, by omega, by omega⟩ (sub_of [] ⟨rfl, rfl, trivial⟩ trivial rfl)

/-! ### spec_l19Ask -/
theorem c_spec_l19Ask (m_ : AB) (arrivals : List Int) (blocked : Int) (c_ : Bu) (start : Int) : Con Tryz.prog 32 [.rp [.int .i64 m_.Junctions, .sl 7 (m_.Airways.map Ar.v)], .sl 1 (arrivals.map (V.int .i64)), .int .i64 blocked, .rp [.str c_.Id, .int .i64 c_.Junction, .int .i64 c_.Speed], .int .i64 start] [] (.int .i64 (Bz m_ arrivals blocked c_ start)) ([]) := by
  refine con_intro (out := fun r : Int => ((.int .i64 r : V), ([] : List (Nat × Option O)))) (r := (Bz m_ arrivals blocked c_ start)) Tryz.func32 rfl Tryz.ntmps32 rfl ?_
  refine BH (t := 0) 1 rfl rfl fun hl => ?_
  have l1 := hl; clear hl; simp only [List.length_map] at l1
  refine Br (t := 1) rfl fun hl => ?_
  have l2 := hl; clear hl; simp only [List.length_map] at l2
  refine Af ?_
  refine Ad (Ah .n (.c rfl) rfl <| Lex.nil) ?_
  refine Af ?_
  refine Af ?_
  refine Bk fmo (Ag .n (.t rfl) rfl <| AJ (full := false) .n .f en_50 (.cons (.t rfl) .nil) (.cons (.b (.a (.same rfl))) .nil) (fun hg => Dt m_) rfl (fun h => Bool.noConfusion h) rfl <| Cg .n (.t rfl) rfl <| Ag .n (.t rfl) rfl <| Ag (.f rfl rfl) (.t rfl) rfl <| AJ (full := false) (.f rfl rfl) .f en_71 (.cons (.u rfl id) .nil) (.cons (.b (.a (.same rfl))) .nil) (fun hg => c_spec_l19One c_) rfl (fun h => Bool.noConfusion h) rfl <| Cg (.f rfl rfl) (.u rfl id) rfl <| q_or .n (.t rfl) (.u rfl id) rfl <| Ag .n (.t rfl) rfl <| Ag (.f rfl rfl) (.t rfl) rfl <| Av (.f rfl rfl) (.u rfl id) rfl <| Az (.f rfl rfl) (.u rfl id) fo_37_1 rfl <| Ap (.f rfl rfl) (.u rfl id) rfl ic_2 rfl <| Ag (.f rfl rfl) (.t rfl) rfl <| Av (.f rfl rfl) (.u rfl id) rfl <| Az (.f rfl rfl) (.u rfl id) fo_26_0 rfl <| Ap (.f rfl rfl) (.u rfl id) rfl ic_2 rfl <| AF (.f rfl rfl) (.u rfl id) (.u rfl id) rfl rfl <| q_or .n (.t rfl) (.u rfl id) rfl <| Lex.nil) (by kernel_rfl) ?_
  refine Aq (.t rfl) rfl (fun h3 => ?_) (fun h3 => ?_)
  · try simp only [tst] at h3
    try have hf0h3 := l04Ok_imp h3
    try have hf1h3 := l04Ok_imp h3.1
    try have hf2h3 := l04Ok_imp h3.2
    try have hf3h3 := l04Ok_imp h3.1.1
    try have hf4h3 := l04Ok_imp h3.1.2
    try have hf5h3 := l04Ok_imp h3.2.1
    try have hf6h3 := l04Ok_imp h3.2.2
    refine Af ?_
    refine Ad (Ah .n (.c rfl) rfl <| Lex.nil) ?_
    exact Au [] (.cons (.t rfl rfl) .nil) rfl trivial rfl
  · try simp only [tst] at h3
    try have hf0h3 := l04Ok_imp h3
    try have hf1h3 := l04Ok_imp h3.1
    try have hf2h3 := l04Ok_imp h3.2
    try have hf3h3 := l04Ok_imp h3.1.1
    try have hf4h3 := l04Ok_imp h3.1.2
    try have hf5h3 := l04Ok_imp h3.2.1
    try have hf6h3 := l04Ok_imp h3.2.2
    refine As ?_
    refine Af ?_
    refine Af ?_
    refine Ad (Ag .n (.t rfl) rfl <| Ag .n (.t rfl) rfl <| Av .n (.t rfl) rfl <| Az .n (.t rfl) fo_26_1 rfl <| Ap .n (.t rfl) rfl ic_24 rfl <| BS .n (.t rfl) rfl len_map ss_24 rfl <| q_sub .n (.t rfl) (.c rfl) (fun _ => by omega) rfl <| AJ (full := false) .n .f en_72 (.cons (.t rfl) (.cons (.c rfl) (.cons (.t rfl) .nil))) (.cons (.b (.a (.same rfl))) (.cons (.b (.a (.same rfl))) (.cons (.b (.a (.same rfl))) .nil))) (fun hg => Bt blocked (-1) ((m_.Airways.length : Int) - 1)) rfl (fun h => Bool.noConfusion h) rfl <| Cg .n (.t rfl) rfl <| Ag .n (.t rfl) rfl <| Ag (.f rfl rfl) (.t rfl) rfl <| AJ (full := false) (.f rfl rfl) .f en_73 (.cons (.u rfl id) .nil) (.cons (.b (.a (.same rfl))) .nil) (fun hg => c_spec_l17Time start) rfl (fun h => Bool.noConfusion h) rfl <| Cg (.f rfl rfl) (.u rfl id) rfl <| q_or .n (.t rfl) (.u rfl id) rfl <| Lex.nil) ?_
    refine Aq (.t rfl) rfl (fun h4 => ?_) (fun h4 => ?_)
    · try simp only [tst] at h4
      try have hf0h4 := l00In_imp h4
      try have hf1h4 := l00In_imp h4.1
      try have hf2h4 := l00In_imp h4.2
      try have hf3h4 := l00In_imp h4.1.1
      try have hf4h4 := l00In_imp h4.1.2
      try have hf5h4 := l00In_imp h4.2.1
      try have hf6h4 := l00In_imp h4.2.2
      try have hf7h4 := l17Time_imp h4
      try have hf8h4 := l17Time_imp h4.1
      try have hf9h4 := l17Time_imp h4.2
      try have hf10h4 := l17Time_imp h4.1.1
      try have hf11h4 := l17Time_imp h4.1.2
      try have hf12h4 := l17Time_imp h4.2.1
      try have hf13h4 := l17Time_imp h4.2.2
      refine Af ?_
      refine Ad (Ah .n (.c rfl) rfl <| Lex.nil) ?_
      exact Au [] (.cons (.t rfl rfl) .nil) rfl trivial rfl
    · try simp only [tst] at h4
      try have hf0h4 := l00In_imp h4
      try have hf1h4 := l00In_imp h4.1
      try have hf2h4 := l00In_imp h4.2
      try have hf3h4 := l00In_imp h4.1.1
      try have hf4h4 := l00In_imp h4.1.2
      try have hf5h4 := l00In_imp h4.2.1
      try have hf6h4 := l00In_imp h4.2.2
      try have hf7h4 := l17Time_imp h4
      try have hf8h4 := l17Time_imp h4.1
      try have hf9h4 := l17Time_imp h4.2
      try have hf10h4 := l17Time_imp h4.1.1
      try have hf11h4 := l17Time_imp h4.1.2
      try have hf12h4 := l17Time_imp h4.2.1
      try have hf13h4 := l17Time_imp h4.2.2
      refine As ?_
      refine Af ?_
      refine Af ?_
      refine Ad (Ag .n (.t rfl) rfl <| Ag .n (.t rfl) rfl <| AJ (full := false) .n .f en_74 (.cons (.t rfl) (.cons (.t rfl) .nil)) (.cons (.b (.a (.same rfl))) (.cons (.b (.a (.same rfl))) .nil)) (fun hg => c_spec_l19Arrivals m_ arrivals) rfl (fun h => Bool.noConfusion h) rfl <| Cg .n (.t rfl) rfl <| Lex.nil) ?_
      refine Aq (.t rfl) rfl (fun h5 => ?_) (fun h5 => ?_)
      · try simp only [tst] at h5
        try have hf0h5 := l19Arr_imp h5
        try have hf1h5 := l19Arr_imp h5.1
        try have hf2h5 := l19Arr_imp h5.2
        try have hf3h5 := l19Arr_imp h5.1.1
        try have hf4h5 := l19Arr_imp h5.1.2
        try have hf5h5 := l19Arr_imp h5.2.1
        try have hf6h5 := l19Arr_imp h5.2.2
        refine Af ?_
        refine Ad (Ah .n (.c rfl) rfl <| Lex.nil) ?_
        exact Au [] (.cons (.t rfl rfl) .nil) rfl trivial rfl
      · try simp only [tst] at h5
        try have hf0h5 := l19Arr_imp h5
        try have hf1h5 := l19Arr_imp h5.1
        try have hf2h5 := l19Arr_imp h5.2
        try have hf3h5 := l19Arr_imp h5.1.1
        try have hf4h5 := l19Arr_imp h5.1.2
        try have hf5h5 := l19Arr_imp h5.2.1
        try have hf6h5 := l19Arr_imp h5.2.2
        refine As ?_
        refine Af ?_
        refine Ad (Ah .n (.c rfl) rfl <| Lex.nil) ?_
        exact Au [] (.cons (.t rfl rfl) .nil) rfl trivial rfl

/-! ### spec_l19Safe -/
theorem c_spec_l19Safe (arrivals : List Int) (j : Int) (time : Int) (hp1 : 0 ≤ j ∧ j < arrivals.length) : Con Tryz.prog 75 [.sl 1 (arrivals.map (V.int .i64)), .int .i64 j, .int .i64 time] [] (.bool (Cu arrivals j time)) ([]) := by
  refine con_intro (out := fun r : Bool => ((.bool r : V), ([] : List (Nat × Option O)))) (r := (Cu arrivals j time)) Tryz.func75 rfl Tryz.ntmps75 rfl ?_
  refine Br (t := 0) rfl fun hl => ?_
  have l1 := hl; clear hl; simp only [List.length_map] at l1
  refine Af ?_
  refine Ad (Ah .n (.c rfl) rfl <| Lex.nil) ?_
  refine Af ?_
  refine Ad (Ag .n (.t rfl) rfl <| Ag .n (.t rfl) rfl <| A8 .n (.t rfl) (.t rfl) sl_27 (fun _ => by omega) rfl <| Ap .n (.t rfl) rfl ic_2 rfl <| AF .n (.t rfl) (.c rfl) rfl rfl <| Ag .n (.t rfl) rfl <| Ag (.f rfl rfl) (.t rfl) rfl <| Ag (.f rfl rfl) (.t rfl) rfl <| Ag (.f rfl rfl) (.t rfl) rfl <| A8 (.f rfl rfl) (.u rfl id) (.u rfl id) sl_27 (fun hg => by simp only [tst] at hg; omega) rfl <| Ap (.f rfl rfl) (.u rfl id) rfl ic_2 rfl <| AF (.f rfl rfl) (.u rfl id) (.u rfl id) rfl rfl <| q_or .n (.t rfl) (.u rfl id) rfl <| Ah .n (.t rfl) rfl <| Lex.nil) ?_
  exact Au [] (.cons (.t rfl rfl) .nil) rfl trivial rfl

/-! ### spec_l19Walk -/
theorem c_spec_l19Walk (a : Ar) (speed : Int) (hp1 : 10 ≤ speed ∧ speed ≤ 300) : Con Tryz.prog 76 [.rp [.str a.Id, .int .i64 a.From, .int .i64 a.To, .int .i64 a.Length, .int .i64 a.Section, .int .i64 a.Friction, .int .i64 a.Shock], .int .i64 speed] [] (.int .i64 (Bf a speed)) ([]) := by
  refine con_intro (out := fun r : Int => ((.int .i64 r : V), ([] : List (Nat × Option O)))) (r := (Bf a speed)) Tryz.func76 rfl Tryz.ntmps76 rfl ?_
  refine Af ?_
  refine Ad (Ah .n (.c rfl) rfl <| Lex.nil) ?_
  refine Af ?_
  refine Ad (Ag .n (.t rfl) rfl <| Av .n (.t rfl) rfl <| Az .n (.t rfl) fo_112_3 rfl <| Ap .n (.t rfl) rfl ic_2 rfl <| AF .n (.c rfl) (.t rfl) rfl rfl <| Ag .n (.t rfl) rfl <| AF .n (.t rfl) (.t rfl) rfl rfl <| AF .n (.t rfl) (.c rfl) rfl rfl <| Ag .n (.t rfl) rfl <| q_quo .n (.t rfl) (.t rfl) (fun hg => by omega) rfl <| Ah .n (.t rfl) rfl <| Lex.nil) ?_
  exact Au [] (.cons (.t rfl rfl) .nil) rfl trivial rfl

/-! ### spec_l19Go -/
theorem c_spec_l19Go (arrivals : List Int) (times : List Int) (from_ : Int) (to : Int) (n_ : Int) (hp1 : 0 ≤ from_ ∧ from_ < times.length) (hp2 : 0 ≤ to ∧ to < times.length) (hp3 : times.length = arrivals.length) : Con Tryz.prog 77 [.sl 1 (arrivals.map (V.int .i64)), .os 1 times.length, .int .i64 from_, .int .i64 to, .int .i64 n_] [(1, some (.row 2 1 (times.map (V.int .i64))))] (.tup []) ([(1, some (.row 2 1 ((Ci arrivals times from_ to n_).map (V.int .i64))))]) := by
  refine con_intro (out := fun r : (List Int) => ((.tup [] : V), ([(1, some (.row 2 1 (r.map (V.int .i64))))] : List (Nat × Option O)))) (r := (Ci arrivals times from_ to n_)) Tryz.func77 rfl Tryz.ntmps77 rfl ?_
  refine Br (t := 0) rfl fun hl => ?_
  have l1 := hl; clear hl; simp only [List.length_map] at l1
  refine run_factH (l := 1) rfl fun hl => ?_
  have l2 := hl; clear hl; simp only [List.length_map] at l2
  refine Af ?_
  refine Af ?_
  refine Ad (Ag .n (.t rfl) rfl <| Ag .n (.t rfl) rfl <| AZ .n (.t rfl) (.t rfl) sl_27 (fun _ => by omega) rfl <| A2 .n (.t rfl) rfl (fun _ => by omega) rfl rfl rfl ic_2 rfl <| AF .n (.t rfl) (.c rfl) rfl rfl <| Lex.nil) ?_
  refine Aq (.t rfl) rfl (fun h3 => ?_) (fun h3 => ?_)
  · try simp only [tst] at h3
    exact Au [] .nil rfl ⟨rfl, trivial⟩ rfl
  · try simp only [tst] at h3
    refine As ?_
    refine Af ?_
    refine Ad (Ag .n (.t rfl) rfl <| Ag .n (.t rfl) rfl <| AZ .n (.t rfl) (.t rfl) sl_27 (fun _ => by omega) rfl <| A2 .n (.t rfl) rfl (fun _ => by omega) rfl rfl rfl ic_2 rfl <| Ag .n (.t rfl) rfl <| AF .n (.t rfl) (.t rfl) rfl rfl <| Ah .n (.t rfl) rfl <| Lex.nil) ?_
    refine Af ?_
    refine Ad (Ag .n (.t rfl) rfl <| Ag .n (.t rfl) rfl <| Ag .n (.t rfl) rfl <| AJ (full := false) .n .f en_75 (.cons (.t rfl) (.cons (.t rfl) (.cons (.t rfl) .nil))) (.cons (.b (.a (.same rfl))) (.cons (.b (.a (.same rfl))) (.cons (.b (.a (.same rfl))) .nil))) (fun hg => c_spec_l19Safe arrivals to (IntKind.wrap .i64 ((at' times from_) + n_)) (by omega)) rfl (fun h => Bool.noConfusion h) rfl <| Ag .n (.t rfl) rfl <| Ag (.t rfl rfl) (.t rfl) rfl <| Ag (.t rfl rfl) (.t rfl) rfl <| AZ (.t rfl rfl) (.u rfl id) (.u rfl id) sl_27 (fun hg => by simp only [tst] at hg; omega) rfl <| A2 (.t rfl rfl) (.u rfl id) rfl (fun hg => by simp only [tst] at hg; omega) rfl rfl rfl ic_2 rfl <| AF (.t rfl rfl) (.u rfl id) (.c rfl) rfl rfl <| Ag (.t rfl rfl) (.u rfl id) rfl <| Ag (.f rfl rfl) (.t rfl) rfl <| Ag (.f rfl rfl) (.t rfl) rfl <| Ag (.f rfl rfl) (.t rfl) rfl <| AZ (.f rfl rfl) (.u rfl id) (.u rfl id) sl_27 (fun hg => by simp only [tst] at hg; omega) rfl <| A2 (.f rfl rfl) (.u rfl id) rfl (fun hg => by simp only [tst] at hg; omega) rfl rfl rfl ic_2 rfl <| AF (.f rfl rfl) (.u rfl id) (.u rfl id) rfl rfl <| q_or (.t rfl rfl) (.u rfl id) (.u rfl id) rfl <| B4 .n (.t rfl) (.u rfl id) rfl <| Lex.nil) ?_
    refine Aq (.t rfl) rfl (fun h4 => ?_) (fun h4 => ?_)
    · try simp only [tst] at h4
      refine Ad (Ag .n (.t rfl) rfl <| Ag .n (.t rfl) rfl <| Ag .n (.t rfl) rfl <| AZ .n (.t rfl) (.t rfl) sl_27 (fun _ => by omega) rfl <| B0 (IntKind.wrap .i64 ((at' times from_) + n_)) .n rfl (.t rfl) (.t rfl) rfl ts_2 (by omega) rfl rfl <| Lex.nil) ?_
      exact run_end [] .nil rfl ⟨rfl, trivial⟩ rfl
    · try simp only [tst] at h4
      refine As ?_
      exact run_end [] .nil rfl ⟨rfl, trivial⟩ rfl

/-! ### spec_l19Times -/
theorem c_spec_l19Times (m_ : AB) (arrivals : List Int) (blocked : Int) (c_ : Bu) (start : Int) (hp1 : MineIn m_) (hp2 : (arrivals.length : Int) = m_.Junctions) (hp3 : CrewIn m_ c_) (hp4 : 0 ≤ start ∧ start ≤ 36000) : Con Tryz.prog 33 [.rp [.int .i64 m_.Junctions, .sl 7 (m_.Airways.map Ar.v)], .sl 1 (arrivals.map (V.int .i64)), .int .i64 blocked, .rp [.str c_.Id, .int .i64 c_.Junction, .int .i64 c_.Speed], .int .i64 start] [] (.os 100 (AX m_ arrivals blocked c_ start).length) ([(100, some (.row 2 1 ((AX m_ arrivals blocked c_ start).map (V.int .i64))))]) := by
  refine con_intro (out := fun r : (List Int) => ((.os 100 r.length : V), ([(100, some (.row 2 1 (r.map (V.int .i64))))] : List (Nat × Option O)))) (r := (AX m_ arrivals blocked c_ start)) Tryz.func33 rfl Tryz.ntmps33 rfl ?_
  have hC1 := hp3.1
  have hC2 := hp3.2
  have hJ1 := hp1.1
  have hA1 := hp1.2.1
  refine BH (t := 0) 1 rfl rfl fun hl => ?_
  have l1 := hl; clear hl; simp only [List.length_map] at l1
  refine Br (t := 1) rfl fun hl => ?_
  have l2 := hl; clear hl; simp only [List.length_map] at l2
  refine Af ?_
  refine Ad (Ah .n (.c rfl) rfl <| Lex.nil) ?_
  refine Af ?_
  refine Ad (AV K_5 (f := V.int .i64) (l := 200) .n rfl rfl .nil rfl si_27 zv_2 rfl rfl rfl <| Ah .n (.t rfl) rfl <| Lex.nil) ?_
  refine Af ?_
  refine Af ?_
  refine Ad (Ah .n (.c rfl) rfl <| Lex.nil) ?_
  refine Aw ?_
  refine Bp (CF m_ arrivals blocked c_ start) _ _ _ rfl (fun (x1 : (List Int) × Int) => 0 ≤ x1.2 ∧ x1.2 ≤ m_.Junctions ∧ (x1.1.length : Int) + 0 ≤ x1.2 + (K_5.length : Int) ∧ (x1.1.length : Int) = x1.2) (fun x1 => 0 ≤ x1.2 ∧ x1.2 ≤ m_.Junctions ∧ (x1.1.length : Int) + 0 ≤ x1.2 + (K_5.length : Int) ∧ (x1.1.length : Int) = x1.2 ∧ m_.Junctions ≤ x1.2) (fun x1 => (m_.Junctions - x1.2 : Int).toNat) (fun x1 => ⟨[(0, some (true, .rp [.int .i64 m_.Junctions, .sl 7 (m_.Airways.map Ar.v)])), (1, some (true, .sl 1 (arrivals.map (V.int .i64)))), (2, some (true, .int .i64 blocked)), (3, some (true, .rp [.str c_.Id, .int .i64 c_.Junction, .int .i64 c_.Speed])), (4, some (true, .int .i64 start)), (11, some (true, .os 200 x1.1.length)), (12, some (true, .int .i64 x1.2))], [(200, some (.row 2 1 (x1.1.map (V.int .i64))))]⟩) (fun x1 => ⟨[(0, some (true, .rp [.int .i64 m_.Junctions, .sl 7 (m_.Airways.map Ar.v)])), (1, some (true, .sl 1 (arrivals.map (V.int .i64)))), (2, some (true, .int .i64 blocked)), (3, some (true, .rp [.str c_.Id, .int .i64 c_.Junction, .int .i64 c_.Speed])), (4, some (true, .int .i64 start)), (11, some (true, .os 200 x1.1.length))], [(200, some (.row 2 1 (x1.1.map (V.int .i64))))]⟩) ⟨by omega, by omega, by (simp only [lens] at * <;> omega), by (simp only [lens] at * <;> omega)⟩ (by omega) (sub_of [] ⟨rfl, rfl, rfl, rfl, rfl, rfl, rfl, trivial⟩ ⟨rfl, trivial⟩ rfl) ?_ ?_
  · intro x1 i6
    obtain ⟨e31, e32, e33, e34, e35⟩ := i6
    try dsimp only at *
    refine Af ?_
    refine Af ?_
    refine Ad (Ag .n (.t rfl) rfl <| Ag .n (.t rfl) rfl <| Av .n (.t rfl) rfl <| Az .n (.t rfl) fo_37_1 rfl <| Ap .n (.t rfl) rfl ic_2 rfl <| Ag .n (.t rfl) rfl <| AJ (full := false) .n .f en_75 (.cons (.t rfl) (.cons (.t rfl) (.cons (.t rfl) .nil))) (.cons (.b (.a (.same rfl))) (.cons (.b (.a (.same rfl))) (.cons (.b (.a (.same rfl))) .nil))) (fun hg => c_spec_l19Safe arrivals c_.Junction start (by omega)) rfl (fun h => Bool.noConfusion h) rfl <| Cg .n (.t rfl) rfl <| Lex.nil) ?_
    refine Aq (.t rfl) rfl (fun h7 => ?_) (fun h7 => ?_)
    · try simp only [tst] at h7
      refine Af ?_
      refine Ad (Ag .n (.t rfl) rfl <| Ah .n (.t rfl) rfl <| Lex.nil) ?_
      exact Au [(100, 200)] (.cons (.t rfl rfl) .nil) (by first | rfl | (simp only [put_len]; rfl)) ⟨rfl, trivial⟩ rfl
    · try simp only [tst] at h7
      refine As ?_
      refine Af ?_
      refine Ad (Ag .n (.t rfl) rfl <| Ag .n (.t rfl) rfl <| Av .n (.t rfl) rfl <| Az .n (.t rfl) fo_37_1 rfl <| Ap .n (.t rfl) rfl ic_2 rfl <| Ag .n (.t rfl) rfl <| AZ .n (.t rfl) (.t rfl) sl_27 (fun _ => by omega) rfl <| B0 start .n rfl (.t rfl) (.t rfl) rfl ts_2 (by omega) rfl rfl <| Lex.nil) ?_
      refine Af ?_
      refine Af ?_
      refine Ad (Ah .n (.c rfl) rfl <| Lex.nil) ?_
      refine Aw ?_
      refine Bp (Ck m_ arrivals blocked c_ start x1) _ _ _ rfl (fun (x2 : (List Int) × Int) => 0 ≤ x2.2 ∧ x2.2 ≤ m_.Junctions ∧ (x2.1.length : Int) = m_.Junctions) (fun x2 => 0 ≤ x2.2 ∧ x2.2 ≤ m_.Junctions ∧ (x2.1.length : Int) = m_.Junctions ∧ m_.Junctions ≤ x2.2) (fun x2 => (m_.Junctions - x2.2 : Int).toNat) (fun x2 => ⟨[(0, some (true, .rp [.int .i64 m_.Junctions, .sl 7 (m_.Airways.map Ar.v)])), (1, some (true, .sl 1 (arrivals.map (V.int .i64)))), (2, some (true, .int .i64 blocked)), (3, some (true, .rp [.str c_.Id, .int .i64 c_.Junction, .int .i64 c_.Speed])), (11, some (true, .os 200 x2.1.length)), (13, some (true, .int .i64 x2.2))], [(200, some (.row 2 1 (x2.1.map (V.int .i64))))]⟩) (fun x2 => ⟨[(11, some (true, .os 200 x2.1.length))], [(200, some (.row 2 1 (x2.1.map (V.int .i64))))]⟩) ⟨by omega, by omega, by (simp only [lens] at * <;> omega)⟩ (by omega) (sub_of [] ⟨rfl, rfl, rfl, rfl, os_len rfl (by first | (simp only [put_len]; done) | (first | omega | assumption | (simp only [lens] at * <;> omega) | (((simp only [go_len, put_len] at * <;> omega)); done) | (((have hw0 := hp1.at (i := x3.1) (by omega); unfold AirIn at hw0; (try simp only [go_len] at *); omega)); done))), rfl, trivial⟩ ⟨rfl, trivial⟩ rfl) ?_ ?_
      · intro x2 i23
        obtain ⟨e24, e25, e26, e27⟩ := i23
        try dsimp only at *
        refine Af ?_
        refine Ad (Ag .n (.t rfl) rfl <| Ah .n (.t rfl) rfl <| Lex.nil) ?_
        exact Au [(100, 200)] (.cons (.t rfl rfl) .nil) (by first | rfl | (simp only [put_len]; rfl)) ⟨rfl, trivial⟩ rfl
      · intro rec2 k2 hk8 x2 i9
        obtain ⟨e28, e29, e30⟩ := i9
        try dsimp only at *
        refine Af ?_
        refine Af ?_
        refine Ad (Ag .n (.t rfl) rfl <| Ag .n (.t rfl) rfl <| Av .n (.t rfl) rfl <| Az .n (.t rfl) fo_26_0 rfl <| Ap .n (.t rfl) rfl ic_2 rfl <| AF .n (.t rfl) (.t rfl) rfl rfl <| Lex.nil) ?_
        refine Aq (.t rfl) rfl (fun h10 => ?_) (fun h10 => ?_)
        · try simp only [tst] at h10
          refine As ?_
          refine Af ?_
          refine Aw ?_
          refine Af ?_
          refine Ad (Ah .n (.c rfl) rfl <| Lex.nil) ?_
          refine Aw ?_
          refine Bp (CE m_ arrivals blocked c_ start x1 rec2 k2 x2) _ _ _ rfl (fun (x3 : Int × (List Int)) => 0 ≤ x3.1 ∧ x3.1 ≤ (m_.Airways.length : Int) ∧ (x3.2.length : Int) = m_.Junctions) (fun x3 => 0 ≤ x3.1 ∧ x3.1 ≤ (m_.Airways.length : Int) ∧ (x3.2.length : Int) = m_.Junctions ∧ (m_.Airways.length : Int) ≤ x3.1) (fun x3 => ((m_.Airways.length : Int) - x3.1 : Int).toNat) (fun x3 => ⟨[(0, some (true, .rp [.int .i64 m_.Junctions, .sl 7 (m_.Airways.map Ar.v)])), (1, some (true, .sl 1 (arrivals.map (V.int .i64)))), (2, some (true, .int .i64 blocked)), (3, some (true, .rp [.str c_.Id, .int .i64 c_.Junction, .int .i64 c_.Speed])), (11, some (true, .os 200 x3.2.length)), (13, some (true, .int .i64 x2.2)), (14, some (true, .int .i64 x3.1))], [(200, some (.row 2 1 (x3.2.map (V.int .i64))))]⟩) (fun x3 => ⟨[(0, some (true, .rp [.int .i64 m_.Junctions, .sl 7 (m_.Airways.map Ar.v)])), (1, some (true, .sl 1 (arrivals.map (V.int .i64)))), (2, some (true, .int .i64 blocked)), (3, some (true, .rp [.str c_.Id, .int .i64 c_.Junction, .int .i64 c_.Speed])), (11, some (true, .os 200 x3.2.length)), (13, some (true, .int .i64 x2.2))], [(200, some (.row 2 1 (x3.2.map (V.int .i64))))]⟩) ⟨by omega, by omega, by omega⟩ (by omega) (sub_of [] ⟨rfl, rfl, rfl, rfl, rfl, rfl, rfl, trivial⟩ ⟨rfl, trivial⟩ rfl) ?_ ?_
          · intro x3 i15
            obtain ⟨e16, e17, e18, e19⟩ := i15
            try dsimp only at *
            refine AK ?_
            refine Ad (Ag .n (.t rfl) rfl <| BM .n (.t rfl) (.c rfl) (fun _ => by omega) rfl <| Ah .n (.t rfl) rfl <| Lex.nil) ?_
            exact A5 (x3.2, x2.2 + 1) ⟨by omega, by omega, by omega⟩ (by omega) (sub_of [] ⟨rfl, rfl, rfl, rfl, rfl, rfl, trivial⟩ ⟨rfl, trivial⟩ rfl)
          · intro rec3 k3 hk11 x3 i12
            obtain ⟨e20, e21, e22⟩ := i12
            try dsimp only at *
            refine Af ?_
            refine Af ?_
            refine Ad (Ag .n (.t rfl) rfl <| Ag .n (.t rfl) rfl <| Av .n (.t rfl) rfl <| Az .n (.t rfl) fo_26_1 rfl <| Ap .n (.t rfl) rfl ic_24 rfl <| BS .n (.t rfl) rfl len_map ss_24 rfl <| AF .n (.t rfl) (.t rfl) rfl rfl <| Lex.nil) ?_
            refine Aq (.t rfl) rfl (fun h13 => ?_) (fun h13 => ?_)
            · try simp only [tst] at h13
              refine As ?_
              refine Af ?_
              refine Aw ?_
              refine Af ?_
              refine Af ?_
              refine Ad (Ag .n (.t rfl) rfl <| Ag .n (.t rfl) rfl <| AF .n (.t rfl) (.t rfl) rfl rfl <| Lex.nil) ?_
              refine Aq (.t rfl) rfl (fun h14 => ?_) (fun h14 => ?_)
              · try simp only [tst] at h14
                refine Bb rfl ?_
                refine Ad (Ag .n (.t rfl) rfl <| BM .n (.t rfl) (.c rfl) (fun _ => by omega) rfl <| Ah .n (.t rfl) rfl <| Lex.nil) ?_
                exact A5 (x3.1 + 1, x3.2) ⟨by omega, by omega, by omega⟩ (by omega) (sub_of [] ⟨rfl, rfl, rfl, rfl, rfl, rfl, rfl, trivial⟩ ⟨rfl, trivial⟩ rfl)
              · try simp only [tst] at h14
                refine As ?_
                refine Af ?_
                refine Ad (Ag .n (.t rfl) rfl <| Av .n (.t rfl) rfl <| Az .n (.t rfl) fo_26_1 rfl <| Ap .n (.t rfl) rfl ic_24 rfl <| Ag .n (.t rfl) rfl <| A8 .n (.t rfl) (.t rfl) sl_24 (fun _ => by omega) rfl <| Ah .n (.t rfl) rfl <| Lex.nil) ?_
                refine Af ?_
                refine Ad (Ag .n (.t rfl) rfl <| Ag .n (.t rfl) rfl <| Av .n (.t rfl) rfl <| Az .n (.t rfl) fo_37_2 rfl <| Ap .n (.t rfl) rfl ic_2 rfl <| AJ (full := false) .n .f en_76 (.cons (.t rfl) (.cons (.t rfl) .nil)) (.cons (.b (.a (.same rfl))) (.cons (.b (.a (.same rfl))) .nil)) (fun hg => c_spec_l19Walk (at' m_.Airways x3.1) c_.Speed (by omega)) rfl (fun h => Bool.noConfusion h) rfl <| Ah .n (.t rfl) rfl <| Lex.nil) ?_
                refine Af ?_
                refine Bk fmo (Ag .n (.t rfl) rfl <| Ag .n (.t rfl) rfl <| Ag .n (.t rfl) rfl <| Av .n (.t rfl) rfl <| Az .n (.t rfl) fo_112_1 rfl <| Ap .n (.t rfl) rfl ic_2 rfl <| Ag .n (.t rfl) rfl <| Av .n (.t rfl) rfl <| Az .n (.t rfl) fo_112_2 rfl <| Ap .n (.t rfl) rfl ic_2 rfl <| Ag .n (.t rfl) rfl <| AW (full := false) [(1, 200)] [] .n rfl .f en_77 (.cons (.t rfl) (.cons (.t rfl) (.cons (.t rfl) (.cons (.t rfl) (.cons (.t rfl) .nil))))) (.cons (.b (.a (.same rfl))) (.cons (.b (muts_len rfl (by first | rfl | exact go_len _ _ _ _ _))) (.cons (.b (.a (.same rfl))) (.cons (.b (.a (.same rfl))) (.cons (.b (.a (.same rfl))) .nil))))) (c_spec_l19Go arrivals x3.2 (at' m_.Airways x3.1).From (at' m_.Airways x3.1).To (Bf (at' m_.Airways x3.1) c_.Speed) (by ((have hw0 := hp1.at (i := x3.1) (by omega); unfold AirIn at hw0; (try simp only [go_len] at *); omega))) (by ((have hw0 := hp1.at (i := x3.1) (by omega); unfold AirIn at hw0; (try simp only [go_len] at *); omega))) (by omega)) ⟨rfl, trivial⟩ rfl rfl (fun h => Bool.noConfusion h) (fun h => Bool.noConfusion h) rfl <| Lex.nil) (by kernel_rfl) ?_
                refine Bk fmo (Ag .n (.t rfl) rfl <| Ag .n (.t rfl) rfl <| Ag .n (.t rfl) rfl <| Av .n (.t rfl) rfl <| Az .n (.t rfl) fo_112_2 rfl <| Ap .n (.t rfl) rfl ic_2 rfl <| Ag .n (.t rfl) rfl <| Av .n (.t rfl) rfl <| Az .n (.t rfl) fo_112_1 rfl <| Ap .n (.t rfl) rfl ic_2 rfl <| Ag .n (.t rfl) rfl <| AW (full := false) [(1, 200)] [] .n rfl .f en_77 (.cons (.t rfl) (.cons (.t rfl) (.cons (.t rfl) (.cons (.t rfl) (.cons (.t rfl) .nil))))) (.cons (.b (.a (.same rfl))) (.cons (.b (muts_len rfl (by first | rfl | exact go_len _ _ _ _ _))) (.cons (.b (.a (.same rfl))) (.cons (.b (.a (.same rfl))) (.cons (.b (.a (.same rfl))) .nil))))) (c_spec_l19Go arrivals (Ci arrivals x3.2 (at' m_.Airways x3.1).From (at' m_.Airways x3.1).To (Bf (at' m_.Airways x3.1) c_.Speed)) (at' m_.Airways x3.1).To (at' m_.Airways x3.1).From (Bf (at' m_.Airways x3.1) c_.Speed) (by ((have hw0 := hp1.at (i := x3.1) (by omega); unfold AirIn at hw0; (try simp only [go_len] at *); omega))) (by ((have hw0 := hp1.at (i := x3.1) (by omega); unfold AirIn at hw0; (try simp only [go_len] at *); omega))) (by ((simp only [go_len, put_len] at * <;> omega)))) ⟨rfl, trivial⟩ rfl rfl (fun h => Bool.noConfusion h) (fun h => Bool.noConfusion h) rfl <| Lex.nil) (by kernel_rfl) ?_
                refine AK ?_
                refine Ad (Ag .n (.t rfl) rfl <| BM .n (.t rfl) (.c rfl) (fun _ => by omega) rfl <| Ah .n (.t rfl) rfl <| Lex.nil) ?_
                exact A5 (x3.1 + 1, Ci arrivals (Ci arrivals x3.2 (at' m_.Airways x3.1).From (at' m_.Airways x3.1).To (Bf (at' m_.Airways x3.1) c_.Speed)) (at' m_.Airways x3.1).To (at' m_.Airways x3.1).From (Bf (at' m_.Airways x3.1) c_.Speed)) ⟨by omega, by omega, by ((simp only [go_len, put_len] at * <;> omega))⟩ (by omega) (sub_of [] ⟨rfl, rfl, rfl, rfl, os_len rfl (by first | (simp only [put_len]; done) | (((simp only [go_len, put_len] at * <;> omega)))), rfl, rfl, trivial⟩ ⟨rfl, trivial⟩ rfl)
            · try simp only [tst] at h13
              refine Bb rfl ?_
              exact AY hk11 (x3.1, x3.2) ⟨by omega, by omega, by omega, by omega⟩ (sub_of [] ⟨rfl, rfl, rfl, rfl, rfl, rfl, trivial⟩ ⟨rfl, trivial⟩ rfl)
        · try simp only [tst] at h10
          refine Bb rfl ?_
          exact AY hk8 (x2.1, x2.2) ⟨by omega, by omega, by omega, by omega⟩ (sub_of [] ⟨rfl, trivial⟩ ⟨rfl, trivial⟩ rfl)
  · intro rec1 k1 hk3 x1 i4
    obtain ⟨e36, e37, e38, e39⟩ := i4
    try dsimp only at *
    refine Af ?_
    refine Af ?_
    refine Ad (Ag .n (.t rfl) rfl <| Ag .n (.t rfl) rfl <| Av .n (.t rfl) rfl <| Az .n (.t rfl) fo_26_0 rfl <| Ap .n (.t rfl) rfl ic_2 rfl <| AF .n (.t rfl) (.t rfl) rfl rfl <| Lex.nil) ?_
    refine Aq (.t rfl) rfl (fun h5 => ?_) (fun h5 => ?_)
    · try simp only [tst] at h5
      refine As ?_
      refine Af ?_
      refine Aw ?_
      refine Ad (Ag .n (.t rfl) rfl <| AV K_6 (f := V.int .i64) (l := 201) .n rfl rfl (.cons (.c rfl) .nil) rfl si_27 zv_2 rfl rfl rfl <| CX (xs := x1.1) (ys := K_6) (f := V.int .i64) (l := 202) .n rfl (.ow (.t rfl) rfl (take_all (by simp only [len_map, put_len] <;> rfl)) (by simp only [len_map, put_len] <;> rfl)) (.ow (.t rfl) rfl (take_all (by simp only [len_map, put_len] <;> rfl)) (by simp only [len_map, put_len] <;> rfl)) si_27 zv_2 rfl (by (simp only [lens] at * <;> omega)) rfl rfl <| Ah .n (.t rfl) rfl <| Lex.nil) ?_
      refine AK ?_
      refine Ad (Ag .n (.t rfl) rfl <| BM .n (.t rfl) (.c rfl) (fun _ => by omega) rfl <| Ah .n (.t rfl) rfl <| Lex.nil) ?_
      exact A5 (x1.1 ++ K_6, x1.2 + 1) ⟨by omega, by omega, by (simp only [lens] at * <;> omega), by (simp only [lens] at * <;> omega)⟩ (by omega) (sub_of [(200, 202)] ⟨rfl, rfl, rfl, rfl, rfl, rfl, rfl, trivial⟩ ⟨rfl, trivial⟩ rfl)
    · try simp only [tst] at h5
      refine Bb rfl ?_
      exact AY hk3 (x1.1, x1.2) ⟨by omega, by omega, by omega, by omega, by omega⟩ (sub_of [] ⟨rfl, rfl, rfl, rfl, rfl, rfl, trivial⟩ ⟨rfl, trivial⟩ rfl)

/-! ### spec_EscapeTimes -/
theorem c_spec_EscapeTimes (m_ : AB) (arrivals : List Int) (blocked : Int) (c_ : Bu) (start : Int) : Con Tryz.prog 8 [.st [.int .i64 m_.Junctions, .sl 7 (m_.Airways.map Ar.v)], .sl 1 (arrivals.map (V.int .i64)), .int .i64 blocked, .st [.str c_.Id, .int .i64 c_.Junction, .int .i64 c_.Speed], .int .i64 start] [] (.tup [.os 100 (Bh m_ arrivals blocked c_ start).1.length, .int .i64 (Bh m_ arrivals blocked c_ start).2]) ([(100, some (.row 2 1 ((Bh m_ arrivals blocked c_ start).1.map (V.int .i64))))]) := by
  refine con_intro (out := fun r : (List Int) × Int => ((.tup [.os 100 r.1.length, .int .i64 r.2] : V), ([(100, some (.row 2 1 (r.1.map (V.int .i64))))] : List (Nat × Option O)))) (r := (Bh m_ arrivals blocked c_ start)) Tryz.func8 rfl Tryz.ntmps8 rfl ?_
  refine Ch (t := 0) 1 rfl rfl fun hl => ?_
  have l1 := hl; clear hl; simp only [List.length_map] at l1
  refine Br (t := 1) rfl fun hl => ?_
  have l2 := hl; clear hl; simp only [List.length_map] at l2
  refine Af ?_
  refine Ad (Du (l := 200) .n rfl (.t rfl) rfl rfl rfl rfl <| Du (l := 201) .n rfl (.t rfl) rfl rfl rfl rfl <| Ah .n (.c rfl) rfl <| Ah .n (.c rfl) rfl <| Lex.nil) ?_
  refine Af ?_
  refine Ad (Ag .n (.t rfl) rfl <| Ag .n (.t rfl) rfl <| Ag .n (.t rfl) rfl <| AJ (full := true) .n .f en_32 (.cons (.t rfl) (.cons (.t rfl) (.cons (.t rfl) (.cons (.t rfl) (.cons (.t rfl) .nil))))) (.cons (.b (.ptr rfl rfl (.inr rfl) rfl rfl (.cons (.same rfl) (.cons (.same rfl) .nil)))) (.cons (.b (.a (.same rfl))) (.cons (.b (.a (.same rfl))) (.cons (.b (.ptr rfl rfl (.inr rfl) rfl rfl (.cons (.same rfl) (.cons (.same rfl) (.cons (.same rfl) .nil))))) (.cons (.b (.a (.same rfl))) .nil))))) (fun hg => c_spec_l19Ask m_ arrivals blocked c_ start) rfl (fun _ => rfl) rfl <| Ah .n (.t rfl) rfl <| Lex.nil) ?_
  refine Af ?_
  refine Af ?_
  refine Ad (Ag .n (.t rfl) rfl <| AF .n (.t rfl) (.c rfl) rfl rfl <| Lex.nil) ?_
  refine Aq (.t rfl) rfl (fun h3 => ?_) (fun h3 => ?_)
  · try simp only [tst] at h3
    try have hf0h3 := l19Ask_impM h3
    try have hf1h3 := l19Ask_impM h3.1
    try have hf2h3 := l19Ask_impM h3.2
    try have hf3h3 := l19Ask_impM h3.1.1
    try have hf4h3 := l19Ask_impM h3.1.2
    try have hf5h3 := l19Ask_impM h3.2.1
    try have hf6h3 := l19Ask_impM h3.2.2
    try have hf7h3 := l19Ask_impC h3
    try have hf8h3 := l19Ask_impC h3.1
    try have hf9h3 := l19Ask_impC h3.2
    try have hf10h3 := l19Ask_impC h3.1.1
    try have hf11h3 := l19Ask_impC h3.1.2
    try have hf12h3 := l19Ask_impC h3.2.1
    try have hf13h3 := l19Ask_impC h3.2.2
    try have hf14h3 := l19Ask_impS h3
    try have hf15h3 := l19Ask_impS h3.1
    try have hf16h3 := l19Ask_impS h3.2
    try have hf17h3 := l19Ask_impS h3.1.1
    try have hf18h3 := l19Ask_impS h3.1.2
    try have hf19h3 := l19Ask_impS h3.2.1
    try have hf20h3 := l19Ask_impS h3.2.2
    try have hf21h3 := l19Ask_impL h3
    try have hf22h3 := l19Ask_impL h3.1
    try have hf23h3 := l19Ask_impL h3.2
    try have hf24h3 := l19Ask_impL h3.1.1
    try have hf25h3 := l19Ask_impL h3.1.2
    try have hf26h3 := l19Ask_impL h3.2.1
    try have hf27h3 := l19Ask_impL h3.2.2
    refine Af ?_
    refine Ad (Ag .n (.t rfl) rfl <| Ah .n (.c rfl) rfl <| Ah .n (.t rfl) rfl <| Lex.nil) ?_
    refine C1 (sub_adopt (t := 10) (l := 202) (el := 2) (sz := 1) rfl rfl) ?_
    exact Au [(100, 202)] (.cons (.t rfl rfl) (.cons (.t rfl rfl) .nil)) (by first | rfl | (simp only [put_len]; rfl)) ⟨rfl, trivial⟩ rfl
  · try simp only [tst] at h3
    try have hf0h3 := l19Ask_impM h3
    try have hf1h3 := l19Ask_impM h3.1
    try have hf2h3 := l19Ask_impM h3.2
    try have hf3h3 := l19Ask_impM h3.1.1
    try have hf4h3 := l19Ask_impM h3.1.2
    try have hf5h3 := l19Ask_impM h3.2.1
    try have hf6h3 := l19Ask_impM h3.2.2
    try have hf7h3 := l19Ask_impC h3
    try have hf8h3 := l19Ask_impC h3.1
    try have hf9h3 := l19Ask_impC h3.2
    try have hf10h3 := l19Ask_impC h3.1.1
    try have hf11h3 := l19Ask_impC h3.1.2
    try have hf12h3 := l19Ask_impC h3.2.1
    try have hf13h3 := l19Ask_impC h3.2.2
    try have hf14h3 := l19Ask_impS h3
    try have hf15h3 := l19Ask_impS h3.1
    try have hf16h3 := l19Ask_impS h3.2
    try have hf17h3 := l19Ask_impS h3.1.1
    try have hf18h3 := l19Ask_impS h3.1.2
    try have hf19h3 := l19Ask_impS h3.2.1
    try have hf20h3 := l19Ask_impS h3.2.2
    try have hf21h3 := l19Ask_impL h3
    try have hf22h3 := l19Ask_impL h3.1
    try have hf23h3 := l19Ask_impL h3.2
    try have hf24h3 := l19Ask_impL h3.1.1
    try have hf25h3 := l19Ask_impL h3.1.2
    try have hf26h3 := l19Ask_impL h3.2.1
    try have hf27h3 := l19Ask_impL h3.2.2
    refine As ?_
    refine Af ?_
    refine Ad (Ag .n (.t rfl) rfl <| Ag .n (.t rfl) rfl <| Ag .n (.t rfl) rfl <| AW (full := true) [] [(100, 203)] .n rfl .f en_33 (.cons (.t rfl) (.cons (.t rfl) (.cons (.t rfl) (.cons (.t rfl) (.cons (.t rfl) .nil))))) (.cons (.b (.ptr rfl rfl (.inr rfl) rfl rfl (.cons (.same rfl) (.cons (.same rfl) .nil)))) (.cons (.b (.a (.same rfl))) (.cons (.b (.a (.same rfl))) (.cons (.b (.ptr rfl rfl (.inr rfl) rfl rfl (.cons (.same rfl) (.cons (.same rfl) (.cons (.same rfl) .nil))))) (.cons (.b (.a (.same rfl))) .nil))))) (c_spec_l19Times m_ arrivals blocked c_ start (by omega) (by omega) (by omega) (by omega)) trivial rfl rfl (fun _ => rfl) (fun _ => (hr_row (fun _ => rfl) hr_nil)) rfl <| Ah .n (.t rfl) rfl <| Ah .n (.c rfl) rfl <| Lex.nil) ?_
    exact Au [(100, 203)] (.cons (.t rfl rfl) (.cons (.t rfl rfl) .nil)) (by first | rfl | (simp only [put_len]; rfl)) ⟨rfl, trivial⟩ rfl

/-! ### spec_l00From -/
theorem c_spec_l00From (code : List Int) : Con Tryz.prog 19 [.sl 1 (code.map (V.int .u8))] [] (.op 100 0 0 0) ([(100, some (.box 100 [.sl 1 ((AU code).code.map (V.int .u8)), .int .i64 (AU code).at_, .int .u64 (AU code).seed]))]) := by
  refine con_intro (out := fun r : Ak => ((.op 100 0 0 0 : V), ([(100, some (.box 100 [.sl 1 (r.code.map (V.int .u8)), .int .i64 r.at_, .int .u64 r.seed]))] : List (Nat × Option O)))) (r := (AU code)) Tryz.func19 rfl Tryz.ntmps19 rfl ?_
  refine Br (t := 0) rfl fun hl => ?_
  have l1 := hl; clear hl; simp only [List.length_map] at l1
  refine Af ?_
  refine Ad (q_unread .n rfl rfl <| Lex.nil) ?_
  refine Af ?_
  refine Ad (Ag .n (.t rfl) rfl <| Dv (us := [.sl 1 (code.map (V.int .u8)), .int .i64 0, .int .u64 0]) .n (.cons (.t rfl) .nil) zv_100 pl_100 rfl rfl rfl <| Du (l := 200) .n rfl (.t rfl) rfl rfl rfl rfl <| Ah .n (.t rfl) rfl <| Lex.nil) ?_
  exact Au [(100, 200)] (.cons (.t rfl rfl) .nil) rfl ⟨rfl, trivial⟩ rfl

/-! ### spec_l00Src_next -/
theorem c_spec_l00Src_next (s_ : Ak) (hp1 : Lim s_ 1000000) : Con Tryz.prog 57 [.op 0 0 0 0] [(0, some (.box 100 [.sl 1 (s_.code.map (V.int .u8)), .int .i64 s_.at_, .int .u64 s_.seed]))] (.int .i64 (Bc s_).1) ([(0, some (.box 100 [.sl 1 ((Bc s_).2.code.map (V.int .u8)), .int .i64 (Bc s_).2.at_, .int .u64 (Bc s_).2.seed]))]) := by
  refine con_intro (out := fun r : Int × Ak => ((.int .i64 r.1 : V), ([(0, some (.box 100 [.sl 1 (r.2.code.map (V.int .u8)), .int .i64 r.2.at_, .int .u64 r.2.seed]))] : List (Nat × Option O)))) (r := (Bc s_)) Tryz.func57 rfl Tryz.ntmps57 rfl ?_
  have hL := hp1.2 (by decide)
  refine Af ?_
  refine Ad (Ah .n (.c rfl) rfl <| Lex.nil) ?_
  refine Af ?_
  refine Ad (Ah .n (.c rfl) rfl <| Lex.nil) ?_
  refine Af ?_
  refine Af ?_
  refine Bk fmo (Ag .n (.t rfl) rfl <| BD .n (.t rfl) rfl <| AE .n (.t rfl) fo_100_1 rfl <| AP .n (.t rfl) rfl (.inr rfl) (fun _ => rfl) rfl ic_3 rfl <| Ag .n (.t rfl) rfl <| BD .n (.t rfl) rfl <| AE .n (.t rfl) fo_100_0 rfl <| AP .n (.t rfl) rfl (.inr rfl) (fun _ => rfl) rfl ic_22 rfl <| BS .n (.t rfl) rfl len_map ss_22 rfl <| AF .n (.t rfl) (.t rfl) rfl rfl <| Lex.nil) (by kernel_rfl) ?_
  refine Br (t := 11) rfl fun hl => ?_
  have l1 := hl; clear hl; simp only [List.length_map] at l1
  refine Dn _ _ rfl (fun v2 : Int => True) (fun v2 => ⟨[(0, some (true, .op 0 0 0 0)), (3, some (true, .int .i64 v2))], [(0, some (.box 100 [.sl 1 (s_.code.map (V.int .u8)), .int .i64 s_.at_, .int .u64 s_.seed]))]⟩) (fun v2 _ => ?_) (fun j3 hj4 => ?_)
  · refine Af ?_
    refine Ad (Ag .n (.t rfl) rfl <| BD .n (.t rfl) rfl <| AE .n (.t rfl) fo_100_1 rfl <| AP .n (.t rfl) rfl (.inr rfl) (fun _ => rfl) rfl ic_3 rfl <| AF .n (.t rfl) (.c rfl) rfl rfl <| BD .n (.t rfl) rfl <| AE .n (.t rfl) fo_100_1 rfl <| AG [.sl 1 (s_.code.map (V.int .u8)), .int .i64 (IntKind.wrap .i64 (s_.at_ + 1)), .int .u64 s_.seed] .n rfl (.t rfl) (.t rfl) rfl ts_3 rfl rfl <| Lex.nil) ?_
    refine Af ?_
    refine Ad (Ag .n (.t rfl) rfl <| Ag .n (.t rfl) rfl <| BD .n (.t rfl) rfl <| AE .n (.t rfl) fo_100_2 rfl <| AP .n (.t rfl) rfl (.inr rfl) (fun _ => rfl) rfl ic_98 rfl <| AF .n (.t rfl) (.c rfl) rfl rfl <| Ag .n (.t rfl) rfl <| q_conv .n (.t rfl) cv_3_98 rfl <| AF .n (.t rfl) (.t rfl) rfl rfl <| AF .n (.t rfl) (.c rfl) rfl rfl <| BD .n (.t rfl) rfl <| AE .n (.t rfl) fo_100_2 rfl <| AG [.sl 1 (s_.code.map (V.int .u8)), .int .i64 (IntKind.wrap .i64 (s_.at_ + 1)), .int .u64 (IntKind.wrap .u64 ((IntKind.wrap .u64 ((IntKind.wrap .u64 (s_.seed * 6364136223846793005)) + (IntKind.wrap .u64 v2))) + 1442695040888963407))] .n rfl (.t rfl) (.t rfl) rfl ts_98 rfl rfl <| Lex.nil) ?_
    refine Af ?_
    refine Af ?_
    refine Bk fmo (Ag .n (.t rfl) rfl <| BD .n (.t rfl) rfl <| AE .n (.t rfl) fo_100_1 rfl <| AP .n (.t rfl) rfl (.inr rfl) (fun _ => rfl) rfl ic_3 rfl <| Ag .n (.t rfl) rfl <| BD .n (.t rfl) rfl <| AE .n (.t rfl) fo_100_0 rfl <| AP .n (.t rfl) rfl (.inr rfl) (fun _ => rfl) rfl ic_22 rfl <| BS .n (.t rfl) rfl len_map ss_22 rfl <| AF .n (.t rfl) (.t rfl) rfl rfl <| Lex.nil) (by kernel_rfl) ?_
    refine Aq (.t rfl) rfl (fun h6 => ?_) (fun h6 => ?_)
    · try simp only [tst] at h6
      refine Af ?_
      refine Ad (Ag .n (.t rfl) rfl <| Ah .n (.t rfl) rfl <| Lex.nil) ?_
      exact Au [] (.cons (.t rfl rfl) .nil) rfl ⟨rfl, trivial⟩ rfl
    · try simp only [tst] at h6
      refine As ?_
      refine Af ?_
      refine Ad (Ag .n (.t rfl) rfl <| BD .n (.t rfl) rfl <| AE .n (.t rfl) fo_100_2 rfl <| AP .n (.t rfl) rfl (.inr rfl) (fun _ => rfl) rfl ic_98 rfl <| q_shr .n (.t rfl) (.c rfl) (fun _ => by omega) rfl <| AF .n (.t rfl) (.c rfl) rfl rfl <| q_conv .n (.t rfl) cv_98_2 rfl <| Ah .n (.t rfl) rfl <| Lex.nil) ?_
      exact Au [] (.cons (.t rfl rfl) .nil) rfl ⟨rfl, trivial⟩ rfl
  · refine Aq (.t rfl) rfl (fun h5 => ?_) (fun h5 => ?_)
    · try simp only [tst] at h5
      refine Bk fmo (Ag .n (.t rfl) rfl <| BD .n (.t rfl) rfl <| AE .n (.t rfl) fo_100_0 rfl <| AP .n (.t rfl) rfl (.inr rfl) (fun _ => rfl) rfl ic_22 rfl <| Ag .n (.t rfl) rfl <| BD .n (.t rfl) rfl <| AE .n (.t rfl) fo_100_1 rfl <| AP .n (.t rfl) rfl (.inr rfl) (fun _ => rfl) rfl ic_3 rfl <| A8 .n (.t rfl) (.t rfl) sl_22 (fun _ => by omega) rfl <| Ap .n (.t rfl) rfl ic_5 rfl <| q_conv .n (.t rfl) cv_5_3 rfl <| Ah .n (.t rfl) rfl <| Lex.nil) (by kernel_rfl) ?_
      exact AY hj4 (IntKind.wrap .i64 (at' s_.code s_.at_)) trivial (sub_of [] ⟨rfl, rfl, trivial⟩ ⟨rfl, trivial⟩ rfl)
    · try simp only [tst] at h5
      refine As ?_
      exact AY hj4 0 trivial (sub_of [] ⟨rfl, rfl, trivial⟩ ⟨rfl, trivial⟩ rfl)

/-! ### spec_l00Src_pick -/
theorem AI (s_ : Ak) (n_ : Int) (hp1 : Lim s_ 900000) : Con Tryz.prog 22 [.op 0 0 0 0, .int .i64 n_] [(0, some (.box 100 [.sl 1 (s_.code.map (V.int .u8)), .int .i64 s_.at_, .int .u64 s_.seed]))] (.int .i64 (Aa s_ n_).1) ([(0, some (.box 100 [.sl 1 ((Aa s_ n_).2.code.map (V.int .u8)), .int .i64 (Aa s_ n_).2.at_, .int .u64 (Aa s_ n_).2.seed]))]) := by
  refine con_intro (out := fun r : Int × Ak => ((.int .i64 r.1 : V), ([(0, some (.box 100 [.sl 1 (r.2.code.map (V.int .u8)), .int .i64 r.2.at_, .int .u64 r.2.seed]))] : List (Nat × Option O)))) (r := (Aa s_ n_)) Tryz.func22 rfl Tryz.ntmps22 rfl ?_
  refine Af ?_
  refine Ad (Ah .n (.c rfl) rfl <| Lex.nil) ?_
  refine Af ?_
  refine Af ?_
  refine Ad (Ag .n (.t rfl) rfl <| AF .n (.t rfl) (.c rfl) rfl rfl <| Lex.nil) ?_
  refine Aq (.t rfl) rfl (fun h1 => ?_) (fun h1 => ?_)
  · try simp only [tst] at h1
    refine Af ?_
    refine Ad (Ah .n (.c rfl) rfl <| Lex.nil) ?_
    exact Au [] (.cons (.t rfl rfl) .nil) rfl ⟨rfl, trivial⟩ rfl
  · try simp only [tst] at h1
    refine As ?_
    refine Af ?_
    refine Ad (Ag .n (.t rfl) rfl <| AW (full := false) [(0, 0)] [] .n rfl .f en_57 (.cons (.t rfl) .nil) (.cons (.b (.mutp rfl)) .nil) (c_spec_l00Src_next s_ (by (try dsimp only); (with_reducible (first | apply Lim.mono | apply Lim.out | apply LimA.mono)); (repeat (with_reducible (first | assumption | apply Lim.pick | apply Lim.next | apply Lim.mk))); omega)) ⟨rfl, trivial⟩ rfl rfl (fun h => Bool.noConfusion h) (fun h => Bool.noConfusion h) rfl <| Ah .n (.t rfl) rfl <| Lex.nil) ?_
    refine Af ?_
    refine Af ?_
    refine Ad (Ag .n (.t rfl) rfl <| AF .n (.t rfl) (.c rfl) rfl rfl <| Lex.nil) ?_
    refine Aq (.t rfl) rfl (fun h2 => ?_) (fun h2 => ?_)
    · try simp only [tst] at h2
      refine Ad (Ag .n (.t rfl) rfl <| AF .n (.t rfl) (.c rfl) rfl rfl <| Ag .n (.t rfl) rfl <| AW (full := false) [(0, 0)] [] .n rfl .f en_57 (.cons (.t rfl) .nil) (.cons (.b (.mutp rfl)) .nil) (c_spec_l00Src_next (Bc s_).2 (by (try dsimp only); (with_reducible (first | apply Lim.mono | apply Lim.out | apply LimA.mono)); (repeat (with_reducible (first | assumption | apply Lim.pick | apply Lim.next | apply Lim.mk))); omega)) ⟨rfl, trivial⟩ rfl rfl (fun h => Bool.noConfusion h) (fun h => Bool.noConfusion h) rfl <| AF .n (.t rfl) (.t rfl) rfl rfl <| Ah .n (.t rfl) rfl <| Lex.nil) ?_
      refine Af ?_
      refine Ad (Ag .n (.t rfl) rfl <| Ag .n (.t rfl) rfl <| q_rem .n (.t rfl) (.t rfl) (fun hg => by omega) rfl <| Ah .n (.t rfl) rfl <| Lex.nil) ?_
      exact Au [] (.cons (.t rfl rfl) .nil) rfl ⟨rfl, trivial⟩ rfl
    · try simp only [tst] at h2
      refine As ?_
      refine Af ?_
      refine Ad (Ag .n (.t rfl) rfl <| Ag .n (.t rfl) rfl <| q_rem .n (.t rfl) (.t rfl) (fun hg => by omega) rfl <| Ah .n (.t rfl) rfl <| Lex.nil) ?_
      exact Au [] (.cons (.t rfl rfl) .nil) rfl ⟨rfl, trivial⟩ rfl

/-! ### spec_l00Src_among -/
theorem A0 (s_ : Ak) (list : List Int) (hp1 : Lim s_ 800000) (hp2 : 0 < list.length) : Con Tryz.prog 24 [.op 0 0 0 0, .os 1 list.length] [(0, some (.box 100 [.sl 1 (s_.code.map (V.int .u8)), .int .i64 s_.at_, .int .u64 s_.seed])), (1, some (.row 2 1 (list.map (V.int .i64))))] (.int .i64 (Aj s_ list).1) ([(0, some (.box 100 [.sl 1 ((Aj s_ list).2.1.code.map (V.int .u8)), .int .i64 (Aj s_ list).2.1.at_, .int .u64 (Aj s_ list).2.1.seed])), (1, some (.row 2 1 ((Aj s_ list).2.2.map (V.int .i64))))]) := by
  refine con_intro (out := fun r : Int × Ak × (List Int) => ((.int .i64 r.1 : V), ([(0, some (.box 100 [.sl 1 (r.2.1.code.map (V.int .u8)), .int .i64 r.2.1.at_, .int .u64 r.2.1.seed])), (1, some (.row 2 1 (r.2.2.map (V.int .i64))))] : List (Nat × Option O)))) (r := (Aj s_ list)) Tryz.func24 rfl Tryz.ntmps24 rfl ?_
  have hN := hp1.num (k := (list.length : Int))
  refine run_factH (l := 1) rfl fun hl => ?_
  have l1 := hl; clear hl; simp only [List.length_map] at l1
  refine Af ?_
  refine Ad (Ah .n (.c rfl) rfl <| Lex.nil) ?_
  refine Af ?_
  refine Ad (Ag .n (.t rfl) rfl <| Ag .n (.t rfl) rfl <| Ag .n (.t rfl) rfl <| BS .n (.t rfl) rfl rfl ss_27 rfl <| AW (full := false) [(0, 0)] [] .n rfl .f en_22 (.cons (.t rfl) (.cons (.t rfl) .nil)) (.cons (.b (.mutp rfl)) (.cons (.b (.a (.same rfl))) .nil)) (AI s_ (list.length : Int) (by (try dsimp only); (with_reducible (first | apply Lim.mono | apply Lim.out | apply LimA.mono)); (repeat (with_reducible (first | assumption | apply Lim.mk))); omega)) ⟨rfl, trivial⟩ rfl rfl (fun h => Bool.noConfusion h) (fun h => Bool.noConfusion h) rfl <| AZ .n (.t rfl) (.t rfl) sl_27 (fun _ => by omega) rfl <| A2 .n (.t rfl) rfl (fun _ => by omega) rfl rfl rfl ic_2 rfl <| Ah .n (.t rfl) rfl <| Lex.nil) ?_
  exact Au [] (.cons (.t rfl rfl) .nil) rfl ⟨rfl, rfl, trivial⟩ rfl

/-! ### spec_l00Src_one -/
theorem Di (s_ : Ak) (n_ : Int) (hp1 : Lim s_ 800000) : Con Tryz.prog 23 [.op 0 0 0 0, .int .i64 n_] [(0, some (.box 100 [.sl 1 (s_.code.map (V.int .u8)), .int .i64 s_.at_, .int .u64 s_.seed]))] (.bool (Am s_ n_).1) ([(0, some (.box 100 [.sl 1 ((Am s_ n_).2.code.map (V.int .u8)), .int .i64 (Am s_ n_).2.at_, .int .u64 (Am s_ n_).2.seed]))]) := by
  refine con_intro (out := fun r : Bool × Ak => ((.bool r.1 : V), ([(0, some (.box 100 [.sl 1 (r.2.code.map (V.int .u8)), .int .i64 r.2.at_, .int .u64 r.2.seed]))] : List (Nat × Option O)))) (r := (Am s_ n_)) Tryz.func23 rfl Tryz.ntmps23 rfl ?_
  refine Af ?_
  refine Ad (Ah .n (.c rfl) rfl <| Lex.nil) ?_
  refine Af ?_
  refine Ad (Ag .n (.t rfl) rfl <| Ag .n (.t rfl) rfl <| AW (full := false) [(0, 0)] [] .n rfl .f en_22 (.cons (.t rfl) (.cons (.t rfl) .nil)) (.cons (.b (.mutp rfl)) (.cons (.b (.a (.same rfl))) .nil)) (AI s_ n_ (by (try dsimp only); (with_reducible (first | apply Lim.mono | apply Lim.out | apply LimA.mono)); (repeat (with_reducible (first | assumption | apply Lim.mk))); omega)) ⟨rfl, trivial⟩ rfl rfl (fun h => Bool.noConfusion h) (fun h => Bool.noConfusion h) rfl <| AF .n (.t rfl) (.c rfl) rfl rfl <| Ah .n (.t rfl) rfl <| Lex.nil) ?_
  exact Au [] (.cons (.t rfl rfl) .nil) rfl ⟨rfl, trivial⟩ rfl

/-! ### spec_l03DrawOk -/
theorem c_spec_l03DrawOk (s_ : Ak) (id : List UInt8) (from_ : Int) (to : Int) (hp1 : Lim s_ 700000) : Con Tryz.prog 83 [.op 0 0 0 0, .str id, .int .i64 from_, .int .i64 to] [(0, some (.box 100 [.sl 1 (s_.code.map (V.int .u8)), .int .i64 s_.at_, .int .u64 s_.seed]))] (.st [.str (Ai s_ id from_ to).1.Id, .int .i64 (Ai s_ id from_ to).1.From, .int .i64 (Ai s_ id from_ to).1.To, .int .i64 (Ai s_ id from_ to).1.Length, .int .i64 (Ai s_ id from_ to).1.Section, .int .i64 (Ai s_ id from_ to).1.Friction, .int .i64 (Ai s_ id from_ to).1.Shock]) ([(0, some (.box 100 [.sl 1 ((Ai s_ id from_ to).2.code.map (V.int .u8)), .int .i64 (Ai s_ id from_ to).2.at_, .int .u64 (Ai s_ id from_ to).2.seed]))]) := by
  refine con_intro (out := fun r : Ar × Ak => ((.st [.str r.1.Id, .int .i64 r.1.From, .int .i64 r.1.To, .int .i64 r.1.Length, .int .i64 r.1.Section, .int .i64 r.1.Friction, .int .i64 r.1.Shock] : V), ([(0, some (.box 100 [.sl 1 (r.2.code.map (V.int .u8)), .int .i64 r.2.at_, .int .u64 r.2.seed]))] : List (Nat × Option O)))) (r := (Ai s_ id from_ to)) Tryz.func83 rfl Tryz.ntmps83 rfl ?_
  refine Af ?_
  refine Ad (BE (l := 200) .n rfl zv_112 rfl rfl <| Lex.nil) ?_
  refine Af ?_
  refine Ad (Ag .n (.t rfl) rfl <| Ag .n (.t rfl) rfl <| Ag .n (.t rfl) rfl <| Ag .n (.t rfl) rfl <| AW (full := false) [(0, 0)] [] .n rfl .f en_22 (.cons (.t rfl) (.cons (.c rfl) .nil)) (.cons (.b (.mutp rfl)) (.cons (.b (.a (.same rfl))) .nil)) (AI s_ 900 (by (try dsimp only); (with_reducible (first | apply Lim.mono | apply Lim.out | apply LimA.mono)); (repeat (with_reducible (first | assumption | apply Lim.pick | apply Lim.mk))); omega)) ⟨rfl, trivial⟩ rfl rfl (fun h => Bool.noConfusion h) (fun h => Bool.noConfusion h) rfl <| AF .n (.c rfl) (.t rfl) rfl rfl <| Dv (us := [.str id, .int .i64 from_, .int .i64 to, .int .i64 (IntKind.wrap .i64 (20 + (Aa s_ 900).1)), .int .i64 0, .int .i64 0, .int .i64 0]) .n (.cons (.t rfl) (.cons (.t rfl) (.cons (.t rfl) (.cons (.t rfl) .nil)))) zv_112 pl_112 rfl rfl rfl <| BE (l := 201) .n rfl zv_112 rfl rfl <| AG [.str id, .int .i64 from_, .int .i64 to, .int .i64 (IntKind.wrap .i64 (20 + (Aa s_ 900).1)), .int .i64 0, .int .i64 0, .int .i64 0] .n rfl (.t rfl) (.t rfl) rfl ts_112 rfl rfl <| Lex.nil) ?_
  refine Af ?_
  refine Ad (Ag .n (.t rfl) rfl <| AW (full := false) [(0, 0)] [] .n rfl .f en_22 (.cons (.t rfl) (.cons (.c rfl) .nil)) (.cons (.b (.mutp rfl)) (.cons (.b (.a (.same rfl))) .nil)) (AI (Aa s_ 900).2 1500 (by (try dsimp only); (with_reducible (first | apply Lim.mono | apply Lim.out | apply LimA.mono)); (repeat (with_reducible (first | assumption | apply Lim.pick | apply Lim.mk))); omega)) ⟨rfl, trivial⟩ rfl rfl (fun h => Bool.noConfusion h) (fun h => Bool.noConfusion h) rfl <| AF .n (.c rfl) (.t rfl) rfl rfl <| AE .n (.t rfl) fo_112_4 rfl <| AG [.str id, .int .i64 from_, .int .i64 to, .int .i64 (IntKind.wrap .i64 (20 + (Aa s_ 900).1)), .int .i64 (IntKind.wrap .i64 (300 + (Aa (Aa s_ 900).2 1500).1)), .int .i64 0, .int .i64 0] .n rfl (.t rfl) (.t rfl) rfl ts_2 rfl rfl <| Lex.nil) ?_
  refine Af ?_
  refine Ad (Ag .n (.t rfl) rfl <| AW (full := false) [(0, 0)] [] .n rfl .f en_22 (.cons (.t rfl) (.cons (.c rfl) .nil)) (.cons (.b (.mutp rfl)) (.cons (.b (.a (.same rfl))) .nil)) (AI (Aa (Aa s_ 900).2 1500).2 200 (by (try dsimp only); (with_reducible (first | apply Lim.mono | apply Lim.out | apply LimA.mono)); (repeat (with_reducible (first | assumption | apply Lim.pick | apply Lim.mk))); omega)) ⟨rfl, trivial⟩ rfl rfl (fun h => Bool.noConfusion h) (fun h => Bool.noConfusion h) rfl <| AF .n (.c rfl) (.t rfl) rfl rfl <| AE .n (.t rfl) fo_112_5 rfl <| AG [.str id, .int .i64 from_, .int .i64 to, .int .i64 (IntKind.wrap .i64 (20 + (Aa s_ 900).1)), .int .i64 (IntKind.wrap .i64 (300 + (Aa (Aa s_ 900).2 1500).1)), .int .i64 (IntKind.wrap .i64 (20 + (Aa (Aa (Aa s_ 900).2 1500).2 200).1)), .int .i64 0] .n rfl (.t rfl) (.t rfl) rfl ts_2 rfl rfl <| Lex.nil) ?_
  refine Af ?_
  refine Ad (Ag .n (.t rfl) rfl <| AW (full := false) [(0, 0)] [] .n rfl .f en_22 (.cons (.t rfl) (.cons (.c rfl) .nil)) (.cons (.b (.mutp rfl)) (.cons (.b (.a (.same rfl))) .nil)) (AI (Aa (Aa (Aa s_ 900).2 1500).2 200).2 60 (by (try dsimp only); (with_reducible (first | apply Lim.mono | apply Lim.out | apply LimA.mono)); (repeat (with_reducible (first | assumption | apply Lim.pick | apply Lim.mk))); omega)) ⟨rfl, trivial⟩ rfl rfl (fun h => Bool.noConfusion h) (fun h => Bool.noConfusion h) rfl <| AE .n (.t rfl) fo_112_6 rfl <| AG [.str id, .int .i64 from_, .int .i64 to, .int .i64 (IntKind.wrap .i64 (20 + (Aa s_ 900).1)), .int .i64 (IntKind.wrap .i64 (300 + (Aa (Aa s_ 900).2 1500).1)), .int .i64 (IntKind.wrap .i64 (20 + (Aa (Aa (Aa s_ 900).2 1500).2 200).1)), .int .i64 (Aa (Aa (Aa (Aa s_ 900).2 1500).2 200).2 60).1] .n rfl (.t rfl) (.t rfl) rfl ts_2 rfl rfl <| Lex.nil) ?_
  refine Af ?_
  refine Ad (Ba .n (.t rfl) rfl (.inr rfl) ag_112 (fun _ => rfl) rfl rfl <| AG [.str id, .int .i64 from_, .int .i64 to, .int .i64 (IntKind.wrap .i64 (20 + (Aa s_ 900).1)), .int .i64 (IntKind.wrap .i64 (300 + (Aa (Aa s_ 900).2 1500).1)), .int .i64 (IntKind.wrap .i64 (20 + (Aa (Aa (Aa s_ 900).2 1500).2 200).1)), .int .i64 (Aa (Aa (Aa (Aa s_ 900).2 1500).2 200).2 60).1] .n rfl (.t rfl) (.t rfl) rfl ts_112 rfl rfl <| Lex.nil) ?_
  exact Au [] (.cons (.cN rfl rfl ag_112 rfl rfl) .nil) (by first | rfl | (simp only [put_len]; rfl)) ⟨rfl, trivial⟩ rfl

/-! ### spec_l04DrawOk -/
set_option maxRecDepth 100000 in
set_option maxHeartbeats 4000000 in
theorem c_spec_l04DrawOk (s_ : Ak) (hp1 : Lim s_ 600000) : Con Tryz.prog 81 [.op 0 0 0 0] [(0, some (.box 100 [.sl 1 (s_.code.map (V.int .u8)), .int .i64 s_.at_, .int .u64 s_.seed]))] (.st [.int .i64 (Ax s_).1.Junctions, .os 100 (Ax s_).1.Airways.length]) ([(100, some (.row 112 7 ((Ax s_).1.Airways.map Ar.v))), (0, some (.box 100 [.sl 1 ((Ax s_).2.code.map (V.int .u8)), .int .i64 (Ax s_).2.at_, .int .u64 (Ax s_).2.seed]))]) := by
  refine con_intro (out := fun r : AB × Ak => ((.st [.int .i64 r.1.Junctions, .os 100 r.1.Airways.length] : V), ([(100, some (.row 112 7 (r.1.Airways.map Ar.v))), (0, some (.box 100 [.sl 1 (r.2.code.map (V.int .u8)), .int .i64 r.2.at_, .int .u64 r.2.seed]))] : List (Nat × Option O)))) (r := (Ax s_)) Tryz.func81 rfl Tryz.ntmps81 rfl ?_
  have hJ := Lim.num (k := 5) hp1
  have hW := wr64 (n := 2 + (Aa s_ 5).1) (by omega)
  refine Af ?_
  refine Ad (BE (l := 200) .n rfl zv_26 rfl rfl <| Lex.nil) ?_
  refine Af ?_
  refine Ad (AV K_2 (f := V.str) (l := 201) .n rfl rfl (.cons (.c rfl) (.cons (.c rfl) (.cons (.c rfl) (.cons (.c rfl) (.cons (.c rfl) (.cons (.c rfl) (.cons (.c rfl) (.cons (.c rfl) .nil)))))))) rfl si_103 zv_9 rfl rfl rfl <| Ah .n (.t rfl) rfl <| Lex.nil) ?_
  refine Af ?_
  refine Ad (Ag .n (.t rfl) rfl <| AW (full := false) [(0, 0)] [] .n rfl .f en_22 (.cons (.t rfl) (.cons (.c rfl) .nil)) (.cons (.b (.mutp rfl)) (.cons (.b (.a (.same rfl))) .nil)) (AI s_ 5 (by (try dsimp only); (with_reducible (first | apply Lim.mono | apply Lim.out | apply LimA.mono)); (repeat (with_reducible (first | assumption | apply Lim.bif1 | apply Lim.one | apply Lim.pick | apply Lim.draw3 | apply Lim.mk))); omega)) ⟨rfl, trivial⟩ rfl rfl (fun h => Bool.noConfusion h) (fun h => Bool.noConfusion h) rfl <| AF .n (.c rfl) (.t rfl) rfl rfl <| AV ([] : List Ar) (f := Ar.v) (l := 202) .n rfl rfl .nil rfl si_24 zv_112 rfl rfl rfl <| Dv (us := [.int .i64 (IntKind.wrap .i64 (2 + (Aa s_ 5).1)), .os 202 ([] : List Ar).length]) .n (.cons (.t rfl) (.cons (.t rfl) .nil)) zv_26 pl_26 rfl rfl rfl <| BE (l := 203) .n rfl zv_26 rfl rfl <| AG [.int .i64 (IntKind.wrap .i64 (2 + (Aa s_ 5).1)), .os 202 ([] : List Ar).length] .n rfl (.t rfl) (.t rfl) rfl ts_26 rfl rfl <| Lex.nil) ?_
  refine Af ?_
  refine Af ?_
  refine Ad (Ah .n (.c rfl) rfl <| Lex.nil) ?_
  refine Aw ?_
  refine Bp (Dq s_) _ _ _ rfl (fun (x1 : (List Int) × Int × Int × Int × (List Ar)) => 0 ≤ x1.2.2.2.1 ∧ x1.2.2.2.1 ≤ (K_2.length : Int) ∧ (x1.2.2.2.2.length : Int) + 0 ≤ x1.2.2.2.1 + (([] : List Ar).length : Int) ∧ x1.2.2.2.1 ≤ 8 ∧ (x1.2.2.2.2.length : Int) ≤ x1.2.2.2.1 ∧ LimA x1.1 x1.2.1 (600002 + 20 * x1.2.2.2.1)) (fun x1 => 0 ≤ x1.2.2.2.1 ∧ x1.2.2.2.1 ≤ (K_2.length : Int) ∧ (x1.2.2.2.2.length : Int) + 0 ≤ x1.2.2.2.1 + (([] : List Ar).length : Int) ∧ x1.2.2.2.1 ≤ 8 ∧ (x1.2.2.2.2.length : Int) ≤ x1.2.2.2.1 ∧ LimA x1.1 x1.2.1 (600002 + 20 * x1.2.2.2.1) ∧ (K_2.length : Int) ≤ x1.2.2.2.1) (fun x1 => ((K_2.length : Int) - x1.2.2.2.1 : Int).toNat) (fun x1 => ⟨[(0, some (true, .op 0 0 0 0)), (2, some (true, .op 200 0 0 0)), (3, some (true, .os 201 K_2.length)), (4, some (true, .op 203 0 0 0)), (5, some (true, .int .i64 x1.2.2.2.1))], [(0, some (.box 100 [.sl 1 (x1.1.map (V.int .u8)), .int .i64 x1.2.1, .int .u64 x1.2.2.1])), (200, some (.box 26 [.int .i64 0, .nls])), (201, some (.row 9 1 (K_2.map V.str))), (202, some (.row 112 7 (x1.2.2.2.2.map Ar.v))), (203, some (.box 26 [.int .i64 (IntKind.wrap .i64 (2 + (Aa s_ 5).1)), .os 202 x1.2.2.2.2.length]))]⟩) (fun x1 => ⟨[(2, some (true, .op 200 0 0 0)), (4, some (true, .op 203 0 0 0))], [(0, some (.box 100 [.sl 1 (x1.1.map (V.int .u8)), .int .i64 x1.2.1, .int .u64 x1.2.2.1])), (200, some (.box 26 [.int .i64 0, .nls])), (202, some (.row 112 7 (x1.2.2.2.2.map Ar.v))), (203, some (.box 26 [.int .i64 (IntKind.wrap .i64 (2 + (Aa s_ 5).1)), .os 202 x1.2.2.2.2.length]))]⟩) ⟨by (simp only [lens] at * <;> omega), by (simp only [lens] at * <;> omega), by (simp only [lens] at * <;> omega), by (simp only [lens] at * <;> omega), by (simp only [lens] at * <;> omega), by (try dsimp only); (with_reducible (first | apply Lim.mono | apply Lim.out | apply LimA.mono)); (repeat (with_reducible (first | assumption | apply Lim.bif1 | apply Lim.one | apply Lim.pick | apply Lim.draw3 | apply Lim.mk))); omega⟩ (by (simp only [lens] at * <;> omega)) (sub_of [] ⟨rfl, rfl, rfl, rfl, rfl, trivial⟩ ⟨rfl, rfl, rfl, rfl, rfl, trivial⟩ rfl) ?_ ?_
  · intro x1 i15
    obtain ⟨e16, e17, e18, e19, e20, e21, e22⟩ := i15
    try dsimp only at *
    refine Af ?_
    refine Ad (Ba .n (.t rfl) rfl (.inr rfl) ag_26 (fun _ => rfl) rfl rfl <| AG [.int .i64 (IntKind.wrap .i64 (2 + (Aa s_ 5).1)), .os 202 x1.2.2.2.2.length] .n rfl (.t rfl) (.t rfl) rfl ts_26 rfl rfl <| Lex.nil) ?_
    exact Au [(100, 202)] (.cons (.cN rfl rfl ag_26 rfl rfl) .nil) (by first | rfl | (simp only [put_len]; rfl)) ⟨rfl, rfl, trivial⟩ rfl
  · intro rec1 k1 hk1 x1 i2
    obtain ⟨e23, e24, e25, e26, e27, e28⟩ := i2
    try dsimp only at *
    refine Af ?_
    refine Af ?_
    refine Ad (Ag .n (.t rfl) rfl <| Ag .n (.t rfl) rfl <| BS .n (.t rfl) rfl rfl ss_103 rfl <| AF .n (.t rfl) (.t rfl) rfl rfl <| Lex.nil) ?_
    refine Aq (.t rfl) rfl (fun h3 => ?_) (fun h3 => ?_)
    · try simp only [tst] at h3
      refine As ?_
      refine Af ?_
      refine Aw ?_
      refine Af ?_
      refine Af ?_
      refine Ad (Ag .n (.t rfl) rfl <| AW (full := false) [(0, 0)] [] .n rfl .f en_23 (.cons (.t rfl) (.cons (.c rfl) .nil)) (.cons (.b (.mutp rfl)) (.cons (.b (.a (.same rfl))) .nil)) (Di (Ak.mk x1.1 x1.2.1 x1.2.2.1) 5 (by (try dsimp only); (with_reducible (first | apply Lim.mono | apply Lim.out | apply LimA.mono)); (repeat (with_reducible (first | assumption | apply Lim.bif1 | apply Lim.one | apply Lim.pick | apply Lim.draw3 | apply Lim.mk))); omega)) ⟨rfl, trivial⟩ rfl rfl (fun h => Bool.noConfusion h) (fun h => Bool.noConfusion h) rfl <| Lex.nil) ?_
      refine Aq (.t rfl) rfl (fun h4 => ?_) (fun h4 => ?_)
      · try simp only [tst] at h4
        refine Bb rfl ?_
        refine Ad (Ag .n (.t rfl) rfl <| BM .n (.t rfl) (.c rfl) (fun _ => by omega) rfl <| Ah .n (.t rfl) rfl <| Lex.nil) ?_
        exact A5 ((Am (Ak.mk x1.1 x1.2.1 x1.2.2.1) 5).2.code, (Am (Ak.mk x1.1 x1.2.1 x1.2.2.1) 5).2.at_, (Am (Ak.mk x1.1 x1.2.1 x1.2.2.1) 5).2.seed, x1.2.2.2.1 + 1, x1.2.2.2.2) ⟨by (simp only [lens] at * <;> omega), by assumption, by (simp only [lens] at * <;> omega), by assumption, by (simp only [lens] at * <;> omega), by (try dsimp only); (with_reducible (first | apply Lim.mono | apply Lim.out | apply LimA.mono)); (repeat (with_reducible (first | assumption | apply Lim.bif1 | apply Lim.one | apply Lim.pick | apply Lim.draw3 | apply Lim.mk))); omega⟩ (by (simp only [lens] at * <;> omega)) (sub_of [] ⟨rfl, rfl, rfl, rfl, rfl, trivial⟩ ⟨rfl, rfl, rfl, rfl, rfl, trivial⟩ rfl)
      · try simp only [tst] at h4
        refine As ?_
        refine Af ?_
        refine Ad (Ag .n (.t rfl) rfl <| AE .n (.t rfl) fo_26_0 rfl <| AP .n (.t rfl) rfl (.inr rfl) (fun _ => rfl) rfl ic_2 rfl <| q_rem .n (.t rfl) (.t rfl) (fun hg => by omega) rfl <| Ah .n (.t rfl) rfl <| Lex.nil) ?_
        refine Af ?_
        refine Af ?_
        refine Ad (Ag .n (.t rfl) rfl <| AW (full := false) [(0, 0)] [] .n rfl .f en_23 (.cons (.t rfl) (.cons (.c rfl) .nil)) (.cons (.b (.mutp rfl)) (.cons (.b (.a (.same rfl))) .nil)) (Di (Am (Ak.mk x1.1 x1.2.1 x1.2.2.1) 5).2 2 (by (try dsimp only); (with_reducible (first | apply Lim.mono | apply Lim.out | apply LimA.mono)); (repeat (with_reducible (first | assumption | apply Lim.bif1 | apply Lim.one | apply Lim.pick | apply Lim.draw3 | apply Lim.mk))); omega)) ⟨rfl, trivial⟩ rfl rfl (fun h => Bool.noConfusion h) (fun h => Bool.noConfusion h) rfl <| Lex.nil) ?_
        refine Dn _ _ rfl (fun v5 : (List Int) × Int × Int × Int => LimA v5.1 v5.2.1 (600008 + 20 * x1.2.2.2.1)) (fun v5 => ⟨[(0, some (true, .op 0 0 0 0)), (2, some (true, .op 200 0 0 0)), (3, some (true, .os 201 K_2.length)), (4, some (true, .op 203 0 0 0)), (5, some (true, .int .i64 x1.2.2.2.1)), (6, some (true, .int .i64 v5.2.2.2))], [(0, some (.box 100 [.sl 1 (v5.1.map (V.int .u8)), .int .i64 v5.2.1, .int .u64 v5.2.2.1])), (200, some (.box 26 [.int .i64 0, .nls])), (201, some (.row 9 1 (K_2.map V.str))), (202, some (.row 112 7 (x1.2.2.2.2.map Ar.v))), (203, some (.box 26 [.int .i64 (IntKind.wrap .i64 (2 + (Aa s_ 5).1)), .os 202 x1.2.2.2.2.length]))]⟩) (fun v5 hv13 => ?_) (fun j6 hj7 => ?_)
        · have e14 := hv13
          refine Af ?_
          refine Bk fmo (Ag .n (.t rfl) rfl <| AF .n (.t rfl) (.c rfl) rfl rfl <| Ag .n (.t rfl) rfl <| AE .n (.t rfl) fo_26_0 rfl <| AP .n (.t rfl) rfl (.inr rfl) (fun _ => rfl) rfl ic_2 rfl <| AF .n (.t rfl) (.c rfl) rfl rfl <| AW (full := false) [(0, 0)] [] .n rfl .f en_22 (.cons (.t rfl) (.cons (.t rfl) .nil)) (.cons (.b (.mutp rfl)) (.cons (.b (.a (.same rfl))) .nil)) (AI (Ak.mk v5.1 v5.2.1 v5.2.2.1) (IntKind.wrap .i64 ((IntKind.wrap .i64 (2 + (Aa s_ 5).1)) - 1)) (by (try dsimp only); (with_reducible (first | apply Lim.mono | apply Lim.out | apply LimA.mono)); (repeat (with_reducible (first | assumption | apply Lim.bif1 | apply Lim.one | apply Lim.pick | apply Lim.draw3 | apply Lim.mk))); omega)) ⟨rfl, trivial⟩ rfl rfl (fun h => Bool.noConfusion h) (fun h => Bool.noConfusion h) rfl <| AF .n (.t rfl) (.t rfl) rfl rfl <| AE .n (.t rfl) fo_26_0 rfl <| AP .n (.t rfl) rfl (.inr rfl) (fun _ => rfl) rfl ic_2 rfl <| q_rem .n (.t rfl) (.t rfl) (fun hg => by omega) rfl <| Ah .n (.t rfl) rfl <| Lex.nil) (by kernel_rfl) ?_
          refine Af ?_
          refine Af ?_
          refine Ad (Ag .n (.t rfl) rfl <| AE .n (.t rfl) fo_26_0 rfl <| AP .n (.t rfl) rfl (.inr rfl) (fun _ => rfl) rfl ic_2 rfl <| AF .n (.t rfl) (.c rfl) rfl rfl <| AF .n (.t rfl) (.t rfl) rfl rfl <| Ag .n (.t rfl) rfl <| Ag (.t rfl rfl) (.t rfl) rfl <| q_callGM (full := false) (m0 := 0) (L := 0) (v := .bool (Am (Aa (Ak.mk v5.1 v5.2.1 v5.2.2.1) (IntKind.wrap .i64 ((IntKind.wrap .i64 (2 + (Aa s_ 5).1)) - 1))).2 4).1) (o' := .box 100 [.sl 1 ((bif (decide (x1.2.2.2.1 < (IntKind.wrap .i64 ((IntKind.wrap .i64 (2 + (Aa s_ 5).1)) - 1)))) then (Am (Aa (Ak.mk v5.1 v5.2.1 v5.2.2.1) (IntKind.wrap .i64 ((IntKind.wrap .i64 (2 + (Aa s_ 5).1)) - 1))).2 4).2 else (Aa (Ak.mk v5.1 v5.2.1 v5.2.2.1) (IntKind.wrap .i64 ((IntKind.wrap .i64 (2 + (Aa s_ 5).1)) - 1))).2).code.map (V.int .u8)), .int .i64 (bif (decide (x1.2.2.2.1 < (IntKind.wrap .i64 ((IntKind.wrap .i64 (2 + (Aa s_ 5).1)) - 1)))) then (Am (Aa (Ak.mk v5.1 v5.2.1 v5.2.2.1) (IntKind.wrap .i64 ((IntKind.wrap .i64 (2 + (Aa s_ 5).1)) - 1))).2 4).2 else (Aa (Ak.mk v5.1 v5.2.1 v5.2.2.1) (IntKind.wrap .i64 ((IntKind.wrap .i64 (2 + (Aa s_ 5).1)) - 1))).2).at_, .int .u64 (bif (decide (x1.2.2.2.1 < (IntKind.wrap .i64 ((IntKind.wrap .i64 (2 + (Aa s_ 5).1)) - 1)))) then (Am (Aa (Ak.mk v5.1 v5.2.1 v5.2.2.1) (IntKind.wrap .i64 ((IntKind.wrap .i64 (2 + (Aa s_ 5).1)) - 1))).2 4).2 else (Aa (Ak.mk v5.1 v5.2.1 v5.2.2.1) (IntKind.wrap .i64 ((IntKind.wrap .i64 (2 + (Aa s_ 5).1)) - 1))).2).seed]) (.t rfl rfl) (fun hg => .f) en_23 (fun hg => (.cons (.u rfl (fun _ => id hg)) (.cons (.c rfl) .nil))) (.cons (.b (.mutp rfl)) (.cons (.b (.a (.same rfl))) .nil)) (fun hg => Di (Aa (Ak.mk v5.1 v5.2.1 v5.2.2.1) (IntKind.wrap .i64 ((IntKind.wrap .i64 (2 + (Aa s_ 5).1)) - 1))).2 4 (by (try dsimp only); (with_reducible (first | apply Lim.mono | apply Lim.out | apply LimA.mono)); (repeat (with_reducible (first | assumption | apply Lim.bif1 | apply Lim.one | apply Lim.pick | apply Lim.draw3 | apply Lim.mk))); omega)) ⟨rfl, trivial⟩ rfl (fun h => Bool.noConfusion h) (fun h => Bool.noConfusion h) rfl (fun hg => by simp only [Bool.true_and] at hg; rw [hg]; exact ⟨rfl, rfl⟩) (fun hg => by simp only [Bool.true_and] at hg; rw [hg]; rfl) <| Cg (.t rfl rfl) (.u rfl id) rfl <| B4 .n (.t rfl) (.u rfl id) rfl <| Lex.nil) ?_
          refine Dn _ _ rfl (fun v9 : Int × Int => True) (fun v9 => ⟨[(0, some (true, .op 0 0 0 0)), (2, some (true, .op 200 0 0 0)), (3, some (true, .os 201 K_2.length)), (4, some (true, .op 203 0 0 0)), (5, some (true, .int .i64 x1.2.2.2.1)), (6, some (true, .int .i64 v9.1)), (7, some (true, .int .i64 v9.2))], [(0, some (.box 100 [.sl 1 ((bif (decide (x1.2.2.2.1 < (IntKind.wrap .i64 ((IntKind.wrap .i64 (2 + (Aa s_ 5).1)) - 1)))) then (Am (Aa (Ak.mk v5.1 v5.2.1 v5.2.2.1) (IntKind.wrap .i64 ((IntKind.wrap .i64 (2 + (Aa s_ 5).1)) - 1))).2 4).2 else (Aa (Ak.mk v5.1 v5.2.1 v5.2.2.1) (IntKind.wrap .i64 ((IntKind.wrap .i64 (2 + (Aa s_ 5).1)) - 1))).2).code.map (V.int .u8)), .int .i64 (bif (decide (x1.2.2.2.1 < (IntKind.wrap .i64 ((IntKind.wrap .i64 (2 + (Aa s_ 5).1)) - 1)))) then (Am (Aa (Ak.mk v5.1 v5.2.1 v5.2.2.1) (IntKind.wrap .i64 ((IntKind.wrap .i64 (2 + (Aa s_ 5).1)) - 1))).2 4).2 else (Aa (Ak.mk v5.1 v5.2.1 v5.2.2.1) (IntKind.wrap .i64 ((IntKind.wrap .i64 (2 + (Aa s_ 5).1)) - 1))).2).at_, .int .u64 (bif (decide (x1.2.2.2.1 < (IntKind.wrap .i64 ((IntKind.wrap .i64 (2 + (Aa s_ 5).1)) - 1)))) then (Am (Aa (Ak.mk v5.1 v5.2.1 v5.2.2.1) (IntKind.wrap .i64 ((IntKind.wrap .i64 (2 + (Aa s_ 5).1)) - 1))).2 4).2 else (Aa (Ak.mk v5.1 v5.2.1 v5.2.2.1) (IntKind.wrap .i64 ((IntKind.wrap .i64 (2 + (Aa s_ 5).1)) - 1))).2).seed])), (200, some (.box 26 [.int .i64 0, .nls])), (201, some (.row 9 1 (K_2.map V.str))), (202, some (.row 112 7 (x1.2.2.2.2.map Ar.v))), (203, some (.box 26 [.int .i64 (IntKind.wrap .i64 (2 + (Aa s_ 5).1)), .os 202 x1.2.2.2.2.length]))]⟩) (fun v9 _ => ?_) (fun j10 hj11 => ?_)
          · refine Bk fmo (AE .n (.t rfl) fo_26_1 rfl <| AP .n (.t rfl) rfl (.inr rfl) (fun _ => rfl) rfl ic_24 rfl <| Ag .n (.t rfl) rfl <| Ag .n (.t rfl) rfl <| Ag .n (.t rfl) rfl <| AZ .n (.t rfl) (.t rfl) sl_103 (fun _ => by omega) rfl <| A2 .n (.t rfl) rfl (fun _ => by omega) rfl rfl rfl ic_9 rfl <| Ag .n (.t rfl) rfl <| Ag .n (.t rfl) rfl <| AW (full := false) [(0, 0)] [] .n rfl .f en_83 (.cons (.t rfl) (.cons (.t rfl) (.cons (.t rfl) (.cons (.t rfl) .nil)))) (.cons (.b (.mutp rfl)) (.cons (.b (.a (.same rfl))) (.cons (.b (.a (.same rfl))) (.cons (.b (.a (.same rfl))) .nil)))) (c_spec_l03DrawOk (bif (decide (x1.2.2.2.1 < (IntKind.wrap .i64 ((IntKind.wrap .i64 (2 + (Aa s_ 5).1)) - 1)))) then (Am (Aa (Ak.mk v5.1 v5.2.1 v5.2.2.1) (IntKind.wrap .i64 ((IntKind.wrap .i64 (2 + (Aa s_ 5).1)) - 1))).2 4).2 else (Aa (Ak.mk v5.1 v5.2.1 v5.2.2.1) (IntKind.wrap .i64 ((IntKind.wrap .i64 (2 + (Aa s_ 5).1)) - 1))).2) (at' K_2 x1.2.2.2.1) v9.1 v9.2 (by (try dsimp only); (with_reducible (first | apply Lim.mono | apply Lim.out | apply LimA.mono)); (repeat (with_reducible (first | assumption | apply Lim.bif1 | apply Lim.one | apply Lim.pick | apply Lim.draw3 | apply Lim.mk))); omega)) ⟨rfl, trivial⟩ rfl rfl (fun h => Bool.noConfusion h) (fun h => Bool.noConfusion h) rfl <| AV ([(Ai (bif (decide (x1.2.2.2.1 < (IntKind.wrap .i64 ((IntKind.wrap .i64 (2 + (Aa s_ 5).1)) - 1)))) then (Am (Aa (Ak.mk v5.1 v5.2.1 v5.2.2.1) (IntKind.wrap .i64 ((IntKind.wrap .i64 (2 + (Aa s_ 5).1)) - 1))).2 4).2 else (Aa (Ak.mk v5.1 v5.2.1 v5.2.2.1) (IntKind.wrap .i64 ((IntKind.wrap .i64 (2 + (Aa s_ 5).1)) - 1))).2) (at' K_2 x1.2.2.2.1) v9.1 v9.2).1] : List Ar) (f := Ar.v) (l := 204) .n rfl rfl (.cons (.t rfl) .nil) rfl si_24 zv_112 rfl rfl rfl <| CX (xs := x1.2.2.2.2) (ys := ([(Ai (bif (decide (x1.2.2.2.1 < (IntKind.wrap .i64 ((IntKind.wrap .i64 (2 + (Aa s_ 5).1)) - 1)))) then (Am (Aa (Ak.mk v5.1 v5.2.1 v5.2.2.1) (IntKind.wrap .i64 ((IntKind.wrap .i64 (2 + (Aa s_ 5).1)) - 1))).2 4).2 else (Aa (Ak.mk v5.1 v5.2.1 v5.2.2.1) (IntKind.wrap .i64 ((IntKind.wrap .i64 (2 + (Aa s_ 5).1)) - 1))).2) (at' K_2 x1.2.2.2.1) v9.1 v9.2).1] : List Ar)) (f := Ar.v) (l := 205) .n rfl (.ow (.t rfl) rfl (take_all (by simp only [len_map, put_len] <;> rfl)) (by simp only [len_map, put_len] <;> rfl)) (.ow (.t rfl) rfl (take_all (by simp only [len_map, put_len] <;> rfl)) (by simp only [len_map, put_len] <;> rfl)) si_24 zv_112 rfl (by (simp only [lens] at * <;> omega)) rfl rfl <| AE .n (.t rfl) fo_26_1 rfl <| AG [.int .i64 (IntKind.wrap .i64 (2 + (Aa s_ 5).1)), .os 205 (x1.2.2.2.2 ++ ([(Ai (bif (decide (x1.2.2.2.1 < (IntKind.wrap .i64 ((IntKind.wrap .i64 (2 + (Aa s_ 5).1)) - 1)))) then (Am (Aa (Ak.mk v5.1 v5.2.1 v5.2.2.1) (IntKind.wrap .i64 ((IntKind.wrap .i64 (2 + (Aa s_ 5).1)) - 1))).2 4).2 else (Aa (Ak.mk v5.1 v5.2.1 v5.2.2.1) (IntKind.wrap .i64 ((IntKind.wrap .i64 (2 + (Aa s_ 5).1)) - 1))).2) (at' K_2 x1.2.2.2.1) v9.1 v9.2).1] : List Ar)).length] .n rfl (.t rfl) (.t rfl) rfl ts_24 rfl rfl <| Lex.nil) (by kernel_rfl) ?_
            refine AK ?_
            refine Ad (Ag .n (.t rfl) rfl <| BM .n (.t rfl) (.c rfl) (fun _ => by omega) rfl <| Ah .n (.t rfl) rfl <| Lex.nil) ?_
            exact A5 ((Ai (bif (decide (x1.2.2.2.1 < (IntKind.wrap .i64 ((IntKind.wrap .i64 (2 + (Aa s_ 5).1)) - 1)))) then (Am (Aa (Ak.mk v5.1 v5.2.1 v5.2.2.1) (IntKind.wrap .i64 ((IntKind.wrap .i64 (2 + (Aa s_ 5).1)) - 1))).2 4).2 else (Aa (Ak.mk v5.1 v5.2.1 v5.2.2.1) (IntKind.wrap .i64 ((IntKind.wrap .i64 (2 + (Aa s_ 5).1)) - 1))).2) (at' K_2 x1.2.2.2.1) v9.1 v9.2).2.code, (Ai (bif (decide (x1.2.2.2.1 < (IntKind.wrap .i64 ((IntKind.wrap .i64 (2 + (Aa s_ 5).1)) - 1)))) then (Am (Aa (Ak.mk v5.1 v5.2.1 v5.2.2.1) (IntKind.wrap .i64 ((IntKind.wrap .i64 (2 + (Aa s_ 5).1)) - 1))).2 4).2 else (Aa (Ak.mk v5.1 v5.2.1 v5.2.2.1) (IntKind.wrap .i64 ((IntKind.wrap .i64 (2 + (Aa s_ 5).1)) - 1))).2) (at' K_2 x1.2.2.2.1) v9.1 v9.2).2.at_, (Ai (bif (decide (x1.2.2.2.1 < (IntKind.wrap .i64 ((IntKind.wrap .i64 (2 + (Aa s_ 5).1)) - 1)))) then (Am (Aa (Ak.mk v5.1 v5.2.1 v5.2.2.1) (IntKind.wrap .i64 ((IntKind.wrap .i64 (2 + (Aa s_ 5).1)) - 1))).2 4).2 else (Aa (Ak.mk v5.1 v5.2.1 v5.2.2.1) (IntKind.wrap .i64 ((IntKind.wrap .i64 (2 + (Aa s_ 5).1)) - 1))).2) (at' K_2 x1.2.2.2.1) v9.1 v9.2).2.seed, x1.2.2.2.1 + 1, x1.2.2.2.2 ++ ([(Ai (bif (decide (x1.2.2.2.1 < (IntKind.wrap .i64 ((IntKind.wrap .i64 (2 + (Aa s_ 5).1)) - 1)))) then (Am (Aa (Ak.mk v5.1 v5.2.1 v5.2.2.1) (IntKind.wrap .i64 ((IntKind.wrap .i64 (2 + (Aa s_ 5).1)) - 1))).2 4).2 else (Aa (Ak.mk v5.1 v5.2.1 v5.2.2.1) (IntKind.wrap .i64 ((IntKind.wrap .i64 (2 + (Aa s_ 5).1)) - 1))).2) (at' K_2 x1.2.2.2.1) v9.1 v9.2).1] : List Ar)) ⟨by (simp only [lens] at * <;> omega), by assumption, by (simp only [lens] at * <;> omega), by assumption, by (simp only [lens] at * <;> omega), by (try dsimp only); (with_reducible (first | apply Lim.mono | apply Lim.out | apply LimA.mono)); (repeat (with_reducible (first | assumption | apply Lim.bif1 | apply Lim.one | apply Lim.pick | apply Lim.draw3 | apply Lim.mk))); omega⟩ (by (simp only [lens] at * <;> omega)) (sub_of [(202, 205)] ⟨rfl, rfl, rfl, rfl, rfl, trivial⟩ ⟨rfl, rfl, rfl, rfl, rfl, trivial⟩ rfl)
          · refine Aq (.t rfl) rfl (fun h12 => ?_) (fun h12 => ?_)
            · try simp only [tst] at h12
              refine Af ?_
              refine Ad (Ag .n (.t rfl) rfl <| Ah .n (.t rfl) rfl <| Lex.nil) ?_
              refine Ad (Ag .n (.t rfl) rfl <| BM .n (.t rfl) (.c rfl) (fun _ => by omega) rfl <| Ah .n (.t rfl) rfl <| Lex.nil) ?_
              exact AY hj11 (x1.2.2.2.1, x1.2.2.2.1 + 1) trivial (sub_of [] ⟨rfl, rfl, rfl, rfl, rfl, rfl, rfl, trivial⟩ ⟨rfl, rfl, rfl, rfl, rfl, trivial⟩ rfl)
            · try simp only [tst] at h12
              refine As ?_
              exact AY hj11 (v5.2.2.2, Int.tmod (IntKind.wrap .i64 ((IntKind.wrap .i64 (v5.2.2.2 + 1)) + (Aa (Ak.mk v5.1 v5.2.1 v5.2.2.1) (IntKind.wrap .i64 ((IntKind.wrap .i64 (2 + (Aa s_ 5).1)) - 1))).1)) (IntKind.wrap .i64 (2 + (Aa s_ 5).1))) trivial (sub_of [] ⟨rfl, rfl, rfl, rfl, rfl, rfl, rfl, trivial⟩ ⟨rfl, rfl, rfl, rfl, rfl, trivial⟩ rfl)
        · refine Aq (.t rfl) rfl (fun h8 => ?_) (fun h8 => ?_)
          · try simp only [tst] at h8
            refine Ad (Ag .n (.t rfl) rfl <| AE .n (.t rfl) fo_26_0 rfl <| AP .n (.t rfl) rfl (.inr rfl) (fun _ => rfl) rfl ic_2 rfl <| AW (full := false) [(0, 0)] [] .n rfl .f en_22 (.cons (.t rfl) (.cons (.t rfl) .nil)) (.cons (.b (.mutp rfl)) (.cons (.b (.a (.same rfl))) .nil)) (AI (Am (Am (Ak.mk x1.1 x1.2.1 x1.2.2.1) 5).2 2).2 (IntKind.wrap .i64 (2 + (Aa s_ 5).1)) (by (try dsimp only); (with_reducible (first | apply Lim.mono | apply Lim.out | apply LimA.mono)); (repeat (with_reducible (first | assumption | apply Lim.bif1 | apply Lim.one | apply Lim.pick | apply Lim.draw3 | apply Lim.mk))); omega)) ⟨rfl, trivial⟩ rfl rfl (fun h => Bool.noConfusion h) (fun h => Bool.noConfusion h) rfl <| Ah .n (.t rfl) rfl <| Lex.nil) ?_
            exact AY hj7 ((Aa (Am (Am (Ak.mk x1.1 x1.2.1 x1.2.2.1) 5).2 2).2 (IntKind.wrap .i64 (2 + (Aa s_ 5).1))).2.code, (Aa (Am (Am (Ak.mk x1.1 x1.2.1 x1.2.2.1) 5).2 2).2 (IntKind.wrap .i64 (2 + (Aa s_ 5).1))).2.at_, (Aa (Am (Am (Ak.mk x1.1 x1.2.1 x1.2.2.1) 5).2 2).2 (IntKind.wrap .i64 (2 + (Aa s_ 5).1))).2.seed, (Aa (Am (Am (Ak.mk x1.1 x1.2.1 x1.2.2.1) 5).2 2).2 (IntKind.wrap .i64 (2 + (Aa s_ 5).1))).1) (by (try dsimp only); (with_reducible (first | apply Lim.mono | apply Lim.out | apply LimA.mono)); (repeat (with_reducible (first | assumption | apply Lim.bif1 | apply Lim.one | apply Lim.pick | apply Lim.draw3 | apply Lim.mk))); omega) (sub_of [] ⟨rfl, rfl, rfl, rfl, rfl, rfl, trivial⟩ ⟨rfl, rfl, rfl, rfl, rfl, trivial⟩ rfl)
          · try simp only [tst] at h8
            refine As ?_
            exact AY hj7 ((Am (Am (Ak.mk x1.1 x1.2.1 x1.2.2.1) 5).2 2).2.code, (Am (Am (Ak.mk x1.1 x1.2.1 x1.2.2.1) 5).2 2).2.at_, (Am (Am (Ak.mk x1.1 x1.2.1 x1.2.2.1) 5).2 2).2.seed, Int.tmod x1.2.2.2.1 (IntKind.wrap .i64 (2 + (Aa s_ 5).1))) (by (try dsimp only); (with_reducible (first | apply Lim.mono | apply Lim.out | apply LimA.mono)); (repeat (with_reducible (first | assumption | apply Lim.bif1 | apply Lim.one | apply Lim.pick | apply Lim.draw3 | apply Lim.mk))); omega) (sub_of [] ⟨rfl, rfl, rfl, rfl, rfl, rfl, trivial⟩ ⟨rfl, rfl, rfl, rfl, rfl, trivial⟩ rfl)
    · try simp only [tst] at h3
      refine Bb rfl ?_
      exact AY hk1 (x1.1, x1.2.1, x1.2.2.1, x1.2.2.2.1, x1.2.2.2.2) ⟨by omega, by omega, by omega, by omega, by omega, by (try dsimp only); (with_reducible (first | apply Lim.mono | apply Lim.out | apply LimA.mono)); (repeat (with_reducible (first | assumption | apply Lim.bif1 | apply Lim.one | apply Lim.pick | apply Lim.draw3 | apply Lim.mk))); omega, by omega⟩ (sub_of [] ⟨rfl, rfl, trivial⟩ ⟨rfl, rfl, rfl, rfl, trivial⟩ rfl)

/-! ### spec_l00Src_text -/
theorem DG (s_ : Ak) (list : List (List UInt8)) (hp1 : Lim s_ 800000) (hp2 : 0 < list.length) : Con Tryz.prog 95 [.op 0 0 0 0, .os 1 list.length] [(0, some (.box 100 [.sl 1 (s_.code.map (V.int .u8)), .int .i64 s_.at_, .int .u64 s_.seed])), (1, some (.row 9 1 (list.map V.str)))] (.str (Ab s_ list).1) ([(0, some (.box 100 [.sl 1 ((Ab s_ list).2.1.code.map (V.int .u8)), .int .i64 (Ab s_ list).2.1.at_, .int .u64 (Ab s_ list).2.1.seed])), (1, some (.row 9 1 ((Ab s_ list).2.2.map V.str)))]) := by
  refine con_intro (out := fun r : (List UInt8) × Ak × (List (List UInt8)) => ((.str r.1 : V), ([(0, some (.box 100 [.sl 1 (r.2.1.code.map (V.int .u8)), .int .i64 r.2.1.at_, .int .u64 r.2.1.seed])), (1, some (.row 9 1 (r.2.2.map V.str)))] : List (Nat × Option O)))) (r := (Ab s_ list)) Tryz.func95 rfl Tryz.ntmps95 rfl ?_
  have hN := hp1.num (k := (list.length : Int))
  refine run_factH (l := 1) rfl fun hl => ?_
  have l1 := hl; clear hl; simp only [List.length_map] at l1
  refine Af ?_
  refine Ad (Ah .n (.c rfl) rfl <| Lex.nil) ?_
  refine Af ?_
  refine Ad (Ag .n (.t rfl) rfl <| Ag .n (.t rfl) rfl <| Ag .n (.t rfl) rfl <| BS .n (.t rfl) rfl rfl ss_103 rfl <| AW (full := false) [(0, 0)] [] .n rfl .f en_22 (.cons (.t rfl) (.cons (.t rfl) .nil)) (.cons (.b (.mutp rfl)) (.cons (.b (.a (.same rfl))) .nil)) (AI s_ (list.length : Int) (by (try dsimp only); (with_reducible (first | apply Lim.mono | apply Lim.out | apply LimA.mono)); (repeat (with_reducible (first | assumption | apply Lim.mk))); omega)) ⟨rfl, trivial⟩ rfl rfl (fun h => Bool.noConfusion h) (fun h => Bool.noConfusion h) rfl <| AZ .n (.t rfl) (.t rfl) sl_103 (fun _ => by omega) rfl <| A2 .n (.t rfl) rfl (fun _ => by omega) rfl rfl rfl ic_9 rfl <| Ah .n (.t rfl) rfl <| Lex.nil) ?_
  exact Au [] (.cons (.t rfl rfl) .nil) rfl ⟨rfl, rfl, trivial⟩ rfl


end Go.Proofs.YtibbfdojcdkopaaGreat
