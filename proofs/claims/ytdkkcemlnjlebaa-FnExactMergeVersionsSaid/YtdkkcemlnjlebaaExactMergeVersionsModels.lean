/-
  PLAIN MODELS of the Go functions that the law reaches, printed by a program of this claim. Conditions: none; nothing is claimed here.
-/
import Derived.Test.YtdkkcemlnjlebaaEngN
import Derived.Lib.SlicesCompact
import Derived.Sort.Walk0
set_option linter.unusedVariables false
set_option linter.unusedSimpArgs false
set_option linter.unusedSectionVars false
set_option linter.unnecessarySimpa false
namespace Go.Proofs.Ytdkkcemlnjlebaa
open Go Go.RowKit Go.Proofs Go.Proofs.Ytdkkcemlnjlebaa.E
structure gSetting where
  Name : List UInt8
  Value : Int
instance : Inhabited gSetting := ⟨gSetting.mk default default⟩
abbrev gSetting.v (x : gSetting) : V := .st [.str x.Name, .int .i64 x.Value]
structure gVersion where
  Number : Int
  Parent : Int
  Memo : List UInt8
  State : List gSetting
instance : Inhabited gVersion := ⟨gVersion.mk default default default default⟩
abbrev gVersion.v (x : gVersion) : V := .st [.int .i64 x.Number, .int .i64 x.Parent, .str x.Memo, .sl 2 (x.State.map gSetting.v)]
structure gthing where
  value : Int
  there : Bool
instance : Inhabited gthing := ⟨gthing.mk default default⟩
abbrev gthing.v (x : gthing) : V := .st [.int .i64 x.value, .bool x.there]

/-! ### laws_szSetting -/
def m_laws_szSetting (a : gSetting) (left : Int) : Int :=
  bif decide ((IntKind.wrap .i64 (left - (a.Name.length : Int))) < 0) then (-1) else IntKind.wrap .i64 (left - (a.Name.length : Int))

/-! ### laws_szSettingS -/
def m_laws_szSettingS_b1 (a : List gSetting) (left : Int) (rec1 : (Int × Int) → Int) (k1 : (Int × Int) → Int) (x1 : Int × Int) : Int :=
  bif decide (x1.2 < (a.length : Int)) then bif decide ((m_laws_szSetting (at' a x1.2) x1.1) < 0) then (-1) else rec1 (m_laws_szSetting (at' a x1.2) x1.1, x1.2 + 1) else k1 (x1.1, x1.2)
def m_laws_szSettingS (a : List gSetting) (left : Int) : Int :=
  bif decide ((IntKind.wrap .i64 (left - (a.length : Int))) < 0) then (-1) else LOOP (m_laws_szSettingS_b1 a left) (fun (x1 : Int × Int) => x1.1) (((a.length : Int) - 0 : Int).toNat + 1) (IntKind.wrap .i64 (left - (a.length : Int)), 0)

/-! ### laws_szVersion -/
def m_laws_szVersion (a : gVersion) (left : Int) : Int :=
  bif decide ((IntKind.wrap .i64 (left - (a.Memo.length : Int))) < 0) then (-1) else bif decide ((m_laws_szSettingS a.State (IntKind.wrap .i64 (left - (a.Memo.length : Int)))) < 0) then (-1) else m_laws_szSettingS a.State (IntKind.wrap .i64 (left - (a.Memo.length : Int)))

/-! ### laws_szVersionS -/
def m_laws_szVersionS_b1 (a : List gVersion) (left : Int) (rec1 : (Int × Int) → Int) (k1 : (Int × Int) → Int) (x1 : Int × Int) : Int :=
  bif decide (x1.2 < (a.length : Int)) then bif decide ((m_laws_szVersion (at' a x1.2) x1.1) < 0) then (-1) else rec1 (m_laws_szVersion (at' a x1.2) x1.1, x1.2 + 1) else k1 (x1.1, x1.2)
def m_laws_szVersionS (a : List gVersion) (left : Int) : Int :=
  bif decide ((IntKind.wrap .i64 (left - (a.length : Int))) < 0) then (-1) else LOOP (m_laws_szVersionS_b1 a left) (fun (x1 : Int × Int) => x1.1) (((a.length : Int) - 0 : Int).toNat + 1) (IntKind.wrap .i64 (left - (a.length : Int)), 0)

/-! ### spec_l27Memo -/
def m_spec_l27Memo_b1 (s_ : List UInt8) (rec1 : Int → Bool) (k1 : Int → Bool) (x1 : Int) : Bool :=
  bif decide (x1 < (s_.length : Int)) then bif (decide ((((s_.getD x1.toNat 0).toNat : Nat) : Int) < 32)) || (decide (126 < (((s_.getD x1.toNat 0).toNat : Nat) : Int))) then false else rec1 (x1 + 1) else k1 x1
def m_spec_l27Memo (s_ : List UInt8) : Bool :=
  LOOP (m_spec_l27Memo_b1 s_) (fun (x1 : Int) => decide ((s_.length : Int) ≤ 20)) (((s_.length : Int) - 0 : Int).toNat + 1) 0

/-! ### spec_l00In -/
def m_spec_l00In (n_ : Int) (low : Int) (high : Int) : Bool :=
  (decide (low ≤ n_)) && (decide (n_ ≤ high))

/-! ### spec_l01Small -/
def m_spec_l01Small (c_ : Int) : Bool :=
  (decide (97 ≤ c_)) && (decide (c_ ≤ 122))

/-! ### spec_l01Digit -/
def m_spec_l01Digit (c_ : Int) : Bool :=
  (decide (48 ≤ c_)) && (decide (c_ ≤ 57))

/-! ### spec_l01Name -/
def m_spec_l01Name_b1 (s_ : List UInt8) (rec1 : Int → Bool) (k1 : Int → Bool) (x1 : Int) : Bool :=
  bif decide (x1 < (s_.length : Int)) then bif (!(m_spec_l01Small (((s_.getD x1.toNat 0).toNat : Nat) : Int))) && (!(m_spec_l01Digit (((s_.getD x1.toNat 0).toNat : Nat) : Int))) then false else rec1 (x1 + 1) else k1 x1
def m_spec_l01Name (s_ : List UInt8) : Bool :=
  bif ((strB .eql s_ ([] : List UInt8)) || (decide (10 < (s_.length : Int)))) || (!(m_spec_l01Small (((s_.getD (0 : Int).toNat 0).toNat : Nat) : Int))) then false else LOOP (m_spec_l01Name_b1 s_) (fun (x1 : Int) => true) (((s_.length : Int) - 0 : Int).toNat + 1) 0

/-! ### spec_l27Setting -/
def m_spec_l27Setting (e : gSetting) : Bool :=
  (m_spec_l01Name e.Name) && (m_spec_l00In e.Value 0 1000)

/-! ### spec_l27State -/
def m_spec_l27State_b1 (list : List gSetting) (rec1 : Int → Bool) (k1 : Int → Bool) (x1 : Int) : Bool :=
  bif decide (x1 < (list.length : Int)) then bif (!(m_spec_l27Setting (at' list x1))) || ((decide (0 < x1)) && (strB .geq (at' list (x1 - 1)).Name (at' list x1).Name)) then false else rec1 (x1 + 1) else k1 x1
def m_spec_l27State (list : List gSetting) : Bool :=
  LOOP (m_spec_l27State_b1 list) (fun (x1 : Int) => decide ((list.length : Int) ≤ 24)) (((list.length : Int) - 0 : Int).toNat + 1) 0

/-! ### spec_l27Ok -/
def m_spec_l27Ok_b1 (list : List gVersion) (rec1 : Int → Bool) (k1 : Int → Bool) (x1 : Int) : Bool :=
  bif decide (x1 < (list.length : Int)) then bif ((((at' list x1).Number != (x1 + 1)) || (!(m_spec_l00In (at' list x1).Parent 0 x1))) || (!(m_spec_l27Memo (at' list x1).Memo))) || (!(m_spec_l27State (at' list x1).State)) then false else rec1 (x1 + 1) else k1 x1
def m_spec_l27Ok (list : List gVersion) : Bool :=
  LOOP (m_spec_l27Ok_b1 list) (fun (x1 : Int) => decide ((list.length : Int) ≤ 32)) (((list.length : Int) - 0 : Int).toNat + 1) 0

/-! ### spec_l27Number -/
def m_spec_l27Number (list : List gVersion) (number : Int) : Bool :=
  m_spec_l00In number 1 (list.length : Int)

/-! ### spec_l27Set -/
def m_spec_l27Set_b1 (list : List gSetting) (e : gSetting) (rec1 : ((List gSetting) × Bool × Int) → (List gSetting)) (k1 : ((List gSetting) × Bool × Int) → (List gSetting)) (x1 : (List gSetting) × Bool × Int) : (List gSetting) :=
  bif decide (x1.2.2 < (list.length : Int)) then JN (fun j6 => bif !x1.2.1 && (strB .geq (at' list x1.2.2).Name e.Name) then j6 (x1.1 ++ ([e] : List gSetting), true) else j6 (x1.1, x1.2.1)) (fun (v5 : (List gSetting) × Bool) => bif strB .neq (at' list x1.2.2).Name e.Name then rec1 (v5.1 ++ ([at' list x1.2.2] : List gSetting), v5.2, x1.2.2 + 1) else rec1 (v5.1, v5.2, x1.2.2 + 1)) else k1 (x1.1, x1.2.1, x1.2.2)
def m_spec_l27Set (list : List gSetting) (e : gSetting) : (List gSetting) :=
  LOOP (m_spec_l27Set_b1 list e) (fun (x1 : (List gSetting) × Bool × Int) => bif !x1.2.1 then x1.1 ++ ([e] : List gSetting) else x1.1) (((list.length : Int) - 0 : Int).toNat + 1) (([] : List gSetting), false, 0)

/-! ### spec_l27Names -/
def m_spec_l27Names_b4 (base : List gSetting) (a : List gSetting) (b : List gSetting) (x1 : (List gSetting) × Int) (x2 : (List gSetting) × Int) (x3 : (List gSetting) × Int) (rec4 : ((List (List UInt8)) × Int) → (List (List UInt8))) (k4 : ((List (List UInt8)) × Int) → (List (List UInt8))) (x4 : (List (List UInt8)) × Int) : (List (List UInt8)) :=
  bif decide (x4.2 < (x3.1.length : Int)) then rec4 (x4.1 ++ ([(at' x3.1 x4.2).Name] : List (List UInt8)), x4.2 + 1) else k4 (x4.1, x4.2)
def m_spec_l27Names_b3 (base : List gSetting) (a : List gSetting) (b : List gSetting) (x1 : (List gSetting) × Int) (x2 : (List gSetting) × Int) (rec3 : ((List gSetting) × Int) → (List (List UInt8))) (k3 : ((List gSetting) × Int) → (List (List UInt8))) (x3 : (List gSetting) × Int) : (List (List UInt8)) :=
  bif decide (x3.2 < (b.length : Int)) then rec3 (m_spec_l27Set x3.1 (at' b x3.2), x3.2 + 1) else k3 (x3.1, x3.2)
def m_spec_l27Names_b2 (base : List gSetting) (a : List gSetting) (b : List gSetting) (x1 : (List gSetting) × Int) (rec2 : ((List gSetting) × Int) → (List (List UInt8))) (k2 : ((List gSetting) × Int) → (List (List UInt8))) (x2 : (List gSetting) × Int) : (List (List UInt8)) :=
  bif decide (x2.2 < (a.length : Int)) then rec2 (m_spec_l27Set x2.1 (at' a x2.2), x2.2 + 1) else k2 (x2.1, x2.2)
def m_spec_l27Names_b1 (base : List gSetting) (a : List gSetting) (b : List gSetting) (rec1 : ((List gSetting) × Int) → (List (List UInt8))) (k1 : ((List gSetting) × Int) → (List (List UInt8))) (x1 : (List gSetting) × Int) : (List (List UInt8)) :=
  bif decide (x1.2 < (base.length : Int)) then rec1 (m_spec_l27Set x1.1 (at' base x1.2), x1.2 + 1) else k1 (x1.1, x1.2)
def m_spec_l27Names (base : List gSetting) (a : List gSetting) (b : List gSetting) : (List (List UInt8)) :=
  LOOP (m_spec_l27Names_b1 base a b) (fun (x1 : (List gSetting) × Int) => LOOP (m_spec_l27Names_b2 base a b x1) (fun (x2 : (List gSetting) × Int) => LOOP (m_spec_l27Names_b3 base a b x1 x2) (fun (x3 : (List gSetting) × Int) => LOOP (m_spec_l27Names_b4 base a b x1 x2 x3) (fun (x4 : (List (List UInt8)) × Int) => x4.1) (((x3.1.length : Int) - 0 : Int).toNat + 1) (([] : List (List UInt8)), 0)) (((b.length : Int) - 0 : Int).toNat + 1) (x2.1, 0)) (((a.length : Int) - 0 : Int).toNat + 1) (x1.1, 0)) (((base.length : Int) - 0 : Int).toNat + 1) (([] : List gSetting), 0)

/-! ### spec_l27At -/
def m_spec_l27At_b1 (list : List gSetting) (name : List UInt8) (rec1 : Int → Int) (k1 : Int → Int) (x1 : Int) : Int :=
  bif decide (x1 < (list.length : Int)) then bif strB .eql (at' list x1).Name name then x1 else rec1 (x1 + 1) else k1 x1
def m_spec_l27At (list : List gSetting) (name : List UInt8) : Int :=
  LOOP (m_spec_l27At_b1 list name) (fun (x1 : Int) => (-1)) (((list.length : Int) - 0 : Int).toNat + 1) 0

/-! ### spec_l27Get -/
def m_spec_l27Get (list : List gSetting) (name : List UInt8) : gSetting :=
  bif decide ((m_spec_l27At list name) < 0) then gSetting.mk ([] : List UInt8) 0 else at' list (m_spec_l27At list name)

/-! ### spec_l27Conflicts -/
def m_spec_l27Conflicts_b1 (base : List gSetting) (a : List gSetting) (b : List gSetting) (rec1 : ((List (List UInt8)) × Int) → (List (List UInt8))) (k1 : ((List (List UInt8)) × Int) → (List (List UInt8))) (x1 : (List (List UInt8)) × Int) : (List (List UInt8)) :=
  bif decide (x1.2 < ((m_spec_l27Names base a b).length : Int)) then bif ((!((strB .eql (m_spec_l27Get base (at' (m_spec_l27Names base a b) x1.2)).Name (m_spec_l27Get a (at' (m_spec_l27Names base a b) x1.2)).Name) && (((m_spec_l27Get base (at' (m_spec_l27Names base a b) x1.2)).Value == (m_spec_l27Get a (at' (m_spec_l27Names base a b) x1.2)).Value) && true))) && (!((strB .eql (m_spec_l27Get base (at' (m_spec_l27Names base a b) x1.2)).Name (m_spec_l27Get b (at' (m_spec_l27Names base a b) x1.2)).Name) && (((m_spec_l27Get base (at' (m_spec_l27Names base a b) x1.2)).Value == (m_spec_l27Get b (at' (m_spec_l27Names base a b) x1.2)).Value) && true)))) && (!((strB .eql (m_spec_l27Get a (at' (m_spec_l27Names base a b) x1.2)).Name (m_spec_l27Get b (at' (m_spec_l27Names base a b) x1.2)).Name) && (((m_spec_l27Get a (at' (m_spec_l27Names base a b) x1.2)).Value == (m_spec_l27Get b (at' (m_spec_l27Names base a b) x1.2)).Value) && true))) then rec1 (x1.1 ++ ([at' (m_spec_l27Names base a b) x1.2] : List (List UInt8)), x1.2 + 1) else rec1 (x1.1, x1.2 + 1) else k1 (x1.1, x1.2)
def m_spec_l27Conflicts (base : List gSetting) (a : List gSetting) (b : List gSetting) : (List (List UInt8)) :=
  LOOP (m_spec_l27Conflicts_b1 base a b) (fun (x1 : (List (List UInt8)) × Int) => x1.1) ((((m_spec_l27Names base a b).length : Int) - 0 : Int).toNat + 1) (([] : List (List UInt8)), 0)

/-! ### spec_l27Merge -/
def m_spec_l27Merge_b1 (base : List gSetting) (a : List gSetting) (b : List gSetting) (rec1 : ((List gSetting) × Int) → ((List gSetting) × Int)) (k1 : ((List gSetting) × Int) → ((List gSetting) × Int)) (x1 : (List gSetting) × Int) : (List gSetting) × Int :=
  bif decide (x1.2 < ((m_spec_l27Names base a b).length : Int)) then JN (fun j9 => bif ((strB .eql (m_spec_l27Get a (at' (m_spec_l27Names base a b) x1.2)).Name (m_spec_l27Get base (at' (m_spec_l27Names base a b) x1.2)).Name) && (((m_spec_l27Get a (at' (m_spec_l27Names base a b) x1.2)).Value == (m_spec_l27Get base (at' (m_spec_l27Names base a b) x1.2)).Value) && true)) then j9 ((m_spec_l27Get b (at' (m_spec_l27Names base a b) x1.2)).Name, (m_spec_l27Get b (at' (m_spec_l27Names base a b) x1.2)).Value) else j9 ((m_spec_l27Get a (at' (m_spec_l27Names base a b) x1.2)).Name, (m_spec_l27Get a (at' (m_spec_l27Names base a b) x1.2)).Value)) (fun (v8 : (List UInt8) × Int) => bif strB .neq v8.1 ([] : List UInt8) then rec1 (x1.1 ++ ([gSetting.mk v8.1 v8.2] : List gSetting), x1.2 + 1) else rec1 (x1.1, x1.2 + 1)) else k1 (x1.1, x1.2)
def m_spec_l27Merge (base : List gSetting) (a : List gSetting) (b : List gSetting) : (List gSetting) × Int :=
  bif decide (0 < ((m_spec_l27Conflicts base a b).length : Int)) then (([] : List gSetting), 6) else LOOP (m_spec_l27Merge_b1 base a b) (fun (x1 : (List gSetting) × Int) => bif decide (24 < (x1.1.length : Int)) then (([] : List gSetting), 5) else (x1.1, 0)) ((((m_spec_l27Names base a b).length : Int) - 0 : Int).toNat + 1) (([] : List gSetting), 0)

/-! ### spec_l27StateOf -/
def m_spec_l27StateOf (list : List gVersion) (number : Int) : (List gSetting) :=
  bif number == 0 then ([] : List gSetting) else (at' list (IntKind.wrap .i64 (number - 1))).State

/-! ### spec_l27Above -/
def m_spec_l27Above_b1 (list : List gVersion) (number : Int) (rec1 : (Int × (List Int)) → (List Int)) (k1 : (Int × (List Int)) → (List Int)) (x1 : Int × (List Int)) : (List Int) :=
  bif x1.1 != 0 then bif (at' list (IntKind.wrap .i64 (x1.1 - 1))).Parent != 0 then rec1 ((at' list (IntKind.wrap .i64 (x1.1 - 1))).Parent, x1.2 ++ ([(at' list (IntKind.wrap .i64 (x1.1 - 1))).Parent] : List Int)) else rec1 ((at' list (IntKind.wrap .i64 (x1.1 - 1))).Parent, x1.2) else k1 (x1.1, x1.2)
def m_spec_l27Above (list : List gVersion) (number : Int) : (List Int) :=
  LOOP (m_spec_l27Above_b1 list number) (fun (x1 : Int × (List Int)) => x1.2) (number.toNat + 1) (number, ([] : List Int))

/-! ### spec_l00Has -/
def m_spec_l00Has_b1 (list : List Int) (n_ : Int) (rec1 : Int → Bool) (k1 : Int → Bool) (x1 : Int) : Bool :=
  bif decide (x1 < (list.length : Int)) then bif (at' list x1) == n_ then true else rec1 (x1 + 1) else k1 x1
def m_spec_l00Has (list : List Int) (n_ : Int) : Bool :=
  LOOP (m_spec_l00Has_b1 list n_) (fun (x1 : Int) => false) (((list.length : Int) - 0 : Int).toNat + 1) 0

/-! ### spec_l27Common -/
def m_spec_l27Common_b1 (list : List gVersion) (a : Int) (b : Int) (rec1 : Int → Int) (k1 : Int → Int) (x1 : Int) : Int :=
  bif decide (x1 < ((([a] : List Int) ++ (m_spec_l27Above list a)).length : Int)) then bif m_spec_l00Has (([b] : List Int) ++ (m_spec_l27Above list b)) (at' (([a] : List Int) ++ (m_spec_l27Above list a)) x1) then at' (([a] : List Int) ++ (m_spec_l27Above list a)) x1 else rec1 (x1 + 1) else k1 x1
def m_spec_l27Common (list : List gVersion) (a : Int) (b : Int) : Int :=
  LOOP (m_spec_l27Common_b1 list a b) (fun (x1 : Int) => 0) ((((([a] : List Int) ++ (m_spec_l27Above list a)).length : Int) - 0 : Int).toNat + 1) 0

/-! ### spec_l27Own -/
def m_spec_l27Own_b1 (list : List gVersion) (rec1 : ((List gVersion) × Int) → (List gVersion)) (k1 : ((List gVersion) × Int) → (List gVersion)) (x1 : (List gVersion) × Int) : (List gVersion) :=
  bif decide (x1.2 < (list.length : Int)) then rec1 (x1.1 ++ [gVersion.mk (at' list x1.2).Number (at' list x1.2).Parent (at' list x1.2).Memo (([] : List gSetting) ++ (at' list x1.2).State)], x1.2 + 1) else k1 (x1.1, x1.2)
def m_spec_l27Own (list : List gVersion) : (List gVersion) :=
  LOOP (m_spec_l27Own_b1 list) (fun (x1 : (List gVersion) × Int) => x1.1) (((list.length : Int) - 0 : Int).toNat + 1) (([] : List gVersion), 0)

/-! ### spec_l27Add -/
def m_spec_l27Add (list : List gVersion) (parent : Int) (memo : List UInt8) (state : List gSetting) : (List gVersion) × Int :=
  bif (list.length : Int) == 32 then (([] : List gVersion), 5) else ((m_spec_l27Own list) ++ [gVersion.mk ((list.length : Int) + 1) parent memo (([] : List gSetting) ++ state)], 0)

/-! ### spec_MergeVersions -/
def m_spec_MergeVersions (list : List gVersion) (a : Int) (b : Int) (memo : List UInt8) : (List gVersion) × Int :=
  bif (!(m_spec_l27Ok list)) || (!(m_spec_l27Memo memo)) then (([] : List gVersion), 1) else bif (!(m_spec_l27Number list a)) || (!(m_spec_l27Number list b)) then (([] : List gVersion), 3) else bif (m_spec_l27Merge (m_spec_l27StateOf list (m_spec_l27Common list a b)) (m_spec_l27StateOf list a) (m_spec_l27StateOf list b)).2 != 0 then (([] : List gVersion), (m_spec_l27Merge (m_spec_l27StateOf list (m_spec_l27Common list a b)) (m_spec_l27StateOf list a) (m_spec_l27StateOf list b)).2) else ((m_spec_l27Add list a memo (m_spec_l27Merge (m_spec_l27StateOf list (m_spec_l27Common list a b)) (m_spec_l27StateOf list a) (m_spec_l27StateOf list b)).1).1, (m_spec_l27Add list a memo (m_spec_l27Merge (m_spec_l27StateOf list (m_spec_l27Common list a b)) (m_spec_l27StateOf list a) (m_spec_l27StateOf list b)).1).2)

/-! ### laws_toSetting -/
def m_laws_toSetting (a : gSetting) : gSetting :=
  a

/-! ### laws_toSettingS -/
def m_laws_toSettingS_b1 (a : List gSetting) (rec1 : ((List gSetting) × Int) → (List gSetting)) (k1 : ((List gSetting) × Int) → (List gSetting)) (x1 : (List gSetting) × Int) : (List gSetting) :=
  bif decide (x1.2 < (a.length : Int)) then rec1 (put' x1.1 x1.2 (m_laws_toSetting (at' a x1.2)), x1.2 + 1) else k1 (x1.1, x1.2)
def m_laws_toSettingS (a : List gSetting) : (List gSetting) :=
  LOOP (m_laws_toSettingS_b1 a) (fun (x1 : (List gSetting) × Int) => x1.1) (((a.length : Int) - 0 : Int).toNat + 1) (List.replicate ((a.length : Int) : Int).toNat (gSetting.mk ([] : List UInt8) 0 : gSetting), 0)

/-! ### laws_toVersion -/
def m_laws_toVersion (a : gVersion) : gVersion :=
  gVersion.mk a.Number a.Parent a.Memo (m_laws_toSettingS a.State)

/-! ### laws_toVersionS -/
def m_laws_toVersionS_b1 (a : List gVersion) (rec1 : ((List gVersion) × Int) → (List gVersion)) (k1 : ((List gVersion) × Int) → (List gVersion)) (x1 : (List gVersion) × Int) : (List gVersion) :=
  bif decide (x1.2 < (a.length : Int)) then rec1 (put' x1.1 x1.2 (m_laws_toVersion (at' a x1.2)), x1.2 + 1) else k1 (x1.1, x1.2)
def m_laws_toVersionS (a : List gVersion) : (List gVersion) :=
  LOOP (m_laws_toVersionS_b1 a) (fun (x1 : (List gVersion) × Int) => x1.1) (((a.length : Int) - 0 : Int).toNat + 1) (List.replicate ((a.length : Int) : Int).toNat (gVersion.mk 0 0 ([] : List UInt8) [] : gVersion), 0)

/-! ### impl_bytesWithin -/
def m_impl_bytesWithin_b1 (s_ : List UInt8) (low : Int) (high : Int) (rec1 : Int → Bool) (k1 : Int → Bool) (x1 : Int) : Bool :=
  bif decide (x1 < (s_.length : Int)) then bif (decide ((((s_.getD x1.toNat 0).toNat : Nat) : Int) < low)) || (decide (high < (((s_.getD x1.toNat 0).toNat : Nat) : Int))) then false else rec1 (x1 + 1) else k1 x1
def m_impl_bytesWithin (s_ : List UInt8) (low : Int) (high : Int) : Bool :=
  LOOP (m_impl_bytesWithin_b1 s_ low high) (fun (x1 : Int) => true) (((s_.length : Int) - 0 : Int).toNat + 1) 0

/-! ### impl_memoValid -/
def m_impl_memoValid (memo : List UInt8) : Bool :=
  (decide ((memo.length : Int) ≤ 20)) && (m_impl_bytesWithin memo 32 126)

/-! ### impl_within -/
def m_impl_within (n_ : Int) (low : Int) (high : Int) : Bool :=
  (decide (low ≤ n_)) && (decide (n_ ≤ high))

/-! ### impl_onlyNameBytes -/
def m_impl_onlyNameBytes_b1 (s_ : List UInt8) (rec1 : Int → Bool) (k1 : Int → Bool) (x1 : Int) : Bool :=
  bif decide (x1 < (s_.length : Int)) then bif ((decide ((((s_.getD x1.toNat 0).toNat : Nat) : Int) < 97)) || (decide (122 < (((s_.getD x1.toNat 0).toNat : Nat) : Int)))) && ((decide ((((s_.getD x1.toNat 0).toNat : Nat) : Int) < 48)) || (decide (57 < (((s_.getD x1.toNat 0).toNat : Nat) : Int)))) then false else rec1 (x1 + 1) else k1 x1
def m_impl_onlyNameBytes (s_ : List UInt8) : Bool :=
  LOOP (m_impl_onlyNameBytes_b1 s_) (fun (x1 : Int) => true) (((s_.length : Int) - 0 : Int).toNat + 1) 0

/-! ### impl_IsName -/
def m_impl_IsName (s_ : List UInt8) : Bool :=
  bif (((decide ((s_.length : Int) < 1)) || (decide (10 < (s_.length : Int)))) || (decide ((((s_.getD (0 : Int).toNat 0).toNat : Nat) : Int) < 97))) || (decide (122 < (((s_.getD (0 : Int).toNat 0).toNat : Nat) : Int))) then false else m_impl_onlyNameBytes s_

/-! ### impl_Setting_valid -/
def m_impl_Setting_valid (x_ : gSetting) : Bool :=
  (m_impl_IsName x_.Name) && (m_impl_within x_.Value 0 1000)

/-! ### impl_ValidState -/
def m_impl_ValidState_b1 (list : List gSetting) (rec1 : Int → Bool) (k1 : Int → Bool) (x1 : Int) : Bool :=
  bif decide (x1 < (list.length : Int)) then bif (!(m_impl_Setting_valid (at' list x1))) || ((decide (0 < x1)) && (strB .leq (at' list x1).Name (at' list (x1 - 1)).Name)) then false else rec1 (x1 + 1) else k1 x1
def m_impl_ValidState (list : List gSetting) : Bool :=
  bif decide (24 < (list.length : Int)) then false else LOOP (m_impl_ValidState_b1 list) (fun (x1 : Int) => true) (((list.length : Int) - 0 : Int).toNat + 1) 0

/-! ### impl_ValidHistory -/
def m_impl_ValidHistory_b1 (list : List gVersion) (rec1 : Int → Bool) (k1 : Int → Bool) (x1 : Int) : Bool :=
  bif decide (x1 < (list.length : Int)) then bif ((((at' list x1).Number != (x1 + 1)) || (!(m_impl_within (at' list x1).Parent 0 x1))) || (!(m_impl_memoValid (at' list x1).Memo))) || (!(m_impl_ValidState (at' list x1).State)) then false else rec1 (x1 + 1) else k1 x1
def m_impl_ValidHistory (list : List gVersion) : Bool :=
  bif decide (32 < (list.length : Int)) then false else LOOP (m_impl_ValidHistory_b1 list) (fun (x1 : Int) => true) (((list.length : Int) - 0 : Int).toNat + 1) 0

/-! ### slices_IndexFunc_int64 -/
def m_slices_IndexFunc_int64_b1 (s_ : List Int) (f : (Int → Bool)) (rec1 : Int → Int) (k1 : Int → Int) (x1 : Int) : Int :=
  bif decide (x1 < (s_.length : Int)) then bif f (at' s_ x1) then x1 else rec1 (x1 + 1) else k1 x1
def m_slices_IndexFunc_int64 (s_ : List Int) (f : Int → Bool) : Int :=
  LOOP (m_slices_IndexFunc_int64_b1 s_ f) (fun (x1 : Int) => (-1)) (((s_.length : Int) - 0 : Int).toNat + 1) 0

/-! ### slices_ContainsFunc_int64 -/
def m_slices_ContainsFunc_int64 (s_ : List Int) (f : Int → Bool) : Bool :=
  decide (0 ≤ (m_slices_IndexFunc_int64 s_ f))

/-! ### impl_allWithin_1 -/
def m_impl_allWithin_1 (n_ : Int) (p1 : Int) (p2 : Int) : Bool :=
  !(m_impl_within n_ p1 p2)

/-! ### impl_allWithin -/
def m_impl_allWithin (list : List Int) (low : Int) (high : Int) : Bool :=
  !(m_slices_ContainsFunc_int64 list (fun (a0 : Int) => m_impl_allWithin_1 a0 low high))

/-! ### impl_versionsCode -/
def m_impl_versionsCode (list : List gVersion) (numbers : List Int) : Int :=
  bif !(m_impl_ValidHistory list) then 1 else bif !(m_impl_allWithin numbers 1 (list.length : Int)) then 3 else 0

/-! ### slices_Sort_string -/
def m_slices_Sort_string (x : List (List UInt8)) : (List (List UInt8)) := x.mergeSort fun x y => decide (x ≤ y)

/-! ### slices_Compact_string -/
def m_slices_Compact_string (s : List (List UInt8)) : (List (List UInt8)) := Lib.compact s

/-! ### impl_namesOf -/
def m_impl_namesOf_b2 (states : List (List gSetting)) (rec1 : ((List (List UInt8)) × Int) → (List (List UInt8))) (k1 : ((List (List UInt8)) × Int) → (List (List UInt8))) (x1 : (List (List UInt8)) × Int) (rec2 : ((List (List UInt8)) × Int) → (List (List UInt8))) (k2 : ((List (List UInt8)) × Int) → (List (List UInt8))) (x2 : (List (List UInt8)) × Int) : (List (List UInt8)) :=
  bif decide (x2.2 < ((at' states x1.2).length : Int)) then rec2 (x2.1 ++ ([(at' (at' states x1.2) x2.2).Name] : List (List UInt8)), x2.2 + 1) else k2 (x2.1, x2.2)
def m_impl_namesOf_b1 (states : List (List gSetting)) (rec1 : ((List (List UInt8)) × Int) → (List (List UInt8))) (k1 : ((List (List UInt8)) × Int) → (List (List UInt8))) (x1 : (List (List UInt8)) × Int) : (List (List UInt8)) :=
  bif decide (x1.2 < (states.length : Int)) then LOOP (m_impl_namesOf_b2 states rec1 k1 x1) (fun (x2 : (List (List UInt8)) × Int) => rec1 (x2.1, x1.2 + 1)) ((((at' states x1.2).length : Int) - 0 : Int).toNat + 1) (x1.1, 0) else k1 (x1.1, x1.2)
def m_impl_namesOf (states : List (List gSetting)) : (List (List UInt8)) :=
  LOOP (m_impl_namesOf_b1 states) (fun (x1 : (List (List UInt8)) × Int) => m_slices_Compact_string (m_slices_Sort_string x1.1)) (((states.length : Int) - 0 : Int).toNat + 1) (([] : List (List UInt8)), 0)

/-! ### slices_IndexFunc_string -/
def m_slices_IndexFunc_string_b1 (s_ : List (List UInt8)) (f : (List UInt8 → Bool)) (rec1 : Int → Int) (k1 : Int → Int) (x1 : Int) : Int :=
  bif decide (x1 < (s_.length : Int)) then bif f (at' s_ x1) then x1 else rec1 (x1 + 1) else k1 x1
def m_slices_IndexFunc_string (s_ : List (List UInt8)) (f : List UInt8 → Bool) : Int :=
  LOOP (m_slices_IndexFunc_string_b1 s_ f) (fun (x1 : Int) => (-1)) (((s_.length : Int) - 0 : Int).toNat + 1) 0

/-! ### slices_DeleteFunc_string -/
def m_slices_DeleteFunc_string_b1 (s_ : List (List UInt8)) (del : (List UInt8 → Bool)) (rec1 : ((List (List UInt8)) × Int × Int) → ((List (List UInt8)) × (List (List UInt8)))) (k1 : ((List (List UInt8)) × Int × Int) → ((List (List UInt8)) × (List (List UInt8)))) (x1 : (List (List UInt8)) × Int × Int) : (List (List UInt8)) × (List (List UInt8)) :=
  bif decide (x1.2.2 < (x1.1.length : Int)) then bif !(del (at' x1.1 x1.2.2)) then rec1 (put' x1.1 x1.2.1 (at' x1.1 x1.2.2), IntKind.wrap .i64 (x1.2.1 + 1), x1.2.2 + 1) else rec1 (x1.1, x1.2.1, x1.2.2 + 1) else k1 (x1.1, x1.2.1, x1.2.2)
def m_slices_DeleteFunc_string (s_ : List (List UInt8)) (del : List UInt8 → Bool) : (List (List UInt8)) × (List (List UInt8)) :=
  bif (m_slices_IndexFunc_string s_ del) == (-1) then (s_, s_) else LOOP (m_slices_DeleteFunc_string_b1 s_ del) (fun (x1 : (List (List UInt8)) × Int × Int) => (pre' (cpy x1.1 (x1.2.1.toNat) (List.replicate ((x1.1.length : Int).toNat - x1.2.1.toNat) (([] : List UInt8) : List UInt8))) x1.2.1, pre' (cpy x1.1 (x1.2.1.toNat) (List.replicate ((x1.1.length : Int).toNat - x1.2.1.toNat) (([] : List UInt8) : List UInt8))) x1.2.1)) (((s_.length : Int) - (IntKind.wrap .i64 ((m_slices_IndexFunc_string s_ del) + 1)) : Int).toNat + 1) (s_, m_slices_IndexFunc_string s_ del, IntKind.wrap .i64 ((m_slices_IndexFunc_string s_ del) + 1))

/-! ### impl_valueAt -/
def m_impl_valueAt_b1 (list : List gSetting) (name : List UInt8) (rec1 : Int → (Int × Bool)) (k1 : Int → (Int × Bool)) (x1 : Int) : Int × Bool :=
  bif decide (x1 < (list.length : Int)) then bif strB .eql (at' list x1).Name name then ((at' list x1).Value, true) else rec1 (x1 + 1) else k1 x1
def m_impl_valueAt (list : List gSetting) (name : List UInt8) : Int × Bool :=
  LOOP (m_impl_valueAt_b1 list name) (fun (x1 : Int) => (0, false)) (((list.length : Int) - 0 : Int).toNat + 1) 0

/-! ### impl_thingAt -/
def m_impl_thingAt (list : List gSetting) (name : List UInt8) : gthing :=
  gthing.mk (m_impl_valueAt list name).1 (m_impl_valueAt list name).2

/-! ### impl_conflictsOf_1 -/
def m_impl_conflictsOf_1 (name : List UInt8) (p1 : List gSetting) (p2 : List gSetting) (p3 : List gSetting) : Bool :=
  ((((m_impl_thingAt p2 name).value == (m_impl_thingAt p3 name).value) && (((m_impl_thingAt p2 name).there == (m_impl_thingAt p3 name).there) && true)) || (((m_impl_thingAt p2 name).value == (m_impl_thingAt p1 name).value) && (((m_impl_thingAt p2 name).there == (m_impl_thingAt p1 name).there) && true))) || (((m_impl_thingAt p3 name).value == (m_impl_thingAt p1 name).value) && (((m_impl_thingAt p3 name).there == (m_impl_thingAt p1 name).there) && true))

/-! ### impl_conflictsOf -/
def m_impl_conflictsOf (base : List gSetting) (a : List gSetting) (b : List gSetting) : (List (List UInt8)) :=
  (m_slices_DeleteFunc_string (m_impl_namesOf ([base, a, b] : List (List gSetting))) (fun (a0 : List UInt8) => m_impl_conflictsOf_1 a0 base a b)).1

/-! ### impl_MergeStates -/
def m_impl_MergeStates_b1 (base : List gSetting) (a : List gSetting) (b : List gSetting) (rec1 : ((List gSetting) × Int) → ((List gSetting) × Int)) (k1 : ((List gSetting) × Int) → ((List gSetting) × Int)) (x1 : (List gSetting) × Int) : (List gSetting) × Int :=
  bif decide (x1.2 < ((m_impl_namesOf ([base, a, b] : List (List gSetting))).length : Int)) then JN (fun j10 => bif (((m_impl_thingAt a (at' (m_impl_namesOf ([base, a, b] : List (List gSetting))) x1.2)).value == (m_impl_thingAt base (at' (m_impl_namesOf ([base, a, b] : List (List gSetting))) x1.2)).value) && (((m_impl_thingAt a (at' (m_impl_namesOf ([base, a, b] : List (List gSetting))) x1.2)).there == (m_impl_thingAt base (at' (m_impl_namesOf ([base, a, b] : List (List gSetting))) x1.2)).there) && true)) then j10 ((m_impl_thingAt b (at' (m_impl_namesOf ([base, a, b] : List (List gSetting))) x1.2)).value, (m_impl_thingAt b (at' (m_impl_namesOf ([base, a, b] : List (List gSetting))) x1.2)).there) else j10 ((m_impl_thingAt a (at' (m_impl_namesOf ([base, a, b] : List (List gSetting))) x1.2)).value, (m_impl_thingAt a (at' (m_impl_namesOf ([base, a, b] : List (List gSetting))) x1.2)).there)) (fun (v9 : Int × Bool) => bif v9.2 then rec1 (x1.1 ++ ([gSetting.mk (at' (m_impl_namesOf ([base, a, b] : List (List gSetting))) x1.2) v9.1] : List gSetting), x1.2 + 1) else rec1 (x1.1, x1.2 + 1)) else k1 (x1.1, x1.2)
def m_impl_MergeStates (base : List gSetting) (a : List gSetting) (b : List gSetting) : (List gSetting) × Int :=
  bif ((!(m_impl_ValidState base)) || (!(m_impl_ValidState a))) || (!(m_impl_ValidState b)) then (([] : List gSetting), 1) else bif decide (0 < ((m_impl_conflictsOf base a b).length : Int)) then (([] : List gSetting), 6) else LOOP (m_impl_MergeStates_b1 base a b) (fun (x1 : (List gSetting) × Int) => bif decide (24 < (x1.1.length : Int)) then (([] : List gSetting), 5) else (x1.1, 0)) ((((m_impl_namesOf ([base, a, b] : List (List gSetting))).length : Int) - 0 : Int).toNat + 1) (([] : List gSetting), 0)

/-! ### impl_versionState -/
def m_impl_versionState (list : List gVersion) (number : Int) : (List gSetting) :=
  bif number == 0 then ([] : List gSetting) else (at' list (IntKind.wrap .i64 (number - 1))).State

/-! ### impl_lineOf -/
def m_impl_lineOf_b1 (list : List gVersion) (number : Int) (rec1 : (Int × (List Int)) → (List Int)) (k1 : (Int × (List Int)) → (List Int)) (x1 : Int × (List Int)) : (List Int) :=
  bif decide (0 < x1.1) then rec1 ((at' list (IntKind.wrap .i64 (x1.1 - 1))).Parent, x1.2 ++ ([x1.1] : List Int)) else k1 (x1.1, x1.2)
def m_impl_lineOf (list : List gVersion) (number : Int) : (List Int) :=
  LOOP (m_impl_lineOf_b1 list number) (fun (x1 : Int × (List Int)) => x1.2) (number.toNat + 1) (number, ([] : List Int))

/-! ### slices_Index_int64 -/
def m_slices_Index_int64_b1 (s_ : List Int) (v : Int) (rec1 : Int → Int) (k1 : Int → Int) (x1 : Int) : Int :=
  bif decide (x1 < (s_.length : Int)) then bif v == (at' s_ x1) then x1 else rec1 (x1 + 1) else k1 x1
def m_slices_Index_int64 (s_ : List Int) (v : Int) : Int :=
  LOOP (m_slices_Index_int64_b1 s_ v) (fun (x1 : Int) => (-1)) (((s_.length : Int) - 0 : Int).toNat + 1) 0

/-! ### slices_Contains_int64 -/
def m_slices_Contains_int64 (s_ : List Int) (v : Int) : Bool :=
  decide (0 ≤ (m_slices_Index_int64 s_ v))

/-! ### impl_commonAncestor -/
def m_impl_commonAncestor_b1 (list : List gVersion) (a : Int) (b : Int) (rec1 : Int → Int) (k1 : Int → Int) (x1 : Int) : Int :=
  bif decide (x1 < ((m_impl_lineOf list a).length : Int)) then bif m_slices_Contains_int64 (m_impl_lineOf list b) (at' (m_impl_lineOf list a) x1) then at' (m_impl_lineOf list a) x1 else rec1 (x1 + 1) else k1 x1
def m_impl_commonAncestor (list : List gVersion) (a : Int) (b : Int) : Int :=
  LOOP (m_impl_commonAncestor_b1 list a b) (fun (x1 : Int) => 0) ((((m_impl_lineOf list a).length : Int) - 0 : Int).toNat + 1) 0

/-! ### slices_Clone_impl_Version -/
def m_slices_Clone_impl_Version (s_ : List gVersion) : (List gVersion) :=
  ([] : List gVersion) ++ s_

/-! ### slices_Clone_impl_Setting -/
def m_slices_Clone_impl_Setting (s_ : List gSetting) : (List gSetting) :=
  ([] : List gSetting) ++ s_

/-! ### impl_withVersion -/
def m_impl_withVersion_b1 (list : List gVersion) (parent : Int) (memo : List UInt8) (state : List gSetting) (rec1 : ((List gVersion) × Int) → ((List gVersion) × Int)) (k1 : ((List gVersion) × Int) → ((List gVersion) × Int)) (x1 : (List gVersion) × Int) : (List gVersion) × Int :=
  bif decide (x1.2 < (((m_slices_Clone_impl_Version list) ++ ([gVersion.mk ((list.length : Int) + 1) parent memo state] : List gVersion)).length : Int)) then rec1 (x1.1 ++ [gVersion.mk (at' ((m_slices_Clone_impl_Version list) ++ ([gVersion.mk ((list.length : Int) + 1) parent memo state] : List gVersion)) x1.2).Number (at' ((m_slices_Clone_impl_Version list) ++ ([gVersion.mk ((list.length : Int) + 1) parent memo state] : List gVersion)) x1.2).Parent (at' ((m_slices_Clone_impl_Version list) ++ ([gVersion.mk ((list.length : Int) + 1) parent memo state] : List gVersion)) x1.2).Memo (m_slices_Clone_impl_Setting (at' ((m_slices_Clone_impl_Version list) ++ ([gVersion.mk ((list.length : Int) + 1) parent memo state] : List gVersion)) x1.2).State)], x1.2 + 1) else k1 (x1.1, x1.2)
def m_impl_withVersion (list : List gVersion) (parent : Int) (memo : List UInt8) (state : List gSetting) : (List gVersion) × Int :=
  bif (list.length : Int) == 32 then (([] : List gVersion), 5) else LOOP (m_impl_withVersion_b1 list parent memo state) (fun (x1 : (List gVersion) × Int) => (x1.1, 0)) (((((m_slices_Clone_impl_Version list) ++ ([gVersion.mk ((list.length : Int) + 1) parent memo state] : List gVersion)).length : Int) - 0 : Int).toNat + 1) (([] : List gVersion), 0)

/-! ### impl_MergeVersions -/
def m_impl_MergeVersions (list : List gVersion) (a : Int) (b : Int) (memo : List UInt8) : (List gVersion) × Int :=
  bif ((m_impl_versionsCode list ([a, b] : List Int)) == 1) || (!(m_impl_memoValid memo)) then (([] : List gVersion), 1) else bif (m_impl_versionsCode list ([a, b] : List Int)) != 0 then (([] : List gVersion), m_impl_versionsCode list ([a, b] : List Int)) else bif (m_impl_MergeStates (m_impl_versionState list (m_impl_commonAncestor list a b)) (m_impl_versionState list a) (m_impl_versionState list b)).2 != 0 then (([] : List gVersion), (m_impl_MergeStates (m_impl_versionState list (m_impl_commonAncestor list a b)) (m_impl_versionState list a) (m_impl_versionState list b)).2) else ((m_impl_withVersion list a memo (m_impl_MergeStates (m_impl_versionState list (m_impl_commonAncestor list a b)) (m_impl_versionState list a) (m_impl_versionState list b)).1).1, (m_impl_withVersion list a memo (m_impl_MergeStates (m_impl_versionState list (m_impl_commonAncestor list a b)) (m_impl_versionState list a) (m_impl_versionState list b)).1).2)

/-! ### laws_eqSetting -/
def m_laws_eqSetting (a : gSetting) (b : gSetting) : Bool :=
  bif strB .neq a.Name b.Name then false else bif a.Value != b.Value then false else true

/-! ### laws_eqSettingS -/
def m_laws_eqSettingS_b1 (a : List gSetting) (b : List gSetting) (rec1 : Int → Bool) (k1 : Int → Bool) (x1 : Int) : Bool :=
  bif decide (x1 < (a.length : Int)) then bif !(m_laws_eqSetting (at' a x1) (at' b x1)) then false else rec1 (x1 + 1) else k1 x1
def m_laws_eqSettingS (a : List gSetting) (b : List gSetting) : Bool :=
  bif (a.length : Int) != (b.length : Int) then false else LOOP (m_laws_eqSettingS_b1 a b) (fun (x1 : Int) => true) (((a.length : Int) - 0 : Int).toNat + 1) 0

/-! ### laws_eqVersion -/
def m_laws_eqVersion (a : gVersion) (b : gVersion) : Bool :=
  bif a.Number != b.Number then false else bif a.Parent != b.Parent then false else bif strB .neq a.Memo b.Memo then false else bif !(m_laws_eqSettingS a.State b.State) then false else true

/-! ### laws_eqVersionS -/
def m_laws_eqVersionS_b1 (a : List gVersion) (b : List gVersion) (rec1 : Int → Bool) (k1 : Int → Bool) (x1 : Int) : Bool :=
  bif decide (x1 < (a.length : Int)) then bif !(m_laws_eqVersion (at' a x1) (at' b x1)) then false else rec1 (x1 + 1) else k1 x1
def m_laws_eqVersionS (a : List gVersion) (b : List gVersion) : Bool :=
  bif (a.length : Int) != (b.length : Int) then false else LOOP (m_laws_eqVersionS_b1 a b) (fun (x1 : Int) => true) (((a.length : Int) - 0 : Int).toNat + 1) 0

/-! ### laws_markText -/
def m_laws_markText_b1 (k_ : Int) (rec1 : (Int × (List UInt8)) → (List UInt8)) (k1 : (Int × (List UInt8)) → (List UInt8)) (x1 : Int × (List UInt8)) : (List UInt8) :=
  bif decide (0 < x1.1) then rec1 (IntKind.wrap .i64 (Int.tdiv x1.1 10), (chars ([IntKind.wrap .u8 (IntKind.wrap .i64 (48 + (Int.tmod x1.1 10)))] : List Int)) ++ x1.2) else k1 (x1.1, x1.2)
def m_laws_markText (k_ : Int) : (List UInt8) :=
  bif decide (k_ ≤ 0) then ([109, 48] : List UInt8) else LOOP (m_laws_markText_b1 k_) (fun (x1 : Int × (List UInt8)) => ([109] : List UInt8) ++ x1.2) (k_.toNat + 1) (k_, ([] : List UInt8))

/-! ### laws_markSettingS -/
def m_laws_markSettingS_b1 (a : List gSetting) (k_ : Int) (rec1 : ((List gSetting) × Int × Int) → (Int × (List gSetting))) (k1 : ((List gSetting) × Int × Int) → (Int × (List gSetting))) (x1 : (List gSetting) × Int × Int) : Int × (List gSetting) :=
  bif decide (x1.2.2 < (x1.1.length : Int)) then rec1 (put' x1.1 x1.2.2 (gSetting.mk (m_laws_markText x1.2.1) (IntKind.wrap .i64 (x1.2.1 + 1))), IntKind.wrap .i64 ((IntKind.wrap .i64 (x1.2.1 + 1)) + 1), x1.2.2 + 1) else k1 (x1.1, x1.2.1, x1.2.2)
def m_laws_markSettingS (a : List gSetting) (k_ : Int) : Int × (List gSetting) :=
  LOOP (m_laws_markSettingS_b1 a k_) (fun (x1 : (List gSetting) × Int × Int) => (x1.2.1, x1.1)) (((a.length : Int) - 0 : Int).toNat + 1) (a, k_, 0)

/-! ### laws_markVersionS -/
def m_laws_markVersionS_b1 (a : List gVersion) (k_ : Int) (rec1 : ((List gVersion) × Int × Int) → (Int × (List gVersion))) (k1 : ((List gVersion) × Int × Int) → (Int × (List gVersion))) (x1 : (List gVersion) × Int × Int) : Int × (List gVersion) :=
  bif decide (x1.2.2 < (x1.1.length : Int)) then rec1 (put' x1.1 x1.2.2 (gVersion.mk x1.2.1 (IntKind.wrap .i64 (x1.2.1 + 1)) (m_laws_markText (IntKind.wrap .i64 ((IntKind.wrap .i64 (x1.2.1 + 1)) + 1))) (m_laws_markSettingS (at' x1.1 x1.2.2).State (IntKind.wrap .i64 ((IntKind.wrap .i64 ((IntKind.wrap .i64 (x1.2.1 + 1)) + 1)) + 1))).2), (m_laws_markSettingS (at' x1.1 x1.2.2).State (IntKind.wrap .i64 ((IntKind.wrap .i64 ((IntKind.wrap .i64 (x1.2.1 + 1)) + 1)) + 1))).1, x1.2.2 + 1) else k1 (x1.1, x1.2.1, x1.2.2)
def m_laws_markVersionS (a : List gVersion) (k_ : Int) : Int × (List gVersion) :=
  LOOP (m_laws_markVersionS_b1 a k_) (fun (x1 : (List gVersion) × Int × Int) => (x1.2.1, x1.1)) (((a.length : Int) - 0 : Int).toNat + 1) (a, k_, 0)

/-! ### laws_heldSettingS -/
def m_laws_heldSettingS_b1 (a : List gSetting) (k_ : Int) (rec1 : (Int × Int) → Int) (k1 : (Int × Int) → Int) (x1 : Int × Int) : Int :=
  bif decide (x1.2 < (a.length : Int)) then bif strB .neq (at' a x1.2).Name (m_laws_markText x1.1) then (-1) else bif (at' a x1.2).Value != (IntKind.wrap .i64 (x1.1 + 1)) then (-1) else rec1 (IntKind.wrap .i64 ((IntKind.wrap .i64 (x1.1 + 1)) + 1), x1.2 + 1) else k1 (x1.1, x1.2)
def m_laws_heldSettingS (a : List gSetting) (k_ : Int) : Int :=
  LOOP (m_laws_heldSettingS_b1 a k_) (fun (x1 : Int × Int) => x1.1) (((a.length : Int) - 0 : Int).toNat + 1) (k_, 0)

/-! ### laws_heldVersionS -/
def m_laws_heldVersionS_b1 (a : List gVersion) (k_ : Int) (rec1 : (Int × Int) → Int) (k1 : (Int × Int) → Int) (x1 : Int × Int) : Int :=
  bif decide (x1.2 < (a.length : Int)) then bif (at' a x1.2).Number != x1.1 then (-1) else bif (at' a x1.2).Parent != (IntKind.wrap .i64 (x1.1 + 1)) then (-1) else bif strB .neq (at' a x1.2).Memo (m_laws_markText (IntKind.wrap .i64 ((IntKind.wrap .i64 (x1.1 + 1)) + 1))) then (-1) else bif decide ((m_laws_heldSettingS (at' a x1.2).State (IntKind.wrap .i64 ((IntKind.wrap .i64 ((IntKind.wrap .i64 (x1.1 + 1)) + 1)) + 1))) < 0) then (-1) else rec1 (m_laws_heldSettingS (at' a x1.2).State (IntKind.wrap .i64 ((IntKind.wrap .i64 ((IntKind.wrap .i64 (x1.1 + 1)) + 1)) + 1)), x1.2 + 1) else k1 (x1.1, x1.2)
def m_laws_heldVersionS (a : List gVersion) (k_ : Int) : Int :=
  LOOP (m_laws_heldVersionS_b1 a k_) (fun (x1 : Int × Int) => x1.1) (((a.length : Int) - 0 : Int).toNat + 1) (k_, 0)

/-! ### laws_FnExactMergeVersions -/
def m_laws_FnExactMergeVersions (aList : List gVersion) (aA : Int) (aB : Int) (aMemo : List UInt8) : Bool :=
  bif decide (1048576 < (aMemo.length : Int)) then true else bif decide ((m_laws_szVersionS aList 1048576) < 0) then true else bif (!(m_laws_eqVersionS (m_impl_MergeVersions (m_laws_toVersionS aList) aA aB aMemo).1 (m_spec_MergeVersions (m_laws_toVersionS aList) aA aB aMemo).1)) || ((m_impl_MergeVersions (m_laws_toVersionS aList) aA aB aMemo).2 != (m_spec_MergeVersions (m_laws_toVersionS aList) aA aB aMemo).2) then false else bif !(m_laws_eqVersionS (m_laws_toVersionS aList) (m_laws_toVersionS aList)) then false else bif ((decide ((m_laws_markVersionS (m_laws_toVersionS aList) 1).1 < 0)) || (!(m_laws_eqVersionS (m_impl_MergeVersions (m_laws_toVersionS aList) aA aB aMemo).1 (m_spec_MergeVersions (m_laws_toVersionS aList) aA aB aMemo).1))) || ((m_impl_MergeVersions (m_laws_toVersionS aList) aA aB aMemo).2 != (m_spec_MergeVersions (m_laws_toVersionS aList) aA aB aMemo).2) then false else bif decide ((m_laws_heldVersionS (m_laws_markVersionS (m_impl_MergeVersions (m_laws_toVersionS aList) aA aB aMemo).1 1).2 1) < 0) then false else bif (m_laws_heldVersionS (m_laws_markVersionS (m_impl_MergeVersions (m_laws_toVersionS aList) aA aB aMemo).1 1).2 1) != (m_laws_markVersionS (m_impl_MergeVersions (m_laws_toVersionS aList) aA aB aMemo).1 1).1 then false else bif (!(m_laws_eqVersionS (m_impl_MergeVersions (m_laws_toVersionS aList) aA aB aMemo).1 (m_spec_MergeVersions (m_laws_toVersionS aList) aA aB aMemo).1)) || ((m_impl_MergeVersions (m_laws_toVersionS aList) aA aB aMemo).2 != (m_spec_MergeVersions (m_laws_toVersionS aList) aA aB aMemo).2) then false else bif decide ((m_laws_heldVersionS (m_laws_markVersionS (m_impl_MergeVersions (m_laws_toVersionS aList) aA aB aMemo).1 1).2 1) < 0) then false else bif (m_laws_heldVersionS (m_laws_markVersionS (m_impl_MergeVersions (m_laws_toVersionS aList) aA aB aMemo).1 1).2 1) != (m_laws_markVersionS (m_impl_MergeVersions (m_laws_toVersionS aList) aA aB aMemo).1 1).1 then false else true

end Go.Proofs.Ytdkkcemlnjlebaa
