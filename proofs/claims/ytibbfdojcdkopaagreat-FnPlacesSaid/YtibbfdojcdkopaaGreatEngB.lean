/-
  THE ENGINE, part B: one operation's step on a state ('Step'), what such a step looks at and writes ('A'), the run of a region in the order of the text ('Lex'), and the operations that compute and read.
  Conditions: none; all of it is over any program.
-/
import Derived.Test.YtibbfdojcdkopaaGreatEngA
import Derived.Laws.Strings
import Derived.Laws.StructEq
import Derived.Laws.Cover1
import Derived.Calls
import Derived.Tactics
set_option linter.unusedVariables false
set_option linter.unusedSimpArgs false
set_option linter.unusedSectionVars false
set_option linter.unnecessarySimpa false
namespace Go.Proofs.YtibbfdojcdkopaaGreat.E
open Go Go.RowKit

/-- What a step looks at ('kt': slots, 'kh': labels), which labels it makes ('nw'), what it writes. -/
structure A where
  kt : List Nat
  kh : List Nat
  nw : List Nat
  wt : List (Nat × Option En)
  wh : List (Nat × Option O)
def S.upd (s : S) (b : A) : S := ⟨b.wt ++ s.T, b.wh ++ s.H⟩

section
variable {P : Program} {n : Nat} {ops : Array Oper}
def Step (P : Program) (n : Nat) (ops : Array Oper) (s : S) (o : Oper) (b : A) : Prop :=
  ∀ (c : Cx) (κ : Ka) (a : Act) (w : World), c.okP P → Sat n c κ s a w → ∀ (K : Act → World → Prop) (Q : Exit → Act → World → Prop),
    (∀ a' w' κ', Sat n c κ' (s.upd b) a' w' → K a' w') → if Region.wanted o (yielded ops a.tmps) then o.wp P a w K Q else K (a.put o.dst undef) w
/-- The step in every state that looks the same where the step looks. -/
def Loc (P : Program) (n : Nat) (ops : Array Oper) (s : S) (o : Oper) (b : A) : Prop :=
  ∀ s' : S, (∀ t ∈ b.kt, get s'.T t = get s.T t) → (∀ l ∈ b.kh, get s'.H l = get s.H l) → (∀ l ∈ b.nw, Fresh l s') → Step P n ops s' o b
/-- The operations in the order of the text. -/
def Lex (P : Program) (n : Nat) (ops : Array Oper) : List Oper → S → List A → S → Prop
  | [], s, bs, s' => bs = [] ∧ s' = s
  | o :: r, s, bs, s' => ∃ b bs', bs = b :: bs' ∧ Loc P n ops s o b ∧ (∀ l ∈ b.nw, Fresh l s) ∧ Lex P n ops r (s.upd b) bs' s'

theorem Lex.nil {s : S} : Lex P n ops [] s [] s := ⟨rfl, rfl⟩
theorem Lex.cons {o : Oper} {r : List Oper} {s s' : S} {b : A} {bs : List A} (h : Loc P n ops s o b) (hf : ∀ l ∈ b.nw, Fresh l s) (k : Lex P n ops r (s.upd b) bs s') : Lex P n ops (o :: r) s (b :: bs) s' :=
  ⟨b, bs, rfl, h, hf, k⟩

theorem wpList_of_lex {Q : Exit → Act → World → Prop} {c : Cx} (hc : c.okP P) : ∀ (rest : List Oper) (s : S) (bs : List A) (s' : S), Lex P n ops rest s bs s' → ∀ (κ : Ka) (a : Act) (w : World), Sat n c κ s a w →
    (∀ a' w' κ', Sat n c κ' s' a' w' → Q .normal a' w') → wpList P ops Q rest a w
  | [], s, bs, s', ⟨_, e⟩, κ, a, w, hs, hq => by subst e; exact wpList_nil (hq _ _ _ hs)
  | o :: r, s, bs, s', ⟨b, bs', _, hl, hf, hk⟩, κ, a, w, hs, hq => by
    refine wpList_step fun K hK => ?_
    exact hl s (fun _ _ => rfl) (fun _ _ => rfl) hf c κ a w hc hs K Q fun a' w' κ' hs' => hK _ _ (wpList_of_lex hc r _ bs' s' hk κ' a' w' hs' hq)

/-! ### Guards -/
inductive Gd (ops : Array Oper) (s : S) : Option (Nat × Bool) → Bool → List Nat → Prop
  | n : Gd ops s none true []
  | t {j gj : Nat} {g0 gb : Bool} (hj : (ops[j]?).bind (·.dst) = some gj) (h : get s.T gj = some (g0, .bool gb)) : Gd ops s (some (j, true)) (g0 && gb) [gj]
  | f {j gj : Nat} {g0 gb : Bool} (hj : (ops[j]?).bind (·.dst) = some gj) (h : get s.T gj = some (g0, .bool gb)) : Gd ops s (some (j, false)) (g0 && !gb) [gj]

theorem Gd.agree {s s' : S} {gd : Option (Nat × Bool)} {g : Bool} {ks : List Nat} (h : Gd ops s gd g ks) (ha : ∀ t ∈ ks, get s'.T t = get s.T t) : Gd ops s' gd g ks := by
  cases h with
  | n => exact .n
  | t hj h => exact .t hj ((ha _ (by simp)).trans h)
  | f hj h => exact .f hj ((ha _ (by simp)).trans h)

theorem repT_bool {c : Cx} {κ : Ka} {b : Bool} {x : Value} (h : RepT c κ (.bool b) x) : x = .bool b := by
  have h' : RepR c (.bool b) x := h
  cases h'; rfl

theorem getElem?_of_getD {xs : Array Value} {t : Nat} {v : Value} (h : xs.getD t undef = v) (hv : v ≠ undef) : xs[t]? = some v := by
  rw [Array.getD_eq_getD_getElem?] at h
  cases hx : xs[t]? with
  | none => rw [hx] at h; exact absurd h.symm hv
  | some u => rw [hx] at h; simp at h; rw [h]

theorem yielded_of {s : S} {c : Cx} {κ : Ka} {a : Act} {w : World} (hs : Sat n c κ s a w) {j gj : Nat} {g0 gb : Bool} (hj : (ops[j]?).bind (·.dst) = some gj) (h : get s.T gj = some (g0, .bool gb)) :
    yielded ops a.tmps j = if g0 then some gb else none := by
  have he := hs.tm _ _ h
  unfold yielded
  rw [hj]
  simp only [Option.bind_some]
  cases g0 with
  | true =>
    have hx := repT_bool (he.1 rfl)
    rw [getElem?_of_getD hx (by simp [undef])]
    simp
  | false =>
    have hx := he.2 rfl
    rw [Array.getD_eq_getD_getElem?] at hx
    cases hx' : a.tmps[gj]? with
    | none => simp
    | some u => rw [hx'] at hx; simp at hx; subst hx; simp [undef]

theorem Gd.wanted {s : S} {gd : Option (Nat × Bool)} {g : Bool} {ks : List Nat} (h : Gd ops s gd g ks) {c : Cx} {κ : Ka} {a : Act} {w : World} (hs : Sat n c κ s a w) {o : Oper} (ho : o.guard = gd) :
    Region.wanted o (yielded ops a.tmps) = g := by
  unfold Region.wanted
  rw [ho]
  cases h with
  | n => rfl
  | t hj h => simp only [yielded_of hs hj h]; rename_i g0 gb; cases g0 <;> cases gb <;> rfl
  | f hj h => simp only [yielded_of hs hj h]; rename_i g0 gb; cases g0 <;> cases gb <;> rfl

/-! ### Operands -/
def constB : Value → Option V
  | .int k n => some (.int k n)
  | .bool b => some (.bool b)
  | .string s => some (.str s.data.toList)
  | .slice none 0 0 => some .nls
  | .nilIface => some (.err false)
  | .pointer none => some .nlp
  | .nilFunc => some .any
  | _ => none
def constL : List Value → Option (List V)
  | [] => some []
  | v :: r => match constB v, constL r with
    | some u, some us => some (u :: us)
    | _, _ => none
def constV : Value → Option V
  | .agg ⟨cs⟩ => (constL cs).map .st
  | v => constB v

theorem constB_rep {c : Cx} : ∀ {v : Value} {u : V}, constB v = some u → RepR c u v := by
  intro v u h
  unfold constB at h
  split at h <;> simp at h <;> subst h
  · exact .int _ _
  · exact .bool _
  · rename_i s; exact .str s.data.toList
  · exact .nls
  · exact .errn
  · exact .nlp
  · exact .any _ ⟨rfl, rfl⟩
theorem repB_of_repR {c : Cx} {κ : Ka} {u : V} {v : Value} (h : RepR c u v) : RepB c κ u v := by
  cases u with
  | os l n => cases h
  | op l sz i j => cases h
  | oss l sz i j => cases h
  | cp m l k => cases h
  | _ => exact h
theorem repC_of_repR {c : Cx} {κ : Ka} {u : V} {v : Value} (h : RepR c u v) : RepC c κ u v := by
  cases h
  · exact .int _ _
  · exact .bool _
  · rename_i p b h; exact .ub p b h
  · rename_i h; exact .any _ h
  · exact .nlp
  · exact .errn
  · rename_i t x; exact .errv t x
  · exact .str _
  · exact .nls
  · exact .nil _
  · rename_i es a cap x hD hl hc hz h1 h2; exact .sl _ es a cap x hD hl hc hz h1 h2
  · rename_i f caps ys hl h; exact ⟨ys, rfl, All2.of_get hl fun j u y hu hy => repB_of_repR (h j u y hu hy)⟩
  · rename_i cs a x hD h1 h2; exact .rp cs a x hD h1 h2
theorem repT_of_repR {c : Cx} {κ : Ka} {u : V} {v : Value} (h : RepR c u v) : RepT c κ u v := by
  cases h
  · exact .int _ _
  · exact .bool _
  · rename_i p b h; exact .ub p b h
  · rename_i h; exact .any _ h
  · exact .nlp
  · exact .errn
  · rename_i t x; exact .errv t x
  · exact .str _
  · exact .nls
  · exact .nil _
  · rename_i es a cap x hD hl hc hz h1 h2; exact .sl _ es a cap x hD hl hc hz h1 h2
  · rename_i f caps ys hl h; exact ⟨ys, rfl, All2.of_get hl fun j u y hu hy => repB_of_repR (h j u y hu hy)⟩
  · rename_i cs a x hD h1 h2; exact .rp cs a x hD h1 h2
theorem constL_rep {c : Cx} {κ : Ka} : ∀ {cs : List Value} {us : List V}, constL cs = some us → All2 (RepC c κ) us cs
  | [], us, h => by simp [constL] at h; subst h; trivial
  | v :: r, us, h => by
    simp only [constL] at h
    cases h1 : constB v with
    | none => simp [h1] at h
    | some u =>
      cases h2 : constL r with
      | none => simp [h1, h2] at h
      | some us' =>
        simp only [h1, h2, Option.some.injEq] at h
        subst h
        exact ⟨repC_of_repR (constB_rep h1), constL_rep h2⟩
theorem constV_rep {c : Cx} {κ : Ka} {v : Value} {u : V} (h : constV v = some u) : RepT c κ u v := by
  unfold constV at h
  split at h
  · rename_i cs
    cases h1 : constL cs with
    | none => simp [h1] at h
    | some us => simp [h1] at h; subst h; exact ⟨cs, rfl, constL_rep h1⟩
  · exact repT_of_repR (constB_rep h)

/-- Where the guard g holds the operand reads v. -/
inductive Od (s : S) (g : Bool) : Operand → V → List Nat → Prop
  | t {i : Nat} {v : V} (h : get s.T i = some (true, v)) : Od s g (.tmp i) v [i]
  | u {i : Nat} {g1 : Bool} {v : V} (h : get s.T i = some (g1, v)) (hi : g = true → g1 = true) : Od s g (.tmp i) v [i]
  | c {x : Value} {v : V} (h : constV x = some v) : Od s g (.const x) v []
  | f {i : FuncId} : Od s g (.func i) (.clo i []) []

theorem Od.agree {s s' : S} {g : Bool} {x : Operand} {v : V} {ks : List Nat} (h : Od s g x v ks) (ha : ∀ t ∈ ks, get s'.T t = get s.T t) : Od s' g x v ks := by
  cases h with
  | t h => exact .t ((ha _ (by simp)).trans h)
  | u h hi => exact .u ((ha _ (by simp)).trans h) hi
  | c h => exact .c h
  | f => exact .f
theorem Od.rep {s : S} {g : Bool} {x : Operand} {v : V} {ks : List Nat} (h : Od s g x v ks) {c : Cx} {κ : Ka} {a : Act} {w : World} (hs : Sat n c κ s a w) (hg : g = true) : RepT c κ v (a.eval x) := by
  cases h with
  | t h => exact (hs.tm _ _ h).1 rfl
  | u h hi => exact (hs.tm _ _ h).1 (hi hg)
  | c h => exact constV_rep h
  | f => exact ⟨[], rfl, trivial⟩

/-! ### An operation that leaves the world alone -/
theorem loc_val {o : Oper} {s : S} {g : Bool} {gks kt kh : List Nat} {d : Nat} {v : V} (hgd : Gd ops s o.guard g gks) (ho : o.dst = some d) (hd : Nat.blt d n = true)
    (h : ∀ s' : S, (∀ t ∈ kt, get s'.T t = get s.T t) → (∀ l ∈ kh, get s'.H l = get s.H l) → ∀ (c : Cx) (κ : Ka) (a : Act) (w : World), c.okP P → Sat n c κ s' a w → g = true →
      ∃ x, (execOp a.eval o).run P w = .ok (.value x) w ∧ RepT c κ v x) :
    Loc P n ops s o ⟨kt ++ gks, kh, [], [(d, some (g, v))], []⟩ := by
  intro s' ht hh hf c κ a w hc hs K Q hK
  have hgd' := hgd.agree (s' := s') (fun t hm => ht t (by simp [hm]))
  have hd' : d < n := Nat.le_of_ble_eq_true hd
  rw [hgd'.wanted hs rfl]
  cases hg : g with
  | true =>
    obtain ⟨x, hr, hx⟩ := h s' (fun t hm => ht t (by simp [hm])) hh c κ a w hc hs hg
    simp only [if_true]
    unfold Oper.wp
    rw [hr]
    simp only [Oper.upon, ho]
    exact hK _ _ κ (hs.put_same hd' ⟨fun _ => hx, fun h => by subst hg; simp at h⟩)
  | false =>
    simp only [Bool.false_eq_true, if_false, ho]
    exact hK _ _ κ (hs.put_same hd' ⟨fun h => by subst hg; simp at h, fun _ => rfl⟩)

/-- The general form of a reading operation's rule. -/
theorem C0 {o : Oper} {s s' : S} {r : List Oper} {bs : List A} {g : Bool} {gks kt kh : List Nat} {d : Nat} {v : V} (hgd : Gd ops s o.guard g gks) (ho : o.dst = some d) (hd : Nat.blt d n = true)
    (h : ∀ s' : S, (∀ t ∈ kt, get s'.T t = get s.T t) → (∀ l ∈ kh, get s'.H l = get s.H l) → ∀ (c : Cx) (κ : Ka) (a : Act) (w : World), c.okP P → Sat n c κ s' a w → g = true →
      ∃ x, (execOp a.eval o).run P w = .ok (.value x) w ∧ RepT c κ v x)
    (k : Lex P n ops r ⟨(d, some (g, v)) :: s.T, s.H⟩ bs s') : Lex P n ops (o :: r) s (⟨kt ++ gks, kh, [], [(d, some (g, v))], []⟩ :: bs) s' :=
  Lex.cons (loc_val hgd ho hd h) (by simp) k

variable {s s' : S} {r : List Oper} {bs : List A} {g : Bool} {gks : List Nat} {d : Nat} {ty : TypeId} {pos : String} {af : Array Edge} {gd : Option (Nat × Bool)}

theorem Ag {x : Operand} {v : V} {ks : List Nat} (hgd : Gd ops s gd g gks) (hx : Od s g x v ks) (hd : Nat.blt d n = true) (k : Lex P n ops r ⟨(d, some (g, v)) :: s.T, s.H⟩ bs s') :
    Lex P n ops (⟨some d, .move x, ty, pos, af, gd⟩ :: r) s (⟨ks ++ gks, [], [], [(d, some (g, v))], []⟩ :: bs) s' :=
  C0 (o := ⟨some d, .move x, ty, pos, af, gd⟩) hgd rfl hd (fun s' ht _ c κ a w _ hs hg => ⟨_, rfl, (hx.agree ht).rep hs hg⟩) k
theorem Ah {x : Operand} {v : V} {ks : List Nat} (hgd : Gd ops s gd g gks) (hx : Od s g x v ks) (hd : Nat.blt d n = true) (k : Lex P n ops r ⟨(d, some (g, v)) :: s.T, s.H⟩ bs s') :
    Lex P n ops (⟨some d, .assign x, ty, pos, af, gd⟩ :: r) s (⟨ks ++ gks, [], [], [(d, some (g, v))], []⟩ :: bs) s' :=
  C0 (o := ⟨some d, .assign x, ty, pos, af, gd⟩) hgd rfl hd (fun s' ht _ c κ a w _ hs hg => ⟨_, rfl, (hx.agree ht).rep hs hg⟩) k

theorem ag1 {ks ks' : List Nat} {f g : Nat → Option En} (h : ∀ t ∈ ks ++ ks', f t = g t) : ∀ t ∈ ks, f t = g t := fun t ht => h t (by simp [ht])
theorem ag2 {ks ks' : List Nat} {f g : Nat → Option En} (h : ∀ t ∈ ks ++ ks', f t = g t) : ∀ t ∈ ks', f t = g t := fun t ht => h t (by simp [ht])

theorem eval_const (a : Act) (v : Value) : a.eval (.const v) = v := rfl

/-- 'a || b' -/
theorem q_or {x y : Operand} {p q : Bool} {ks ks' : List Nat} (hgd : Gd ops s gd g gks) (hx : Od s g x (.bool p) ks) (hy : Od s (g && !p) y (.bool q) ks') (hd : Nat.blt d n = true)
    (k : Lex P n ops r ⟨(d, some (g, .bool (p || q))) :: s.T, s.H⟩ bs s') :
    Lex P n ops (⟨some d, .pick x (.const (.bool true)) y, ty, pos, af, gd⟩ :: r) s (⟨(ks ++ ks') ++ gks, [], [], [(d, some (g, .bool (p || q)))], []⟩ :: bs) s' := by
  refine C0 (o := ⟨some d, .pick x (.const (.bool true)) y, ty, pos, af, gd⟩) hgd rfl hd (fun s' ht _ c κ a w _ hs hg => ?_) k
  have h1 := repT_bool ((hx.agree (ag1 ht)).rep hs hg)
  cases p with
  | true => exact ⟨.bool true, by simp [execOp, h1, asBool, eval_const], .bool _⟩
  | false =>
    have h2 := repT_bool ((hy.agree (ag2 ht)).rep hs (by simp [hg]))
    exact ⟨.bool q, by simp [execOp, h1, h2, asBool], .bool _⟩
/-- 'a && b' -/
theorem B4 {x y : Operand} {p q : Bool} {ks ks' : List Nat} (hgd : Gd ops s gd g gks) (hx : Od s g x (.bool p) ks) (hy : Od s (g && p) y (.bool q) ks') (hd : Nat.blt d n = true)
    (k : Lex P n ops r ⟨(d, some (g, .bool (p && q))) :: s.T, s.H⟩ bs s') :
    Lex P n ops (⟨some d, .pick x y (.const (.bool false)), ty, pos, af, gd⟩ :: r) s (⟨(ks ++ ks') ++ gks, [], [], [(d, some (g, .bool (p && q)))], []⟩ :: bs) s' := by
  refine C0 (o := ⟨some d, .pick x y (.const (.bool false)), ty, pos, af, gd⟩) hgd rfl hd (fun s' ht _ c κ a w _ hs hg => ?_) k
  have h1 := repT_bool ((hx.agree (ag1 ht)).rep hs hg)
  cases p with
  | false => exact ⟨.bool false, by simp [execOp, h1, asBool, eval_const], .bool _⟩
  | true =>
    have h2 := repT_bool ((hy.agree (ag2 ht)).rep hs (by simp [hg]))
    exact ⟨.bool q, by simp [execOp, h1, h2, asBool], .bool _⟩

theorem Cg {x : Operand} {p : Bool} {t1 : TypeId} {ks : List Nat} (hgd : Gd ops s gd g gks) (hx : Od s g x (.bool p) ks) (hd : Nat.blt d n = true) (k : Lex P n ops r ⟨(d, some (g, .bool (!p))) :: s.T, s.H⟩ bs s') :
    Lex P n ops (⟨some d, .unOp .not t1 x, ty, pos, af, gd⟩ :: r) s (⟨ks ++ gks, [], [], [(d, some (g, .bool (!p)))], []⟩ :: bs) s' := by
  refine C0 (o := ⟨some d, .unOp .not t1 x, ty, pos, af, gd⟩) hgd rfl hd (fun s' ht _ c κ a w _ hs hg => ?_) k
  have h1 := repT_bool ((hx.agree ht).rep hs hg)
  exact ⟨.bool (!p), by simp [execOp, h1, Op.unary], .bool _⟩

theorem repT_int {c : Cx} {κ : Ka} {i : IntKind} {m : Int} {x : Value} (h : RepT c κ (.int i m) x) : x = .int i m := by
  have h' : RepR c (.int i m) x := h
  cases h'; rfl
theorem repT_str {c : Cx} {κ : Ka} {l : List UInt8} {x : Value} (h : RepT c κ (.str l) x) : x = .string ⟨⟨l⟩⟩ := by
  have h' : RepR c (.str l) x := h
  cases h'; rfl

theorem q_neg {x : Operand} {i : IntKind} {m : Int} {t1 : TypeId} {ks : List Nat} (hgd : Gd ops s gd g gks) (hx : Od s g x (.int i m) ks) (hd : Nat.blt d n = true) (k : Lex P n ops r ⟨(d, some (g, .int i (i.wrap (0 - m)))) :: s.T, s.H⟩ bs s') :
    Lex P n ops (⟨some d, .unOp .neg t1 x, ty, pos, af, gd⟩ :: r) s (⟨ks ++ gks, [], [], [(d, some (g, .int i (i.wrap (0 - m))))], []⟩ :: bs) s' := by
  refine C0 (o := ⟨some d, .unOp .neg t1 x, ty, pos, af, gd⟩) hgd rfl hd (fun s' ht _ c κ a w _ hs hg => ?_) k
  have h1 := repT_int ((hx.agree ht).rep hs hg)
  exact ⟨.int i (i.wrap (0 - m)), by simp [execOp, h1, Op.unary, Op.intArith], .int _ _⟩

/-! ### Operators on two integers -/
theorem CO (op : BinOp) (t : TypeId) (x y : Operand) (i j : IntKind) (a b : Int) (w : World) : (eqGuard op t x y (.int i a) (.int j b)).run P w = .ok () w := by
  simp only [eqGuard]; split <;> rfl
theorem run_eqGuard_str (op : BinOp) (t : TypeId) (x y : Operand) (a b : ByteArray) (w : World) : (eqGuard op t x y (.string a) (.string b)).run P w = .ok () w := by
  simp only [eqGuard]; split <;> rfl

/-- The value of an operator on two integers that never panics. -/
def intV (op : BinOp) (i : IntKind) (a b : Int) : V :=
  match op with
  | .add => .int i (i.wrap (a + b))
  | .sub => .int i (i.wrap (a - b))
  | .mul => .int i (i.wrap (a * b))
  | .eql => .bool (a == b)
  | .neq => .bool (a != b)
  | .lss => .bool (decide (a < b))
  | .leq => .bool (decide (a ≤ b))
  | .gtr => .bool (decide (b < a))
  | .geq => .bool (decide (b ≤ a))
  | .and => .int i (i.wrap (BitVec.ofInt i.bits a &&& BitVec.ofInt i.bits b).toNat)
  | .or => .int i (i.wrap (BitVec.ofInt i.bits a ||| BitVec.ofInt i.bits b).toNat)
  | .xor => .int i (i.wrap (BitVec.ofInt i.bits a ^^^ BitVec.ofInt i.bits b).toNat)
  | _ => .nls
def intOk (op : BinOp) : Bool := match op with
  | .quo | .rem | .shl | .shr | .andNot => false
  | _ => true

def intX (op : BinOp) (i : IntKind) (a b : Int) : Value :=
  match intV op i a b with
  | .int i m => .int i m
  | .bool b => .bool b
  | _ => undef
theorem run_int {op : BinOp} (ho : intOk op = true) (t : TypeId) (i : IntKind) (a b : Int) (w : World) : (binOp op t (.int i a) (.int i b)).run P w = .ok (intX op i a b) w := by
  cases op <;> first
    | (simp [intOk] at ho; done)
    | (simp [binOp, Op.intArith, intX, intV]; done)
    | (simp [binOp, Op.intCmp, intX, intV]; done)
    | (simp [binOp, Op.intBits, intX, intV]; done)
theorem rep_int {op : BinOp} (ho : intOk op = true) (c : Cx) (κ : Ka) (i : IntKind) (a b : Int) : RepT c κ (intV op i a b) (intX op i a b) := by
  cases op <;> first
    | (simp [intOk] at ho; done)
    | exact RepR.int _ _
    | exact RepR.bool _

theorem AF {op : BinOp} {x y : Operand} {i : IntKind} {a b : Int} {t1 t2 : TypeId} {ks ks' : List Nat} (hgd : Gd ops s gd g gks) (hx : Od s g x (.int i a) ks) (hy : Od s g y (.int i b) ks') (ho : intOk op = true) (hd : Nat.blt d n = true)
    (k : Lex P n ops r ⟨(d, some (g, intV op i a b)) :: s.T, s.H⟩ bs s') :
    Lex P n ops (⟨some d, .binOp op t1 x y t2, ty, pos, af, gd⟩ :: r) s (⟨(ks ++ ks') ++ gks, [], [], [(d, some (g, intV op i a b))], []⟩ :: bs) s' := by
  refine C0 (o := ⟨some d, .binOp op t1 x y t2, ty, pos, af, gd⟩) hgd rfl hd (fun s' ht _ c κ e w _ hs hg => ?_) k
  have h1 := repT_int ((hx.agree (ag1 ht)).rep hs hg)
  have h2 := repT_int ((hy.agree (ag2 ht)).rep hs hg)
  exact ⟨intX op i a b, by simp only [execOp, h1, h2, Sem.run_bind, CO, Result.andThen_ok, run_int ho, Sem.run_pure], rep_int ho _ _ _ _ _⟩

/-- A sum that fits is the sum. -/
theorem BM {x y : Operand} {a b : Int} {t1 t2 : TypeId} {ks ks' : List Nat} (hgd : Gd ops s gd g gks) (hx : Od s g x (.int .i64 a) ks) (hy : Od s g y (.int .i64 b) ks') (hr : g = true → -9223372036854775808 ≤ a + b ∧ a + b ≤ 9223372036854775807) (hd : Nat.blt d n = true)
    (k : Lex P n ops r ⟨(d, some (g, .int .i64 (a + b))) :: s.T, s.H⟩ bs s') :
    Lex P n ops (⟨some d, .binOp .add t1 x y t2, ty, pos, af, gd⟩ :: r) s (⟨(ks ++ ks') ++ gks, [], [], [(d, some (g, .int .i64 (a + b)))], []⟩ :: bs) s' := by
  refine C0 (o := ⟨some d, .binOp .add t1 x y t2, ty, pos, af, gd⟩) hgd rfl hd (fun s' ht _ c κ e w _ hs hg => ?_) k
  have h1 := repT_int ((hx.agree (ag1 ht)).rep hs hg)
  have h2 := repT_int ((hy.agree (ag2 ht)).rep hs hg)
  have hw : IntKind.i64.wrap (a + b) = a + b := by rw [IntKind.wrap_i64]; have := hr hg; omega
  exact ⟨.int .i64 (a + b), by simp [execOp, h1, h2, binOp, Op.intArith, CO, hw], .int _ _⟩
theorem q_sub {x y : Operand} {a b : Int} {t1 t2 : TypeId} {ks ks' : List Nat} (hgd : Gd ops s gd g gks) (hx : Od s g x (.int .i64 a) ks) (hy : Od s g y (.int .i64 b) ks') (hr : g = true → -9223372036854775808 ≤ a - b ∧ a - b ≤ 9223372036854775807) (hd : Nat.blt d n = true)
    (k : Lex P n ops r ⟨(d, some (g, .int .i64 (a - b))) :: s.T, s.H⟩ bs s') :
    Lex P n ops (⟨some d, .binOp .sub t1 x y t2, ty, pos, af, gd⟩ :: r) s (⟨(ks ++ ks') ++ gks, [], [], [(d, some (g, .int .i64 (a - b)))], []⟩ :: bs) s' := by
  refine C0 (o := ⟨some d, .binOp .sub t1 x y t2, ty, pos, af, gd⟩) hgd rfl hd (fun s' ht _ c κ e w _ hs hg => ?_) k
  have h1 := repT_int ((hx.agree (ag1 ht)).rep hs hg)
  have h2 := repT_int ((hy.agree (ag2 ht)).rep hs hg)
  have hw : IntKind.i64.wrap (a - b) = a - b := by rw [IntKind.wrap_i64]; have := hr hg; omega
  exact ⟨.int .i64 (a - b), by simp [execOp, h1, h2, binOp, Op.intArith, CO, hw], .int _ _⟩
theorem q_quo {x y : Operand} {i : IntKind} {a b : Int} {t1 t2 : TypeId} {ks ks' : List Nat} (hgd : Gd ops s gd g gks) (hx : Od s g x (.int i a) ks) (hy : Od s g y (.int i b) ks') (hr : g = true → b ≠ 0) (hd : Nat.blt d n = true)
    (k : Lex P n ops r ⟨(d, some (g, .int i (i.wrap (a.tdiv b)))) :: s.T, s.H⟩ bs s') :
    Lex P n ops (⟨some d, .binOp .quo t1 x y t2, ty, pos, af, gd⟩ :: r) s (⟨(ks ++ ks') ++ gks, [], [], [(d, some (g, .int i (i.wrap (a.tdiv b))))], []⟩ :: bs) s' := by
  refine C0 (o := ⟨some d, .binOp .quo t1 x y t2, ty, pos, af, gd⟩) hgd rfl hd (fun s' ht _ c κ e w _ hs hg => ?_) k
  have h1 := repT_int ((hx.agree (ag1 ht)).rep hs hg)
  have h2 := repT_int ((hy.agree (ag2 ht)).rep hs hg)
  have hb := hr hg
  exact ⟨.int i (i.wrap (a.tdiv b)), by simp [execOp, h1, h2, binOp, Op.intDiv, CO, hb], .int _ _⟩
theorem q_rem {x y : Operand} {i : IntKind} {a b : Int} {t1 t2 : TypeId} {ks ks' : List Nat} (hgd : Gd ops s gd g gks) (hx : Od s g x (.int i a) ks) (hy : Od s g y (.int i b) ks') (hr : g = true → b ≠ 0) (hd : Nat.blt d n = true)
    (k : Lex P n ops r ⟨(d, some (g, .int i (a.tmod b))) :: s.T, s.H⟩ bs s') :
    Lex P n ops (⟨some d, .binOp .rem t1 x y t2, ty, pos, af, gd⟩ :: r) s (⟨(ks ++ ks') ++ gks, [], [], [(d, some (g, .int i (a.tmod b)))], []⟩ :: bs) s' := by
  refine C0 (o := ⟨some d, .binOp .rem t1 x y t2, ty, pos, af, gd⟩) hgd rfl hd (fun s' ht _ c κ e w _ hs hg => ?_) k
  have h1 := repT_int ((hx.agree (ag1 ht)).rep hs hg)
  have h2 := repT_int ((hy.agree (ag2 ht)).rep hs hg)
  have hb := hr hg
  exact ⟨.int i (a.tmod b), by simp [execOp, h1, h2, binOp, Op.intDiv, CO, hb], .int _ _⟩
theorem q_shr {x y : Operand} {i j : IntKind} {a b : Int} {t1 t2 : TypeId} {ks ks' : List Nat} (hgd : Gd ops s gd g gks) (hx : Od s g x (.int i a) ks) (hy : Od s g y (.int j b) ks') (hr : g = true → 0 ≤ b) (hd : Nat.blt d n = true)
    (k : Lex P n ops r ⟨(d, some (g, .int i (a.fdiv (2 ^ min b.toNat i.bits)))) :: s.T, s.H⟩ bs s') :
    Lex P n ops (⟨some d, .binOp .shr t1 x y t2, ty, pos, af, gd⟩ :: r) s (⟨(ks ++ ks') ++ gks, [], [], [(d, some (g, .int i (a.fdiv (2 ^ min b.toNat i.bits))))], []⟩ :: bs) s' := by
  refine C0 (o := ⟨some d, .binOp .shr t1 x y t2, ty, pos, af, gd⟩) hgd rfl hd (fun s' ht _ c κ e w _ hs hg => ?_) k
  have h1 := repT_int ((hx.agree (ag1 ht)).rep hs hg)
  have h2 := repT_int ((hy.agree (ag2 ht)).rep hs hg)
  have hb := hr hg
  exact ⟨.int i (a.fdiv (2 ^ min b.toNat i.bits)), by simp [execOp, h1, h2, binOp, Op.shift, CO, show ¬ b < 0 by omega], .int _ _⟩

/-! ### Bools, strings -/
def strB (op : BinOp) (a b : List UInt8) : Bool :=
  match op with
  | .eql => a == b
  | .neq => !(a == b)
  | .lss => Op.bytesLess a b
  | .leq => Op.bytesLess a b || a == b
  | .gtr => !(Op.bytesLess a b || a == b)
  | .geq => !Op.bytesLess a b
  | _ => false
def strOk (op : BinOp) : Bool := match op with
  | .eql | .neq | .lss | .leq | .gtr | .geq => true
  | _ => false
theorem run_str {op : BinOp} (ho : strOk op = true) (t : TypeId) (a b : List UInt8) (w : World) : (binOp op t (.string ⟨⟨a⟩⟩) (.string ⟨⟨b⟩⟩)).run P w = .ok (.bool (strB op a b)) w := by
  cases op <;> first
    | (simp [strOk] at ho; done)
    | (simp [binOp, Op.stringOp, strB]; done)
theorem q_strcmp {op : BinOp} {x y : Operand} {a b : List UInt8} {t1 t2 : TypeId} {ks ks' : List Nat} (hgd : Gd ops s gd g gks) (hx : Od s g x (.str a) ks) (hy : Od s g y (.str b) ks') (ho : strOk op = true) (hd : Nat.blt d n = true)
    (k : Lex P n ops r ⟨(d, some (g, .bool (strB op a b))) :: s.T, s.H⟩ bs s') :
    Lex P n ops (⟨some d, .binOp op t1 x y t2, ty, pos, af, gd⟩ :: r) s (⟨(ks ++ ks') ++ gks, [], [], [(d, some (g, .bool (strB op a b)))], []⟩ :: bs) s' := by
  refine C0 (o := ⟨some d, .binOp op t1 x y t2, ty, pos, af, gd⟩) hgd rfl hd (fun s' ht _ c κ e w _ hs hg => ?_) k
  have h1 := repT_str ((hx.agree (ag1 ht)).rep hs hg)
  have h2 := repT_str ((hy.agree (ag2 ht)).rep hs hg)
  exact ⟨.bool (strB op a b), by simp only [execOp, h1, h2, Sem.run_bind, run_eqGuard_str, Result.andThen_ok, run_str ho, Sem.run_pure], .bool _⟩
theorem mk_append (a b : List UInt8) : (ByteArray.mk ⟨a⟩ ++ ByteArray.mk ⟨b⟩) = ByteArray.mk ⟨a ++ b⟩ := by
  apply ByteArray.ext; simp
theorem q_strcat {x y : Operand} {a b : List UInt8} {t1 t2 : TypeId} {ks ks' : List Nat} (hgd : Gd ops s gd g gks) (hx : Od s g x (.str a) ks) (hy : Od s g y (.str b) ks') (hl : g = true → a.length + b.length ≤ 9223372036854775807) (hd : Nat.blt d n = true)
    (k : Lex P n ops r ⟨(d, some (g, .str (a ++ b))) :: s.T, s.H⟩ bs s') :
    Lex P n ops (⟨some d, .binOp .add t1 x y t2, ty, pos, af, gd⟩ :: r) s (⟨(ks ++ ks') ++ gks, [], [], [(d, some (g, .str (a ++ b)))], []⟩ :: bs) s' := by
  refine C0 (o := ⟨some d, .binOp .add t1 x y t2, ty, pos, af, gd⟩) hgd rfl hd (fun s' ht _ c κ e w _ hs hg => ?_) k
  have h1 := repT_str ((hx.agree (ag1 ht)).rep hs hg)
  have h2 := repT_str ((hy.agree (ag2 ht)).rep hs hg)
  have hb := hl hg
  have hm : ¬ (IntKind.i64.max < ((a.length + b.length : Nat) : Int)) := by
    have : IntKind.i64.max = 9223372036854775807 := by decide
    omega
  have hsz : ∀ l : List UInt8, (ByteArray.mk ⟨l⟩).size = l.length := fun l => rfl
  refine ⟨.string ⟨⟨a ++ b⟩⟩, ?_, .str _⟩
  simp only [execOp, h1, h2, Sem.run_bind, run_eqGuard_str, Result.andThen_ok, Sem.run_pure, binOp, Op.stringOp, hsz, gt_iff_lt, hm, if_false, mk_append]

end
end Go.Proofs.YtibbfdojcdkopaaGreat.E
