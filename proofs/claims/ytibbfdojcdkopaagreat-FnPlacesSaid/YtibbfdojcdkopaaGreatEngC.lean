/-
  THE ENGINE, part C: the operations that look into memory or take values apart: len, index, addresses of fields and elements, load, extract, slices of strings and of slices, min, max, conversions of integers, function values, struct literals.
  Conditions: none; all of it is over any program.
-/
import Derived.Test.YtibbfdojcdkopaaGreatEngB
import Derived.Lib.Strings
set_option linter.unusedVariables false
set_option linter.unusedSimpArgs false
set_option linter.unusedSectionVars false
set_option linter.unnecessarySimpa false
namespace Go.Proofs.YtibbfdojcdkopaaGreat.E
open Go Go.RowKit

/-! ### Types -/
def isCell (P : Program) (t : TypeId) : Bool :=
  match P.underlying t, P.info? t with
  | some (.struct _), _ => false
  | some (.array _ _), _ => false
  | some _, some i => i.size == 1
  | _, _ => false
def aggSz (P : Program) (t : TypeId) : Option Nat :=
  match P.underlying t, P.info? t with
  | some (.struct _), some i => some i.size
  | some (.array _ _), some i => some i.size
  | _, _ => none
def fldOff (P : Program) (t : TypeId) (f : Nat) : Option Nat :=
  match P.underlying t with
  | some (.struct fs) => match fs[f]? with
    | some x => match P.info? x.type with
      | some i => if i.size = 0 then none else some x.offset
      | none => none
    | none => none
  | _ => none
/-- a slice type's element type and the element's cells -/
def slEl (P : Program) (t : TypeId) : Option (TypeId × Nat) :=
  match P.underlying t with
  | some (.slice e) => match P.info? e with
    | some i => some (e, i.size)
    | none => none
  | _ => none
def isStr (P : Program) (t : TypeId) : Bool := match P.underlying t with
  | some .string => true
  | _ => false

section
variable {P : Program}
theorem isCell_spec {t : TypeId} (h : isCell P t = true) (w : World) : (isAgg t).run P w = .ok false w ∧ (sizeOf t).run P w = .ok 1 w := by
  unfold isCell at h
  split at h
  · simp at h
  · simp at h
  · rename_i d i n1 n2 hu hi
    have hs : i.size = 1 := by simpa using h
    refine ⟨?_, by simp [sizeOf, typeInfo, hi, hs]⟩
    unfold isAgg
    simp only [Sem.run_bind, run_underlying hu, Result.andThen_ok]
    rfl
  · simp at h
theorem aggSz_spec {t : TypeId} {k : Nat} (h : aggSz P t = some k) (w : World) : (isAgg t).run P w = .ok true w ∧ (sizeOf t).run P w = .ok k w := by
  unfold aggSz at h
  split at h
  · rename_i fs i hu hi
    simp at h
    exact ⟨by simp [isAgg, run_underlying hu], by simp [sizeOf, typeInfo, hi, h]⟩
  · rename_i n e i hu hi
    simp at h
    exact ⟨by simp [isAgg, run_underlying hu], by simp [sizeOf, typeInfo, hi, h]⟩
  · simp at h
theorem slEl_spec {t e : TypeId} {sz : Nat} (h : slEl P t = some (e, sz)) : P.underlying t = some (.slice e) ∧ ∃ i, P.info? e = some i ∧ i.size = sz := by
  unfold slEl at h
  split at h
  · rename_i e' hu
    split at h
    · rename_i i hi
      simp at h
      obtain ⟨rfl, rfl⟩ := h
      exact ⟨hu, i, hi, rfl⟩
    · simp at h
  · simp at h
theorem isStr_spec {t : TypeId} (h : isStr P t = true) : P.underlying t = some .string := by
  unfold isStr at h
  split at h
  · assumption
  · simp at h
theorem fldOff_spec {t : TypeId} {f off : Nat} (h : fldOff P t f = some off) (a : Addr) (w : World) : (Instr.fieldAt t (.pointer (some a)) f).run P w = .ok (.pointer (some (a.add off))) w := by
  unfold fldOff at h
  split at h
  · rename_i fs hu
    split at h
    · rename_i x hx
      split at h
      · rename_i i hi
        split at h
        · simp at h
        · rename_i hz
          simp at h
          simp [Instr.fieldAt, run_underlying hu, hx, Instr.sureAddr, fieldPlace, sizeOf, typeInfo, hi, hz, h]
      · simp at h
    · simp at h
  · simp at h

/-! ### Memory that is only read -/
theorem Ext.cell {X : Nat → Prop} {w w' : World} (h : Ext X w w') {a : Addr} (hl : a.block < w.heap.size) (hx : ¬ X a.block) : w'.cell? a = w.cell? a := World.cell?_of_block (w := w) (h.block a.block hl hx)
theorem Mem.cell {c : Cx} {κ : Ka} {H : List (Nat × Option O)} {w : World} (hc : c.ok) (h : Mem c κ H w) {a : Addr} (hD : c.D a.block) : w.cell? a = c.w.cell? a :=
  h.ext.cell (hc.lt _ hD) (hc.ap _ hD)
end

section
variable {P : Program} {n : Nat} {ops : Array Oper}
variable {s s' : S} {r : List Oper} {bs : List A} {g : Bool} {gks : List Nat} {d : Nat} {ty : TypeId} {pos : String} {af : Array Edge} {gd : Option (Nat × Bool)}

/-! ### len -/
def lenV : V → Option Nat
  | .sl _ es => some es.length
  | .os _ m => some m
  | .str s => some s.length
  | .nls => some 0
  | _ => none
def isSl (P : Program) (t : TypeId) : Bool := match P.underlying t with
  | some (.slice _) => true
  | some .string => true
  | _ => false
theorem BS {x : Operand} {t1 : TypeId} {v : V} {m m' : Nat} {ks : List Nat} (hgd : Gd ops s gd g gks) (hx : Od s g x v ks) (hv : lenV v = some m') (hm : m' = m)
    (ht1 : (match v with | .str _ => isStr P t1 | _ => (slEl P t1).isSome) = true) (hd : Nat.blt d n = true)
    (k : Lex P n ops r ⟨(d, some (g, .int .i64 m)) :: s.T, s.H⟩ bs s') :
    Lex P n ops (⟨some d, .call ⟨.builtin .len, #[x], #[t1]⟩, ty, pos, af, gd⟩ :: r) s (⟨ks ++ gks, [], [], [(d, some (g, .int .i64 m))], []⟩ :: bs) s' := by
  subst hm
  refine C0 (o := ⟨some d, .call ⟨.builtin .len, #[x], #[t1]⟩, ty, pos, af, gd⟩) hgd rfl hd (fun s' ht _ c κ e w _ hs hg => ⟨.int .i64 m', ?_, .int _ _⟩) k
  have h1 := (hx.agree ht).rep hs hg
  have hsl : (slEl P t1).isSome = true → ∃ e, P.underlying t1 = some (.slice e) := fun h => by
    obtain ⟨⟨e, sz⟩, he⟩ := Option.isSome_iff_exists.1 h
    exact ⟨e, (slEl_spec he).1⟩
  have go : ∀ (e' : TypeId) (A : Option Addr) (m cap : Nat), P.underlying t1 = some (.slice e') → e.eval x = .slice A m cap → (execOp e.eval ⟨some d, .call ⟨.builtin .len, #[x], #[t1]⟩, ty, pos, af, gd⟩).run P w = .ok (.value (.int .i64 m)) w := by
    intro e' A m cap hu he
    simp [execOp, resolve, invoke, builtin, Builtin.len_, he, run_underlying hu, goInt]
  cases v with
  | sl sz es =>
    obtain ⟨e', hu⟩ := hsl ht1
    simp [lenV] at hv
    have h1' : RepR c (.sl sz es) (e.eval x) := h1
    generalize hx' : e.eval x = y at h1'
    cases h1' with
    | nil => rw [go e' none 0 0 hu hx', ← hv]; rfl
    | sl _ _ a cap f hD hl hcp hz h1 h2 => rw [go e' (some a) es.length cap hu hx', ← hv]
  | os l m =>
    obtain ⟨e', hu⟩ := hsl ht1
    simp [lenV] at hv
    have h1' : RepB c κ (.os l m) (e.eval x) := h1
    simp only [RepB] at h1'
    cases hk : κ l with
    | none =>
      simp only [hk] at h1'
      rw [go e' none 0 0 hu h1'.2, ← hv, h1'.1]
    | some p =>
      obtain ⟨b, cap⟩ := p
      simp only [hk] at h1'
      rw [go e' _ m cap hu h1'.2.2, ← hv]
  | str l =>
    simp [lenV] at hv
    have hu := isStr_spec ht1
    have hx' := repT_str h1
    have hsz : (ByteArray.mk ⟨l⟩).size = l.length := rfl
    simp [execOp, resolve, invoke, builtin, Builtin.len_, hx', run_underlying hu, goInt, hsz, hv]
  | nls =>
    obtain ⟨e', hu⟩ := hsl ht1
    simp [lenV] at hv
    have h1' : RepR c .nls (e.eval x) := h1
    generalize hx' : e.eval x = y at h1'
    cases h1'
    rw [go e' none 0 0 hu hx', ← hv]
  | _ => simp [lenV] at hv

/-! ### Strings: index, slice -/
theorem q_strat {x y : Operand} {l : List UInt8} {i : IntKind} {m : Int} {t1 : TypeId} {ks ks' : List Nat} (hgd : Gd ops s gd g gks) (hx : Od s g x (.str l) ks) (hy : Od s g y (.int i m) ks') (ht1 : isStr P t1 = true)
    (hm : g = true → 0 ≤ m ∧ m < l.length) (hd : Nat.blt d n = true) (k : Lex P n ops r ⟨(d, some (g, .int .u8 (l.getD m.toNat 0).toNat)) :: s.T, s.H⟩ bs s') :
    Lex P n ops (⟨some d, .index t1 x y, ty, pos, af, gd⟩ :: r) s (⟨(ks ++ ks') ++ gks, [], [], [(d, some (g, .int .u8 (l.getD m.toNat 0).toNat))], []⟩ :: bs) s' := by
  refine C0 (o := ⟨some d, .index t1 x y, ty, pos, af, gd⟩) hgd rfl hd (fun s' ht _ c κ e w _ hs hg => ⟨.int .u8 (l.getD m.toNat 0).toNat, ?_, .int _ _⟩) k
  have h1 := repT_str ((hx.agree (ag1 ht)).rep hs hg)
  have h2 := repT_int ((hy.agree (ag2 ht)).rep hs hg)
  obtain ⟨h0, hl⟩ := hm hg
  have hlt : m.toNat < l.length := by omega
  have hb : (ByteArray.mk ⟨l⟩)[m.toNat]? = some (l.getD m.toNat 0) := by
    have hlt' : m.toNat < (ByteArray.mk ⟨l⟩).size := hlt
    rw [getElem?_pos (ByteArray.mk ⟨l⟩) m.toNat hlt']
    show some (l[m.toNat]) = _
    rw [List.getD_eq_getElem?_getD, List.getElem?_eq_getElem hlt]; rfl
  simp [execOp, Instr.index, h1, h2, asIntOf, run_underlying (isStr_spec ht1), h0, hb]

/-- bounds of a slice expression, as values -/
inductive Bd (s : S) (g : Bool) : Option Operand → Option Int → List Nat → Prop
  | n : Bd s g none none []
  | s {x : Operand} {i : IntKind} {m : Int} {ks : List Nat} (h : Od s g x (.int i m) ks) : Bd s g (some x) (some m) ks
theorem Bd.agree {s s' : S} {g : Bool} {x : Option Operand} {v : Option Int} {ks : List Nat} (h : Bd s g x v ks) (ha : ∀ t ∈ ks, get s'.T t = get s.T t) : Bd s' g x v ks := by
  cases h with
  | n => exact .n
  | s h => exact .s (h.agree ha)
theorem Bd.rep {x : Option Operand} {v : Option Int} {ks : List Nat} (h : Bd s g x v ks) {c : Cx} {κ : Ka} {a : Act} {w : World} (hs : Sat n c κ s a w) (hg : g = true) : ∃ i, x.map a.eval = v.map (.int i) := by
  cases h with
  | n => exact ⟨.i64, rfl⟩
  | s h => rename_i i m; exact ⟨i, by simp [repT_int (h.rep hs hg)]⟩

/-! ### Addresses -/
theorem repT_rp {c : Cx} {κ : Ka} {cs : List V} {x : Value} (h : RepT c κ (.rp cs) x) : RepR c (.rp cs) x := h
theorem repT_op {c : Cx} {κ : Ka} {l sz i j : Nat} {x : Value} (h : RepT c κ (.op l sz i j) x) : ∃ b cap, κ l = some (b, cap) ∧ x = .pointer (some ⟨b, i * sz + j, none⟩) := h

theorem Av {x : Operand} {cs : List V} {ks : List Nat} (hgd : Gd ops s gd g gks) (hx : Od s g x (.rp cs) ks) (hd : Nat.blt d n = true) (k : Lex P n ops r ⟨(d, some (g, .rp cs)) :: s.T, s.H⟩ bs s') :
    Lex P n ops (⟨some d, .nilCheck x, ty, pos, af, gd⟩ :: r) s (⟨ks ++ gks, [], [], [(d, some (g, .rp cs))], []⟩ :: bs) s' := by
  refine C0 (o := ⟨some d, .nilCheck x, ty, pos, af, gd⟩) hgd rfl hd (fun s' ht _ c κ e w _ hs hg => ?_) k
  have h1 := repT_rp ((hx.agree ht).rep hs hg)
  generalize hy : e.eval x = y at h1
  cases h1 with
  | rp _ a f hD h1 h2 => exact ⟨.pointer (some a), by simp only [execOp, hy, Sem.run_pure], .rp cs a f hD h1 h2⟩
theorem BD {x : Operand} {l sz i j : Nat} {ks : List Nat} (hgd : Gd ops s gd g gks) (hx : Od s g x (.op l sz i j) ks) (hd : Nat.blt d n = true) (k : Lex P n ops r ⟨(d, some (g, .op l sz i j)) :: s.T, s.H⟩ bs s') :
    Lex P n ops (⟨some d, .nilCheck x, ty, pos, af, gd⟩ :: r) s (⟨ks ++ gks, [], [], [(d, some (g, .op l sz i j))], []⟩ :: bs) s' := by
  refine C0 (o := ⟨some d, .nilCheck x, ty, pos, af, gd⟩) hgd rfl hd (fun s' ht _ c κ e w _ hs hg => ?_) k
  have h1 := (hx.agree ht).rep hs hg
  obtain ⟨b, cap, hk, hy⟩ := repT_op h1
  exact ⟨.pointer (some ⟨b, i * sz + j, none⟩), by simp only [execOp, hy, Sem.run_pure], ⟨b, cap, hk, rfl⟩⟩

theorem Az {x : Operand} {cs : List V} {t1 : TypeId} {f off : Nat} {ks : List Nat} (hgd : Gd ops s gd g gks) (hx : Od s g x (.rp cs) ks) (hf : fldOff P t1 f = some off) (hd : Nat.blt d n = true)
    (k : Lex P n ops r ⟨(d, some (g, .rp (cs.drop off))) :: s.T, s.H⟩ bs s') :
    Lex P n ops (⟨some d, .fieldAddr t1 x f, ty, pos, af, gd⟩ :: r) s (⟨ks ++ gks, [], [], [(d, some (g, .rp (cs.drop off)))], []⟩ :: bs) s' := by
  refine C0 (o := ⟨some d, .fieldAddr t1 x f, ty, pos, af, gd⟩) hgd rfl hd (fun s' ht _ c κ e w _ hs hg => ?_) k
  have h1 := repT_rp ((hx.agree ht).rep hs hg)
  generalize hy : e.eval x = y at h1
  cases h1 with
  | rp _ a f' hD h1 h2 =>
    refine ⟨.pointer (some (a.add off)), by simp only [execOp, hy, Sem.run_bind, fldOff_spec hf, Result.andThen_ok, Sem.run_pure], ?_⟩
    exact .rp (cs.drop off) (a.add off) (fun j => f' (off + j)) (by rw [block_add]; exact hD) (fun j u hu => by rw [add_add']; exact h1 _ u (by rw [← hu, List.getElem?_drop]))
      (fun j u hu => h2 _ u (by rw [← hu, List.getElem?_drop]))
theorem AE {x : Operand} {l sz i j : Nat} {t1 : TypeId} {f off : Nat} {ks : List Nat} (hgd : Gd ops s gd g gks) (hx : Od s g x (.op l sz i j) ks) (hf : fldOff P t1 f = some off) (hd : Nat.blt d n = true)
    (k : Lex P n ops r ⟨(d, some (g, .op l sz i (j + off))) :: s.T, s.H⟩ bs s') :
    Lex P n ops (⟨some d, .fieldAddr t1 x f, ty, pos, af, gd⟩ :: r) s (⟨ks ++ gks, [], [], [(d, some (g, .op l sz i (j + off)))], []⟩ :: bs) s' := by
  refine C0 (o := ⟨some d, .fieldAddr t1 x f, ty, pos, af, gd⟩) hgd rfl hd (fun s' ht _ c κ e w _ hs hg => ?_) k
  have h1 := (hx.agree ht).rep hs hg
  obtain ⟨b, cap, hk, hy⟩ := repT_op h1
  refine ⟨.pointer (some ⟨b, i * sz + (j + off), none⟩), by simp only [execOp, hy, Sem.run_bind, fldOff_spec hf, Result.andThen_ok, Sem.run_pure, add_lit, Nat.add_assoc], ⟨b, cap, hk, rfl⟩⟩

theorem run_indexAt {t e : TypeId} {sz : Nat} (ht : slEl P t = some (e, sz)) (a : Addr) (len cap : Nat) (ik : IntKind) (m : Int) (h0 : 0 ≤ m) (hl : m < len) (w : World) :
    (Instr.indexAt t (.slice (some a) len cap) (.int ik m)).run P w = .ok (.pointer (some (a.add (m.toNat * sz)))) w := by
  obtain ⟨hu, i, hi, rfl⟩ := slEl_spec ht
  simp [Instr.indexAt, asIntOf, run_underlying hu, h0, hl, sizeOf, typeInfo, hi]

theorem flatMap_cells_get {sz : Nat} : ∀ (es : List V), (∀ e ∈ es, e.cells.length = sz) → ∀ (i j : Nat) (e : V), es[i]? = some e → j < sz → (es.flatMap V.cells)[i * sz + j]? = e.cells[j]?
  | [], _, i, j, e, he, _ => by simp at he
  | e0 :: es, hz, 0, j, e, he, hj => by
    simp at he; subst he
    have := hz e0 List.mem_cons_self
    rw [List.flatMap_cons, Nat.zero_mul, Nat.zero_add, List.getElem?_append_left (by omega)]
  | e0 :: es, hz, i + 1, j, e, he, hj => by
    have h0 := hz e0 List.mem_cons_self
    rw [List.flatMap_cons, List.getElem?_append_right (by rw [h0, Nat.add_mul]; omega)]
    have := flatMap_cells_get es (fun e he => hz e (List.mem_cons_of_mem _ he)) i j e (by simpa using he) hj
    rw [← this, h0]
    congr 1
    rw [Nat.add_mul]; omega

/-- '&xs[i]' of a slice that is only read -/
theorem q_idx_ro {x y : Operand} {sz : Nat} {es : List V} {e0 : V} {t1 el : TypeId} {ik : IntKind} {m : Int} {ks ks' : List Nat} (hgd : Gd ops s gd g gks) (hx : Od s g x (.sl sz es) ks) (hy : Od s g y (.int ik m) ks') (ht1 : slEl P t1 = some (el, sz))
    (hm : g = true → 0 ≤ m ∧ es[m.toNat]? = some e0) (hd : Nat.blt d n = true) (k : Lex P n ops r ⟨(d, some (g, .rp e0.cells)) :: s.T, s.H⟩ bs s') :
    Lex P n ops (⟨some d, .indexAddr t1 x y, ty, pos, af, gd⟩ :: r) s (⟨(ks ++ ks') ++ gks, [], [], [(d, some (g, .rp e0.cells))], []⟩ :: bs) s' := by
  refine C0 (o := ⟨some d, .indexAddr t1 x y, ty, pos, af, gd⟩) hgd rfl hd (fun s' ht _ c κ e w _ hs hg => ?_) k
  have h1 : RepR c (.sl sz es) (e.eval x) := (hx.agree (ag1 ht)).rep hs hg
  have h2 := repT_int ((hy.agree (ag2 ht)).rep hs hg)
  obtain ⟨h0, he⟩ := hm hg
  have hlt : m.toNat < es.length := (List.getElem?_eq_some_iff.1 he).1
  generalize hx' : e.eval x = y at h1
  cases h1 with
  | nil => simp at hlt
  | sl _ _ a cap f hD hl hcp hz h1 h3 =>
    refine ⟨.pointer (some (a.add (m.toNat * sz))), by simp only [execOp, hx', h2, Sem.run_bind, run_indexAt ht1 a es.length cap ik m h0 (by omega), Result.andThen_ok, Sem.run_pure], ?_⟩
    have hcz : e0.cells.length = sz := hz e0 (List.mem_of_getElem? he)
    refine .rp _ _ (fun j => f (m.toNat * sz + j)) (by rw [block_add]; exact hD (fun e => by rw [e] at hlt; simp at hlt)) (fun j u hu => ?_) (fun j u hu => ?_)
    · have hj : j < sz := by rw [← hcz]; exact (List.getElem?_eq_some_iff.1 hu).1
      rw [add_add']
      exact h1 _ u (by rw [flatMap_cells_get es hz _ j e0 he hj]; exact hu)
    · have hj : j < sz := by rw [← hcz]; exact (List.getElem?_eq_some_iff.1 hu).1
      exact h3 _ u (by rw [flatMap_cells_get es hz _ j e0 he hj]; exact hu)
/-- '&xs[i]' of a slice of the call's own -/
theorem AZ {x y : Operand} {sz l q : Nat} {t1 el : TypeId} {ik : IntKind} {m : Int} {ks ks' : List Nat} (hgd : Gd ops s gd g gks) (hx : Od s g x (.os l q) ks) (hy : Od s g y (.int ik m) ks') (ht1 : slEl P t1 = some (el, sz))
    (hm : g = true → 0 ≤ m ∧ m < q) (hd : Nat.blt d n = true) (k : Lex P n ops r ⟨(d, some (g, .op l sz m.toNat 0)) :: s.T, s.H⟩ bs s') :
    Lex P n ops (⟨some d, .indexAddr t1 x y, ty, pos, af, gd⟩ :: r) s (⟨(ks ++ ks') ++ gks, [], [], [(d, some (g, .op l sz m.toNat 0))], []⟩ :: bs) s' := by
  refine C0 (o := ⟨some d, .indexAddr t1 x y, ty, pos, af, gd⟩) hgd rfl hd (fun s' ht _ c κ e w _ hs hg => ?_) k
  have h1 : RepB c κ (.os l q) (e.eval x) := (hx.agree (ag1 ht)).rep hs hg
  have h2 := repT_int ((hy.agree (ag2 ht)).rep hs hg)
  obtain ⟨h0, hl⟩ := hm hg
  simp only [RepB] at h1
  cases hk : κ l with
  | none => simp only [hk] at h1; omega
  | some p =>
    obtain ⟨b, cap⟩ := p
    simp only [hk] at h1
    obtain ⟨_, _, hx'⟩ := h1
    exact ⟨.pointer (some ⟨b, m.toNat * sz + 0, none⟩), by simp only [execOp, hx', h2, Sem.run_bind, run_indexAt ht1 _ q cap ik m h0 hl, Result.andThen_ok, Sem.run_pure, add_lit, Nat.zero_add, Nat.add_zero], ⟨b, cap, hk, rfl⟩⟩

/-! ### load -/
theorem run_load1 {t : TypeId} (ht : isCell P t = true) {a : Addr} {v : Value} {w : World} (h : w.cell? a = some v) : (Instr.loadAt t (.pointer (some a))).run P w = .ok v w := by
  simp [Instr.loadAt, Instr.sureAddr, loadVar, (isCell_spec ht w).1, h]
theorem run_loadN {t : TypeId} {k : Nat} (ht : aggSz P t = some k) {a : Addr} {vs : List Value} {w : World} (hl : vs.length = k) (h : ∀ (j : Nat) v, vs[j]? = some v → w.cell? (a.add j) = some v) :
    (Instr.loadAt t (.pointer (some a))).run P w = .ok (.agg ⟨vs⟩) w := by
  subst hl
  have := run_loadCells_list (P := P) (w := w) a vs h
  simp [Instr.loadAt, Instr.sureAddr, loadVar, (aggSz_spec ht w).1, (aggSz_spec ht w).2, this]

theorem Ap {x : Operand} {cs : List V} {v : V} {t1 : TypeId} {ks : List Nat} (hgd : Gd ops s gd g gks) (hx : Od s g x (.rp cs) ks) (hv : cs.head? = some v) (ht1 : isCell P t1 = true) (hd : Nat.blt d n = true)
    (k : Lex P n ops r ⟨(d, some (g, v)) :: s.T, s.H⟩ bs s') :
    Lex P n ops (⟨some d, .load t1 x, ty, pos, af, gd⟩ :: r) s (⟨ks ++ gks, [], [], [(d, some (g, v))], []⟩ :: bs) s' := by
  refine C0 (o := ⟨some d, .load t1 x, ty, pos, af, gd⟩) hgd rfl hd (fun s' ht _ c κ e w hc hs hg => ?_) k
  have h1 := repT_rp ((hx.agree ht).rep hs hg)
  generalize hy : e.eval x = y at h1
  cases h1 with
  | rp _ a f hD h1 h2 =>
    have h0 : cs[0]? = some v := by rw [← hv, List.head?_eq_getElem?]
    have hcell := h1 0 v h0
    have hadd : a.add 0 = a := rfl
    rw [hadd] at hcell
    exact ⟨f 0, by simp only [execOp, hy, Sem.run_bind, run_load1 ht1 ((hs.mem.cell hc hD).trans hcell), Result.andThen_ok, Sem.run_pure], repT_of_repR (h2 0 v h0)⟩
theorem q_ldN_ro {x : Operand} {cs us : List V} {q : Nat} {t1 : TypeId} {ks : List Nat} (hgd : Gd ops s gd g gks) (hx : Od s g x (.rp cs) ks) (ht1 : aggSz P t1 = some q) (hv : cs.take q = us) (hl : us.length = q) (hd : Nat.blt d n = true)
    (k : Lex P n ops r ⟨(d, some (g, .st us)) :: s.T, s.H⟩ bs s') :
    Lex P n ops (⟨some d, .load t1 x, ty, pos, af, gd⟩ :: r) s (⟨ks ++ gks, [], [], [(d, some (g, .st us))], []⟩ :: bs) s' := by
  subst hv
  refine C0 (o := ⟨some d, .load t1 x, ty, pos, af, gd⟩) hgd rfl hd (fun s' ht _ c κ e w hc hs hg => ?_) k
  have h1 := repT_rp ((hx.agree ht).rep hs hg)
  generalize hy : e.eval x = y at h1
  cases h1 with
  | rp _ a f hD h1 h2 =>
    have hcs : ∀ j, j < q → ∃ u, cs[j]? = some u := fun j hj => by
      have : j < cs.length := by rw [List.length_take] at hl; omega
      exact ⟨cs[j], List.getElem?_eq_getElem this⟩
    have hlist : ∀ (j : Nat) v, (List.ofFn fun i : Fin q => f i)[j]? = some v → w.cell? (a.add j) = some v := by
      intro j v hv
      simp only [List.getElem?_ofFn] at hv
      split at hv
      · rename_i hj
        simp at hv
        obtain ⟨u, hu⟩ := hcs j hj
        rw [hs.mem.cell hc (by rw [block_add]; exact hD), h1 j u hu, hv]
      · simp at hv
    refine ⟨_, by simp only [execOp, hy, Sem.run_bind, run_loadN ht1 (by simp) hlist, Result.andThen_ok, Sem.run_pure]; rfl, ⟨_, rfl, All2.of_get (by simp [hl]) fun j u y hu hy => ?_⟩⟩
    simp only [List.getElem?_ofFn] at hy
    split at hy
    · rename_i hj
      have hy' := Option.some.inj hy
      subst hy'
      rw [List.getElem?_take, if_pos hj] at hu
      exact repC_of_repR (h2 j u hu)
    · cases hy

/-- what an own object holds from the place (i, j) on -/
def O.from (o : O) (i j : Nat) : List V :=
  match o with
  | .row _ sz es => match es[i]? with
    | some e => if e.cells.length = sz then e.cells.drop j else []
    | none => []
  | .box _ cs => if i = 0 then cs.drop j else []
  | .nest .. => []
def O.sz : O → Nat
  | .row _ sz _ => sz
  | .box .. => 0
  | .nest _ sz .. => sz

theorem holds_from {c : Cx} {κ : Ka} {w : World} {l : Nat} {o : O} (h : Holds c κ w l o) {b cap : Nat} (hk : κ l = some (b, cap)) {i j sz : Nat} (hz : o.sz = sz ∨ i = 0) {q : Nat} {u : V} (hu : (o.from i j)[q]? = some u) :
    ∃ y, w.cell? ((⟨b, i * sz + j, none⟩ : Addr).add q) = some y ∧ RepC c κ u y := by
  rw [add_lit]
  cases o with
  | row el sz' es =>
    simp only [Holds, hk] at h
    obtain ⟨cur, hh, _, _, hcs, hze, hrep⟩ := h
    simp only [O.from] at hu
    cases he : es[i]? with
    | none => simp [he] at hu
    | some e =>
      simp only [he] at hu
      have hcz := hze e (List.mem_of_getElem? he)
      simp only [hcz, if_true, List.getElem?_drop] at hu
      have hjq : j + q < sz' := by rw [← hcz]; exact (List.getElem?_eq_some_iff.1 hu).1
      have := flatMap_cells_get es hze i (j + q) e he hjq
      rw [hu] at this
      obtain ⟨y, hy, hr⟩ := hrep _ _ this
      have hsz : i * sz = i * sz' := hz.elim (fun h => by rw [← h]; rfl) (fun h => by rw [h, Nat.zero_mul, Nat.zero_mul])
      exact ⟨y, by rw [cell_of_row w b _ cur el (0, 0) hh, hsz, Nat.add_assoc]; exact hy, repC_of_repR hr⟩
  | box el cs =>
    obtain ⟨b', cur, h0, hh, hall⟩ := h
    have hb : b' = b := by rw [hk] at h0; injection h0 with h0; injection h0 with h0; exact h0.symm
    subst hb
    simp only [O.from] at hu
    by_cases hi : i = 0
    · subst hi
      simp only [if_true, List.getElem?_drop] at hu
      obtain ⟨y, hy, hr⟩ := hall.get _ _ hu
      exact ⟨y, by rw [cell_of_row w b' _ cur el (0, 0) hh, Nat.zero_mul, Nat.zero_add]; simpa using hy, hr⟩
    · simp [hi] at hu
  | nest _ _ _ _ _ _ _ => simp [O.from] at hu

theorem repT_of_repC {c : Cx} {κ : Ka} {u : V} {y : Value} (h : RepC c κ u y) (hn : (∀ cs, u ≠ .st cs) ∧ ∀ vs, u ≠ .tup vs) : RepT c κ u y := by
  cases u with
  | st cs => exact absurd rfl (hn.1 cs)
  | tup vs => exact absurd rfl (hn.2 vs)
  | _ => exact h
def V.one : V → Bool
  | .st _ => false
  | .tup _ => false
  | _ => true
theorem V.one_spec {u : V} (h : u.one = true) : (∀ cs, u ≠ .st cs) ∧ ∀ vs, u ≠ .tup vs := by
  cases u <;> simp [V.one] at h ⊢

theorem AP {x : Operand} {l sz i j : Nat} {o : O} {v : V} {t1 : TypeId} {ks : List Nat} (hgd : Gd ops s gd g gks) (hx : Od s g x (.op l sz i j) ks) (ho : get s.H l = some o) (hz : o.sz = sz ∨ i = 0) (hv : g = true → (o.from i j).head? = some v) (h1' : v.one = true) (ht1 : isCell P t1 = true) (hd : Nat.blt d n = true)
    (k : Lex P n ops r ⟨(d, some (g, v)) :: s.T, s.H⟩ bs s') :
    Lex P n ops (⟨some d, .load t1 x, ty, pos, af, gd⟩ :: r) s (⟨ks ++ gks, [l], [], [(d, some (g, v))], []⟩ :: bs) s' := by
  refine C0 (o := ⟨some d, .load t1 x, ty, pos, af, gd⟩) hgd rfl hd (fun s' ht hh c κ e w hc hs hg => ?_) k
  obtain ⟨b, cap, hk, hy⟩ := repT_op ((hx.agree ht).rep hs hg)
  have hho := hs.mem.hp l o ((hh l (by simp)).trans ho)
  obtain ⟨y, hcell, hr⟩ := holds_from hho hk hz (q := 0) (u := v) (by rw [← hv hg, List.head?_eq_getElem?])
  have hadd : (⟨b, i * sz + j, none⟩ : Addr).add 0 = ⟨b, i * sz + j, none⟩ := rfl
  rw [hadd] at hcell
  exact ⟨y, by simp only [execOp, hy, Sem.run_bind, run_load1 ht1 hcell, Result.andThen_ok, Sem.run_pure], repT_of_repC hr (V.one_spec h1')⟩
theorem Ba {x : Operand} {l sz i j q : Nat} {o : O} {us : List V} {t1 : TypeId} {ks : List Nat} (hgd : Gd ops s gd g gks) (hx : Od s g x (.op l sz i j) ks) (ho : get s.H l = some o) (hz : o.sz = sz ∨ i = 0) (ht1 : aggSz P t1 = some q) (hv : g = true → (o.from i j).take q = us) (hl : us.length = q) (hd : Nat.blt d n = true)
    (k : Lex P n ops r ⟨(d, some (g, .st us)) :: s.T, s.H⟩ bs s') :
    Lex P n ops (⟨some d, .load t1 x, ty, pos, af, gd⟩ :: r) s (⟨ks ++ gks, [l], [], [(d, some (g, .st us))], []⟩ :: bs) s' := by
  refine C0 (o := ⟨some d, .load t1 x, ty, pos, af, gd⟩) hgd rfl hd (fun s' ht hh c κ e w hc hs hg => ?_) k
  obtain ⟨b, cap, hk, hy⟩ := repT_op ((hx.agree ht).rep hs hg)
  have hho := hs.mem.hp l o ((hh l (by simp)).trans ho)
  have hget : ∀ j' u, us[j']? = some u → (o.from i j)[j']? = some u := fun j' u hu => by
    rw [← hv hg, List.getElem?_take] at hu
    split at hu
    · exact hu
    · simp at hu
  have hall : ∀ m, m ≤ q → ∃ ys : List Value, ys.length = m ∧ ∀ (j' : Nat) u, j' < m → us[j']? = some u → ∃ y, ys[j']? = some y ∧ w.cell? ((⟨b, i * sz + j, none⟩ : Addr).add j') = some y ∧ RepC c κ u y := by
    intro m
    induction m with
    | zero => intro _; exact ⟨[], rfl, fun j' u h => absurd h (by omega)⟩
    | succ m ih =>
      intro hm
      obtain ⟨ys, hyl, hys⟩ := ih (by omega)
      have hmu : us[m]? = some (us[m]'(by omega)) := List.getElem?_eq_getElem (by omega)
      obtain ⟨y, hcell, hr⟩ := holds_from hho hk hz (hget m _ hmu)
      refine ⟨ys ++ [y], by simp [hyl], fun j' u hj hu => ?_⟩
      by_cases hjm : j' < m
      · obtain ⟨y', h1, h2⟩ := hys j' u hjm hu
        exact ⟨y', by rw [List.getElem?_append_left (by omega)]; exact h1, h2⟩
      · have : j' = m := by omega
        subst this
        rw [hmu] at hu
        injection hu with hu
        subst hu
        exact ⟨y, by rw [List.getElem?_append_right (by omega)]; simp [hyl], hcell, hr⟩
  obtain ⟨ys, hyl, hys⟩ := hall q (Nat.le_refl _)
  have hcells : ∀ (j' : Nat) v, ys[j']? = some v → w.cell? ((⟨b, i * sz + j, none⟩ : Addr).add j') = some v := fun j' v hv' => by
    have hj : j' < q := by rw [← hyl]; exact (List.getElem?_eq_some_iff.1 hv').1
    obtain ⟨y, h1, h2, _⟩ := hys j' _ hj (List.getElem?_eq_getElem (by omega))
    rw [hv'] at h1; injection h1 with h1; rw [h1]; exact h2
  refine ⟨.agg ⟨ys⟩, by simp only [execOp, hy, Sem.run_bind, run_loadN ht1 hyl hcells, Result.andThen_ok, Sem.run_pure], ⟨ys, rfl, All2.of_get (by omega) fun j' u y hu hy' => ?_⟩⟩
  obtain ⟨y', h1, _, h3⟩ := hys j' u (by rw [← hl]; exact (List.getElem?_eq_some_iff.1 hu).1) hu
  rw [hy'] at h1; injection h1 with h1; rw [h1]; exact h3

/-! ### extract, function values, min and max, conversions -/
theorem repS_repT {c : Cx} {κ : Ka} {u : V} {y : Value} (h : RepS c κ u y) (hn : ∀ vs, u ≠ .tup vs) : RepT c κ u y := by
  cases u with
  | tup vs => exact absurd rfl (hn vs)
  | _ => exact h
def V.notup : V → Bool
  | .tup _ => false
  | _ => true
theorem V.notup_spec {u : V} (h : u.notup = true) : ∀ vs, u ≠ .tup vs := by
  cases u <;> simp [V.notup] at h ⊢
theorem C9 {x : Operand} {vs : List V} {i : Nat} {v : V} {ks : List Nat} (hgd : Gd ops s gd g gks) (hx : Od s g x (.tup vs) ks) (hv : vs[i]? = some v) (hn : v.notup = true) (hd : Nat.blt d n = true)
    (k : Lex P n ops r ⟨(d, some (g, v)) :: s.T, s.H⟩ bs s') :
    Lex P n ops (⟨some d, .extract x i, ty, pos, af, gd⟩ :: r) s (⟨ks ++ gks, [], [], [(d, some (g, v))], []⟩ :: bs) s' := by
  refine C0 (o := ⟨some d, .extract x i, ty, pos, af, gd⟩) hgd rfl hd (fun s' ht _ c κ e w _ hs hg => ?_) k
  obtain ⟨ys, hy, hall⟩ : ∃ ys, e.eval x = .tuple ⟨ys⟩ ∧ All2 (RepS c κ) vs ys := (hx.agree ht).rep hs hg
  obtain ⟨y, hyi, hr⟩ := hall.get i v hv
  exact ⟨y, by simp [execOp, hy, Instr.extract, hyi], repS_repT hr (V.notup_spec hn)⟩

/-- operands in a row -/
inductive Ods (s : S) (g : Bool) : List Operand → List V → List Nat → Prop
  | nil : Ods s g [] [] []
  | cons {x : Operand} {v : V} {ks ks' : List Nat} {xs : List Operand} {vs : List V} (h : Od s g x v ks) (k : Ods s g xs vs ks') : Ods s g (x :: xs) (v :: vs) (ks ++ ks')
theorem Ods.agree {s s' : S} {g : Bool} {xs : List Operand} {vs : List V} {ks : List Nat} (h : Ods s g xs vs ks) (ha : ∀ t ∈ ks, get s'.T t = get s.T t) : Ods s' g xs vs ks := by
  induction h with
  | nil => exact .nil
  | cons h k ih => exact .cons (h.agree (fun t ht => ha t (by simp [ht]))) (ih (fun t ht => ha t (by simp [ht])))
theorem Ods.rep {xs : List Operand} {vs : List V} {ks : List Nat} (h : Ods s g xs vs ks) {c : Cx} {κ : Ka} {a : Act} {w : World} (hs : Sat n c κ s a w) (hg : g = true) : All2 (RepT c κ) vs (xs.map a.eval) := by
  induction h with
  | nil => trivial
  | cons h k ih => exact ⟨h.rep hs hg, ih⟩

/-- pointers and values that a closure may capture -/
def V.cap : V → Bool
  | .st _ => false
  | .tup _ => false
  | .clo .. => false
  | _ => true
theorem repB_of_repT {c : Cx} {κ : Ka} {u : V} {y : Value} (h : RepT c κ u y) (hn : u.cap = true) : RepB c κ u y := by
  cases u <;> first | (simp [V.cap] at hn; done) | exact h
theorem q_clo {f : FuncId} {xs : List Operand} {vs : List V} {ks : List Nat} (hgd : Gd ops s gd g gks) (hx : Ods s g xs vs ks) (hn : vs.all V.cap = true) (hd : Nat.blt d n = true)
    (k : Lex P n ops r ⟨(d, some (g, .clo f vs)) :: s.T, s.H⟩ bs s') :
    Lex P n ops (⟨some d, .makeFunc (.func f) #[] ⟨xs⟩, ty, pos, af, gd⟩ :: r) s (⟨ks ++ gks, [], [], [(d, some (g, .clo f vs))], []⟩ :: bs) s' := by
  refine C0 (o := ⟨some d, .makeFunc (.func f) #[] ⟨xs⟩, ty, pos, af, gd⟩) hgd rfl hd (fun s' ht _ c κ e w _ hs hg => ?_) k
  have h1 := (hx.agree ht).rep hs hg
  refine ⟨.func (.func f) #[] ⟨xs.map e.eval⟩, by simp [execOp, Instr.makeFunc], ⟨xs.map e.eval, rfl, h1.mono fun a ha b hb => repB_of_repT hb ?_⟩⟩
  exact (List.all_eq_true.1 hn) a ha

def cvInt (P : Program) (src dst : TypeId) : Option IntKind :=
  match P.underlying src, P.underlying dst with
  | some (.int _), some (.int k) => some k
  | _, _ => none
theorem q_conv {x : Operand} {i j : IntKind} {m : Int} {t1 t2 : TypeId} {ks : List Nat} (hgd : Gd ops s gd g gks) (hx : Od s g x (.int i m) ks) (ht1 : cvInt P t1 t2 = some j) (hd : Nat.blt d n = true)
    (k : Lex P n ops r ⟨(d, some (g, .int j (j.wrap m))) :: s.T, s.H⟩ bs s') :
    Lex P n ops (⟨some d, .convert t1 t2 x, ty, pos, af, gd⟩ :: r) s (⟨ks ++ gks, [], [], [(d, some (g, .int j (j.wrap m)))], []⟩ :: bs) s' := by
  refine C0 (o := ⟨some d, .convert t1 t2 x, ty, pos, af, gd⟩) hgd rfl hd (fun s' ht _ c κ e w _ hs hg => ?_) k
  have h1 := repT_int ((hx.agree ht).rep hs hg)
  refine ⟨.int j (j.wrap m), ?_, .int _ _⟩
  unfold cvInt at ht1
  split at ht1
  · rename_i k1 k2 hu1 hu2
    simp at ht1
    subst ht1
    simp [execOp, h1, convert, run_underlying hu1, run_underlying hu2, Conv.intToInt]
  · simp at ht1

/-! ### A slice of a slice that is only read -/
end
end Go.Proofs.YtibbfdojcdkopaaGreat.E
