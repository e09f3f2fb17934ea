/-
  THE ENGINE, part D: the operations that make memory or write the call's own: alloc, box, build, buildSlice, make, store, append, a shorter slice of the call's own.
  Conditions: none; all of it is over any program.
-/
import Derived.Test.YtibbfdojcdkopaaGreatEngC
import Derived.Great.BuildSlice
import Derived.Great.FillDense
set_option linter.unusedVariables false
set_option linter.unusedSimpArgs false
set_option linter.unusedSectionVars false
set_option linter.unnecessarySimpa false
namespace Go.Proofs.YtibbfdojcdkopaaGreat.E
open Go Go.RowKit

section
variable {P : Program} {n : Nat} {ops : Array Oper}
/-- The rule of an operation that yields a value and another world. -/
theorem q_mem {o : Oper} {s s' : S} {r : List Oper} {bs : List A} {g : Bool} {gks kt kh nw : List Nat} {d : Nat} {e : En} {wh : List (Nat × Option O)} (hgd : Gd ops s o.guard g gks) (hg : g = true) (ho : o.dst = some d) (hd : Nat.blt d n = true)
    (hf : ∀ l ∈ nw, Fresh l s)
    (h : ∀ s' : S, (∀ t ∈ kt, get s'.T t = get s.T t) → (∀ l ∈ kh, get s'.H l = get s.H l) → (∀ l ∈ nw, Fresh l s') → ∀ (c : Cx) (κ : Ka) (a : Act) (w : World), c.okP P → Sat n c κ s' a w →
      ∃ x w' κ', (execOp a.eval o).run P w = .ok (.value x) w' ∧ RepE c κ' e x ∧ (∀ l, (∀ p ∈ s'.T, ∀ e, p.2 = some e → l ∈ e.2.labs → κ' l = κ l)) ∧ Mem c κ' (wh ++ s'.H) w')
    (k : Lex P n ops r ⟨(d, some e) :: s.T, wh ++ s.H⟩ bs s') : Lex P n ops (o :: r) s (⟨kt ++ gks, kh, nw, [(d, some e)], wh⟩ :: bs) s' := by
  refine Lex.cons ?_ hf k
  intro s' ht hh hf' c κ a w hc hs K Q hK
  have hgd' := hgd.agree (s' := s') (fun t hm => ht t (by simp [hm]))
  have hd' : d < n := Nat.le_of_ble_eq_true hd
  rw [hgd'.wanted hs rfl, hg]
  simp only [if_true]
  obtain ⟨x, w', κ', hr, hx, hlab, hm⟩ := h s' (fun t hm => ht t (by simp [hm])) hh hf' c κ a w hc hs
  unfold Oper.wp
  rw [hr]
  simp only [Oper.upon, ho]
  exact hK _ _ κ' (hs.put hd' (fun t e' ht' he => he.turn fun l hl => hlab l _ (get_mem ht') e' rfl hl) hx hm)
/-- The rule of an operation that yields nothing (a store). -/
theorem q_skip {o : Oper} {s s' : S} {r : List Oper} {bs : List A} {g : Bool} {gks kt kh : List Nat} {wh : List (Nat × Option O)} (hgd : Gd ops s o.guard g gks) (hg : g = true) (ho : o.dst = none)
    (h : ∀ s' : S, (∀ t ∈ kt, get s'.T t = get s.T t) → (∀ l ∈ kh, get s'.H l = get s.H l) → ∀ (c : Cx) (κ : Ka) (a : Act) (w : World), c.okP P → Sat n c κ s' a w →
      ∃ w', (execOp a.eval o).run P w = .ok .skip w' ∧ Mem c κ (wh ++ s'.H) w')
    (k : Lex P n ops r ⟨s.T, wh ++ s.H⟩ bs s') : Lex P n ops (o :: r) s (⟨kt ++ gks, kh, [], [], wh⟩ :: bs) s' := by
  refine Lex.cons ?_ (by simp) k
  intro s' ht hh hf' c κ a w hc hs K Q hK
  have hgd' := hgd.agree (s' := s') (fun t hm => ht t (by simp [hm]))
  rw [hgd'.wanted hs rfl, hg]
  simp only [if_true]
  obtain ⟨w', hr, hm⟩ := h s' (fun t hm => ht t (by simp [hm])) hh c κ a w hc hs
  unfold Oper.wp
  rw [hr]
  simp only [Oper.upon, ho]
  exact hK _ _ κ ⟨hs.hd, hs.hn, hs.tm, hm⟩

variable {s s' : S} {r : List Oper} {bs : List A} {g : Bool} {gks : List Nat} {d : Nat} {ty : TypeId} {pos : String} {af : Array Edge} {gd : Option (Nat × Bool)}

/-! ### Cells of a value -/
theorem repC_one {c : Cx} {κ : Ka} {u : V} {y : Value} (hu : u.one = true) (h : RepC c κ u y) : y.cells = #[y] ∧ y.oneCell' = true := by
  have hR : ∀ {u : V} {y : Value}, u.one = true → RepR c u y → y.cells = #[y] ∧ y.oneCell' = true := by
    intro u y _ h
    cases h <;> first | exact ⟨rfl, rfl⟩ | assumption
  cases u with
  | clo f caps => obtain ⟨ys, rfl, _⟩ := h; exact ⟨rfl, rfl⟩
  | os l m =>
    simp only [RepC, RepB] at h
    cases hk : κ l with
    | none => simp only [hk] at h; rw [h.2]; exact ⟨rfl, rfl⟩
    | some p => obtain ⟨b, k⟩ := p; simp only [hk] at h; rw [h.2.2]; exact ⟨rfl, rfl⟩
  | op l sz i j => obtain ⟨b, k, _, rfl⟩ := h; exact ⟨rfl, rfl⟩
  | cp m l k =>
    simp only [RepC, RepB] at h
    unfold RepCap at h
    split at h
    · subst h; exact ⟨rfl, rfl⟩
    · subst h; exact ⟨rfl, rfl⟩
    · obtain ⟨rfl, _⟩ := h; exact ⟨rfl, rfl⟩
    · obtain ⟨rfl, _⟩ := h; exact ⟨rfl, rfl⟩
  | oss l sz i j =>
    simp only [RepC, RepB] at h
    cases hk : κ l with
    | none => simp only [hk] at h; rw [h.2.2]; exact ⟨rfl, rfl⟩
    | some p => obtain ⟨b, k⟩ := p; simp only [hk] at h; rw [h.2.2]; exact ⟨rfl, rfl⟩
  | st cs => simp [V.one] at hu
  | tup vs => simp [V.one] at hu
  | int k m => exact hR hu h
  | bool b => exact hR hu h
  | str l => exact hR hu h
  | nls => exact hR hu h
  | ub p => exact hR hu h
  | any => exact hR hu h
  | nlp => exact hR hu h
  | err p => exact hR hu h
  | sl z es => exact hR hu h
  | rp cs => exact hR hu h

/-- cells of a struct are one-cell values -/
def V.okc (v : V) : Bool := v.cells.all V.one
theorem repT_cells {c : Cx} {κ : Ka} {v : V} {x : Value} (hv : v.okc = true) (hn : v.notup = true) (h : RepT c κ v x) : All2 (RepC c κ) v.cells x.cells.toList ∧ ∀ y ∈ x.cells.toList, y.oneCell' = true := by
  have one : v.one = true → RepC c κ v x → v.cells = [v] → All2 (RepC c κ) v.cells x.cells.toList ∧ ∀ y ∈ x.cells.toList, y.oneCell' = true := by
    intro h1 hr hc
    obtain ⟨hcx, ho⟩ := repC_one h1 hr
    rw [hcx, hc]
    exact ⟨⟨hr, trivial⟩, fun y hy => by simp at hy; subst hy; exact ho⟩
  cases v with
  | st cs =>
    obtain ⟨ys, rfl, hall⟩ := h
    refine ⟨hall, fun y hy => ?_⟩
    obtain ⟨j, hj⟩ := List.mem_iff_getElem?.1 hy
    have hj' : ys[j]? = some y := hj
    have hlt : j < cs.length := by rw [hall.length]; exact (List.getElem?_eq_some_iff.1 hj').1
    obtain ⟨y', hy', hr⟩ := hall.get j _ (List.getElem?_eq_getElem hlt)
    rw [hj'] at hy'; injection hy' with hy'
    have h1 : cs[j].one = true := (List.all_eq_true.1 hv) _ (List.getElem_mem hlt)
    exact (repC_one h1 (hy' ▸ hr)).2
  | tup vs => simp [V.notup] at hn
  | int k m => exact one rfl h rfl
  | bool b => exact one rfl h rfl
  | ub p => exact one rfl h rfl
  | any => exact one rfl h rfl
  | nlp => exact one rfl h rfl
  | err p => exact one rfl h rfl
  | str l => exact one rfl h rfl
  | nls => exact one rfl h rfl
  | sl z es => exact one rfl h rfl
  | rp cs => exact one rfl h rfl
  | os l m => exact one rfl h rfl
  | op l z i j => exact one rfl h rfl
  | oss l z i j => exact one rfl h rfl
  | cp m l k => exact one rfl h rfl
  | clo f caps => exact one rfl h rfl

theorem labC_cells {v : V} {u : V} (hu : u ∈ v.cells) {l : Nat} (hl : l ∈ u.labC) (hn : v.notup = true) : l ∈ v.labs := by
  cases v with
  | st cs => simp only [V.labs, V.labS, List.mem_flatMap]; exact ⟨u, hu, hl⟩
  | tup vs => simp [V.notup] at hn
  | _ => simp only [V.cells, List.mem_singleton] at hu; subst hu; exact hl
theorem Od.fresh {g : Bool} {x : Operand} {v : V} {ks : List Nat} {l : Nat} (h : Od s g x v ks) (hf : Fresh l s) : l ∉ v.labs := by
  have cB : ∀ {v : Value} {u : V}, constB v = some u → u.labB = [] ∧ u.labC = [] ∧ u.labS = [] ∧ u.labs = [] := by
    intro v u h
    unfold constB at h
    split at h <;> simp at h <;> subst h <;> exact ⟨rfl, rfl, rfl, rfl⟩
  have cL : ∀ {cs : List Value} {us : List V}, constL cs = some us → us.flatMap V.labC = [] := by
    intro cs
    induction cs with
    | nil => intro us h; simp [constL] at h; subst h; rfl
    | cons v r ih =>
      intro us h
      simp only [constL] at h
      cases h1 : constB v with
      | none => simp [h1] at h
      | some u =>
        cases h2 : constL r with
        | none => simp [h1, h2] at h
        | some us' =>
          simp only [h1, h2, Option.some.injEq] at h
          subst h
          rw [List.flatMap_cons, (cB h1).2.1, ih h2]; rfl
  cases h with
  | t h => exact hf.t _ (get_mem h) _ rfl
  | u h hi => exact hf.t _ (get_mem h) _ rfl
  | c h =>
    rename_i x
    unfold constV at h
    split at h
    · rename_i cs
      cases h1 : constL cs with
      | none => simp [h1] at h
      | some us => simp [h1] at h; subst h; simp [V.labs, V.labS, cL h1]
    · rw [(cB h).2.2.2]; simp
  | f => simp [V.labs, V.labS, V.labC]

/-- zero cells of a type -/
def zeroV (P : Program) (t : TypeId) : Option V :=
  match P.info? t with
  | some i => match i.zero with
    | some z => constV z
    | none => none
  | none => none
theorem zeroV_spec {t : TypeId} {v : V} (h : zeroV P t = some v) : ∃ i z, P.info? t = some i ∧ i.zero = some z ∧ constV z = some v := by
  unfold zeroV at h
  split at h
  · rename_i i hi
    split at h
    · rename_i z hz; exact ⟨i, z, hi, hz, h⟩
    · simp at h
  · simp at h
theorem const_labs {x : Value} {v : V} (h : constV x = some v) : v.labs = [] ∧ v.notup = true ∧ v.okc = true := by
  have cB : ∀ {v : Value} {u : V}, constB v = some u → u.labC = [] ∧ u.labs = [] ∧ u.notup = true ∧ u.okc = true ∧ u.one = true := by
    intro v u h
    unfold constB at h
    split at h <;> simp at h <;> subst h <;> exact ⟨rfl, rfl, rfl, rfl, rfl⟩
  have cL : ∀ {cs : List Value} {us : List V}, constL cs = some us → us.flatMap V.labC = [] ∧ us.all V.one = true := by
    intro cs
    induction cs with
    | nil => intro us h; simp [constL] at h; subst h; exact ⟨rfl, rfl⟩
    | cons v r ih =>
      intro us h
      simp only [constL] at h
      cases h1 : constB v with
      | none => simp [h1] at h
      | some u =>
        cases h2 : constL r with
        | none => simp [h1, h2] at h
        | some us' =>
          simp only [h1, h2, Option.some.injEq] at h
          subst h
          exact ⟨by rw [List.flatMap_cons, (cB h1).1, (ih h2).1]; rfl, by rw [List.all_cons, (cB h1).2.2.2.2, (ih h2).2]; rfl⟩
  unfold constV at h
  split at h
  · rename_i cs
    cases h1 : constL cs with
    | none => simp [h1] at h
    | some us => simp [h1] at h; subst h; exact ⟨(cL h1).1, rfl, (cL h1).2⟩
  · exact ⟨(cB h).2.1, (cB h).2.2.1, (cB h).2.2.2.1⟩

theorem ext_alloc (w : World) (o : Obj) : Ext (fun _ => False) w (w.alloc o) := ⟨rfl, rfl, rfl, by simp, fun b hb _ => heap_alloc_old w o b hb⟩

/-- a new variable -/
theorem new_box {c : Cx} {κ : Ka} {s : S} {w : World} {l : Nat} {t : TypeId} {cs : List V} {ys : Array Value} (hc : c.ok) (h : Mem c κ s.H w) (hf : Fresh l s) (hl : ∀ u ∈ cs, l ∉ u.labC) (hr : All2 (RepC c κ) cs ys.toList) :
    Mem c (fun i => if i = l then some (w.heap.size, 1) else κ i) ((l, some (.box t cs)) :: s.H) (w.alloc (.cells ys t)) := by
  refine Mem.new hc h hf (ext_alloc w _) (fun b k hb => by injection hb with hb; injection hb with hb; omega) ?_
  refine ⟨w.heap.size, ys, by simp, heap_alloc_new w _, hr.mono fun a ha y hy => hy.turn fun l' hl' => ?_⟩
  have : l' ≠ l := fun e => hl a ha (e ▸ hl')
  simp [this]
theorem lab_keep {l : Nat} {s : S} {κ : Ka} {p : Option (Nat × Nat)} (hf : Fresh l s) : ∀ l', (∀ q ∈ s.T, ∀ e, q.2 = some e → l' ∈ e.2.labs → (if l' = l then p else κ l') = κ l') := by
  intro l' q hq e he hl'
  have : l' ≠ l := fun e2 => hf.t q hq e he (e2 ▸ hl')
  simp [this]

theorem BE {t : TypeId} {l : Nat} {z : V} (hgd : Gd ops s gd g gks) (hg : g = true) (hz : zeroV P t = some z) (hf : freshB l s = true) (hd : Nat.blt d n = true)
    (k : Lex P n ops r ⟨(d, some (true, .op l 0 0 0)) :: s.T, (l, some (.box t z.cells)) :: s.H⟩ bs s') :
    Lex P n ops (⟨some d, .alloc t, ty, pos, af, gd⟩ :: r) s (⟨[] ++ gks, [], [l], [(d, some (true, .op l 0 0 0))], [(l, some (.box t z.cells))]⟩ :: bs) s' := by
  refine q_mem (o := ⟨some d, .alloc t, ty, pos, af, gd⟩) hgd hg rfl hd (fun l' hl' => by simp at hl'; subst hl'; exact Fresh.of hf) (fun s' ht hh hfr c κ a w hc hs => ?_) k
  have hfl := hfr l (by simp)
  obtain ⟨i, zv, hi, hzi, hcz⟩ := zeroV_spec hz
  obtain ⟨hlab, hnt, hok⟩ := const_labs hcz
  have hrep := (repT_cells hok hnt (constV_rep (c := c) (κ := κ) hcz)).1
  refine ⟨.pointer (some ⟨w.heap.size, 0, none⟩), w.alloc (.cells zv.cells t), _, by simp [execOp, Instr.alloc, zeroValue, typeInfo, hi, hzi, newVar, newRow], ?_, lab_keep hfl, new_box hc hs.mem hfl (fun u hu hl => by have := labC_cells hu hl hnt; rw [hlab] at this; simp at this) hrep⟩
  exact ⟨fun _ => ⟨w.heap.size, 1, by simp, by simp⟩, fun h => by simp at h⟩

theorem Du {t : TypeId} {l : Nat} {x : Operand} {v : V} {ks : List Nat} (hgd : Gd ops s gd g gks) (hg : g = true) (hx : Od s g x v ks) (hn : v.notup = true) (hok : v.okc = true) (hf : freshB l s = true) (hd : Nat.blt d n = true)
    (k : Lex P n ops r ⟨(d, some (true, .op l 0 0 0)) :: s.T, (l, some (.box t v.cells)) :: s.H⟩ bs s') :
    Lex P n ops (⟨some d, .box t x, ty, pos, af, gd⟩ :: r) s (⟨ks ++ gks, [], [l], [(d, some (true, .op l 0 0 0))], [(l, some (.box t v.cells))]⟩ :: bs) s' := by
  refine q_mem (o := ⟨some d, .box t x, ty, pos, af, gd⟩) hgd hg rfl hd (fun l' hl' => by simp at hl'; subst hl'; exact Fresh.of hf) (fun s' ht hh hfr c κ a w hc hs => ?_) k
  have hfl := hfr l (by simp)
  have hx' := hx.agree ht
  have hrep := (repT_cells hok hn (hx'.rep hs hg)).1
  refine ⟨.pointer (some ⟨w.heap.size, 0, none⟩), w.alloc (.cells (a.eval x).cells t), _, by simp [execOp, Instr.box, newVar, newRow], ?_, lab_keep hfl, new_box hc hs.mem hfl (fun u hu hl => hx'.fresh hfl (labC_cells hu hl hn)) hrep⟩
  exact ⟨fun _ => ⟨w.heap.size, 1, by simp, by simp⟩, fun h => by simp at h⟩

/-! ### Struct literals -/
def vput (cs : List V) (off : Nat) (us : List V) : List V := us.zipIdx.foldl (fun cs p => cs.set (off + p.2) p.1) cs
def vfill (place : Nat → Option (Nat × Nat)) (cells : List V) : List (Nat × V) → Option (List V)
  | [] => some cells
  | (i, v) :: rest => match place i with
    | none => none
    | some (off, size) => if v.cells.length ≠ size || off + v.cells.length > cells.length then none else vfill place (vput cells off v.cells) rest

theorem all2_put {R : V → Value → Prop} (off : Nat) : ∀ (us : List V) (ys : List Value) (k : Nat) (cs : List V) (xs : Array Value), All2 R us ys → All2 R cs xs.toList →
    All2 R ((us.zipIdx k).foldl (fun cs p => cs.set (off + p.2) p.1) cs) ((ys.zipIdx k).foldl (fun (xs : Array Value) p => xs.setIfInBounds (off + p.2) p.1) xs).toList
  | [], [], _, _, _, _, h => h
  | u :: us, y :: ys, k, cs, xs, ⟨h1, h2⟩, h => by
    simp only [List.zipIdx_cons, List.foldl_cons]
    exact all2_put off us ys (k + 1) _ _ h2 (by rw [Array.toList_setIfInBounds]; exact h.set _ h1)
  | [], _ :: _, _, _, _, h, _ => h.elim
  | _ :: _, [], _, _, _, h, _ => h.elim

theorem fill_sim {c : Cx} {κ : Ka} (place : Nat → Option (Nat × Nat)) : ∀ (is : List Nat) (vs : List V) (ys : List Value) (cells us : List V) (xs : Array Value), All2 (RepT c κ) vs ys → vs.all V.okc = true → vs.all V.notup = true →
    All2 (RepC c κ) cells xs.toList → vfill place cells (is.zip vs) = some us → ∃ r, Instr.fill place xs (is.zip ys) = some r ∧ All2 (RepC c κ) us r.toList
  | [], vs, ys, cells, us, xs, _, _, _, hc, hf => by
    simp [vfill] at hf; subst hf; exact ⟨xs, by simp [Instr.fill], hc⟩
  | i :: is, [], [], cells, us, xs, _, _, _, hc, hf => by
    simp [vfill] at hf; subst hf; exact ⟨xs, by simp [Instr.fill], hc⟩
  | i :: is, v :: vs, y :: ys, cells, us, xs, ⟨h1, h2⟩, hok, hnt, hc, hf => by
    simp only [List.all_cons, Bool.and_eq_true] at hok hnt
    obtain ⟨hcell, _⟩ := repT_cells hok.1 hnt.1 h1
    have hlen : v.cells.length = y.cells.size := by have := hcell.length; simpa using this
    have hlen2 : cells.length = xs.size := by have := hc.length; simpa using this
    simp only [List.zip_cons_cons, vfill] at hf
    simp only [List.zip_cons_cons, Instr.fill]
    cases hp : place i with
    | none => simp [hp] at hf
    | some p =>
      obtain ⟨off, size⟩ := p
      simp only [hp] at hf ⊢
      split at hf
      · simp at hf
      · rename_i hcond
        rw [hlen, hlen2] at hcond
        rw [if_neg hcond]
        have hh := all2_put (R := RepC c κ) off v.cells y.cells.toList 0 cells xs hcell hc
        refine fill_sim place is vs ys _ us _ h2 hok.2 hnt.2 ?_ hf
        have e : (y.cells.zipIdx.foldl (fun (cs : Array Value) x => match x with | (c, j) => cs.setIfInBounds (off + j) c) xs) = (y.cells.toList.zipIdx.foldl (fun (xs : Array Value) p => xs.setIfInBounds (off + p.2) p.1) xs) := by
          rw [← Array.foldl_toList, Array.toList_zipIdx]
        rw [e]
        exact hh
  | _ :: _, [], _ :: _, _, _, _, h, _, _, _, _ => h.elim
  | _ :: _, _ :: _, [], _, _, _, h, _, _, _, _ => h.elim

def places (P : Program) (t : TypeId) : Option (List (Nat × Nat)) :=
  match P.underlying t with
  | some (.struct fields) => fields.toList.mapM (fun f => (P.info? f.type).map fun i => (f.offset, i.size))
  | _ => none

theorem Dv {t : TypeId} {parts : List (Nat × Operand)} {vs us : List V} {z : V} {pl : List (Nat × Nat)} {ks : List Nat} (hgd : Gd ops s gd g gks) (hx : Ods s g (parts.map (·.2)) vs ks) (hz : zeroV P t = some z) (hp : places P t = some pl)
    (hok : (vs.all V.okc && vs.all V.notup) = true) (hf : vfill (pl[·]?) z.cells ((parts.map (·.1)).zip vs) = some us) (hd : Nat.blt d n = true)
    (k : Lex P n ops r ⟨(d, some (g, .st us)) :: s.T, s.H⟩ bs s') :
    Lex P n ops (⟨some d, .build t ⟨parts⟩, ty, pos, af, gd⟩ :: r) s (⟨ks ++ gks, [], [], [(d, some (g, .st us))], []⟩ :: bs) s' := by
  refine C0 (o := ⟨some d, .build t ⟨parts⟩, ty, pos, af, gd⟩) hgd rfl hd (fun s' ht _ c κ e w hc hs hg => ?_) k
  obtain ⟨i, zv, hi, hzi, hcz⟩ := zeroV_spec hz
  obtain ⟨hlab, hnt, hok'⟩ := const_labs hcz
  have hrep := (repT_cells hok' hnt (constV_rep (c := c) (κ := κ) hcz)).1
  simp only [Bool.and_eq_true] at hok
  obtain ⟨r, hr, hr2⟩ := fill_sim (pl[·]?) (parts.map (·.1)) vs _ z.cells us zv.cells ((hx.agree ht).rep hs hg) hok.1 hok.2 hrep hf
  have hb : P.built t ((parts.map (·.1)).zip ((parts.map (·.2)).map e.eval)) = some r := by
    unfold places at hp
    split at hp
    · rename_i fields hu
      simp only [Program.built, hi, hu, hzi, hp]
      simpa using hr
    · simp at hp
  have hparts : (parts.map fun x => (x.1, e.eval x.2)) = (parts.map (·.1)).zip ((parts.map (·.2)).map e.eval) := by
    rw [List.map_map, ← List.zip_map']; rfl
  exact ⟨.agg r, by
    have := run_build (P := P) w t ⟨parts.map fun x => (x.1, e.eval x.2)⟩ r (by rw [show ((⟨parts.map fun x => (x.1, e.eval x.2)⟩ : Array (Nat × Value)).toList) = parts.map fun x => (x.1, e.eval x.2) from rfl, hparts]; exact hb)
    simp only [execOp, Sem.run_bind]
    rw [show ((⟨parts⟩ : Array (Nat × Operand)).map fun x => match x with | (i, x) => (i, e.eval x)) = ⟨parts.map fun x => (x.1, e.eval x.2)⟩ by simp, this]
    rfl, ⟨r.toList, by simp, hr2⟩⟩

theorem repT_os {c : Cx} {κ : Ka} {l m : Nat} {x : Value} {b cap : Nat} (hk : κ l = some (b, cap)) (h : m ≤ cap ∧ cap ≤ maxLen ∧ x = .slice (some ⟨b, 0, none⟩) m cap) : RepT c κ (.os l m) x := by
  have h' : RepB c κ (.os l m) x := by simp only [RepB, hk]; exact h
  exact h'
theorem repT_os0 {c : Cx} {κ : Ka} {l : Nat} (hk : κ l = none) : RepT c κ (.os l 0) (.slice none 0 0) := by
  have h' : RepB c κ (.os l 0) (.slice none 0 0) := by simp only [RepB, hk]; exact ⟨trivial, trivial⟩
  exact h'
theorem take_add (l r : List V) (k : Nat) : (l ++ r).take (l.length + k) = l ++ r.take k := by
  rw [List.take_append, List.take_of_length_le (by omega), Nat.add_sub_cancel_left]
theorem drop_add (l r : List V) (k : Nat) : (l ++ r).drop (l.length + k) = r.drop k := by
  rw [List.drop_append, List.drop_eq_nil_of_le (by omega), Nat.add_sub_cancel_left, List.nil_append]

/-! ### Slices of the call's own -/
/-- element type, cells and bytes of an element of a slice type -/
def slInfo (P : Program) (t : TypeId) : Option (TypeId × Nat × Nat) :=
  match P.underlying t with
  | some (.slice e) => match P.info? e with
    | some i => some (e, i.size, i.bytes)
    | none => none
  | _ => none
theorem slInfo_spec {t e : TypeId} {sz by' : Nat} (h : slInfo P t = some (e, sz, by')) : P.underlying t = some (.slice e) ∧ ∃ i, P.info? e = some i ∧ i.size = sz ∧ i.bytes = by' := by
  unfold slInfo at h
  split at h
  · rename_i e' hu
    split at h
    · rename_i i hi
      simp at h
      obtain ⟨rfl, rfl, rfl⟩ := h
      exact ⟨hu, i, hi, rfl, rfl⟩
    · simp at h
  · simp at h

/-- values of memory that is only read, and plain ones: no label -/
def V.ro : V → Bool
  | .os .. => false
  | .op .. => false
  | .oss .. => false
  | .cp .. => false
  | .clo .. => false
  | .st _ => false
  | .tup _ => false
  | _ => true
def V.roc (v : V) : Bool := v.cells.all V.ro
theorem repR_of_repC {c : Cx} {κ : Ka} {u : V} {y : Value} (hu : u.ro = true) (h : RepC c κ u y) : RepR c u y := by
  cases u <;> first | (simp [V.ro] at hu; done) | exact h
theorem roc_okc {v : V} (h : v.roc = true) : v.okc = true := by
  simp only [V.roc, V.okc, List.all_eq_true] at h ⊢
  intro u hu
  have := h u hu
  cases u <;> simp [V.ro, V.one] at this ⊢

theorem flatMap_length {sz : Nat} : ∀ (l : List V), (∀ e ∈ l, e.cells.length = sz) → (l.flatMap V.cells).length = l.length * sz
  | [], _ => by simp
  | e :: l, h => by rw [List.flatMap_cons, List.length_append, h e List.mem_cons_self, flatMap_length l (fun e he => h e (List.mem_cons_of_mem _ he)), List.length_cons, Nat.add_mul]; omega

/-- a new row -/
theorem new_row {c : Cx} {κ : Ka} {s : S} {w : World} {l : Nat} {el : TypeId} {sz cap : Nat} {es : List V} {cur : Array Value} (hc : c.ok) (h : Mem c κ s.H w) (hf : Fresh l s) (hl : es.length ≤ cap) (hcp : cap ≤ maxLen) (hsz : cur.size = cap * sz)
    (hz : ∀ e ∈ es, e.cells.length = sz) (hr : ∀ (j : Nat) (u : V), (es.flatMap V.cells)[j]? = some u → ∃ y, cur[j]? = some y ∧ RepR c u y) :
    Mem c (fun i => if i = l then some (w.heap.size, cap) else κ i) ((l, some (.row el sz es)) :: s.H) (w.alloc (.cells cur el)) := by
  refine Mem.new hc h hf (ext_alloc w _) (fun b k hb => by injection hb with hb; injection hb with hb; omega) ?_
  simp only [Holds, if_true]
  exact ⟨cur, heap_alloc_new w _, hl, hcp, hsz, hz, hr⟩

/-- parts 0, 1, 2, .. -/
def partsFrom : Nat → List (Nat × Operand) → Option (List Operand)
  | _, [] => some []
  | i, (j, x) :: r => if i = j then (partsFrom (i + 1) r).map (x :: ·) else none
theorem partsFrom_spec : ∀ (i : Nat) (ps : List (Nat × Operand)) (xs : List Operand), partsFrom i ps = some xs → ps = (xs.zipIdx i).map fun p => (p.2, p.1)
  | _, [], xs, h => by simp [partsFrom] at h; subst h; rfl
  | i, (j, x) :: r, xs, h => by
    simp only [partsFrom] at h
    split at h
    · rename_i e
      subst e
      cases hr : partsFrom (i + 1) r with
      | none => simp [hr] at h
      | some xs' =>
        simp [hr] at h
        subst h
        rw [partsFrom_spec (i + 1) r xs' hr]
        rfl
    · simp at h

theorem q_bslice {t el : TypeId} {l sz by' len : Nat} {parts : List (Nat × Operand)} {xs : List Operand} {vs : List V} {z : V} {ks : List Nat} (hgd : Gd ops s gd g gks) (hg : g = true) (hps : partsFrom 0 parts = some xs) (hx : Ods s g xs vs ks) (ht1 : slInfo P t = some (el, sz, by')) (hz : zeroV P el = some z)
    (hok : (vs.all V.roc && vs.all V.notup && vs.all (fun v => v.cells.length == sz) && Nat.beq vs.length len && Nat.ble 1 sz && Nat.ble (len * sz) 65536) = true) (hf : freshB l s = true) (hd : Nat.blt d n = true)
    (k : Lex P n ops r ⟨(d, some (true, .os l len)) :: s.T, (l, some (.row el sz vs)) :: s.H⟩ bs s') :
    Lex P n ops (⟨some d, .buildSlice t len ⟨parts⟩, ty, pos, af, gd⟩ :: r) s (⟨ks ++ gks, [], [l], [(d, some (true, .os l len))], [(l, some (.row el sz vs))]⟩ :: bs) s' := by
  refine q_mem (o := ⟨some d, .buildSlice t len ⟨parts⟩, ty, pos, af, gd⟩) hgd hg rfl hd (fun l' hl' => by simp at hl'; subst hl'; exact Fresh.of hf) (fun s' ht hh hfr c κ a w hc hs => ?_) k
  have hfl := hfr l (by simp)
  simp only [Bool.and_eq_true, List.all_eq_true] at hok
  obtain ⟨⟨⟨⟨⟨hro, hnt⟩, hcl⟩, hlen⟩, hs1⟩, hsm⟩ := hok
  have hlen' : vs.length = len := Nat.eq_of_beq_eq_true hlen
  have hs1' : 1 ≤ sz := Nat.le_of_ble_eq_true hs1
  have hsm' : len * sz ≤ 65536 := Nat.le_of_ble_eq_true hsm
  obtain ⟨hu, i, hi, hisz, _⟩ := slInfo_spec ht1
  obtain ⟨i', zv, hi', hzi, hcz⟩ := zeroV_spec hz
  have : i' = i := by rw [hi] at hi'; exact (Option.some.inj hi').symm
  subst this
  have hall := (hx.agree ht).rep hs hg
  have hyl : (xs.map a.eval).length = len := by rw [← hall.length]; exact hlen'
  have hcells : ∀ (v : V) (y : Value), v ∈ vs → RepT c κ v y → All2 (RepR c) v.cells y.cells.toList := fun v y hv hr =>
    ((repT_cells (roc_okc (hro v hv)) (hnt v hv) hr).1).mono fun u hu y' hy' => repR_of_repC ((List.all_eq_true.1 (hro v hv)) u hu) hy'
  have hflat : ∀ (vs : List V) (ys : List Value), (∀ v ∈ vs, v.roc = true ∧ v.notup = true) → All2 (RepT c κ) vs ys → All2 (RepR c) (vs.flatMap V.cells) (ys.flatMap fun y => y.cells.toList) := by
    intro vs
    induction vs with
    | nil => intro ys _ h; cases ys with
      | nil => trivial
      | cons y ys => exact h.elim
    | cons v vs ih => intro ys hv h; cases ys with
      | nil => exact h.elim
      | cons y ys =>
        obtain ⟨h1, h2⟩ := h
        rw [List.flatMap_cons, List.flatMap_cons]
        have := hv v List.mem_cons_self
        exact ((repT_cells (roc_okc this.1) this.2 h1).1.mono fun u hu y' hy' => repR_of_repC ((List.all_eq_true.1 this.1) u hu) hy').append (ih ys (fun v' hv' => hv v' (List.mem_cons_of_mem _ hv')) h2)
  have hfl2 := hflat vs _ (fun v hv => ⟨hro v hv, hnt v hv⟩) hall
  have hysz : ∀ y ∈ xs.map a.eval, y.cells.size = sz := by
    intro y hy
    obtain ⟨j, hj⟩ := List.mem_iff_getElem?.1 hy
    have hlt : j < vs.length := by rw [hall.length]; exact (List.getElem?_eq_some_iff.1 hj).1
    obtain ⟨y', hy', hr⟩ := hall.get j _ (List.getElem?_eq_getElem hlt)
    rw [hj] at hy'; injection hy' with hy'; subst hy'
    have h1 := (hcells _ _ (List.getElem_mem hlt) hr).length
    have h2 := hcl _ (List.getElem_mem hlt)
    simp at h2
    simp at h1
    omega
  have hcz' : ∀ e ∈ vs, e.cells.length = sz := fun e he => by have := hcl e he; simpa using this
  have key : ∃ cur : Array Value, (Instr.buildSlice t len ((⟨parts⟩ : Array (Nat × Operand)).map fun x => match x with | (i, x) => (i, a.eval x))).run P w = .ok (.slice (some ⟨w.heap.size, 0, none⟩) len len) (w.alloc (.cells cur el)) ∧ cur.size = len * sz ∧ All2 (RepR c) (vs.flatMap V.cells) cur.toList := by
    by_cases h0 : len = 0
    · subst h0
      have hxs : xs = [] := by simpa using hyl
      subst hxs
      have hp := partsFrom_spec 0 parts [] hps
      simp at hp
      subst hp
      refine ⟨#[], by simp [Instr.buildSlice, run_underlying hu, sizeOf, typeInfo, hi, Instr.fill, newRow, Array.range_zero'], by simp, ?_⟩
      have : vs = [] := List.eq_nil_of_length_eq_zero hlen'
      subst this
      trivial
    · have hpos : ¬ len * i'.size = 0 := by rw [hisz]; exact Nat.mul_ne_zero h0 (by omega)
      refine ⟨((xs.map a.eval).flatMap fun v => v.cells.toList).toArray, ?_, ?_, by simpa using hfl2⟩
      · have hp := partsFrom_spec 0 parts xs hps
        have e1 : ((⟨parts⟩ : Array (Nat × Operand)).map fun x => match x with | (i, x) => (i, a.eval x)) = ⟨((xs.map a.eval).zipIdx 0).map fun x => (x.2, x.1)⟩ := by
          subst hp
          simp [List.zipIdx_map, Function.comp_def]
        rw [e1]
        refine run_buildSlice w t el len _ _ i' zv hu hi hzi (by rw [hisz]; omega) hpos ?_
        rw [hisz]
        refine Go.Great.fill_whole (by omega) (xs.map a.eval) _ hysz ?_
        rw [hyl]
        simp
      · have := hfl2.length
        rw [flatMap_length vs hcz', hlen'] at this
        simpa using this.symm
  obtain ⟨cur, hrun, hcs, hcr⟩ := key
  have hml : (65536 : Nat) ≤ maxLen := by unfold maxLen; omega
  have hlm : len ≤ maxLen := Nat.le_trans (Nat.le_trans (Nat.le_mul_of_pos_right len (by omega)) hsm') hml
  refine ⟨.slice (some ⟨w.heap.size, 0, none⟩) len len, w.alloc (.cells cur el), fun i => if i = l then some (w.heap.size, len) else κ i, by simp only [execOp, Sem.run_bind, hrun, Result.andThen_ok, Sem.run_pure], ?_, lab_keep hfl, new_row (cap := len) hc hs.mem hfl (by omega) hlm hcs hcz' fun j u hu => ?_⟩
  · exact ⟨fun _ => repT_os (b := w.heap.size) (cap := len) (if_pos rfl) ⟨Nat.le_refl _, hlm, rfl⟩, fun h => by simp at h⟩
  · obtain ⟨y, hy, hr⟩ := hcr.get j u hu
    exact ⟨y, by simpa using hy, hr⟩

theorem flat_replicate {v : V} {sz : Nat} (hv : v.cells.length = sz) : ∀ (m j : Nat), j < m * sz → ((List.replicate m v).flatMap V.cells)[j]? = v.cells[j % sz]?
  | 0, j, h => by simp at h
  | m + 1, j, h => by
    rw [List.replicate_succ, List.flatMap_cons]
    by_cases hj : j < sz
    · rw [List.getElem?_append_left (by omega), Nat.mod_eq_of_lt hj]
    · rw [List.getElem?_append_right (by omega), hv, flat_replicate hv m (j - sz) (by rw [Nat.add_mul] at h; omega)]
      congr 1
      exact (Nat.mod_eq_sub_mod (by omega)).symm

theorem q_make {t el : TypeId} {l sz by' : Nat} {x y : Operand} {i1 i2 : IntKind} {a b : Int} {z : V} {ks ks' : List Nat} (hgd : Gd ops s gd g gks) (hg : g = true) (hx : Od s g x (.int i1 a) ks) (hy : Od s g y (.int i2 b) ks') (ht1 : slInfo P t = some (el, sz, by')) (hz : zeroV P el = some z)
    (hab : 0 ≤ a ∧ a ≤ b ∧ b ≤ 1073741824) (hok : (z.roc && Nat.beq z.cells.length sz && Nat.ble 1 sz && Nat.ble by' 65536) = true) (hf : freshB l s = true) (hd : Nat.blt d n = true)
    (k : Lex P n ops r ⟨(d, some (true, .os l a.toNat)) :: s.T, (l, some (.row el sz (List.replicate a.toNat z))) :: s.H⟩ bs s') :
    Lex P n ops (⟨some d, .makeSlice t x y, ty, pos, af, gd⟩ :: r) s (⟨(ks ++ ks') ++ gks, [], [l], [(d, some (true, .os l a.toNat))], [(l, some (.row el sz (List.replicate a.toNat z)))]⟩ :: bs) s' := by
  refine q_mem (o := ⟨some d, .makeSlice t x y, ty, pos, af, gd⟩) hgd hg rfl hd (fun l' hl' => by simp at hl'; subst hl'; exact Fresh.of hf) (fun s' ht hh hfr c κ e w hc hs => ?_) k
  have hfl := hfr l (by simp)
  simp only [Bool.and_eq_true] at hok
  obtain ⟨⟨⟨hro, hzl⟩, hs1⟩, hby⟩ := hok
  have hzl' : z.cells.length = sz := Nat.eq_of_beq_eq_true hzl
  have hs1' : 1 ≤ sz := Nat.le_of_ble_eq_true hs1
  have hby' : by' ≤ 65536 := Nat.le_of_ble_eq_true hby
  obtain ⟨hu, i, hi, hisz, hiby⟩ := slInfo_spec ht1
  obtain ⟨i', zv, hi', hzi, hcz⟩ := zeroV_spec hz
  have : i' = i := by rw [hi] at hi'; exact (Option.some.inj hi').symm
  subst this
  have h1 := repT_int ((hx.agree (ag1 ht)).rep hs hg)
  have h2 := repT_int ((hy.agree (ag2 ht)).rep hs hg)
  obtain ⟨h0, hlb, hbm⟩ := hab
  have hbytes : (i'.bytes : Int) * b ≤ 281474976710656 := by
    rw [hiby]
    have hb1 : (by' : Int) * b ≤ 65536 * b := Int.mul_le_mul_of_nonneg_right (by omega) (by omega)
    omega
  have hrun := run_make (P := P) w t el i' zv hu hi hzi i1 i2 a b h0 hlb hbytes (by omega)
  obtain ⟨hlab, hnt, hokc⟩ := const_labs hcz
  have hzrep := ((repT_cells hokc hnt (constV_rep (c := c) (κ := κ) hcz)).1).mono fun u hu y' hy' => repR_of_repC ((List.all_eq_true.1 hro) u hu) hy'
  have hml : (1073741824 : Nat) ≤ maxLen := by unfold maxLen; omega
  refine ⟨.slice (some ⟨w.heap.size, 0, none⟩) a.toNat b.toNat, w.alloc (.cells (madeCells zv.cells (b.toNat * i'.size)) el), fun i => if i = l then some (w.heap.size, b.toNat) else κ i, by simp only [execOp, h1, h2, Sem.run_bind, hrun, Result.andThen_ok, Sem.run_pure], ?_, lab_keep hfl, new_row (cap := b.toNat) hc hs.mem hfl (by simp; omega) (by omega) (by rw [size_madeCells, hisz]) (fun e' he => by rw [(List.mem_replicate.1 he).2]; exact hzl') fun j u hu => ?_⟩
  · exact ⟨fun _ => repT_os (b := w.heap.size) (cap := b.toNat) (if_pos rfl) ⟨by omega, by omega, rfl⟩, fun h => by simp at h⟩
  · have hj : j < a.toNat * sz := by
      have := (List.getElem?_eq_some_iff.1 hu).1
      rw [flatMap_length (sz := sz) _ (fun e' he => by rw [(List.mem_replicate.1 he).2]; exact hzl'), List.length_replicate] at this
      exact this
    rw [flat_replicate hzl' _ j hj] at hu
    obtain ⟨y, hy, hr⟩ := hzrep.get _ _ hu
    have hzs : zv.cells.size = sz := by have := hzrep.length; simp at this; omega
    refine ⟨y, ?_, hr⟩
    have hjb : j < b.toNat * i'.size := by
      rw [hisz]
      have : a.toNat * sz ≤ b.toNat * sz := Nat.mul_le_mul_right _ (by omega)
      omega
    have hyz : zv.cells[j % sz]? = some y := by simpa using hy
    simp only [madeCells, Array.getElem?_map, Array.getElem?_range, hjb, if_true, Option.map_some, hzs]
    rw [getElem!_def, hyz]

/-- A shorter slice of the call's own: 's[:hi]'. -/
theorem q_cut_ow {x : Operand} {hi : Option Operand} {l m : Nat} {mh : Int} {t1 el : TypeId} {sz : Nat} {ks ks'' : List Nat} (hgd : Gd ops s gd g gks) (hx : Od s g x (.os l m) ks) (hhi : Bd s g hi (some mh) ks'') (ht1 : slEl P t1 = some (el, sz))
    (hm : g = true → 0 ≤ mh ∧ mh ≤ m) (hd : Nat.blt d n = true)
    (k : Lex P n ops r ⟨(d, some (g, .os l mh.toNat)) :: s.T, s.H⟩ bs s') :
    Lex P n ops (⟨some d, .slice t1 x none hi none, ty, pos, af, gd⟩ :: r) s (⟨(ks ++ ks'') ++ gks, [], [], [(d, some (g, .os l mh.toNat))], []⟩ :: bs) s' := by
  refine C0 (o := ⟨some d, .slice t1 x none hi none, ty, pos, af, gd⟩) hgd rfl hd (fun s' ht _ c κ e w _ hs hg => ?_) k
  have h1 : RepB c κ (.os l m) (e.eval x) := (hx.agree (ag1 ht)).rep hs hg
  obtain ⟨i2, h3⟩ := (hhi.agree (ag2 ht)).rep hs hg
  obtain ⟨h0, hl⟩ := hm hg
  obtain ⟨hu, i, hi', hsz⟩ := slEl_spec ht1
  simp only [RepB] at h1
  cases hk : κ l with
  | none =>
    simp only [hk] at h1
    have h4 : mh = 0 := by omega
    subst h4
    refine ⟨.slice none 0 0, ?_, repT_os0 hk⟩
    simp only [execOp, h1.2, h3, Sem.run_bind]
    simp [Instr.sliceAt, run_underlying hu, Instr.slice, Instr.sliceBounds, Instr.sliceBound, asIntOf, sizeOf, typeInfo, hi']
  | some p =>
    obtain ⟨b, cap⟩ := p
    simp only [hk] at h1
    obtain ⟨hmc, hcm, hx'⟩ := h1
    have hcap : mh ≤ cap := by omega
    refine ⟨.slice (some ⟨b, 0, none⟩) mh.toNat cap, ?_, repT_os hk ⟨by omega, hcm, rfl⟩⟩
    simp only [execOp, hx', h3, Sem.run_bind]
    have hadd : (⟨b, 0, none⟩ : Addr).add 0 = ⟨b, 0, none⟩ := rfl
    simp [Instr.sliceAt, run_underlying hu, Instr.slice, Instr.sliceBounds, Instr.sliceBound, asIntOf, sizeOf, typeInfo, hi', h0, hcap, hadd]

/-! ### store -/
def tySz (P : Program) (t : TypeId) : Option Nat := (P.info? t).map (·.size)
theorem tySz_spec {t : TypeId} {k : Nat} (h : tySz P t = some k) (w : World) : (sizeOf t).run P w = .ok k w := by
  unfold tySz at h
  cases hi : P.info? t with
  | none => simp [hi] at h
  | some i => simp [hi] at h; simp [sizeOf, typeInfo, hi, h]

theorem ext_setRow (w : World) (b : Nat) (cs : Array Value) (t : TypeId) (old : Array Value) (h : w.heap[b]? = some (.cells old t (0, 0))) : Ext (fun i => i = b) w (w.setRow b cs) :=
  ⟨rfl, rfl, rfl, by simp [World.setRow], fun k _ hk => setRow_other w b k cs hk⟩

/-- One label's block is written. -/
theorem Mem.write {c : Cx} {κ : Ka} {H : List (Nat × Option O)} {w w' : World} {l b k : Nat} {o o' : O} (h : Mem c κ H w) (hl : get H l = some o) (hk : κ l = some (b, k)) (hx : Ext (fun i => i = b) w w') (ho : Holds c κ w' l o') (hno : o'.isNest = false := by rfl) (hno0 : o.isNest = false := by rfl) :
    Mem c κ ((l, some o') :: H) w' := by
  have how := h.ow l o b k hl hk
  refine ⟨h.ext.trans' hx (fun i hi => hi ▸ how.1), fun l' o2 hl' => ?_, fun l' o2 b' k' hl' hk' => ?_, fun l1 l2 o1 o2 b' k1 k2 h1 h2 hk1 hk2 => ?_, h.pin, ?_⟩
  · rw [get_cons] at hl'
    split at hl'
    · rename_i e; subst e; injection hl' with hl'; subst hl'; exact ho
    · rename_i e
      refine (h.hp l' o2 hl').turn rfl (fun _ _ => rfl) (fun b' k' hk' => hx.block b' (h.lt hl' hk') fun e2 => e ?_)
      subst e2
      exact h.ij l l' o o2 _ k k' hl hl' hk hk'
  · rw [get_cons] at hl'
    split at hl'
    · rename_i e; subst e; rw [hk] at hk'; injection hk' with hk'; injection hk' with h1 h2; subst h1; exact how
    · exact h.ow l' o2 b' k' hl' hk'
  · rw [get_cons] at h1 h2
    have g1 : ∃ o, get H l1 = some o := by
      split at h1
      · rename_i e; subst e; exact ⟨o, hl⟩
      · exact ⟨o1, h1⟩
    have g2 : ∃ o, get H l2 = some o := by
      split at h2
      · rename_i e; subst e; exact ⟨o, hl⟩
      · exact ⟨o2, h2⟩
    obtain ⟨q1, g1⟩ := g1
    obtain ⟨q2, g2⟩ := g2
    exact h.ij l1 l2 q1 q2 b' k1 k2 g1 g2 hk1 hk2
  · refine h.nsi (fun l' o2 hl' hN => ?_) (fun l' o2 b' k' hl' hk' => ?_) (fun b' hb' => ?_) hx.size
    · rw [get_cons] at hl'
      split at hl'
      · injection hl' with hl'; subst hl'; rw [hno] at hN; simp at hN
      · exact ⟨hl', rfl, fun _ _ => rfl⟩
    · rw [get_cons] at hl'
      split at hl'
      · rename_i e; subst e; exact .inr ⟨l, o, k', hl, hk'⟩
      · exact .inr ⟨l', o2, k', hl', hk'⟩
    · by_cases e : b' = b
      · subst e; exact .inr ⟨l, o, k, hl, hno0, hk⟩
      · exact .inl (hx.block b' hb' e)

theorem run_storeAt {t : TypeId} {k b o : Nat} {el : TypeId} {cur : Array Value} {x : Value} {w : World} (ht : tySz P t = some k) (hx : x.cells.size = k) (h1 : ∀ y ∈ x.cells.toList, y.oneCell' = true) (hb : w.heap[b]? = some (.cells cur el (0, 0))) (hfit : o + k ≤ cur.size) :
    (Instr.storeAt t (.pointer (some ⟨b, o, none⟩)) x).run P w = .ok () (w.setRow b (cur.toList.take o ++ x.cells.toList ++ cur.toList.drop (o + k)).toArray) := by
  have hst := run_storeCells_at P b o el x.cells.toList 0 cur w hb (by simp [hx]; exact hfit) h1
  simp only [Nat.add_zero, Array.length_toList, hx] at hst
  simp [Instr.storeAt, Instr.sureAddr, storeVar, tySz_spec ht, hx, hst]

def splice (cs : List V) (j : Nat) (us : List V) : List V := cs.take j ++ us ++ cs.drop (j + us.length)

theorem q_st_box {t el : TypeId} {x y : Operand} {l sz j q : Nat} {cs : List V} {v : V} {ks ks' : List Nat} (hgd : Gd ops s gd g gks) (hg : g = true) (hx : Od s g x (.op l sz 0 j) ks) (hy : Od s g y v ks') (ho : get s.H l = some (.box el cs)) (ht1 : tySz P t = some q)
    (hok : (v.okc && v.notup && Nat.beq v.cells.length q && Nat.ble (j + q) cs.length) = true)
    (k : Lex P n ops r ⟨s.T, (l, some (.box el (splice cs j v.cells))) :: s.H⟩ bs s') :
    Lex P n ops (⟨none, .store t x y, ty, pos, af, gd⟩ :: r) s (⟨(ks ++ ks') ++ gks, [l], [], [], [(l, some (.box el (splice cs j v.cells)))]⟩ :: bs) s' := by
  refine q_skip (o := ⟨none, .store t x y, ty, pos, af, gd⟩) hgd hg rfl (fun s' ht hh c κ a w hc hs => ?_) k
  simp only [Bool.and_eq_true] at hok
  obtain ⟨⟨⟨hokc, hnt⟩, hq⟩, hj⟩ := hok
  have hq' : v.cells.length = q := Nat.eq_of_beq_eq_true hq
  have hj' : j + q ≤ cs.length := Nat.le_of_ble_eq_true hj
  obtain ⟨b, cap, hk, hpx⟩ := repT_op ((hx.agree (ag1 ht)).rep hs hg)
  obtain ⟨hcells, hone⟩ := repT_cells hokc hnt ((hy.agree (ag2 ht)).rep hs hg)
  have hgl := (hh l (by simp)).trans ho
  obtain ⟨b', cur, hk', hb, hall⟩ := hs.mem.hp l _ hgl
  have : b' = b := by rw [hk] at hk'; injection hk' with hk'; injection hk' with hk' _; exact hk'.symm
  subst this
  have hxs : (a.eval y).cells.size = q := by have := hcells.length; simp at this; omega
  have hcl : cs.length = cur.size := by have := hall.length; simpa using this
  have hrun := run_storeAt (P := P) (w := w) ht1 hxs hone hb (show j + q ≤ cur.size by omega)
  refine ⟨w.setRow b' (cur.toList.take j ++ (a.eval y).cells.toList ++ cur.toList.drop (j + q)).toArray, by simp only [execOp, hpx, Nat.zero_mul, Nat.zero_add, Sem.run_bind, hrun, Result.andThen_ok, Sem.run_pure], hs.mem.write hgl hk (ext_setRow w b' _ el cur hb) ⟨b', _, hk', setRow_heap w b' cur _ el _ hb, ?_⟩⟩
  rw [List.toList_toArray]
  unfold splice
  rw [hq']
  exact ((hall.take j).append hcells).append (hall.drop (j + q))

theorem flatMap_set {sz : Nat} : ∀ (es : List V) (i : Nat) (e : V), i < es.length → (∀ e ∈ es, e.cells.length = sz) → (es.set i e).flatMap V.cells = (es.flatMap V.cells).take (i * sz) ++ e.cells ++ (es.flatMap V.cells).drop (i * sz + sz)
  | [], i, e, h, _ => by simp at h
  | e0 :: es, 0, e, _, hz => by
    have h0 := hz e0 List.mem_cons_self
    rw [List.set_cons_zero, List.flatMap_cons, List.flatMap_cons, Nat.zero_mul, List.take_zero, Nat.zero_add, List.nil_append, ← h0, show e0.cells.length = e0.cells.length + 0 from rfl, drop_add, List.drop_zero]
  | e0 :: es, i + 1, e, h, hz => by
    have h0 := hz e0 List.mem_cons_self
    have ih := flatMap_set es i e (by simpa using h) (fun e he => hz e (List.mem_cons_of_mem _ he))
    rw [List.set_cons_succ, List.flatMap_cons, ih, List.flatMap_cons]
    have e1 : (i + 1) * sz = e0.cells.length + i * sz := by rw [Nat.add_mul, h0]; omega
    have e2 : (i + 1) * sz + sz = e0.cells.length + (i * sz + sz) := by rw [e1]; omega
    rw [e2, drop_add, e1, take_add]
    simp only [List.append_assoc]

theorem q_st_row {t el : TypeId} {x y : Operand} {l sz i j q : Nat} {es : List V} {v e0 e1 : V} {ks ks' : List Nat} (hgd : Gd ops s gd g gks) (hg : g = true) (hx : Od s g x (.op l sz i j) ks) (hy : Od s g y v ks') (ho : get s.H l = some (.row el sz es)) (ht1 : tySz P t = some q)
    (he : es[i]? = some e0) (he1 : e1.cells = splice e0.cells j v.cells) (hok : (v.roc && v.notup && Nat.beq v.cells.length q && Nat.ble (j + q) sz) = true)
    (k : Lex P n ops r ⟨s.T, (l, some (.row el sz (es.set i e1))) :: s.H⟩ bs s') :
    Lex P n ops (⟨none, .store t x y, ty, pos, af, gd⟩ :: r) s (⟨(ks ++ ks') ++ gks, [l], [], [], [(l, some (.row el sz (es.set i e1)))]⟩ :: bs) s' := by
  refine q_skip (o := ⟨none, .store t x y, ty, pos, af, gd⟩) hgd hg rfl (fun s' ht hh c κ a w hc hs => ?_) k
  simp only [Bool.and_eq_true] at hok
  obtain ⟨⟨⟨hro, hnt⟩, hq⟩, hj⟩ := hok
  have hq' : v.cells.length = q := Nat.eq_of_beq_eq_true hq
  have hj' : j + q ≤ sz := Nat.le_of_ble_eq_true hj
  obtain ⟨b, cap, hk, hpx⟩ := repT_op ((hx.agree (ag1 ht)).rep hs hg)
  obtain ⟨hcells, hone⟩ := repT_cells (roc_okc hro) hnt ((hy.agree (ag2 ht)).rep hs hg)
  have hcells' : All2 (RepR c) v.cells (a.eval y).cells.toList := hcells.mono fun u hu y' hy' => repR_of_repC ((List.all_eq_true.1 hro) u hu) hy'
  have hgl := (hh l (by simp)).trans ho
  have hho := hs.mem.hp l _ hgl
  simp only [Holds, hk] at hho
  obtain ⟨cur, hb, hec, hcm, hcs, hz, hrep⟩ := hho
  have hil : i < es.length := (List.getElem?_eq_some_iff.1 he).1
  have hxs : (a.eval y).cells.size = q := by have := hcells.length; simp at this; omega
  have hi1 : i * sz + sz ≤ es.length * sz := by have := Nat.mul_le_mul_right sz (show i + 1 ≤ es.length by omega); rw [Nat.add_mul] at this; omega
  have hi2 : es.length * sz ≤ cap * sz := Nat.mul_le_mul_right _ hec
  have hrun := run_storeAt (P := P) (w := w) (o := i * sz + j) ht1 hxs hone hb (by omega)
  have hz0 := hz e0 (List.mem_of_getElem? he)
  have he1l : e1.cells.length = sz := by rw [he1]; simp only [splice, List.length_append, List.length_take, List.length_drop]; omega
  refine ⟨w.setRow b (cur.toList.take (i * sz + j) ++ (a.eval y).cells.toList ++ cur.toList.drop (i * sz + j + q)).toArray, by simp only [execOp, hpx, Sem.run_bind, hrun, Result.andThen_ok, Sem.run_pure], hs.mem.write hgl hk (ext_setRow w b _ el cur hb) ?_⟩
  simp only [Holds, hk]
  refine ⟨_, setRow_heap w b cur _ el _ hb, by simpa using hec, hcm, ?_, fun e' he' => ?_, fun p u hu => ?_⟩
  · simp only [List.size_toArray, List.length_append, List.length_take, List.length_drop, Array.length_toList]
    omega
  · rcases List.mem_or_eq_of_mem_set he' with h | h
    · exact hz e' h
    · subst h; exact he1l
  · have hfl := flatMap_length es hz
    rw [flatMap_set es i e1 hil hz, he1, splice] at hu
    have hold : ∀ p' u, (es.flatMap V.cells)[p']? = some u → ∃ y, cur[p']? = some y ∧ RepR c u y := hrep
    have hcur : (cur.toList.take (i * sz + j) ++ (a.eval y).cells.toList ++ cur.toList.drop (i * sz + j + q)).toArray[p]? = (cur.toList.take (i * sz + j) ++ (a.eval y).cells.toList ++ cur.toList.drop (i * sz + j + q))[p]? := by simp
    rw [hcur]
    have htk : ((es.flatMap V.cells).take (i * sz)).length = i * sz := by rw [List.length_take]; omega
    have hck : (cur.toList.take (i * sz + j)).length = i * sz + j := by rw [List.length_take, Array.length_toList]; omega
    have hyk : (a.eval y).cells.toList.length = q := by simpa using hxs
    by_cases hp1 : p < i * sz
    · rw [List.append_assoc, List.getElem?_append_left (by omega), List.getElem?_take, if_pos hp1] at hu
      obtain ⟨y', hy', hr⟩ := hold p u hu
      exact ⟨y', by rw [List.append_assoc, List.getElem?_append_left (by omega), List.getElem?_take, if_pos (by omega)]; simpa using hy', hr⟩
    · rw [List.append_assoc, List.getElem?_append_right (by omega), htk] at hu
      by_cases hp2 : p < i * sz + j
      · rw [List.append_assoc, List.append_assoc, List.getElem?_append_left (by rw [List.length_take]; omega), List.getElem?_take, if_pos (by omega)] at hu
        have := flatMap_cells_get es hz i (p - i * sz) e0 he (by omega)
        rw [← this, show i * sz + (p - i * sz) = p by omega] at hu
        obtain ⟨y', hy', hr⟩ := hold p u hu
        exact ⟨y', by rw [List.append_assoc, List.getElem?_append_left (by omega), List.getElem?_take, if_pos hp2]; simpa using hy', hr⟩
      · rw [List.append_assoc, List.append_assoc, List.getElem?_append_right (by rw [List.length_take]; omega), List.length_take, show min j e0.cells.length = j by omega] at hu
        by_cases hp3 : p < i * sz + j + q
        · rw [List.getElem?_append_left (by omega)] at hu
          obtain ⟨y', hy', hr⟩ := hcells'.get _ u hu
          refine ⟨y', ?_, hr⟩
          rw [List.append_assoc, List.getElem?_append_right (by omega), hck, List.getElem?_append_left (by omega)]
          rw [← hy']; congr 1; omega
        · rw [List.getElem?_append_right (by omega), hq'] at hu
          by_cases hp4 : p < i * sz + sz
          · rw [List.getElem?_append_left (by rw [List.length_drop]; omega), List.getElem?_drop] at hu
            have := flatMap_cells_get es hz i (p - i * sz) e0 he (by omega)
            rw [show j + q + (p - i * sz - j - q) = p - i * sz by omega, ← this, show i * sz + (p - i * sz) = p by omega] at hu
            obtain ⟨y', hy', hr⟩ := hold p u hu
            refine ⟨y', ?_, hr⟩
            rw [List.getElem?_append_right (by rw [List.length_append]; omega), List.length_append, hck, hyk, List.getElem?_drop, show i * sz + j + q + (p - (i * sz + j + q)) = p by omega]
            simpa using hy'
          · rw [List.getElem?_append_right (by rw [List.length_drop]; omega), List.length_drop, List.getElem?_drop, show i * sz + sz + (p - i * sz - j - q - (e0.cells.length - (j + q))) = p by omega] at hu
            obtain ⟨y', hy', hr⟩ := hold p u hu
            refine ⟨y', ?_, hr⟩
            rw [List.getElem?_append_right (by rw [List.length_append]; omega), List.length_append, hck, hyk, List.getElem?_drop, show i * sz + j + q + (p - (i * sz + j + q)) = p by omega]
            simpa using hy'
end
end Go.Proofs.YtibbfdojcdkopaaGreat.E
