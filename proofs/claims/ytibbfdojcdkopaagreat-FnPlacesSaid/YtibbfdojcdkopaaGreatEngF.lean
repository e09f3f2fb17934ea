/-
  THE ENGINE, part F: contracts of functions ('Con') and the rules of a call.
  Conditions: none; all of it is over any program.
-/
import Derived.Test.YtibbfdojcdkopaaGreatEngE
set_option linter.unusedVariables false
set_option linter.unusedSimpArgs false
set_option linter.unusedSectionVars false
set_option linter.unnecessarySimpa false
namespace Go.Proofs.YtibbfdojcdkopaaGreat.E
open Go Go.RowKit

/-- What a function does: called with values that read as 'args', over the objects 'hin' that it may write, it returns a value that reads as 'res' and leaves the objects 'hout'; nothing else that was there has changed. -/
def Con (P : Program) (f : FuncId) (args : List V) (hin : List (Nat × Option O)) (res : V) (hout : List (Nat × Option O)) : Prop :=
  ∀ (c : Cx) (xs : List Value), c.okP P → All2 (RepT c c.κ) args xs → Mem c c.κ hin c.w →
    Calls P f ⟨xs⟩ c.w fun e w' => ∃ x κ', e = .returned x ∧ RepT c κ' res x ∧ Mem c κ' hout w'

def look : List (Nat × Nat) → Nat → Option Nat
  | [], _ => none
  | (a, b) :: r, n => bif Nat.beq a n then some b else look r n
theorem look_cons (a b : Nat) (r : List (Nat × Nat)) (n : Nat) : look ((a, b) :: r) n = if a = n then some b else look r n := by
  simp only [look]
  by_cases h : a = n
  · subst h; simp
  · have : Nat.beq a n = false := by
      cases hb : Nat.beq a n
      · rfl
      · exact absurd (Nat.eq_of_beq_eq_true hb) h
    simp [this, h]
theorem look_mem : ∀ {l : List (Nat × Nat)} {n m : Nat}, look l n = some m → (n, m) ∈ l
  | [], _, _, h => by simp [look] at h
  | (a, b) :: r, n, m, h => by
    rw [look_cons] at h
    split at h
    · rename_i e; subst e; injection h with h; subst h; exact List.mem_cons_self
    · exact List.mem_cons_of_mem _ (look_mem h)
def rn (R : List (Nat × Nat)) (l : Nat) : Nat := (look R l).getD l

def V.renB (f : Nat → Nat) : V → V
  | .os l n => .os (f l) n
  | .op l sz i j => .op (f l) sz i j
  | .oss l sz i j => .oss (f l) sz i j
  | .cp m l k => .cp m (f l) k
  | v => v
def V.renC (f : Nat → Nat) : V → V
  | .clo g caps => .clo g (caps.map (V.renB f))
  | v => v.renB f
def V.renS (f : Nat → Nat) : V → V
  | .st cs => .st (cs.map (V.renC f))
  | v => v.renC f
def V.ren (f : Nat → Nat) : V → V
  | .tup vs => .tup (vs.map (V.renS f))
  | v => v.renS f
def O.ren (f : Nat → Nat) : O → O
  | .box el cs => .box el (cs.map (V.renC f))
  | .nest el sz q te ze h es => .nest el sz q te ze (h.map fun p => (p.1, f p.2)) es
  | o => o

theorem All2.map_left {α β γ : Type} {R : γ → β → Prop} {f : α → γ} : ∀ {l : List α} {m : List β}, All2 (fun a b => R (f a) b) l m → All2 R (l.map f) m
  | [], [], _ => trivial
  | _ :: _, _ :: _, ⟨h1, h2⟩ => ⟨h1, All2.map_left h2⟩
  | [], _ :: _, h => h.elim
  | _ :: _, [], h => h.elim
theorem All2.of_map_left {α β γ : Type} {R : γ → β → Prop} {f : α → γ} : ∀ {l : List α} {m : List β}, All2 R (l.map f) m → All2 (fun a b => R (f a) b) l m
  | [], [], _ => trivial
  | _ :: _, _ :: _, ⟨h1, h2⟩ => ⟨h1, All2.of_map_left h2⟩
  | [], _ :: _, h => h.elim
  | _ :: _, [], h => h.elim

/-- From one map of labels to another along a renaming. -/
theorem RepB.ren {c : Cx} {κ κ' : Ka} {f : Nat → Nat} {v : V} {x : Value} (hl : ∀ l ∈ v.labB, κ' (f l) = κ l) (h : RepB c κ v x) : RepB c κ' (v.renB f) x := by
  cases v with
  | os l m => have e := hl l (by simp [V.labB]); simpa [RepB, V.renB, e] using h
  | op l sz i j => have e := hl l (by simp [V.labB]); simpa [RepB, V.renB, e] using h
  | oss l sz i j => have e := hl l (by simp [V.labB]); simpa [RepB, V.renB, e] using h
  | cp m l k => exact RepCap.turn (hl l (by simp [V.labB])) h
  | _ => exact h
theorem RepC.ren {c : Cx} {κ κ' : Ka} {f : Nat → Nat} {v : V} {x : Value} (hl : ∀ l ∈ v.labC, κ' (f l) = κ l) (h : RepC c κ v x) : RepC c κ' (v.renC f) x := by
  cases v with
  | clo g caps =>
    obtain ⟨ys, hx, h2⟩ := h
    exact ⟨ys, hx, (h2.mono fun a ha b hb => RepB.ren (fun l hl' => hl l (by simp only [V.labC, List.mem_flatMap]; exact ⟨a, ha, hl'⟩)) hb).map_left⟩
  | os l m => exact @RepB.ren c κ κ' f (.os l m) x hl h
  | op l z i j => exact @RepB.ren c κ κ' f (.op l z i j) x hl h
  | oss l z i j => exact @RepB.ren c κ κ' f (.oss l z i j) x hl h
  | cp m l k => exact @RepB.ren c κ κ' f (.cp m l k) x hl h
  | _ => exact h
theorem RepS.ren {c : Cx} {κ κ' : Ka} {f : Nat → Nat} {v : V} {x : Value} (hl : ∀ l ∈ v.labS, κ' (f l) = κ l) (h : RepS c κ v x) : RepS c κ' (v.renS f) x := by
  cases v with
  | st cs =>
    obtain ⟨ys, hx, h2⟩ := h
    exact ⟨ys, hx, (h2.mono fun a ha b hb => RepC.ren (fun l hl' => hl l (by simp only [V.labS, List.mem_flatMap]; exact ⟨a, ha, hl'⟩)) hb).map_left⟩
  | clo g caps => exact @RepC.ren c κ κ' f (.clo g caps) x hl h
  | os l m => exact @RepC.ren c κ κ' f (.os l m) x hl h
  | op l z i j => exact @RepC.ren c κ κ' f (.op l z i j) x hl h
  | oss l z i j => exact @RepC.ren c κ κ' f (.oss l z i j) x hl h
  | cp m l k => exact @RepC.ren c κ κ' f (.cp m l k) x hl h
  | _ => exact h
theorem RepT.ren {c : Cx} {κ κ' : Ka} {f : Nat → Nat} {v : V} {x : Value} (hl : ∀ l ∈ v.labs, κ' (f l) = κ l) (h : RepT c κ v x) : RepT c κ' (v.ren f) x := by
  cases v with
  | tup vs =>
    obtain ⟨ys, hx, h2⟩ := h
    exact ⟨ys, hx, (h2.mono fun a ha b hb => RepS.ren (fun l hl' => hl l (by simp only [V.labs, List.mem_flatMap]; exact ⟨a, ha, hl'⟩)) hb).map_left⟩
  | st cs => exact @RepS.ren c κ κ' f (.st cs) x hl h
  | clo g caps => exact @RepS.ren c κ κ' f (.clo g caps) x hl h
  | os l m => exact @RepS.ren c κ κ' f (.os l m) x hl h
  | op l z i j => exact @RepS.ren c κ κ' f (.op l z i j) x hl h
  | oss l z i j => exact @RepS.ren c κ κ' f (.oss l z i j) x hl h
  | cp m l k => exact @RepS.ren c κ κ' f (.cp m l k) x hl h
  | _ => exact h
/-- And back: what the renamed value reads as under κ' the value reads as under 'κ' ∘ f'. -/
theorem RepB.unren {c : Cx} {κ κ' : Ka} {f : Nat → Nat} {v : V} {x : Value} (hl : ∀ l ∈ v.labB, κ' (f l) = κ l) (h : RepB c κ' (v.renB f) x) : RepB c κ v x := by
  cases v with
  | os l m => have e := hl l (by simp [V.labB]); simpa [RepB, V.renB, e] using h
  | op l sz i j => have e := hl l (by simp [V.labB]); simpa [RepB, V.renB, e] using h
  | oss l sz i j => have e := hl l (by simp [V.labB]); simpa [RepB, V.renB, e] using h
  | cp m l k => exact RepCap.turn (hl l (by simp [V.labB])).symm h
  | _ => exact h
theorem RepC.unren {c : Cx} {κ κ' : Ka} {f : Nat → Nat} {v : V} {x : Value} (hl : ∀ l ∈ v.labC, κ' (f l) = κ l) (h : RepC c κ' (v.renC f) x) : RepC c κ v x := by
  cases v with
  | clo g caps =>
    obtain ⟨ys, hx, h2⟩ := h
    exact ⟨ys, hx, h2.of_map_left.mono fun a ha b hb => RepB.unren (fun l hl' => hl l (by simp only [V.labC, List.mem_flatMap]; exact ⟨a, ha, hl'⟩)) hb⟩
  | os l m => exact @RepB.unren c κ κ' f (.os l m) x hl h
  | op l z i j => exact @RepB.unren c κ κ' f (.op l z i j) x hl h
  | oss l z i j => exact @RepB.unren c κ κ' f (.oss l z i j) x hl h
  | cp m l k => exact @RepB.unren c κ κ' f (.cp m l k) x hl h
  | _ => exact h
theorem RepS.unren {c : Cx} {κ κ' : Ka} {f : Nat → Nat} {v : V} {x : Value} (hl : ∀ l ∈ v.labS, κ' (f l) = κ l) (h : RepS c κ' (v.renS f) x) : RepS c κ v x := by
  cases v with
  | st cs =>
    obtain ⟨ys, hx, h2⟩ := h
    exact ⟨ys, hx, h2.of_map_left.mono fun a ha b hb => RepC.unren (fun l hl' => hl l (by simp only [V.labS, List.mem_flatMap]; exact ⟨a, ha, hl'⟩)) hb⟩
  | clo g caps => exact @RepC.unren c κ κ' f (.clo g caps) x hl h
  | os l m => exact @RepC.unren c κ κ' f (.os l m) x hl h
  | op l z i j => exact @RepC.unren c κ κ' f (.op l z i j) x hl h
  | oss l z i j => exact @RepC.unren c κ κ' f (.oss l z i j) x hl h
  | cp m l k => exact @RepC.unren c κ κ' f (.cp m l k) x hl h
  | _ => exact h
theorem RepT.unren {c : Cx} {κ κ' : Ka} {f : Nat → Nat} {v : V} {x : Value} (hl : ∀ l ∈ v.labs, κ' (f l) = κ l) (h : RepT c κ' (v.ren f) x) : RepT c κ v x := by
  cases v with
  | tup vs =>
    obtain ⟨ys, hx, h2⟩ := h
    exact ⟨ys, hx, h2.of_map_left.mono fun a ha b hb => RepS.unren (fun l hl' => hl l (by simp only [V.labs, List.mem_flatMap]; exact ⟨a, ha, hl'⟩)) hb⟩
  | st cs => exact @RepS.unren c κ κ' f (.st cs) x hl h
  | clo g caps => exact @RepS.unren c κ κ' f (.clo g caps) x hl h
  | os l m => exact @RepS.unren c κ κ' f (.os l m) x hl h
  | op l z i j => exact @RepS.unren c κ κ' f (.op l z i j) x hl h
  | oss l z i j => exact @RepS.unren c κ κ' f (.oss l z i j) x hl h
  | cp m l k => exact @RepS.unren c κ κ' f (.cp m l k) x hl h
  | _ => exact h
theorem Holds.ren {c : Cx} {κ κ' : Ka} {f : Nat → Nat} {w : World} {l : Nat} {o : O} (hl : κ' (f l) = κ l) (ho : ∀ l ∈ o.labs, κ' (f l) = κ l) (h : Holds c κ w l o) : Holds c κ' w (f l) (o.ren f) := by
  cases o with
  | row el sz es => simpa only [Holds, O.ren, hl] using h
  | box el cs =>
    obtain ⟨b, cur, h0, h1, h2⟩ := h
    exact ⟨b, cur, hl.trans h0, h1, (h2.mono fun a ha y hy => RepC.ren (fun l hl' => ho l (by simp only [O.labs, List.mem_flatMap]; exact ⟨a, ha, hl'⟩)) hy).map_left⟩
  | nest el sz q te ze g es => simpa only [Holds, O.ren, hl] using h
theorem Holds.unren {c : Cx} {κ κ' : Ka} {f : Nat → Nat} {w : World} {l : Nat} {o : O} (hl : κ' (f l) = κ l) (ho : ∀ l ∈ o.labs, κ' (f l) = κ l) (h : Holds c κ' w (f l) (o.ren f)) : Holds c κ w l o := by
  cases o with
  | row el sz es => simpa only [Holds, O.ren, hl] using h
  | box el cs =>
    obtain ⟨b, cur, h0, h1, h2⟩ := h
    exact ⟨b, cur, hl.symm.trans h0, h1, h2.of_map_left.mono fun a ha y hy => RepC.unren (fun l hl' => ho l (by simp only [O.labs, List.mem_flatMap]; exact ⟨a, ha, hl'⟩)) hy⟩
  | nest el sz q te ze g es => simpa only [Holds, O.ren, hl] using h

/-! ### From one context to another -/
theorem RepB.cx {c c' : Cx} {κ : Ka} {v : V} {x : Value} (hR : ∀ y, RepR c v y → RepR c' v y) (h : RepB c κ v x) : RepB c' κ v x := by
  cases v with
  | os l m => exact h
  | op l sz i j => exact h
  | oss l sz i j => exact h
  | cp m l k => exact h
  | _ => exact hR x h
/-- the parts of a value that are read by 'RepR' -/
def V.atB (v : V) : List V := [v]
def V.atC : V → List V
  | .clo _ caps => caps
  | v => [v]
def V.atS : V → List V
  | .st cs => cs.flatMap V.atC
  | v => v.atC
def V.atT : V → List V
  | .tup vs => vs.flatMap V.atS
  | v => v.atS
theorem RepC.cx {c c' : Cx} {κ : Ka} {v : V} {x : Value} (hR : ∀ u ∈ v.atC, ∀ y, RepR c u y → RepR c' u y) (h : RepC c κ v x) : RepC c' κ v x := by
  cases v with
  | clo g caps => obtain ⟨ys, hx, h2⟩ := h; exact ⟨ys, hx, h2.mono fun a ha b hb => hb.cx (hR a ha)⟩
  | os l m => exact h
  | op l sz i j => exact h
  | oss l sz i j => exact h
  | cp m l k => exact h
  | _ => exact hR _ (by simp [V.atC]) x h
theorem RepS.cx {c c' : Cx} {κ : Ka} {v : V} {x : Value} (hR : ∀ u ∈ v.atS, ∀ y, RepR c u y → RepR c' u y) (h : RepS c κ v x) : RepS c' κ v x := by
  cases v with
  | st cs => obtain ⟨ys, hx, h2⟩ := h; exact ⟨ys, hx, h2.mono fun a ha b hb => hb.cx (fun u hu => hR u (by simp only [V.atS, List.mem_flatMap]; exact ⟨a, ha, hu⟩))⟩
  | clo g caps => exact @RepC.cx c c' κ (.clo g caps) x hR h
  | os l m => exact h
  | op l sz i j => exact h
  | oss l sz i j => exact h
  | cp m l k => exact h
  | _ => exact hR _ (by simp [V.atS, V.atC]) x h
theorem RepT.cx {c c' : Cx} {κ : Ka} {v : V} {x : Value} (hR : ∀ u ∈ v.atT, ∀ y, RepR c u y → RepR c' u y) (h : RepT c κ v x) : RepT c' κ v x := by
  cases v with
  | tup vs => obtain ⟨ys, hx, h2⟩ := h; exact ⟨ys, hx, h2.mono fun a ha b hb => hb.cx (fun u hu => hR u (by simp only [V.atT, List.mem_flatMap]; exact ⟨a, ha, hu⟩))⟩
  | st cs => exact @RepS.cx c c' κ (.st cs) x hR h
  | clo g caps => exact @RepS.cx c c' κ (.clo g caps) x hR h
  | os l m => exact h
  | op l sz i j => exact h
  | oss l sz i j => exact h
  | cp m l k => exact h
  | _ => exact hR _ (by simp [V.atT, V.atS, V.atC]) x h
/-- the parts of an element whose cell q is a row of its own -/
def nestAt (q : Nat) (e : V) : List V := e.cells.eraseIdx q ++ match e.cells[q]? with
  | some (.sl _ es) => es.flatMap V.cells
  | _ => []
def O.at_ : O → List V
  | .row _ _ es => es.flatMap V.cells
  | .box _ cs => cs.flatMap V.atC
  | .nest _ _ q _ _ _ es => es.flatMap (nestAt q)
theorem flat_at {sz : Nat} {es : List V} (hz : ∀ e ∈ es, e.cells.length = sz) {j : Nat} {u : V} (hu : (es.flatMap V.cells)[j]? = some u) : ∃ e, es[j / sz]? = some e ∧ e.cells[j % sz]? = some u := by
  have hfl := flatMap_length es hz
  have hj : j < es.length * sz := by rw [← hfl]; exact (List.getElem?_eq_some_iff.1 hu).1
  have hsz : 0 < sz := by
    rcases Nat.eq_zero_or_pos sz with h | h
    · subst h; simp at hj
    · exact h
  have hi : j / sz < es.length := (Nat.div_lt_iff_lt_mul hsz).2 hj
  refine ⟨es[j / sz], List.getElem?_eq_getElem hi, ?_⟩
  have := flatMap_cells_get es hz (j / sz) (j % sz) es[j / sz] (List.getElem?_eq_getElem hi) (Nat.mod_lt _ hsz)
  rw [← this, Nat.mul_comm, Nat.div_add_mod]; exact hu
theorem mem_erase {l : List V} {q j : Nat} {u : V} (h : l[j]? = some u) (hq : j ≠ q) : u ∈ l.eraseIdx q := by
  rw [List.mem_eraseIdx_iff_getElem?]
  exact ⟨j, hq, h⟩
theorem Holds.cx {c c' : Cx} {κ : Ka} {w : World} {l : Nat} {o : O} (hR : ∀ u ∈ o.at_, ∀ y, RepR c u y → RepR c' u y) (h : Holds c κ w l o) : Holds c' κ w l o := by
  cases o with
  | row el sz es =>
    simp only [Holds] at h ⊢
    cases hk : κ l with
    | none => simpa [hk] using h
    | some p =>
      obtain ⟨b, k⟩ := p
      simp only [hk] at h ⊢
      obtain ⟨cur, h1, h2, h3, h4, h5, h6⟩ := h
      exact ⟨cur, h1, h2, h3, h4, h5, fun j u hu => by obtain ⟨y, hy, hr⟩ := h6 j u hu; exact ⟨y, hy, hR u (List.mem_of_getElem? hu) y hr⟩⟩
  | box el cs =>
    obtain ⟨b, cur, h0, h1, h2⟩ := h
    exact ⟨b, cur, h0, h1, h2.mono fun a ha y hy => hy.cx (fun u hu => hR u (by simp only [O.at_, List.mem_flatMap]; exact ⟨a, ha, hu⟩))⟩
  | nest elem sz q te ze g es =>
    simp only [Holds] at h ⊢
    cases hk : κ l with
    | none => simpa [hk] using h
    | some p =>
      obtain ⟨b, k⟩ := p
      simp only [hk] at h ⊢
      obtain ⟨cur, h1, h2, h3, h4, h5, h6⟩ := h
      refine ⟨cur, h1, h2, h3, h4, h5, fun j u hu hj => ?_⟩
      obtain ⟨y, hy, hr⟩ := h6 j u hu hj
      obtain ⟨e, he, hu2⟩ := flat_at h5 hu
      exact ⟨y, hy, hR u (by simp only [O.at_, List.mem_flatMap]; exact ⟨e, List.mem_of_getElem? he, List.mem_append_left _ (mem_erase hu2 hj)⟩) y hr⟩

/-- neither a slice nor a pointer that is only read -/
def V.noro : V → Bool
  | .sl .. => false
  | .rp _ => false
  | .clo .. => false
  | _ => true
theorem RepR.plain {c c' : Cx} {v : V} {x : Value} (hv : v.noro = true) (h : RepR c v x) : RepR c' v x := by
  cases h with
  | int k n => exact .int k n
  | bool b => exact .bool b
  | ub p b h => exact .ub p b h
  | any x h => exact .any x h
  | nlp => exact .nlp
  | errn => exact .errn
  | errv t x => exact .errv t x
  | str s => exact .str s
  | nls => exact .nls
  | nil sz => simp [V.noro] at hv
  | sl _ _ _ _ _ _ _ _ _ _ _ => simp [V.noro] at hv
  | clo _ _ _ _ _ => simp [V.noro] at hv
  | rp _ _ _ _ _ _ => simp [V.noro] at hv

/-! ### The callee's context -/
/-- blocks of the labels that are handed over to be written -/
def XOf (κ : Ka) (M : List (Nat × Nat)) (b : Nat) : Prop := ∃ p ∈ M, ∃ k, κ p.2 = some (b, k)
def cxX (c : Cx) (κ : Ka) (w : World) (full : Bool) (M : List (Nat × Nat)) (X : Nat → Prop) : Cx :=
  ⟨w, fun b => b < w.heap.size ∧ ¬ X b ∧ (full = true ∨ c.D b), X, fun l => match look M l with | some L => κ L | none => none⟩
abbrev cxOf (c : Cx) (κ : Ka) (w : World) (full : Bool) (M : List (Nat × Nat)) : Cx := cxX c κ w full M (XOf κ M)
/-- the blocks handed over are the call's own; no other label's, nor a nest's within -/
structure XS (c : Cx) (κ : Ka) (H : List (Nat × Option O)) (w : World) (M : List (Nat × Nat)) (X : Nat → Prop) : Prop where
  own : ∀ b, X b → (c.w.heap.size ≤ b ∨ c.X b) ∧ ¬ c.D b ∧ b < w.heap.size
  sep : ∀ l o b k, M.all (fun p => !Nat.beq p.2 l) = true → get H l = some o → κ l = some (b, k) → ¬ X b
  ns : ∃ φ, Ns c κ φ H w ∧ ∀ l i b k, M.all (fun p => !Nat.beq p.2 l) = true → φ l i = some (b, k) → ¬ X b
/-- the labels handed over are live -/
def Live (s : S) (M : List (Nat × Nat)) : Prop := ∀ p ∈ M, ∃ o, get s.H p.2 = some o

section
variable {P : Program} {n : Nat} {ops : Array Oper}
variable {s s' : S} {r : List Oper} {bs : List A} {g : Bool} {gks : List Nat} {d : Nat} {ty : TypeId} {pos : String} {af : Array Edge} {gd : Option (Nat × Bool)}

theorem cx_ok (c : Cx) (κ : Ka) (w : World) (full : Bool) (M : List (Nat × Nat)) (X : Nat → Prop) : (cxX c κ w full M X).ok := ⟨fun b h => h.1, fun b h => h.2.1⟩
theorem XS.of {c : Cx} {κ : Ka} {w : World} {M : List (Nat × Nat)} (hm : Mem c κ s.H w) (hl : Live s M) : XS c κ s.H w M (XOf κ M) where
  own := by
    rintro b ⟨p, hp, k, hk⟩
    obtain ⟨o, ho⟩ := hl p hp
    have := hm.ow _ _ _ _ ho hk
    exact ⟨this.1, this.2, hm.lt ho hk⟩
  sep := by
    rintro l o b k hM ho hk ⟨p, hp, k', hk'⟩
    obtain ⟨o', ho'⟩ := hl p hp
    have := hm.ij _ _ _ _ _ _ _ ho' ho hk' hk
    have h2 := (List.all_eq_true.1 hM) p hp
    rw [this] at h2
    simp at h2
  ns := by
    obtain ⟨φ, N⟩ := hm.ns
    refine ⟨φ, N, ?_⟩
    rintro l i b k _ hp ⟨p, hp', k', hk'⟩
    obtain ⟨o', ho'⟩ := hl p hp'
    exact N.out _ _ _ _ hp _ _ _ ho' hk'
theorem X_own {c : Cx} {κ : Ka} {w : World} {M : List (Nat × Nat)} {X : Nat → Prop} (hl : XS c κ s.H w M X) {b : Nat} (hb : X b) : (c.w.heap.size ≤ b ∨ c.X b) ∧ ¬ c.D b ∧ b < w.heap.size := hl.own b hb
theorem cx_okP {P : Program} {c : Cx} {κ : Ka} {w : World} {X : Nat → Prop} (hc : c.okP P) (hm : Mem c κ s.H w) (full : Bool) (M : List (Nat × Nat)) (hl : XS c κ s.H w M X) : (cxX c κ w full M X).okP P := by
  obtain ⟨W0, h1, h2, h3⟩ := hc.gv
  refine ⟨cx_ok c κ w full M X, W0, h1, h2.trans' hm.ext (fun b hb => ?_), fun b hb => ⟨?_, fun hx => (X_own hl hx).2.1 (h3 b hb), .inr (h3 b hb)⟩⟩
  · by_cases hlt : b < W0.heap.size
    · exact absurd hb (hc.ok.ap b (h3 b hlt))
    · exact .inl (by omega)
  · exact Nat.lt_of_lt_of_le (hc.ok.lt b (h3 b hb)) hm.ext.size
/-- what is only read is only read for the callee too -/
theorem rep_in {c : Cx} {κ : Ka} {w : World} {full : Bool} {M : List (Nat × Nat)} {X : Nat → Prop} (hc : c.ok) (hm : Mem c κ s.H w) (hl : XS c κ s.H w M X) {v : V} {x : Value} (h : RepR c v x) : RepR (cxX c κ w full M X) v x :=
  h.mono (c' := cxX c κ w full M X) (fun b hD => ⟨Nat.lt_of_lt_of_le (hc.lt b hD) hm.ext.size, fun hX => (X_own hl hX).2.1 hD, .inr hD⟩) (fun a hD => hm.cell hc hD)
theorem rep_out {c : Cx} {κ : Ka} {w : World} {full : Bool} {M : List (Nat × Nat)} {X : Nat → Prop} (hc : c.ok) (hm : Mem c κ s.H w) {v : V} {x : Value} (hv : full = true → v.noro = true) (h : RepR (cxX c κ w full M X) v x) : RepR c v x := by
  cases full with
  | true => exact h.plain (hv rfl)
  | false =>
    have hD : ∀ b, (cxX c κ w false M X).D b → c.D b := fun b hb => hb.2.2.resolve_left (by simp)
    exact h.mono hD (fun a ha => (hm.cell hc (hD _ ha)).symm)
/-- an own row of a nest, where its block is only read -/
theorem row_rep {c c' : Cx} {p : Option (Nat × Nat)} {te : TypeId} {ze : Nat} {es : List V} {y : Value} (h : OwnIn c p c'.w te ze es y) (hD : ∀ b k, p = some (b, k) → c'.D b) (hR : ∀ u y, RepR c u y → RepR c' u y) : RepR c' (.sl ze es) y := by
  obtain ⟨h1, h2⟩ := h
  cases p with
  | none =>
    obtain ⟨h0, hx⟩ : es.length = 0 ∧ y = .slice none 0 0 := h1
    have : es = [] := List.eq_nil_of_length_eq_zero h0
    subst this; subst hx; exact .nil ze
  | some bk =>
    obtain ⟨b, cap⟩ := bk
    obtain ⟨hqc, hcm, hx⟩ : es.length ≤ cap ∧ cap ≤ maxLen ∧ y = .slice (some ⟨b, 0, none⟩) es.length cap := h1
    obtain ⟨cur, hb, _, _, _, hz, hrep⟩ := h2
    subst hx
    refine .sl ze es ⟨b, 0, none⟩ cap (fun j => (cur[j]?).getD undef) (fun _ => hD b cap rfl) hqc hcm hz (fun j u hu => ?_) (fun j u hu => ?_)
    · obtain ⟨y, hy, hr⟩ := hrep j u hu
      rw [add_lit, Nat.zero_add, cell_of_row c'.w b _ cur te (0, 0) hb, hy]; rfl
    · obtain ⟨y, hy, hr⟩ := hrep j u hu
      rw [hy]; exact hR u y hr

/-- handing a value over: the callee's reading of it, and the caller's -/
inductive PassA (s : S) (full : Bool) (M : List (Nat × Nat)) : V → V → List Nat → Prop
  | same {v : V} (h : v.ro = true) : PassA s full M v v []
  | nls {sz : Nat} : PassA s full M (.sl sz []) .nls []
  | own {l m sz : Nat} {el : TypeId} {es ys : List V} (hf : full = true) (ho : get s.H l = some (.row el sz es)) (hM : M.all (fun p => !Nat.beq p.2 l) = true) (hq : es.take m = ys) (hl : ys.length = m) : PassA s full M (.sl sz ys) (.os l m) [l]
  | nown {l m sz q ze : Nat} {el te : TypeId} {es : List V} (hf : full = true) (ho : get s.H l = some (.nest el sz q te ze none es)) (hM : M.all (fun p => !Nat.beq p.2 l) = true) (hl : es.length = m) : PassA s full M (.sl sz es) (.os l m) [l]
inductive PassAs (s : S) (full : Bool) (M : List (Nat × Nat)) : List V → List V → List Nat → Prop
  | nil : PassAs s full M [] [] []
  | cons {v' v : V} {vs' vs : List V} {k ks : List Nat} (h : PassA s full M v' v k) (t : PassAs s full M vs' vs ks) : PassAs s full M (v' :: vs') (v :: vs) (k ++ ks)
  | clo {f : FuncId} {caps vs' vs : List V} {ks : List Nat} (h : caps.all V.ro = true) (t : PassAs s full M vs' vs ks) : PassAs s full M (.clo f caps :: vs') (.clo f caps :: vs) ks
  | ptr {l sz i j : Nat} {o : O} {cs' cs vs' vs : List V} {k ks : List Nat} (hf : full = true) (ho : get s.H l = some o) (hz : o.sz = sz ∨ i = 0) (hM : M.all (fun p => !Nat.beq p.2 l) = true) (hc : o.from i j = cs) (hp : PassAs s full M cs' cs k) (t : PassAs s full M vs' vs ks) : PassAs s full M (.rp cs' :: vs') (.op l sz i j :: vs) ((l :: k) ++ ks)
inductive PassB (s : S) (full : Bool) (M : List (Nat × Nat)) : V → V → List Nat → Prop
  | a {v' v : V} {k : List Nat} (h : PassA s full M v' v k) : PassB s full M v' v k
  | ptr {l sz i j : Nat} {o : O} {cs' cs : List V} {k : List Nat} (hf : full = true) (ho : get s.H l = some o) (hz : o.sz = sz ∨ i = 0) (hM : M.all (fun p => !Nat.beq p.2 l) = true) (hc : o.from i j = cs) (hp : PassAs s full M cs' cs k) : PassB s full M (.rp cs') (.op l sz i j) (l :: k)
  | mutp {l L sz i j : Nat} (h : look M l = some L) : PassB s full M (.op l sz i j) (.op L sz i j) []
  | muts {l L m : Nat} (h : look M l = some L) : PassB s full M (.os l m) (.os L m) []
inductive PassBs (s : S) (full : Bool) (M : List (Nat × Nat)) : List V → List V → List Nat → Prop
  | nil : PassBs s full M [] [] []
  | cons {v' v : V} {vs' vs : List V} {k ks : List Nat} (h : PassB s full M v' v k) (t : PassBs s full M vs' vs ks) : PassBs s full M (v' :: vs') (v :: vs) (k ++ ks)
/-- an argument -/
inductive Pass (s : S) (full : Bool) (M : List (Nat × Nat)) : V → V → List Nat → Prop
  | b {v' v : V} {k : List Nat} (h : PassB s full M v' v k) : Pass s full M v' v k
  | clo {f : FuncId} {cs' cs : List V} {k : List Nat} (h : PassBs s full M cs' cs k) : Pass s full M (.clo f cs') (.clo f cs) k
  | st {cs' cs : List V} {k : List Nat} (h : PassBs s full M cs' cs k) : Pass s full M (.st cs') (.st cs) k
  | sts {cs : List V} (h : cs.all V.ro = true) : Pass s full M (.st cs) (.st cs) []
inductive Passes (s : S) (full : Bool) (M : List (Nat × Nat)) : List V → List V → List Nat → Prop
  | nil : Passes s full M [] [] []
  | cons {v' v : V} {vs' vs : List V} {k ks : List Nat} (h : Pass s full M v' v k) (t : Passes s full M vs' vs ks) : Passes s full M (v' :: vs') (v :: vs) (k ++ ks)

theorem PassA.agree {full : Bool} {M : List (Nat × Nat)} {v' v : V} {k : List Nat} (h : PassA s full M v' v k) (ha : ∀ l ∈ k, get s'.H l = get s.H l) : PassA s' full M v' v k := by
  cases h with
  | same h => exact .same h
  | nls => exact .nls
  | own hf ho hM hq hl => exact .own hf ((ha _ (by simp)).trans ho) hM hq hl
  | nown hf ho hM hl => exact .nown hf ((ha _ (by simp)).trans ho) hM hl
theorem PassAs.agree {full : Bool} {M : List (Nat × Nat)} {v' v : List V} {k : List Nat} (h : PassAs s full M v' v k) (ha : ∀ l ∈ k, get s'.H l = get s.H l) : PassAs s' full M v' v k := by
  induction h with
  | nil => exact .nil
  | cons h t ih => exact .cons (h.agree fun l hl => ha l (by simp [hl])) (ih fun l hl => ha l (by simp [hl]))
  | clo h t ih => exact .clo h (ih ha)
  | ptr hf ho hz hM hc hp t ihp ih => exact .ptr hf ((ha _ (by simp)).trans ho) hz hM hc (ihp fun l hl => ha l (by simp [hl])) (ih fun l hl => ha l (by simp [hl]))
theorem PassB.agree {full : Bool} {M : List (Nat × Nat)} {v' v : V} {k : List Nat} (h : PassB s full M v' v k) (ha : ∀ l ∈ k, get s'.H l = get s.H l) : PassB s' full M v' v k := by
  cases h with
  | a h => exact .a (h.agree ha)
  | ptr hf ho hz hM hc hp => exact .ptr hf ((ha _ (by simp)).trans ho) hz hM hc (hp.agree fun l hl => ha l (by simp [hl]))
  | mutp h => exact .mutp h
  | muts h => exact .muts h
theorem PassBs.agree {full : Bool} {M : List (Nat × Nat)} {v' v : List V} {k : List Nat} (h : PassBs s full M v' v k) (ha : ∀ l ∈ k, get s'.H l = get s.H l) : PassBs s' full M v' v k := by
  induction h with
  | nil => exact .nil
  | cons h t ih => exact .cons (h.agree fun l hl => ha l (by simp [hl])) (ih fun l hl => ha l (by simp [hl]))
theorem Pass.agree {full : Bool} {M : List (Nat × Nat)} {v' v : V} {k : List Nat} (h : Pass s full M v' v k) (ha : ∀ l ∈ k, get s'.H l = get s.H l) : Pass s' full M v' v k := by
  cases h with
  | b h => exact .b (h.agree ha)
  | clo h => exact .clo (h.agree ha)
  | st h => exact .st (h.agree ha)
  | sts h => exact .sts h
theorem Passes.agree {full : Bool} {M : List (Nat × Nat)} {v' v : List V} {k : List Nat} (h : Passes s full M v' v k) (ha : ∀ l ∈ k, get s'.H l = get s.H l) : Passes s' full M v' v k := by
  induction h with
  | nil => exact .nil
  | cons h t ih => exact .cons (h.agree fun l hl => ha l (by simp [hl])) (ih fun l hl => ha l (by simp [hl]))

theorem not_X {c : Cx} {κ : Ka} {w : World} {M : List (Nat × Nat)} {X : Nat → Prop} (hl : XS c κ s.H w M X) {l b k : Nat} {o : O} (hM : M.all (fun p => !Nat.beq p.2 l) = true) (ho : get s.H l = some o) (hk : κ l = some (b, k)) : ¬ X b := hl.sep l o b k hM ho hk

theorem PassA.rep {full : Bool} {M : List (Nat × Nat)} {v' v : V} {k : List Nat} (h : PassA s full M v' v k) {c : Cx} {κ : Ka} {w : World} {X : Nat → Prop} (hc : c.ok) (hm : Mem c κ s.H w) (hl : XS c κ s.H w M X) {x : Value} (hx : RepC c κ v x) : RepR (cxX c κ w full M X) v' x := by
  cases h with
  | same h => exact rep_in hc hm hl (repR_of_repC h hx)
  | nls =>
    have h1 : RepR c .nls x := hx
    cases h1; exact .nil _
  | own hf ho hM hq hlen =>
    rename_i l m sz el es ys
    have h1 : RepB c κ (.os l m) x := hx
    have hho := hm.hp l _ ho
    simp only [RepB] at h1
    simp only [Holds] at hho
    cases hk : κ l with
    | none =>
      simp only [hk] at h1
      obtain ⟨h0, hxv⟩ := h1
      subst h0
      have hy : ys = [] := List.eq_nil_of_length_eq_zero hlen
      subst hy
      rw [hxv]; exact .nil sz
    | some p =>
      obtain ⟨b, cap⟩ := p
      simp only [hk] at h1 hho
      obtain ⟨hqc, hcm, hxv⟩ := h1
      obtain ⟨cur, hb, hec, _, hcs, hz, hrep⟩ := hho
      have hz' : ∀ e ∈ ys, e.cells.length = sz := fun e he => hz e (by rw [← hq] at he; exact List.mem_of_mem_take he)
      have hget : ∀ (j : Nat) u, (ys.flatMap V.cells)[j]? = some u → (es.flatMap V.cells)[j]? = some u := by
        intro j u hu
        have hsplit : es.flatMap V.cells = ys.flatMap V.cells ++ (es.drop m).flatMap V.cells := by
          rw [← hq, ← List.flatMap_append, List.take_append_drop]
        rw [hsplit, List.getElem?_append_left (List.getElem?_eq_some_iff.1 hu).1]
        exact hu
      rw [hxv, ← hlen]
      refine .sl sz ys ⟨b, 0, none⟩ cap (fun j => (cur[j]?).getD undef) (fun _ => ⟨hm.lt ho hk, not_X hl hM ho hk, .inl hf⟩) (by omega) hcm hz' (fun j u hu => ?_) (fun j u hu => ?_)
      · obtain ⟨y, hy, hr⟩ := hrep j u (hget j u hu)
        rw [add_lit, Nat.zero_add]
        show w.cell? _ = _
        rw [cell_of_row w b _ cur el (0, 0) hb, hy]; rfl
      · obtain ⟨y, hy, hr⟩ := hrep j u (hget j u hu)
        rw [hy]; exact rep_in hc hm hl hr
  | nown hf ho hM hlen =>
    rename_i l m sz q ze el te es
    have h1 : RepB c κ (.os l m) x := hx
    have hho := hm.hp l _ ho
    simp only [RepB] at h1
    simp only [Holds] at hho
    cases hk : κ l with
    | none =>
      simp only [hk] at h1 hho
      obtain ⟨h0, hxv⟩ := h1
      subst hho
      rw [hxv]; exact .nil sz
    | some p =>
      obtain ⟨b, cap⟩ := p
      simp only [hk] at h1 hho
      obtain ⟨hqc, hcm, hxv⟩ := h1
      obtain ⟨cur, hb, hec, _, hcs, hz, hrep⟩ := hho
      have hall : ∀ j u, (es.flatMap V.cells)[j]? = some u → ∃ y, cur[j]? = some y ∧ RepR (cxX c κ w full M X) u y := fun j u hu => by
        by_cases hj : j % sz = q
        · obtain ⟨φ, N, hN⟩ := hl.ns
          obtain ⟨e, he, hu2⟩ := flat_at hz hu
          obtain ⟨es', y, b', cap', g1, g2, g3, _, g5⟩ := N.inn l el sz q te ze none es ho _ e he
          rw [hk] at g2; injection g2 with g2; injection g2 with g2 _; subst g2
          rw [hj, g1] at hu2; injection hu2 with hu2; subst hu2
          have hji : j / sz * sz + q = j := by rw [Nat.mul_comm, ← hj]; exact Nat.div_add_mod j sz
          rw [hji, cell_of_row w b _ cur el (0, 0) hb] at g3
          refine ⟨y, g3, row_rep (c := c) (c' := cxX c κ w full M X) (p := φ l (j / sz)) (g5 (by simp)) (fun b2 k2 hp => ?_) (fun u y hr => rep_in hc hm hl hr)⟩
          exact ⟨(N.own _ _ _ _ hp).1, hN l _ b2 k2 hM hp, .inl hf⟩
        · obtain ⟨y, hy, hr⟩ := hrep j u hu hj
          exact ⟨y, hy, rep_in hc hm hl hr⟩
      rw [hxv, ← hlen]
      refine .sl sz es ⟨b, 0, none⟩ cap (fun j => (cur[j]?).getD undef) (fun _ => ⟨hm.lt ho hk, not_X hl hM ho hk, .inl hf⟩) hec hcm hz (fun j u hu => ?_) (fun j u hu => ?_)
      · obtain ⟨y, hy, hr⟩ := hall j u hu
        rw [add_lit, Nat.zero_add]
        show w.cell? _ = _
        rw [cell_of_row w b _ cur el (0, 0) hb, hy]; rfl
      · obtain ⟨y, hy, hr⟩ := hall j u hu
        rw [hy]; exact hr
theorem PassAs.get {full : Bool} {M : List (Nat × Nat)} {v' v : List V} {k : List Nat} (h : PassAs s full M v' v k) {c : Cx} {κ : Ka} {w : World} {X : Nat → Prop} (hc : c.ok) (hm : Mem c κ s.H w) (hl : XS c κ s.H w M X) : ∀ (q : Nat) u', v'[q]? = some u' → ∃ u, v[q]? = some u ∧ ∀ x, RepC c κ u x → RepR (cxX c κ w full M X) u' x := by
  induction h with
  | nil => intro q u' hu; simp at hu
  | cons h t ih =>
    intro q u' hu
    cases q with
    | zero => simp at hu; subst hu; exact ⟨_, rfl, fun x hx => h.rep hc hm hl hx⟩
    | succ q => simp at hu; simpa using ih q u' hu
  | clo hC t ih =>
    intro q u' hu
    cases q with
    | zero =>
      simp at hu; subst hu
      refine ⟨_, rfl, fun x hx => ?_⟩
      obtain ⟨ys, rfl, h2⟩ := hx
      refine .clo _ _ ys h2.length fun j u y h3 h4 => ?_
      obtain ⟨y', h5, h6⟩ := h2.get j u h3
      rw [h4] at h5; injection h5 with h5; subst h5
      have hu : u.ro = true := List.all_eq_true.1 hC u (List.mem_of_getElem? h3)
      exact rep_in hc hm hl (by cases u <;> first | (simp [V.ro] at hu; done) | exact h6)
    | succ q => simp at hu; simpa using ih q u' hu
  | ptr hf ho hz hM hcs hp t ihp ih =>
    rename_i l sz i j o cs' cs vs' vs k1 k2
    intro q u' hu
    cases q with
    | zero =>
      simp at hu; subst hu
      refine ⟨_, rfl, fun x hx => ?_⟩
      obtain ⟨b, cap, hk, hxv⟩ : ∃ b cap, κ l = some (b, cap) ∧ x = .pointer (some ⟨b, i * sz + j, none⟩) := hx
      have hho := hm.hp l _ ho
      rw [hxv]
      refine .rp cs' _ (fun q => (w.cell? ((⟨b, i * sz + j, none⟩ : Addr).add q)).getD undef) ⟨hm.lt ho hk, not_X hl hM ho hk, .inl hf⟩ (fun q u' hu => ?_) (fun q u' hu => ?_)
      · obtain ⟨u, hu2, hpa⟩ := ihp q u' hu
        obtain ⟨y, hy, hr⟩ := holds_from hho hk hz (by rw [hcs]; exact hu2)
        show w.cell? _ = _
        rw [hy]; rfl
      · obtain ⟨u, hu2, hpa⟩ := ihp q u' hu
        obtain ⟨y, hy, hr⟩ := holds_from hho hk hz (by rw [hcs]; exact hu2)
        rw [hy]; exact hpa _ hr
    | succ q => simp at hu; simpa using ih q u' hu
theorem PassB.rep {full : Bool} {M : List (Nat × Nat)} {v' v : V} {k : List Nat} (h : PassB s full M v' v k) {c : Cx} {κ : Ka} {w : World} {X : Nat → Prop} (hc : c.ok) (hm : Mem c κ s.H w) (hl : XS c κ s.H w M X) {x : Value} (hx : RepC c κ v x) : RepB (cxX c κ w full M X) (cxX c κ w full M X).κ v' x := by
  have wrap : ∀ {u : V} {y : Value}, RepR (cxX c κ w full M X) u y → RepB (cxX c κ w full M X) (cxX c κ w full M X).κ u y := by
    intro u y h
    cases h
    · exact .int _ _
    · exact .bool _
    · rename_i p b h; exact .ub p b h
    · rename_i h; exact .any _ h
    · exact .nlp
    · exact .errn
    · rename_i t x; exact .errv t x
    · exact .str _
    · exact .nls
    · exact .nil _
    · rename_i es a cap x hD hl hc hz h1 h2; exact .sl _ es a cap x hD hl hc hz h1 h2
    · rename_i f caps ys hl h; exact .clo f caps ys hl h
    · rename_i cs a x hD h1 h2; exact .rp cs a x hD h1 h2
  cases h with
  | a h => exact wrap (h.rep hc hm hl hx)
  | ptr hf ho hz hM hcs hp =>
    rename_i l sz i j o cs' cs _
    obtain ⟨b, cap, hk, hxv⟩ : ∃ b cap, κ l = some (b, cap) ∧ x = .pointer (some ⟨b, i * sz + j, none⟩) := hx
    have hho := hm.hp l _ ho
    rw [hxv]
    refine wrap (.rp cs' _ (fun q => (w.cell? ((⟨b, i * sz + j, none⟩ : Addr).add q)).getD undef) ⟨hm.lt ho hk, not_X hl hM ho hk, .inl hf⟩ (fun q u' hu => ?_) (fun q u' hu => ?_))
    · obtain ⟨u, hu2, hpa⟩ := hp.get hc hm hl q u' hu
      obtain ⟨y, hy, hr⟩ := holds_from hho hk hz (by rw [hcs]; exact hu2)
      show w.cell? _ = _
      rw [hy]; rfl
    · obtain ⟨u, hu2, hpa⟩ := hp.get hc hm hl q u' hu
      obtain ⟨y, hy, hr⟩ := holds_from hho hk hz (by rw [hcs]; exact hu2)
      rw [hy]; exact hpa _ hr
  | mutp h =>
    rename_i l L sz i j
    obtain ⟨b, cap, hk, hxv⟩ : ∃ b cap, κ L = some (b, cap) ∧ x = .pointer (some ⟨b, i * sz + j, none⟩) := hx
    exact ⟨b, cap, by simp only [cxX, h]; exact hk, hxv⟩
  | muts h =>
    rename_i l L m
    have h1 : RepB c κ (.os L m) x := hx
    simp only [RepB] at h1 ⊢
    simp only [cxX, h]
    exact h1
theorem PassBs.rep {full : Bool} {M : List (Nat × Nat)} {v' v : List V} {k : List Nat} (h : PassBs s full M v' v k) {c : Cx} {κ : Ka} {w : World} {X : Nat → Prop} (hc : c.ok) (hm : Mem c κ s.H w) (hl : XS c κ s.H w M X) : ∀ {xs : List Value}, All2 (RepC c κ) v xs → All2 (RepB (cxX c κ w full M X) (cxX c κ w full M X).κ) v' xs := by
  induction h with
  | nil => intro xs hx; cases xs with
    | nil => trivial
    | cons x xs => exact hx.elim
  | cons h t ih => intro xs hx; cases xs with
    | nil => exact hx.elim
    | cons x xs => exact ⟨h.rep hc hm hl hx.1, ih hx.2⟩
theorem PassB.form {full : Bool} {M : List (Nat × Nat)} {v' v : V} {k : List Nat} (h : PassB s full M v' v k) : (∀ f cs, v' ≠ .clo f cs) ∧ (∀ cs, v' ≠ .st cs) ∧ (∀ cs, v' ≠ .tup cs) ∧ (∀ f cs, v ≠ .clo f cs) ∧ (∀ cs, v ≠ .st cs) ∧ (∀ cs, v ≠ .tup cs) := by
  cases h with
  | a h => cases h with
    | same h => cases v' <;> simp [V.ro] at h ⊢
    | nls => simp
    | own _ _ _ _ _ => simp
    | nown _ _ _ _ => simp
  | ptr _ _ _ _ _ _ => simp
  | mutp _ => simp
  | muts _ => simp
theorem repT_of_repB {c : Cx} {κ : Ka} {u : V} {y : Value} (hu : (∀ f cs, u ≠ .clo f cs) ∧ (∀ cs, u ≠ .st cs) ∧ (∀ cs, u ≠ .tup cs)) (h : RepB c κ u y) : RepT c κ u y := by
  cases u with
  | clo f cs => exact absurd rfl (hu.1 f cs)
  | st cs => exact absurd rfl (hu.2.1 cs)
  | tup cs => exact absurd rfl (hu.2.2 cs)
  | _ => exact h
theorem repC_of_repT {c : Cx} {κ : Ka} {u : V} {y : Value} (hu : (∀ f cs, u ≠ .clo f cs) ∧ (∀ cs, u ≠ .st cs) ∧ (∀ cs, u ≠ .tup cs)) (h : RepT c κ u y) : RepC c κ u y := by
  cases u with
  | clo f cs => exact absurd rfl (hu.1 f cs)
  | st cs => exact absurd rfl (hu.2.1 cs)
  | tup cs => exact absurd rfl (hu.2.2 cs)
  | _ => exact h
theorem repC_clo {c : Cx} {κ : Ka} {u : V} {y : Value} (h : RepB c κ u y) : RepC c κ u y := by
  cases u with
  | clo f cs => exact repC_of_repR (show RepR c (.clo f cs) y from h)
  | _ => exact h
theorem repB_repC {c : Cx} {κ : Ka} {u : V} {y : Value} (h : RepB c κ u y) : RepC c κ u y := repC_clo h

theorem Pass.rep {full : Bool} {M : List (Nat × Nat)} {v' v : V} {k : List Nat} (h : Pass s full M v' v k) {c : Cx} {κ : Ka} {w : World} {X : Nat → Prop} (hc : c.ok) (hm : Mem c κ s.H w) (hl : XS c κ s.H w M X) {x : Value} (hx : RepT c κ v x) : RepT (cxX c κ w full M X) (cxX c κ w full M X).κ v' x := by
  cases h with
  | b h =>
    have hf := h.form
    exact repT_of_repB ⟨hf.1, hf.2.1, hf.2.2.1⟩ (h.rep hc hm hl (repC_of_repT hf.2.2.2 hx))
  | clo h =>
    obtain ⟨ys, hxv, hall⟩ := hx
    exact ⟨ys, hxv, h.rep hc hm hl (hall.mono fun a ha b hb => repB_repC hb)⟩
  | st h =>
    obtain ⟨ys, hxv, hall⟩ := hx
    exact ⟨ys, hxv, (h.rep hc hm hl hall).mono fun a ha b hb => repB_repC hb⟩
  | sts h =>
    obtain ⟨ys, hxv, hall⟩ := hx
    exact ⟨ys, hxv, hall.mono fun a ha b hb => repC_of_repR (rep_in hc hm hl (repR_of_repC ((List.all_eq_true.1 h) a ha) hb))⟩
theorem Passes.rep {full : Bool} {M : List (Nat × Nat)} {v' v : List V} {k : List Nat} (h : Passes s full M v' v k) {c : Cx} {κ : Ka} {w : World} {X : Nat → Prop} (hc : c.ok) (hm : Mem c κ s.H w) (hl : XS c κ s.H w M X) : ∀ {xs : List Value}, All2 (RepT c κ) v xs → All2 (RepT (cxX c κ w full M X) (cxX c κ w full M X).κ) v' xs := by
  induction h with
  | nil => intro xs hx; cases xs with
    | nil => trivial
    | cons x xs => exact hx.elim
  | cons h t ih => intro xs hx; cases xs with
    | nil => exact hx.elim
    | cons x xs => exact ⟨h.rep hc hm hl hx.1, ih hx.2⟩

/-! ### The call of a function that leaves nothing of the call's own -/
def entB (P : Program) (f : FuncId) : Bool := match P.funcs[f]? with
  | some fn => !(fn.name == "runtime.NumGoroutine") && fn.body.isSome
  | none => false
theorem ent_spec {f : FuncId} (h : entB P f = true) (args : Array Value) (w : World) : (callFunc f args).run P w = .ok (.enter f args) w := by
  unfold entB at h
  split at h
  · rename_i fn hf
    simp only [Bool.and_eq_true, Bool.not_eq_true'] at h
    have hb : fn.body.isNone = false := by cases hb : fn.body <;> simp [hb] at h ⊢
    simp only [callFunc, Sem.run_bind, run_program, Result.andThen_ok, hf, h.1, hb, Bool.false_eq_true, if_false, Sem.run_pure]
  · simp at h

/-- the function that an operand names, and what it has captured -/
inductive Fv (s : S) (g : Bool) : Operand → FuncId → List V → List Nat → Prop
  | f {f : FuncId} : Fv s g (.func f) f [] []
  | c {x : Operand} {f : FuncId} {caps : List V} {ks : List Nat} (h : Od s g x (.clo f caps) ks) : Fv s g x f caps ks
theorem Fv.agree {g : Bool} {x : Operand} {f : FuncId} {caps : List V} {ks : List Nat} (h : Fv s g x f caps ks) (ha : ∀ t ∈ ks, get s'.T t = get s.T t) : Fv s' g x f caps ks := by
  cases h with
  | f => exact .f
  | c h => exact .c (h.agree ha)
theorem Fv.rep {x : Operand} {f : FuncId} {caps : List V} {ks : List Nat} (h : Fv s g x f caps ks) {c : Cx} {κ : Ka} {a : Act} {w : World} (hs : Sat n c κ s a w) (hg : g = true) : ∃ ys, a.eval x = .func (.func f) #[] ⟨ys⟩ ∧ All2 (RepB c κ) caps ys := by
  cases h with
  | f => exact ⟨[], rfl, trivial⟩
  | c h => exact h.rep hs hg

theorem run_call {x : Operand} {xs : List Operand} {ts : Array TypeId} {f : FuncId} {ys : List Value} {a : Act} {w : World} (he : entB P f = true) (hf : a.eval x = .func (.func f) #[] ⟨ys⟩) :
    (execOp a.eval ⟨some d, .call ⟨.value x, ⟨xs⟩, ts⟩, ty, pos, af, gd⟩).run P w = .ok (.enter f ⟨xs.map a.eval ++ ys⟩) w := by
  simp [execOp, resolve, hf, Deferred.ofValue, invoke, ent_spec he]

theorem RepT.nolab {c : Cx} {κ κ' : Ka} {v : V} {x : Value} (hv : v.labs = []) (h : RepT c κ v x) : RepT c κ' v x := h.turn (fun l hl => by rw [hv] at hl; simp at hl)

theorem AJ {x : Operand} {f : FuncId} {caps : List V} {xs : List Operand} {ts : Array TypeId} {vs as : List V} {res : V} {full : Bool} {k0 ks kh : List Nat} (hgd : Gd ops s gd g gks) (hfv : Fv s g x f caps k0) (he : entB P f = true) (hx : Ods s g xs vs ks) (hp : Passes s full [] as (vs ++ caps) kh) (hcon : g = true → Con P f as [] res [])
    (hres : res.labs = []) (hro : full = true → res.atT.all V.noro = true) (hd : Nat.blt d n = true)
    (k : Lex P n ops r ⟨(d, some (g, res)) :: s.T, s.H⟩ bs s') :
    Lex P n ops (⟨some d, .call ⟨.value x, ⟨xs⟩, ts⟩, ty, pos, af, gd⟩ :: r) s (⟨(k0 ++ ks) ++ gks, kh, [], [(d, some (g, res))], []⟩ :: bs) s' := by
  refine Lex.cons ?_ (by simp) k
  intro s' ht hh hf' c κ a w hc hs K Q hK
  have hgd' := hgd.agree (s' := s') (fun t hm => ht t (by simp [hm]))
  have hd' : d < n := Nat.le_of_ble_eq_true hd
  rw [hgd'.wanted hs rfl]
  cases hg : g with
  | false =>
    subst hg
    simp only [Bool.false_eq_true, if_false]
    exact hK _ _ κ (hs.put_same hd' ⟨fun h => by simp at h, fun _ => rfl⟩)
  | true =>
    simp only [if_true]
    obtain ⟨ys, hfn, hys⟩ := (hfv.agree (s' := s') (fun t hm => ht t (by simp [hm]))).rep hs hg
    have hvs := (hx.agree (s' := s') (fun t hm => ht t (by simp [hm]))).rep hs hg
    have hl : Live s' [] := fun p hp => by simp at hp
    have hargs : All2 (RepT c κ) (vs ++ caps) (xs.map a.eval ++ ys) := hvs.append (hys.mono fun u hu y hy => by
      have h1 := repB_repC hy
      cases u with
      | st cs => exact (by cases (show RepR c (.st cs) y from hy))
      | tup cs => exact (by cases (show RepR c (.tup cs) y from hy))
      | _ => exact h1)
    have hX := XS.of hs.mem hl
    have hin := (hp.agree hh).rep hc hs.mem hX hargs
    unfold Oper.wp
    rw [run_call he hfn]
    simp only [Oper.upon]
    have hmem : Mem (cxOf c κ w full []) (cxOf c κ w full []).κ [] w := ⟨Ext.refl _ _, fun l o h => by simp [get] at h, fun l o b k h => by simp [get] at h, fun l l' o o' b k k' h => by simp [get] at h, fun l _ => rfl, Ns.nil fun l o h => by simp [get] at h⟩
    refine (hcon hg (cxOf c κ w full []) _ (cx_okP hc hs.mem full [] hX) hin hmem).mono fun e w' ⟨x', κ', he', hr, hm⟩ => ?_
    subst he'
    have hx' : Ext (fun _ => False) w w' := hm.ext.mono fun i hi => by obtain ⟨p, hp, _⟩ := hi; simp at hp
    refine hK _ _ κ ?_
    have hrep : RepT c κ res x' := (hr.nolab hres).cx fun u hu y hy => rep_out hc hs.mem (fun hfl => (List.all_eq_true.1 (hro hfl)) u hu) hy
    exact hs.put hd' (fun _ _ _ h => h) ⟨fun _ => hrep, fun h => by subst hg; simp at h⟩ (hs.mem.world hx')

end
end Go.Proofs.YtibbfdojcdkopaaGreat.E
