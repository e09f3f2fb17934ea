/-
  THE ENGINE, part J: the model's combinators 'LOOP' and 'JN' and their rules; small laws for slices of one plain type.
  Conditions: none; all of it is over any program.
-/
import Derived.Test.YtibbfdojcdkopaaGreatEngI
set_option linter.unusedVariables false
set_option linter.unusedSimpArgs false
set_option linter.unusedSectionVars false
set_option linter.unnecessarySimpa false
namespace Go.Proofs.YtibbfdojcdkopaaGreat.E
open Go Go.RowKit

/-- A loop of the model: 'rec' goes round again, 'k' leaves. -/
def LOOP {ι ρ : Type} (b : (ι → ρ) → (ι → ρ) → ι → ρ) (k : ι → ρ) : Nat → ι → ρ
  | 0, x => k x
  | m + 1, x => b (LOOP b k m) k x
/-- Ways that meet again. -/
def JN {κ ρ : Type} (b : (κ → ρ) → ρ) (j : κ → ρ) : ρ := b j

section
variable {ρ : Type} {P : Program} {fn : Func} {n : Nat} {out : ρ → V × List (Nat × Option O)} {k : List (It ρ)} {r : ρ} {s s' : S}
theorem Bp {ι : Type} {body : Code} {id : Nat} (b : (ι → ρ) → (ι → ρ) → ι → ρ) (kk : ι → ρ) (m0 : Nat) (x0 : ι) (hr : r = LOOP b kk m0 x0) (I XI : ι → Prop) (μ : ι → Nat) (St StX : ι → S) (hI : I x0) (hm : μ x0 < m0) (hs : Sub s (St x0))
    (hx : ∀ x, XI x → Run P fn n out k (kk x) (StX x))
    (round : ∀ (rec kx : ι → ρ), (∀ x, XI x → Run P fn n out k (kx x) (StX x)) → ∀ x, I x → Run P fn n out (.code body :: .back (fun r s => ∃ x', I x' ∧ μ x' < μ x ∧ r = rec x' ∧ Sub s (St x')) :: .endB id :: k) (b rec kx x) (St x)) :
    Run P fn n out (.code (.loop body) :: .endB id :: k) r s :=
  run_loop St I (LOOP b kk) μ m0 x0 hr hI hm hs fun m x hI _ => round (LOOP b kk m) kk hx x hI
theorem Dn {κ : Type} {it : It ρ} (b : (κ → ρ) → ρ) (jj : κ → ρ) (hr : r = JN b jj) (J : κ → Prop) (StJ : κ → S) (hj : ∀ v, J v → Run P fn n out k (jj v) (StJ v))
    (hb : ∀ j : κ → ρ, (∀ v, J v → Run P fn n out k (j v) (StJ v)) → Run P fn n out (it :: k) (b j) s) : Run P fn n out (it :: k) r s := by
  subst hr
  exact hb jj hj
theorem AY {ι : Type} {kx : ι → ρ} {XI : ι → Prop} {StX : ι → S} (h : ∀ x, XI x → Run P fn n out k (kx x) (StX x)) (x : ι) (hx : XI x) (hs : Sub s (StX x)) : Run P fn n out k (kx x) s :=
  C1 hs (h x hx)
theorem A5 {ι : Type} {I : ι → Prop} {μ : ι → Nat} {rec : ι → ρ} {St : ι → S} {x : ι} (x' : ι) (hI : I x') (hm : μ x' < μ x) (hs : Sub s (St x')) :
    Run P fn n out (.back (fun r s => ∃ x', I x' ∧ μ x' < μ x ∧ r = rec x' ∧ Sub s (St x')) :: k) (rec x') s :=
  run_back ⟨x', hI, hm, rfl, hs⟩
end

/-- the element at a place -/
def at' {α : Type} [Inhabited α] (xs : List α) (i : Int) : α := xs.getD i.toNat default
theorem idx_ok {α : Type} [Inhabited α] {f : α → V} {xs : List α} {m : Int} (h : 0 ≤ m ∧ m < xs.length) : 0 ≤ m ∧ (xs.map f)[m.toNat]? = some (f (at' xs m)) := by
  refine ⟨h.1, ?_⟩
  have hl : m.toNat < xs.length := by omega
  simp [at', List.getElem?_map, List.getElem?_eq_getElem hl, List.getD_eq_getElem?_getD]
theorem len_map {α : Type} {f : α → V} {xs : List α} : (xs.map f).length = xs.length := List.length_map ..
theorem map_app {α : Type} {f : α → V} {xs ys : List α} : xs.map f ++ ys.map f = (xs ++ ys).map f := List.map_append.symm
theorem take_all {α : Type} {xs : List α} {m : Nat} (h : m = xs.length) : xs.take m = xs := by subst h; exact List.take_length
theorem map_rep {α : Type} {f : α → V} {z : α} {m : Nat} : List.replicate m (f z) = (List.replicate m z).map f := by simp
/-- the row after a place of it is written -/
def put' {α : Type} (xs : List α) (i : Int) (x : α) : List α := xs.set i.toNat x
theorem put_map {α : Type} {f : α → V} {xs : List α} {i : Int} {x : α} : (xs.map f).set i.toNat (f x) = (put' xs i x).map f := by simp [put', List.map_set]
theorem put_len {α : Type} {xs : List α} {i : Int} {x : α} : (put' xs i x).length = xs.length := by simp [put']
/-- the part of a list between two places -/
def cut' {α : Type} (xs : List α) (a b : Int) : List α := (xs.drop a.toNat).take (b.toNat - a.toNat)
abbrev slv {α : Type} (sz : Nat) (f : α → V) (ys : List α) : V := .sl sz (ys.map f)
theorem o_from {α : Type} [Inhabited α] {f : α → V} {xs : List α} {m : Int} {el : TypeId} {sz j : Nat} (h : 0 ≤ m ∧ m < xs.length) (hl : (f (at' xs m)).cells.length = sz) : (O.row el sz (xs.map f)).from m.toNat j = (f (at' xs m)).cells.drop j := by
  simp only [O.from, (idx_ok (f := f) h).2]
  rw [if_pos hl]

section
variable {P : Program} {n : Nat} {ops : Array Oper}
variable {s s' : S} {r : List Oper} {bs : List A} {g : Bool} {gks : List Nat} {d : Nat} {ty : TypeId} {pos : String} {af : Array Edge} {gd : Option (Nat × Bool)}
variable {α : Type} {f : α → V} {xs : List α} {m : Int}
theorem A8 [Inhabited α] {x y : Operand} {sz : Nat} {t1 el : TypeId} {ik : IntKind} {ks ks' : List Nat} (hgd : Gd ops s gd g gks) (hx : Od s g x (.sl sz (xs.map f)) ks) (hy : Od s g y (.int ik m) ks') (ht1 : slEl P t1 = some (el, sz))
    (hm : g = true → 0 ≤ m ∧ m < xs.length) (hd : Nat.blt d n = true) (k : Lex P n ops r ⟨(d, some (g, .rp (f (at' xs m)).cells)) :: s.T, s.H⟩ bs s') :
    Lex P n ops (⟨some d, .indexAddr t1 x y, ty, pos, af, gd⟩ :: r) s (⟨(ks ++ ks') ++ gks, [], [], [(d, some (g, .rp (f (at' xs m)).cells))], []⟩ :: bs) s' :=
  q_idx_ro hgd hx hy ht1 (fun hg => idx_ok (hm hg)) hd k
theorem A2 [Inhabited α] {x : Operand} {l sz j : Nat} {el : TypeId} {v : V} {t1 : TypeId} {ks : List Nat} (hgd : Gd ops s gd g gks) (hx : Od s g x (.op l sz m.toNat j) ks) (ho : get s.H l = some (.row el sz (xs.map f))) (hm : g = true → 0 ≤ m ∧ m < xs.length) (hl : (f (at' xs m)).cells.length = sz)
    (hv : ((f (at' xs m)).cells.drop j).head? = some v) (h1' : v.one = true) (ht1 : isCell P t1 = true) (hd : Nat.blt d n = true)
    (k : Lex P n ops r ⟨(d, some (g, v)) :: s.T, s.H⟩ bs s') :
    Lex P n ops (⟨some d, .load t1 x, ty, pos, af, gd⟩ :: r) s (⟨ks ++ gks, [l], [], [(d, some (g, v))], []⟩ :: bs) s' :=
  AP hgd hx ho (.inl rfl) (fun hg => by rw [o_from (hm hg) hl]; exact hv) h1' ht1 hd k
theorem B0 [Inhabited α] {t el : TypeId} {x y : Operand} {l sz j q : Nat} {v : V} (w : α) {ks ks' : List Nat} (hgd : Gd ops s gd g gks) (hg : g = true) (hx : Od s g x (.op l sz m.toNat j) ks) (hy : Od s g y v ks') (ho : get s.H l = some (.row el sz (xs.map f))) (ht1 : tySz P t = some q)
    (hm : 0 ≤ m ∧ m < xs.length) (he1 : (f w).cells = splice (f (at' xs m)).cells j v.cells) (hok : (v.roc && v.notup && Nat.beq v.cells.length q && Nat.ble (j + q) sz) = true)
    (k : Lex P n ops r ⟨s.T, (l, some (.row el sz ((put' xs m w).map f))) :: s.H⟩ bs s') :
    Lex P n ops (⟨none, .store t x y, ty, pos, af, gd⟩ :: r) s (⟨(ks ++ ks') ++ gks, [l], [], [], [(l, some (.row el sz ((put' xs m w).map f)))]⟩ :: bs) s' := by
  have h := q_st_row (ty := ty) (pos := pos) (af := af) (n := n) (e1 := f w) (e0 := f (at' xs m)) (s' := s') (r := r) (bs := bs) hgd hg hx hy ho ht1 (idx_ok hm).2 he1 hok
  rw [put_map] at h
  exact h k
theorem q_makem {t el : TypeId} {l sz by' : Nat} {x y : Operand} {i1 i2 : IntKind} {a b : Int} (z : α) {ks ks' : List Nat} (hgd : Gd ops s gd g gks) (hg : g = true) (hx : Od s g x (.int i1 a) ks) (hy : Od s g y (.int i2 b) ks') (ht1 : slInfo P t = some (el, sz, by')) (hz : zeroV P el = some (f z))
    (hab : 0 ≤ a ∧ a ≤ b ∧ b ≤ 1073741824) (hok : ((f z).roc && Nat.beq (f z).cells.length sz && Nat.ble 1 sz && Nat.ble by' 65536) = true) (hf : freshB l s = true) (hd : Nat.blt d n = true)
    (k : Lex P n ops r ⟨(d, some (true, .os l (List.replicate a.toNat z).length)) :: s.T, (l, some (.row el sz ((List.replicate a.toNat z).map f))) :: s.H⟩ bs s') :
    Lex P n ops (⟨some d, .makeSlice t x y, ty, pos, af, gd⟩ :: r) s (⟨(ks ++ ks') ++ gks, [], [l], [(d, some (true, .os l (List.replicate a.toNat z).length))], [(l, some (.row el sz ((List.replicate a.toNat z).map f)))]⟩ :: bs) s' := by
  have h := q_make (ty := ty) (pos := pos) (af := af) (n := n) (s' := s') (r := r) (bs := bs) hgd hg hx hy ht1 hz hab hok hf hd
  rw [map_rep] at h
  simp only [List.length_replicate] at k ⊢
  exact h k
theorem CX {t el : TypeId} {l sz by' : Nat} {x y : Operand} {ys : List α} {z : V} {kill : List (Nat × Option O)} {k1 k2 h1 h2 : List Nat} (hgd : Gd ops s gd g gks) (hg : g = true) (hx : Bse s g el sz x (xs.map f) kill k1 h1) (hy : Src s g sz y (ys.map f) k2 h2)
    (ht1 : slInfo P t = some (el, sz, by')) (hz : zeroV P el = some z) (hok : (Nat.beq z.cells.length sz && Nat.ble 1 sz && Nat.ble by' 65536) = true) (hroom : (xs ++ ys).length ≤ 1073741824) (hf : freshB l s = true) (hd : Nat.blt d n = true)
    (k : Lex P n ops r ⟨(d, some (true, .os l (xs ++ ys).length)) :: s.T, (l, some (.row el sz ((xs ++ ys).map f))) :: (kill ++ s.H)⟩ bs s') :
    Lex P n ops (⟨some d, .call ⟨.builtin .append, #[x, y], #[t, t]⟩, ty, pos, af, gd⟩ :: r) s (⟨(k1 ++ k2) ++ gks, h1 ++ h2, [l], [(d, some (true, .os l (xs ++ ys).length))], (l, some (.row el sz ((xs ++ ys).map f))) :: kill⟩ :: bs) s' :=
  q_app hgd hg hx hy ht1 hz hok map_app len_map hroom hf hd k
theorem AG {t el : TypeId} {x y : Operand} {l sz j q : Nat} {cs : List V} {v : V} {ks ks' : List Nat} (cs' : List V) (hgd : Gd ops s gd g gks) (hg : g = true) (hx : Od s g x (.op l sz 0 j) ks) (hy : Od s g y v ks') (ho : get s.H l = some (.box el cs)) (ht1 : tySz P t = some q)
    (hok : (v.okc && v.notup && Nat.beq v.cells.length q && Nat.ble (j + q) cs.length) = true) (hcs : splice cs j v.cells = cs')
    (k : Lex P n ops r ⟨s.T, (l, some (.box el cs')) :: s.H⟩ bs s') :
    Lex P n ops (⟨none, .store t x y, ty, pos, af, gd⟩ :: r) s (⟨(ks ++ ks') ++ gks, [l], [], [], [(l, some (.box el cs'))]⟩ :: bs) s' := by
  subst hcs
  exact q_st_box hgd hg hx hy ho ht1 hok k
theorem AV {t el : TypeId} {l sz by' len : Nat} {parts : List (Nat × Operand)} {zs : List Operand} {vs : List V} {z : V} (xs : List α) {ks : List Nat} (hgd : Gd ops s gd g gks) (hg : g = true) (hps : partsFrom 0 parts = some zs) (hx : Ods s g zs vs ks) (hvs : xs.map f = vs) (ht1 : slInfo P t = some (el, sz, by')) (hz : zeroV P el = some z)
    (hok : (vs.all V.roc && vs.all V.notup && vs.all (fun v => v.cells.length == sz) && Nat.beq vs.length len && Nat.ble 1 sz && Nat.ble (len * sz) 65536) = true) (hf : freshB l s = true) (hd : Nat.blt d n = true)
    (k : Lex P n ops r ⟨(d, some (true, .os l xs.length)) :: s.T, (l, some (.row el sz (xs.map f))) :: s.H⟩ bs s') :
    Lex P n ops (⟨some d, .buildSlice t len ⟨parts⟩, ty, pos, af, gd⟩ :: r) s (⟨ks ++ gks, [], [l], [(d, some (true, .os l xs.length))], [(l, some (.row el sz (xs.map f)))]⟩ :: bs) s' := by
  have hl : xs.length = len := by
    simp only [Bool.and_eq_true] at hok
    have := Nat.eq_of_beq_eq_true hok.1.1.2
    rw [← this, ← hvs, len_map]
  subst hl; subst hvs
  exact q_bslice hgd hg hps hx ht1 hz hok hf hd k
end
theorem os_len {s : S} {t l m m' : Nat} (h : get s.T t = some (true, .os l m)) (e : m = m') : get s.T t = some (true, .os l m') := e ▸ h
theorem at_mem {α : Type} [Inhabited α] {xs : List α} {i : Int} (h : 0 ≤ i ∧ i < xs.length) : at' xs i ∈ xs := by
  have hl : i.toNat < xs.length := by omega
  simp [at', List.getD_eq_getElem?_getD, List.getElem?_eq_getElem hl]
theorem at_all {α : Type} [Inhabited α] {xs : List α} {i : Int} {Q : α → Prop} (hQ : ∀ x ∈ xs, Q x) (h : 0 ≤ i ∧ i < xs.length) : Q (at' xs i) := hQ _ (at_mem h)
section
variable {s : S} {full : Bool} {M : List (Nat × Nat)}
theorem passes_ro : ∀ {C : List V}, C.all V.ro = true → Passes s full M C C []
  | [], _ => .nil
  | v :: C, h => by
    simp only [List.all_cons, Bool.and_eq_true] at h
    exact .cons (k := []) (.b (.a (.same h.1))) (passes_ro h.2)
theorem passes_app {C : List V} (hC : C.all V.ro = true) : ∀ {as vs : List V} {k : List Nat}, Passes s full M as vs k → Passes s full M (as ++ C) (vs ++ C) k
  | _, _, _, .nil => passes_ro hC
  | _, _, _, .cons h t => .cons h (passes_app hC t)
theorem passBs_ro : ∀ {C : List V}, C.all V.ro = true → PassBs s full M C C []
  | [], _ => .nil
  | v :: C, h => by
    simp only [List.all_cons, Bool.and_eq_true] at h
    exact .cons (k := []) (.a (.same h.1)) (passBs_ro h.2)
end
theorem renB_ro {f : Nat → Nat} {v : V} (h : v.ro = true) : v.renB f = v := by
  cases v <;> first | rfl | (simp [V.ro] at h)
theorem map_renB_ro {f : Nat → Nat} : ∀ {C : List V}, C.all V.ro = true → C.map (V.renB f) = C
  | [], _ => rfl
  | v :: C, h => by
    simp only [List.all_cons, Bool.and_eq_true] at h
    rw [List.map_cons, renB_ro h.1, map_renB_ro h.2]
theorem clo_ren {s : S} {t : Nat} {F : FuncId} {C : List V} {f : Nat → Nat} (hr : C.all V.ro = true) (h : get s.T t = some (true, .clo F C)) : get s.T t = some (true, (V.clo F C).ren f) := by
  rw [h]
  show _ = some (true, V.clo F (C.map (V.renB f)))
  rw [map_renB_ro hr]
theorem repR_len {c : Cx} {sz : Nat} {es : List V} {y : Value} (h1 : RepR c (.sl sz es) y) : es.length ≤ 9223372036854775807 := by
  cases h1 with
  | nil => simp
  | sl _ _ ad cap f hD hl hcp hz h1 h2 => unfold maxLen at hcp; omega
section
variable {ρ : Type} {P : Program} {fn : Func} {n : Nat} {out : ρ → V × List (Nat × Option O)} {k : List (It ρ)} {r : ρ} {s s' : S}
theorem Ch {t sz : Nat} {cs es : List V} (j : Nat) (ht : get s.T t = some (true, .st cs)) (hj : cs[j]? = some (.sl sz es)) (h : es.length ≤ 9223372036854775807 → Run P fn n out k r s) : Run P fn n out k r s := by
  intro c κ a w hc hs
  refine h ?_ c κ a w hc hs
  obtain ⟨ys, hy, hall⟩ := (hs.tm t _ ht).1 rfl
  obtain ⟨y, _, hr⟩ := hall.get j _ hj
  exact repR_len (c := c) hr
theorem BH {t sz : Nat} {cs es : List V} (j : Nat) (ht : get s.T t = some (true, .rp cs)) (hj : cs[j]? = some (.sl sz es)) (h : es.length ≤ 9223372036854775807 → Run P fn n out k r s) : Run P fn n out k r s := by
  intro c κ a w hc hs
  refine h ?_ c κ a w hc hs
  have h1 : RepR c (.rp cs) (a.tmps.getD t undef) := (hs.tm t _ ht).1 rfl
  generalize a.tmps.getD t undef = y at h1
  cases h1 with
  | rp _ ad x hD h1 h2 => exact repR_len (h2 j _ hj)
end
theorem strB_nil {s : List UInt8} : (strB .eql s [] = false) ↔ 0 < s.length := by
  cases s <;> simp [strB]
theorem strB_nil' {s : List UInt8} : (strB .eql s [] = true) ↔ s.length = 0 := by
  cases s <;> simp [strB]
theorem strB_nnil {s : List UInt8} : (strB .neq s [] = true) ↔ 0 < s.length := by
  cases s <;> simp [strB]
theorem strB_nnil' {s : List UInt8} : (strB .neq s [] = false) ↔ s.length = 0 := by
  cases s <;> simp [strB]
/-- bytes as letters -/
def chars (xs : List Int) : List UInt8 := xs.map fun n => UInt8.ofNat n.toNat
end Go.Proofs.YtibbfdojcdkopaaGreat.E
