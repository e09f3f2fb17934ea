/-
  THE ENGINE, part R: contexts that grow: what a call has laid for itself and will not turn again is from then on read as memory that is only read.
  Conditions: none; all of it is over any program.
-/
import Derived.Test.YtibbfdojcdkopaaGreatEngN
set_option linter.unusedVariables false
set_option linter.unusedSimpArgs false
set_option linter.unusedSectionVars false
set_option linter.unnecessarySimpa false
namespace Go.Proofs.YtibbfdojcdkopaaGreat.E
open Go Go.RowKit
theorem Grow.heap {c c' : Cx} (hc : c.ok) (g : Grow c c') {b : Nat} (hb : c.D b) : c'.w.heap[b]? = c.w.heap[b]? := g.ext.block b (hc.lt b hb) (fun hx => hc.ap b hb hx)
theorem cell_eq {w w' : World} {a : Addr} (h : w'.heap[a.block]? = w.heap[a.block]?) : w'.cell? a = w.cell? a := by
  unfold World.cell?; rw [h]
theorem RepR.grow {c c' : Cx} (hc : c.ok) (g : Grow c c') {v : V} {x : Value} (h : RepR c v x) : RepR c' v x := by
  induction h with
  | int k n => exact .int k n
  | bool b => exact .bool b
  | ub p b h => exact .ub p b h
  | any x h => exact .any x h
  | nlp => exact .nlp
  | errn => exact .errn
  | errv t x => exact .errv t x
  | str s => exact .str s
  | nls => exact .nls
  | nil sz => exact .nil sz
  | sl sz es a cap x hD hl hcp hz h1 h2 ih =>
    exact .sl sz es a cap x (fun h => g.D _ (hD h)) hl hcp hz (fun j u hj => (cell_eq (by rw [block_add]; exact g.heap hc (hD (ne_cell hj)))).trans (h1 j u hj)) ih
  | clo f caps ys hl h ih => exact .clo f caps ys hl ih
  | rp cs a x hD h1 h2 ih => exact .rp cs a x (g.D _ hD) (fun j u hj => (cell_eq (by rw [block_add]; exact g.heap hc hD)).trans (h1 j u hj)) ih
theorem RepE.grow {c c' : Cx} (hc : c.ok) (g : Grow c c') {κ : Ka} {e : En} {x : Value} (h : RepE c κ e x) : RepE c' κ e x :=
  ⟨fun he => (h.1 he).cx fun u _ y hy => hy.grow hc g, h.2⟩
section
variable {ρ : Type} {P : Program} {fn : Func} {n : Nat} {out : ρ → V × List (Nat × Option O)} {k : List (It ρ)} {r : ρ} {s s' : S}
/-- the rest of the run may stand in a context that has grown -/
def growOk : List (It ρ) → Bool
  | [] => false
  | .gr :: _ => true
  | .back _ :: _ => false
  | .backG _ :: k => growOk k
  | .code _ :: k => growOk k
  | .endB _ :: k => growOk k
theorem post_grow {Q : Cx → Exit → Act → World → Prop} {c c' : Cx} (g : Grow c c') : ∀ {k : List (It ρ)}, growOk k = true → ∀ {e : Exit} {a : Act} {w : World}, post P n Q r k c' e a w → post P n Q r k c e a w
  | [], h, _, _, _, _ => by simp [growOk] at h
  | .gr :: k, _, _, _, _, h => by
    obtain ⟨c'', g', h'⟩ := h
    exact ⟨c'', g.trans g', h'⟩
  | .back _ :: k, h, _, _, _, _ => by simp [growOk] at h
  | .code x :: k, hk, e, a, w, h => by
    cases e with
    | normal => exact Code.wp_mono (fun e a w h => post_grow (k := k) g hk h) h
    | exit id => exact post_grow (k := k) g hk h
    | goto l => exact post_grow (k := k) g hk h
    | ret => exact post_grow (k := k) g hk h
    | panic ch => exact post_grow (k := k) g hk h
    | outgrown => exact post_grow (k := k) g hk h
  | .endB id :: k, hk, e, a, w, h => by
    cases e with
    | exit id' =>
      simp only [post, Exit.inBlock] at h ⊢
      split at h
      · exact (by rename_i e; rw [if_pos e]; exact post_grow (k := k) g hk h)
      · exact (by rename_i e; rw [if_neg e]; exact post_grow (k := k) g hk h)
    | normal => exact post_grow (k := k) g hk h
    | goto l => exact post_grow (k := k) g hk h
    | ret => exact post_grow (k := k) g hk h
    | panic ch => exact post_grow (k := k) g hk h
    | outgrown => exact post_grow (k := k) g hk h
  | .backG B :: k, hk, e, a, w, h => by
    cases e with
    | normal => obtain ⟨c'', s, κ, g', hB, hs⟩ := h; exact ⟨c'', s, κ, g.trans g', hB, hs⟩
    | exit id => exact post_grow (k := k) g hk h
    | goto l => exact post_grow (k := k) g hk h
    | ret => exact post_grow (k := k) g hk h
    | panic ch => exact post_grow (k := k) g hk h
    | outgrown => exact post_grow (k := k) g hk h
/-! ### An own object lies still from now on -/
def frzCx (c : Cx) (κ : Ka) (w : World) (l : Nat) : Cx :=
  ⟨w, fun x => c.D x ∨ ∃ k, κ l = some (x, k), fun x => x < w.heap.size ∧ (c.w.heap.size ≤ x ∨ c.X x) ∧ ¬ (c.D x ∨ ∃ k, κ l = some (x, k)), c.κ⟩
theorem frz_grow {c : Cx} (hc : c.ok) {κ : Ka} {a : Act} {w : World} {l : Nat} {o : O} (hs : Sat n c κ s a w) (ho : get s.H l = some o) : Grow c (frzCx c κ w l) where
  ext := hs.mem.ext
  D := fun _ h => .inl h
  X := fun _ h => h.2.1
  N := fun x h => h.elim .inl fun ⟨k, hk⟩ => .inr (hs.mem.ow l o x k ho hk).1
  ok := ⟨fun x h => h.elim (fun h => Nat.lt_of_lt_of_le (hc.lt x h) hs.mem.ext.size) fun ⟨k, hk⟩ => hs.mem.lt ho hk, fun x h hx => hx.2.2 h⟩
  κ := rfl
theorem frz_sat {c : Cx} (hc : c.ok) {κ : Ka} {a : Act} {w : World} {l t : Nat} {o : O} {v : V} (hs : Sat n c κ s a w) (ho : get s.H l = some o) (hv : RepT (frzCx c κ w l) κ v (a.tmps.getD t undef)) :
    Sat n (frzCx c κ w l) κ ⟨(t, some (true, v)) :: s.T, (l, none) :: s.H⟩ a w := by
  have g := frz_grow hc hs ho
  refine ⟨hs.hd, hs.hn, fun t' e ht => ?_, ⟨Ext.refl _ _, fun l' o' hl => ?_, fun l' o' b k hl hk => ?_, fun l1 l2 o1 o2 b k k' h1 h2 hk1 hk2 => ?_, hs.mem.pin, ?_⟩⟩
  · rw [get_cons] at ht
    split at ht
    · rename_i e'; subst e'; injection ht with ht; subst ht
      exact ⟨fun _ => hv, fun h => by simp at h⟩
    · exact (hs.tm t' e ht).grow hc g
  · rw [get_cons] at hl
    split at hl
    · simp at hl
    · exact (hs.mem.hp l' o' hl).cx fun u _ y hy => hy.grow hc g
  · rw [get_cons] at hl
    split at hl
    · simp at hl
    · rename_i e'
      have h1 := hs.mem.ow l' o' b k hl hk
      have h2 := hs.mem.lt hl hk
      have h3 : ¬ (c.D b ∨ ∃ k, κ l = some (b, k)) := fun h => h.elim h1.2 fun ⟨k2, hk2⟩ => e' (hs.mem.ij l l' o o' b k2 k ho hl hk2 hk)
      exact ⟨.inr ⟨h2, h1.1, h3⟩, h3⟩
  · rw [get_cons] at h1 h2
    split at h1
    · simp at h1
    · split at h2
      · simp at h2
      · exact hs.mem.ij l1 l2 o1 o2 b k k' h1 h2 hk1 hk2
  · obtain ⟨φ, N⟩ := hs.mem.ns
    have sub : ∀ l' o', get ((l, none) :: s.H) l' = some o' → get s.H l' = some o' := fun l' o' h => by
      rw [get_cons] at h
      split at h
      · simp at h
      · exact h
    refine hs.mem.nsj N (fun _ _ _ _ _ _ _ _ _ _ _ _ _ _ _ _ hy => hy.grow hc g) (fun l' o' i b k hl' _ hp => ?_) (fun l' o' hl' _ => ⟨sub l' o' hl', rfl, fun _ _ => rfl⟩) (fun l' o' b k hl' hk => .inr ⟨l', o', k, sub l' o' hl', hk⟩) (fun _ _ => .inl rfl) (Nat.le_refl _)
    obtain ⟨g1, g2, g3⟩ := N.own _ _ _ _ hp
    have h3 : ¬ (c.D b ∨ ∃ k, κ l = some (b, k)) := fun h => h.elim g3 fun ⟨k2, hk2⟩ => N.out _ _ _ _ hp _ _ _ ho hk2
    exact ⟨.inr ⟨g1, g2, h3⟩, h3⟩
theorem frz_row {c : Cx} (hc : c.ok) {κ : Ka} {a : Act} {w : World} {t l m sz : Nat} {el : TypeId} {es us : List V} (hs : Sat n c κ s a w) (ht : get s.T t = some (true, .os l m)) (ho : get s.H l = some (.row el sz es)) (hu : es.take m = us) (hm : us.length = m) : RepT (frzCx c κ w l) κ (.sl sz us) (a.tmps.getD t undef) := by
  have g := frz_grow hc hs ho
  have h1 : RepB c κ (.os l m) (a.tmps.getD t undef) := (hs.tm t _ ht).1 rfl
  have hho := hs.mem.hp l _ ho
  show RepR (frzCx c κ w l) (.sl sz us) (a.tmps.getD t undef)
  simp only [RepB] at h1
  simp only [Holds] at hho
  cases hkl : κ l with
  | none =>
    simp only [hkl] at h1 hho
    obtain ⟨h0, hx⟩ := h1
    subst h0
    have : us = [] := List.eq_nil_of_length_eq_zero hm
    subst this
    rw [hx]; exact .nil sz
  | some p =>
    obtain ⟨b, cap⟩ := p
    simp only [hkl] at h1 hho
    obtain ⟨hmc, hcm, hx⟩ := h1
    obtain ⟨cur, hb, hec, hcm2, hcs, hz, hrep⟩ := hho
    rw [hx]
    have hget : ∀ (j : Nat) u, (us.flatMap V.cells)[j]? = some u → (es.flatMap V.cells)[j]? = some u := fun j u hj => by
      have hsplit : es.flatMap V.cells = us.flatMap V.cells ++ (es.drop m).flatMap V.cells := by rw [← hu, ← List.flatMap_append, List.take_append_drop]
      rw [hsplit, List.getElem?_append_left (List.getElem?_eq_some_iff.1 hj).1]; exact hj
    have hcell : ∀ j u, (us.flatMap V.cells)[j]? = some u → ∃ y, cur[j]? = some y ∧ RepR (frzCx c κ w l) u y := fun j u hj => by
      obtain ⟨y, hy, hr⟩ := hrep j u (hget j u hj)
      exact ⟨y, hy, hr.grow hc g⟩
    subst hm
    refine .sl sz us ⟨b, 0, none⟩ cap (fun j => cur.toList.getD j undef) (fun _ => .inr ⟨cap, hkl⟩) hmc hcm (fun e he => hz e (by rw [← hu] at he; exact List.mem_of_mem_take he)) (fun j u hj => ?_) (fun j u hj => ?_)
    · obtain ⟨y, hy, _⟩ := hcell j u hj
      show w.cell? _ = _
      rw [add_lit, cell_of_row w b _ cur el (0, 0) hb]
      have : cur.toList.getD j undef = y := by
        rw [List.getD_eq_getElem?_getD, Array.getElem?_toList, hy]; rfl
      rw [this]; simpa using hy
    · obtain ⟨y, hy, hr⟩ := hcell j u hj
      have : cur.toList.getD j undef = y := by
        rw [List.getD_eq_getElem?_getD, Array.getElem?_toList, hy]; rfl
      rw [this]; exact hr
/-! ### Loops whose rounds grow -/
theorem run_backG {B : ρ → S → Prop} (h : B r s) : Run P fn n out (.backG B :: k) r s := fun c κ a w hc hs => ⟨c, s, κ, Grow.refl hc.ok, h, hs⟩
theorem run_loopG {ι : Type} {body : Code} (St : ι → S) (I : ι → Prop) (F : Nat → ι → ρ) (μ : ι → Nat) (m0 : Nat) (x0 : ι) (hr : r = F m0 x0) (hI : I x0) (hm : μ x0 < m0) (hs : Sub s (St x0)) (hk : growOk k = true)
    (round : ∀ m x, I x → μ x ≤ m → Run P fn n out (.code body :: .backG (fun r s => ∃ x', I x' ∧ μ x' < μ x ∧ r = F m x' ∧ Sub s (St x')) :: k) (F (m + 1) x) (St x)) : Run P fn n out (.code (.loop body) :: k) r s := by
  intro c κ a w hc hsat
  obtain ⟨κ0, hs0⟩ := hs n c κ a w hsat
  refine wp_loop_rel (fun m a w => ∃ c1 x κ, Grow c c1 ∧ I x ∧ μ x < m ∧ r = F m x ∧ Sat n c1 κ (St x) a w) ?_ m0 a w ⟨c, x0, κ0, Grow.refl hc.ok, hI, hm, hr, hs0⟩
  rintro m a w ⟨c1, x, κ, g1, hIx, hmx, hrx, hsx⟩
  obtain ⟨m', rfl⟩ : ∃ m', m = m' + 1 := ⟨m - 1, by omega⟩
  have h := round m' x hIx (by omega) c1 κ a w (g1.okP hc) hsx
  rw [← hrx] at h
  refine Code.wp_mono (fun e a' w' hq => ?_) h
  cases e with
  | normal =>
    obtain ⟨c2, s', κ', g2, ⟨x', hI', hlt, hr', hsub⟩, hs'⟩ := hq
    obtain ⟨κ'', hs''⟩ := hsub n c2 κ' a' w' hs'
    exact ⟨m', by omega, c2, x', κ'', g1.trans g2, hI', by omega, hr', hs''⟩
  | exit id => exact post_grow g1 hk hq
  | goto l => exact post_grow g1 hk hq
  | ret => exact post_grow g1 hk hq
  | panic ch => exact post_grow g1 hk hq
  | outgrown => exact post_grow g1 hk hq
theorem Dw {ι : Type} {body : Code} {id : Nat} (b : (ι → ρ) → (ι → ρ) → ι → ρ) (kk : ι → ρ) (m0 : Nat) (x0 : ι) (hr : r = LOOP b kk m0 x0) (I XI : ι → Prop) (μ : ι → Nat) (St StX : ι → S) (hI : I x0) (hm : μ x0 < m0) (hs : Sub s (St x0)) (hk : growOk k = true)
    (hx : ∀ x, XI x → Run P fn n out k (kk x) (StX x))
    (round : ∀ (rec kx : ι → ρ), (∀ x, XI x → Run P fn n out k (kx x) (StX x)) → ∀ x, I x → Run P fn n out (.code body :: .backG (fun r s => ∃ x', I x' ∧ μ x' < μ x ∧ r = rec x' ∧ Sub s (St x')) :: .endB id :: k) (b rec kx x) (St x)) :
    Run P fn n out (.code (.loop body) :: .endB id :: k) r s :=
  run_loopG St I (LOOP b kk) μ m0 x0 hr hI hm hs hk fun m x hI _ => round (LOOP b kk m) kk hx x hI
theorem CC {ι : Type} {I : ι → Prop} {μ : ι → Nat} {rec : ι → ρ} {St : ι → S} {x : ι} (x' : ι) (hI : I x') (hm : μ x' < μ x) (hs : Sub s (St x')) :
    Run P fn n out (.backG (fun r s => ∃ x', I x' ∧ μ x' < μ x ∧ r = rec x' ∧ Sub s (St x')) :: k) (rec x') s :=
  run_backG ⟨x', hI, hm, rfl, hs⟩
/-! ### Contracts of functions that grow -/
def ConG (P : Program) (f : FuncId) (args : List V) (hin : List (Nat × Option O)) (res : V) (hout : List (Nat × Option O)) : Prop :=
  ∀ (c : Cx) (xs : List Value), c.okP P → All2 (RepT c c.κ) args xs → Mem c c.κ hin c.w →
    Calls P f ⟨xs⟩ c.w fun e w' => ∃ x c' κ', e = .returned x ∧ Grow c c' ∧ RepT c' κ' res x ∧ Mem c' κ' hout w'
theorem con_introG {f : FuncId} {code : Code} {args : List V} {hin : List (Nat × Option O)} (hf : P.funcs[f]? = some fn) (hb : fn.body = some code) (hn : fn.ntmps = n) (hl : Nat.ble args.length n = true) (h : Run P fn n out [.code code, .gr] r ⟨argT 0 args, hin⟩) : ConG P f args hin (out r).1 (out r).2 := by
  intro c xs hc hargs hmem
  have hl' : args.length ≤ n := Nat.le_of_ble_eq_true hl
  have hxl := hargs.length
  refine calls_of_wp hf hb ?_
  have hsat : Sat n c c.κ ⟨argT 0 args, hin⟩ ⟨⟨xs⟩ ++ Array.replicate (fn.ntmps - (⟨xs⟩ : Array Value).size) undef, []⟩ c.w := by
    refine ⟨rfl, by simp; omega, fun t e ht => ?_, hmem⟩
    have := argT_get (m := fn.ntmps - xs.length) args xs [] 0 hargs rfl t e ht
    have e1 : ((⟨xs⟩ : Array Value) ++ Array.replicate (fn.ntmps - (⟨xs⟩ : Array Value).size) undef) = ([] ++ xs ++ List.replicate (fn.ntmps - xs.length) undef).toArray := by
      apply Array.ext'; simp
    show RepE c c.κ e (((⟨xs⟩ : Array Value) ++ Array.replicate (fn.ntmps - (⟨xs⟩ : Array Value).size) undef).getD t undef)
    rw [e1]; exact this
  refine Code.wp_mono (fun e a' w' hq => ?_) (h c c.κ _ c.w hc hsat)
  have fin : ∀ e, (∃ c', Grow c c' ∧ Fin P fn out c' r e a' w') → bodyPost P fn (fun e w' => ∃ x c' κ', e = .returned x ∧ Grow c c' ∧ RepT c' κ' (out r).1 x ∧ Mem c' κ' (out r).2 w') e a' w' := by
    rintro e ⟨c', g, h⟩
    cases e with
    | normal => obtain ⟨h1, x, κ, h2, h3, h4⟩ := h; exact ⟨h1, x, h2, x, c', κ, rfl, g, h3, h4⟩
    | ret => obtain ⟨h1, x, κ, h2, h3, h4⟩ := h; exact ⟨h1, x, h2, x, c', κ, rfl, g, h3, h4⟩
    | exit id => exact h.elim
    | goto l => exact h.elim
    | panic ch => exact h.elim
    | outgrown => exact h.elim
  exact fin e hq
/-- what grows, but hands back nothing that is only read, is a contract as any other -/
theorem noro_rep {c c' : Cx} {u : V} {y : Value} (hn : u.noro = true) (h : RepR c' u y) : RepR c u y := by
  cases h with
  | int k n => exact .int k n
  | bool b => exact .bool b
  | ub p b h => exact .ub p b h
  | any _ h => exact .any _ h
  | nlp => exact .nlp
  | errn => exact .errn
  | errv t x => exact .errv t x
  | str s => exact .str s
  | nls => exact .nls
  | _ => simp [V.noro] at hn
theorem ConG.con {f : FuncId} {args : List V} {hin : List (Nat × Option O)} {res : V} {hout : List (Nat × Option O)} (h : ConG P f args hin res hout) (hr : res.atT.all V.noro = true) (hh : ∀ p ∈ hout, ∀ o, p.2 = some o → ∀ u ∈ o.at_, u.noro = true) : Con P f args hin res hout := by
  intro c xs hc hargs hmem
  refine (h c xs hc hargs hmem).mono fun e w' ⟨x, c', κ', he, g, hx, hm⟩ => ⟨x, κ', he, hx.cx fun u hu y hy => noro_rep ((List.all_eq_true.1 hr) u hu) hy, ?_⟩
  refine ⟨g.ext.trans' hm.ext g.X, fun l o hl => (hm.hp l o hl).cx fun u hu y hy => noro_rep (hh _ (get_mem hl) o rfl u hu) hy, fun l o b k hl hk => ?_, hm.ij, fun l hl => (hm.pin l hl).trans (by rw [g.κ]), ?_⟩
  · have h1 := hm.ow l o b k hl hk
    exact ⟨h1.1.elim (fun h => .inl (Nat.le_trans g.ext.size h)) (g.X b), fun hD => h1.2 (g.D b hD)⟩
  · obtain ⟨φ, N⟩ := hm.ns
    refine hm.nsj N (fun l el sz q te ze h es hl e he es' hq u hu y hy => noro_rep (hh _ (get_mem hl) _ rfl u ?_) hy) (fun l o i b k hl _ hp => ?_) (fun _ _ hl _ => ⟨hl, rfl, fun _ _ => rfl⟩) (fun l o b k hl hk => .inr ⟨l, o, k, hl, hk⟩) (fun _ _ => .inl rfl) (Nat.le_refl _)
    · simp only [O.at_, List.mem_flatMap]
      exact ⟨e, he, List.mem_append_right _ (by rw [hq]; exact hu)⟩
    · obtain ⟨_, g2, g3⟩ := N.own _ _ _ _ hp
      exact ⟨g2.elim (fun h => .inl (Nat.le_trans g.ext.size h)) (g.X b), fun hD => g3 (g.D b hD)⟩
/-- a pointer to an own box becomes a pointer that is only read through -/
theorem run_freezeB {t l sz : Nat} {el : TypeId} {cs : List V} (ht : get s.T t = some (true, .op l sz 0 0)) (ho : get s.H l = some (.box el cs)) (hc0 : cs.all V.ro = true) (hk : growOk k = true)
    (h : Run P fn n out k r ⟨(t, some (true, .rp cs)) :: s.T, (l, none) :: s.H⟩) : Run P fn n out k r s := by
  intro c κ a w hc hs
  have g := frz_grow hc.ok hs ho
  have h1 : RepB c κ (.op l sz 0 0) (a.tmps.getD t undef) := (hs.tm t _ ht).1 rfl
  have hho := hs.mem.hp l _ ho
  refine post_grow g hk (h (frzCx c κ w l) κ a w (g.okP hc) (frz_sat hc.ok hs ho ?_))
  show RepR (frzCx c κ w l) (.rp cs) (a.tmps.getD t undef)
  obtain ⟨b, cap, hkl, hx⟩ := h1
  obtain ⟨b', cur, hk2, hb, hall⟩ := hho
  have hbb : b' = b := by rw [hk2] at hkl; injection hkl with hkl; injection hkl
  subst hbb
  rw [hx, Nat.zero_mul, Nat.zero_add]
  refine .rp cs ⟨b', 0, none⟩ (fun j => cur.toList.getD j undef) (.inr ⟨1, hk2⟩) (fun j u hj => ?_) (fun j u hj => ?_)
  · obtain ⟨y, hy, _⟩ := hall.get j u hj
    show w.cell? _ = _
    rw [add_lit, cell_of_row w b' _ cur el (0, 0) hb]
    have : cur.toList.getD j undef = y := by rw [List.getD_eq_getElem?_getD, hy]; rfl
    rw [this]; simpa using hy
  · obtain ⟨y, hy, hr⟩ := hall.get j u hj
    have : cur.toList.getD j undef = y := by rw [List.getD_eq_getElem?_getD, hy]; rfl
    rw [this]
    exact (repR_of_repC ((List.all_eq_true.1 hc0) u (List.mem_of_getElem? hj)) hr).grow hc.ok g
theorem wpList_pre {ops : Array Oper} {Q : Exit → Act → World → Prop} {c : Cx} (hc : c.okP P) {tail : List Oper} : ∀ (l1 : List Oper) (s : S) (bs : List A) (s1 : S), Lex P n ops l1 s bs s1 → ∀ (κ : Ka) (a : Act) (w : World), Sat n c κ s a w →
    (∀ a' w' κ', Sat n c κ' s1 a' w' → wpList P ops Q tail a' w') → wpList P ops Q (l1 ++ tail) a w
  | [], s, bs, s1, ⟨_, e⟩, κ, a, w, hs, hq => by subst e; exact hq _ _ _ hs
  | o :: r, s, bs, s1, ⟨b, bs', _, hl, hf, hk⟩, κ, a, w, hs, hq => by
    refine wpList_step fun K hK => ?_
    exact hl s (fun _ _ => rfl) (fun _ _ => rfl) hf c κ a w hc hs K Q fun a' w' κ' hs' => hK _ _ (wpList_pre hc r _ bs' s1 hk κ' a' w' hs' hq)
end
end Go.Proofs.YtibbfdojcdkopaaGreat.E
