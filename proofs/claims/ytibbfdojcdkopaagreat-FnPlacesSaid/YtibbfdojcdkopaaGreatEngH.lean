/-
  THE ENGINE, part H: a function's code beside the plain model's value ('Run'): the rules of control, of loops by fuel, of a return; a contract out of a run.
  Conditions: none; all of it is over any program.
-/
import Derived.Test.YtibbfdojcdkopaaGreatEngG
set_option linter.unusedVariables false
set_option linter.unusedSimpArgs false
set_option linter.unusedSectionVars false
set_option linter.unnecessarySimpa false
namespace Go.Proofs.YtibbfdojcdkopaaGreat.E
open Go Go.RowKit

/-- A context that has grown: what was own and lies still from now on is read only. -/
structure Grow (c c' : Cx) : Prop where
  ext : Ext c.X c.w c'.w
  D : ∀ b, c.D b → c'.D b
  X : ∀ b, c'.X b → c.w.heap.size ≤ b ∨ c.X b
  N : ∀ b, c'.D b → c.D b ∨ c.w.heap.size ≤ b ∨ c.X b
  ok : c'.ok
  κ : c'.κ = c.κ
theorem Grow.refl {c : Cx} (h : c.ok) : Grow c c := ⟨Ext.refl _ _, fun _ h => h, fun _ h => .inr h, fun _ h => .inl h, h, rfl⟩
theorem Grow.trans {a b c : Cx} (h : Grow a b) (k : Grow b c) : Grow a c where
  ext := h.ext.trans' k.ext h.X
  D := fun i hi => k.D i (h.D i hi)
  X := fun i hi => (k.X i hi).elim (fun h1 => .inl (Nat.le_trans h.ext.size h1)) (h.X i)
  N := fun i hi => (k.N i hi).elim (h.N i) fun h1 => h1.elim (fun h2 => .inr (.inl (Nat.le_trans h.ext.size h2))) fun h2 => .inr (h.X i h2)
  ok := k.ok
  κ := k.κ.trans h.κ
theorem Grow.okP {P : Program} {c c' : Cx} (h : Grow c c') (hc : c.okP P) : c'.okP P := by
  obtain ⟨W0, g1, g2, g3⟩ := hc.gv
  refine ⟨h.ok, W0, g1, g2.trans' (X' := c.X) h.ext fun i hi => .inl (Nat.le_of_not_lt fun hlt => hc.ok.ap i (g3 i hlt) hi), fun b hb => h.D b (g3 b hb)⟩
inductive It (ρ : Type) where
  | code (c : Code)
  | endB (id : Nat)
  | back (B : ρ → S → Prop)
  | gr
  | backG (B : ρ → S → Prop)

section
variable {ρ : Type}
def post (P : Program) (n : Nat) (Q : Cx → Exit → Act → World → Prop) (r : ρ) : List (It ρ) → Cx → Exit → Act → World → Prop
  | [], c => Q c
  | .code x :: k, c => Exit.then (x.wp P (post P n Q r k c)) (post P n Q r k c)
  | .endB id :: k, c => Exit.inBlock id (post P n Q r k c)
  | .back B :: k, c => fun e a w => match e with
    | .normal => ∃ s κ, B r s ∧ Sat n c κ s a w
    | e => post P n Q r k c e a w
  | .gr :: k, c => fun e a w => ∃ c', Grow c c' ∧ post P n Q r k c' e a w
  | .backG B :: k, c => fun e a w => match e with
    | .normal => ∃ c' s κ, Grow c c' ∧ B r s ∧ Sat n c' κ s a w
    | e => post P n Q r k c e a w
def Fin (P : Program) (fn : Func) (out : ρ → V × List (Nat × Option O)) (c : Cx) (r : ρ) : Exit → Act → World → Prop
  | .ret, a, w | .normal, a, w => a.defers = [] ∧ ∃ x κ, (results fn a.tmps).run P w = .ok x w ∧ RepT c κ (out r).1 x ∧ Mem c κ (out r).2 w
  | _, _, _ => False
def Run (P : Program) (fn : Func) (n : Nat) (out : ρ → V × List (Nat × Option O)) (k : List (It ρ)) (r : ρ) (s : S) : Prop :=
  ∀ (c : Cx) (κ : Ka) (a : Act) (w : World), c.okP P → Sat n c κ s a w → post P n (fun c => Fin P fn out c r) r k c .normal a w

variable {P : Program} {fn : Func} {n : Nat} {out : ρ → V × List (Nat × Option O)} {k : List (It ρ)} {r : ρ} {s s' : S}

theorem Af {x y : Code} (h : Run P fn n out (.code x :: .code y :: k) r s) : Run P fn n out (.code (.seq x y) :: k) r s :=
  fun c κ a w hc hs => wp_seq (h c κ a w hc hs)
theorem Aw {id : Nat} {x : Code} (h : Run P fn n out (.code x :: .endB id :: k) r s) : Run P fn n out (.code (.block id x) :: k) r s :=
  fun c κ a w hc hs => wp_block (h c κ a w hc hs)
theorem AK {id : Nat} (h : Run P fn n out k r s) : Run P fn n out (.endB id :: k) r s :=
  fun c κ a w hc hs => h c κ a w hc hs
theorem As (h : Run P fn n out k r s) : Run P fn n out (.code .skip :: k) r s :=
  fun c κ a w hc hs => wp_skip (h c κ a w hc hs)
theorem Aq {x : Operand} {p : Bool} {ks : List Nat} {c1 c2 : Code} {r1 r2 : ρ} (hx : Od s true x (.bool p) ks) (hr : r = bif p then r1 else r2) (h1 : p = true → Run P fn n out (.code c1 :: k) r1 s) (h2 : p = false → Run P fn n out (.code c2 :: k) r2 s) :
    Run P fn n out (.code (.cond x c1 c2) :: k) r s := by
  intro c κ a w hc hs
  have hv := repT_bool (hx.rep hs rfl)
  cases hp : p with
  | true =>
    have : r = r1 := by rw [hr, hp]; rfl
    subst this
    exact wp_cond_true (by rw [hv, hp]) (h1 hp c κ a w hc hs)
  | false =>
    have : r = r2 := by rw [hr, hp]; rfl
    subst this
    exact wp_cond_false (by rw [hv, hp]) (h2 hp c κ a w hc hs)
/-- a test whose ways meet again: the model's value is not parted -/
theorem run_if {x : Operand} {p : Bool} {ks : List Nat} {c1 c2 : Code} (hx : Od s true x (.bool p) ks) (h1 : p = true → Run P fn n out (.code c1 :: k) r s) (h2 : p = false → Run P fn n out (.code c2 :: k) r s) :
    Run P fn n out (.code (.cond x c1 c2) :: k) r s :=
  Aq (r1 := r) (r2 := r) hx (by cases p <;> rfl) h1 h2
theorem Ad {id : Nat} {l : List Oper} {bs : List A} (hl : Lex P n l.toArray l s bs s') (h : Run P fn n out k r s') : Run P fn n out (.code (.region id l.toArray false) :: k) r s :=
  fun c κ a w hc hs => wp_region_lit (wpList_of_lex hc l s bs s' hl κ a w hs fun a' w' κ' hs' => h c κ' a' w' hc hs')
theorem Bk {id : Nat} {l : List Oper} {bs : List A} (hm : P.follows .mixedOrders = true) (hl : Lex P n l.toArray l s bs s') (hok : okB l bs = true) (h : Run P fn n out k r s') : Run P fn n out (.code (.region id l.toArray true) :: k) r s :=
  fun c κ a w hc hs => wp_draw hc hm (by simpa using hl) (by simpa using hok) (fun a' w' κ' hs' => h c κ' a' w' hc hs') hs

/-- to the end of a block -/
def popX (id : Nat) : List (It ρ) → Option (List (It ρ))
  | [] => none
  | .endB id' :: k => bif Nat.beq id id' then some k else popX id k
  | .code _ :: k => popX id k
  | .back _ :: k => popX id k
  | .gr :: _ => none
  | .backG _ :: k => popX id k
theorem popX_post {id : Nat} {c : Cx} {Q : Cx → Exit → Act → World → Prop} {a : Act} {w : World} : ∀ {k k' : List (It ρ)}, popX id k = some k' → post P n Q r k' c .normal a w → post P n Q r k c (.exit id) a w
  | [], _, h, _ => by simp [popX] at h
  | .endB id' :: k, k', h, hp => by
    simp only [popX] at h
    simp only [post, Exit.inBlock]
    cases hb : Nat.beq id id' with
    | true =>
      rw [hb] at h
      simp at h; subst h
      rw [if_pos (Nat.eq_of_beq_eq_true hb)]; exact hp
    | false =>
      rw [hb] at h
      rw [if_neg (fun e => by subst e; simp at hb)]
      exact popX_post h hp
  | .code x :: k, k', h, hp => popX_post (k := k) h hp
  | .back B :: k, k', h, hp => popX_post (k := k) h hp
  | .gr :: k, _, h, _ => by simp [popX] at h
  | .backG B :: k, k', h, hp => popX_post (k := k) h hp
theorem Bb {id : Nat} {k' : List (It ρ)} (hp : popX id k = some k') (h : Run P fn n out k' r s) : Run P fn n out (.code (.exit id) :: k) r s :=
  fun c κ a w hc hs => wp_exit (popX_post hp (h c κ a w hc hs))

theorem ret_post {c : Cx} (hc : c.ok) {Q : Cx → Exit → Act → World → Prop} {a : Act} {w : World} (h : Q c .ret a w) : ∀ (k : List (It ρ)), post P n Q r k c .ret a w
  | [] => h
  | .endB _ :: k => ret_post hc h k
  | .code _ :: k => ret_post hc h k
  | .back _ :: k => ret_post hc h k
  | .gr :: k => ⟨c, Grow.refl hc, ret_post hc h k⟩
  | .backG _ :: k => ret_post hc h k

/-! ### From one state to a weaker one -/
def Sub (s s' : S) : Prop := ∀ n c κ a w, Sat n c κ s a w → ∃ κ', Sat n c κ' s' a w
theorem C1 (hs : Sub s s') (h : Run P fn n out k r s') : Run P fn n out k r s := fun c κ a w hc hsat => by
  obtain ⟨κ', h'⟩ := hs n c κ a w hsat
  exact h c κ' a w hc h'
def subT (f : Nat → Nat) (s : S) : List (Nat × Option En) → Prop
  | [] => True
  | (t, some e) :: r => get s.T t = some (e.1, e.2.ren f) ∧ subT f s r
  | (_, none) :: r => subT f s r
def subH (f : Nat → Nat) (s : S) : List (Nat × Option O) → Prop
  | [] => True
  | (l, some o) :: r => get s.H (f l) = some (o.ren f) ∧ subH f s r
  | (_, none) :: r => subH f s r
def renOk (R : List (Nat × Nat)) (H : List (Nat × Option O)) : Bool :=
  R.all (fun p => Nat.ble 100 p.1 || Nat.beq p.1 p.2) && H.all (fun p => H.all (fun q => !Nat.beq (rn R p.1) (rn R q.1) || Nat.beq p.1 q.1))

theorem subT_get {f : Nat → Nat} {s : S} : ∀ {T : List (Nat × Option En)}, subT f s T → ∀ t e, get T t = some e → get s.T t = some (e.1, e.2.ren f)
  | [], _, t, e, h => by simp [get] at h
  | (k, some v) :: r, ⟨h1, h2⟩, t, e, h => by
    rw [get_cons] at h
    split at h
    · rename_i hk; subst hk; injection h with h; subst h; exact h1
    · exact subT_get h2 t e h
  | (k, none) :: r, h2, t, e, h => by
    rw [get_cons] at h
    split at h
    · simp at h
    · exact subT_get (T := r) h2 t e h
theorem subH_get {f : Nat → Nat} {s : S} : ∀ {H : List (Nat × Option O)}, subH f s H → ∀ t e, get H t = some e → get s.H (f t) = some (e.ren f)
  | [], _, t, e, h => by simp [get] at h
  | (k, some v) :: r, ⟨h1, h2⟩, t, e, h => by
    rw [get_cons] at h
    split at h
    · rename_i hk; subst hk; injection h with h; subst h; exact h1
    · exact subH_get h2 t e h
  | (k, none) :: r, h2, t, e, h => by
    rw [get_cons] at h
    split at h
    · simp at h
    · exact subH_get (H := r) h2 t e h
theorem rn_pin {R : List (Nat × Nat)} (h : R.all (fun p => Nat.ble 100 p.1 || Nat.beq p.1 p.2) = true) {l : Nat} (hl : l < 100) : rn R l = l := by
  unfold rn
  cases hk : look R l with
  | none => rfl
  | some m =>
    have := (List.all_eq_true.1 h) _ (look_mem hk)
    simp only [Bool.or_eq_true] at this
    rcases this with h1 | h1
    · have := Nat.le_of_ble_eq_true h1; omega
    · exact (Nat.eq_of_beq_eq_true h1).symm
theorem mem_sub {R : List (Nat × Nat)} {H' : List (Nat × Option O)} (hok : renOk R H' = true) (hH : subH (rn R) s H') {c : Cx} {κ : Ka} {w : World} (hm : Mem c κ s.H w) : Mem c (fun l => κ (rn R l)) H' w := by
  simp only [renOk, Bool.and_eq_true] at hok
  refine ⟨hm.ext, fun l o hl => ?_, fun l o b k hl hk => hm.ow _ _ b k (subH_get hH l o hl) hk, fun l l' o o' b k k' hl hl' hk hk' => ?_, fun l hl => ?_, ?_⟩
  · exact Holds.unren (κ' := κ) rfl (fun _ _ => rfl) (hm.hp _ _ (subH_get hH l o hl))
  · have h := hm.ij _ _ _ _ b k k' (subH_get hH l o hl) (subH_get hH l' o' hl') hk hk'
    have h1 := (List.all_eq_true.1 ((List.all_eq_true.1 hok.2) _ (get_mem hl))) _ (get_mem hl')
    simp only [h, Bool.or_eq_true, Bool.not_eq_true'] at h1
    rcases h1 with h1 | h1
    · simp at h1
    · exact Nat.eq_of_beq_eq_true h1
  · rw [rn_pin hok.1 hl]; exact hm.pin l hl
  · obtain ⟨φ, N⟩ := hm.ns
    refine ⟨_, hm.nsx (rn R) N (fun _ _ _ _ _ _ _ _ _ _ _ _ _ _ _ _ h => h) (fun _ _ _ _ _ _ _ hp => (N.own _ _ _ _ hp).2) (fun l el sz q te ze g es hl => ⟨subH_get hH l _ hl, rfl, fun _ _ _ => rfl⟩) (fun l l' o o' hl hl' _ _ e => ?_) (fun l o b k hl hk => .inr ⟨_, _, k, subH_get hH l o hl, hk⟩) (fun _ _ => .inl rfl) (Nat.le_refl _)⟩
    have h1 := (List.all_eq_true.1 ((List.all_eq_true.1 hok.2) _ (get_mem hl))) _ (get_mem hl')
    simp only [e, Bool.or_eq_true, Bool.not_eq_true'] at h1
    rcases h1 with h1 | h1
    · simp at h1
    · exact Nat.eq_of_beq_eq_true h1
theorem sub_of (R : List (Nat × Nat)) (hT : subT (rn R) s s'.T) (hH : subH (rn R) s s'.H) (hok : renOk R s'.H = true) : Sub s s' := by
  intro n c κ a w hs
  refine ⟨fun l => κ (rn R l), hs.hd, hs.hn, fun t e ht => ?_, mem_sub hok hH hs.mem⟩
  have := hs.tm t _ (subT_get hT t e ht)
  exact ⟨fun hg => RepT.unren (κ' := κ) (fun _ _ => rfl) (this.1 hg), this.2⟩

/-- a nil slice in a slot becomes an empty slice of the call's own -/
theorem sub_adopt {t l sz : Nat} {el : TypeId} (ht : get s.T t = some (true, .nls)) (hf : freshB l s = true) : Sub s ⟨(t, some (true, .os l 0)) :: s.T, (l, some (.row el sz [])) :: s.H⟩ := by
  intro n c κ a w hs
  have hfl := Fresh.of hf
  refine ⟨fun i => if i = l then none else κ i, hs.hd, hs.hn, fun t' e' ht' => ?_, ?_⟩
  · rw [get_cons] at ht'
    split at ht'
    · rename_i e; subst e
      injection ht' with ht'; subst ht'
      have h1 : RepR c .nls (a.tmps.getD t undef) := (hs.tm t _ ht).1 rfl
      generalize a.tmps.getD t undef = y at h1
      cases h1
      exact ⟨fun _ => repT_os0 (if_pos rfl), fun h => by simp at h⟩
    · refine (hs.tm t' e' ht').turn fun l' hl' => ?_
      have : l' ≠ l := fun e => hfl.t _ (get_mem ht') e' rfl (e ▸ hl')
      simp [this]
  · refine ⟨hs.mem.ext, fun l' o hl' => ?_, fun l' o b k hl' hk => ?_, fun l1 l2 o1 o2 b k k' h1 h2 hk1 hk2 => ?_, fun i hi => ?_, ?_⟩
    · rw [get_cons] at hl'
      split at hl'
      · rename_i e; subst e; injection hl' with hl'; subst hl'; simp [Holds]
      · rename_i e
        have e' : ¬ l' = l := fun h => e h.symm
        refine (hs.mem.hp l' o hl').turn (by simp [e']) (fun i hi => ?_) (fun _ _ _ => rfl)
        have : i ≠ l := fun e2 => hfl.h _ (get_mem hl') o rfl (e2 ▸ hi)
        simp [this]
    · rw [get_cons] at hl'
      split at hl'
      · rename_i e; subst e; simp at hk
      · rename_i e
        have e' : ¬ l' = l := fun h => e h.symm
        simp only [e', if_false] at hk
        exact hs.mem.ow l' o b k hl' hk
    · have g1 : ¬ l1 = l := fun e => by simp [e] at hk1
      have g2 : ¬ l2 = l := fun e => by simp [e] at hk2
      rw [get_cons, if_neg (fun e => g1 e.symm)] at h1
      rw [get_cons, if_neg (fun e => g2 e.symm)] at h2
      simp only [g1, g2, if_false] at hk1 hk2
      exact hs.mem.ij l1 l2 o1 o2 b k k' h1 h2 hk1 hk2
    · have : ¬ i = l := by have := hfl.ge; omega
      simp only [this, if_false]
      exact hs.mem.pin i hi
    · refine hs.mem.nsi (fun l' o hl' hN => ?_) (fun l' o b k hl' hk => ?_) (fun _ _ => .inl rfl) (Nat.le_refl _)
      · rw [get_cons] at hl'
        split at hl'
        · injection hl' with hl'; subst hl'; simp [O.isNest] at hN
        · rename_i e
          have e' : ¬ l' = l := fun h => e h.symm
          refine ⟨hl', by simp [e'], fun x hx => ?_⟩
          have : x ≠ l := fun e2 => hfl.h _ (get_mem hl') o rfl (e2 ▸ hx)
          simp [this]
      · rw [get_cons] at hl'
        split at hl'
        · rename_i e; subst e; simp at hk
        · rename_i e
          have e' : ¬ l' = l := fun h => e h.symm
          simp only [e', if_false] at hk
          exact .inr ⟨l', o, k, hl', hk⟩
/-- a nil slice in a cell of a box of the call's own becomes an empty slice of the call's own -/
theorem Br {t sz : Nat} {es : List V} (ht : get s.T t = some (true, .sl sz es)) (h : es.length ≤ 9223372036854775807 → Run P fn n out k r s) : Run P fn n out k r s := by
  intro c κ a w hc hs
  refine h ?_ c κ a w hc hs
  have h1 : RepR c (.sl sz es) (a.tmps.getD t undef) := (hs.tm t _ ht).1 rfl
  generalize a.tmps.getD t undef = y at h1
  cases h1 with
  | nil => simp
  | sl _ _ ad cap f hD hl hcp hz h1 h2 => unfold maxLen at hcp; omega

/-! ### Loops -/
theorem wp_loop_rel {c : Code} {Q : Exit → Act → World → Prop} (I : Nat → Act → World → Prop) (round : ∀ m a w, I m a w → c.wp P (Exit.then (fun a' w' => ∃ m', m' < m ∧ I m' a' w') Q) a w) (m0 : Nat) (a : Act) (w : World) (h0 : I m0 a w) : (Code.loop c).wp P Q a w := by
  intro b k cs
  have key : ∀ m a w, I m a w → ∃ e a' w', Q e a' w' ∧ Arrives P (lone (b.at a (.code c :: .inLoop c :: k)) cs w) b k cs e a' w' := by
    intro m
    induction m using Nat.strongRecOn with
    | _ m ih =>
      intro a w hI
      obtain ⟨e, a₁, w₁, hq, harr⟩ := round m a w hI b (.inLoop c :: k) cs
      cases e with
      | normal =>
        obtain ⟨m', hlt, hI₁⟩ := hq
        obtain ⟨e₂, a₂, w₂, hq₂, harr₂⟩ := ih m' hlt a₁ w₁ hI₁
        exact ⟨e₂, a₂, w₂, hq₂, .of_steps (Steps.trans harr (.one step_inLoop)) harr₂⟩
      | exit id => exact ⟨_, a₁, w₁, hq, .pass (x := .inLoop c) rfl (fun _ _ => .inl (by simp)) harr⟩
      | goto l => exact ⟨_, a₁, w₁, hq, .pass (x := .inLoop c) rfl (fun _ _ => .inl (by simp)) harr⟩
      | ret => exact ⟨_, a₁, w₁, hq, .pass (x := .inLoop c) rfl (fun _ _ => .inl (by simp)) harr⟩
      | panic ch => exact ⟨_, a₁, w₁, hq, .pass (x := .inLoop c) rfl (fun _ _ => .inl (by simp)) harr⟩
      | outgrown => exact ⟨_, a₁, w₁, hq, .pass (x := .inLoop c) rfl (fun _ _ => .inl (by simp)) harr⟩
  obtain ⟨e, a', w', hq, harr⟩ := key m0 a w h0
  exact ⟨e, a', w', hq, .of_steps (.one step_loop) harr⟩

theorem run_loop {ι : Type} {body : Code} (St : ι → S) (I : ι → Prop) (F : Nat → ι → ρ) (μ : ι → Nat) (m0 : Nat) (x0 : ι) (hr : r = F m0 x0) (hI : I x0) (hm : μ x0 < m0) (hs : Sub s (St x0))
    (round : ∀ m x, I x → μ x ≤ m → Run P fn n out (.code body :: .back (fun r s => ∃ x', I x' ∧ μ x' < μ x ∧ r = F m x' ∧ Sub s (St x')) :: k) (F (m + 1) x) (St x)) : Run P fn n out (.code (.loop body) :: k) r s := by
  intro c κ a w hc hsat
  obtain ⟨κ0, hs0⟩ := hs n c κ a w hsat
  refine wp_loop_rel (fun m a w => ∃ x κ, I x ∧ μ x < m ∧ r = F m x ∧ Sat n c κ (St x) a w) ?_ m0 a w ⟨x0, κ0, hI, hm, hr, hs0⟩
  rintro m a w ⟨x, κ, hIx, hmx, hrx, hsx⟩
  obtain ⟨m', rfl⟩ : ∃ m', m = m' + 1 := ⟨m - 1, by omega⟩
  have h := round m' x hIx (by omega) c κ a w hc hsx
  rw [← hrx] at h
  refine Code.wp_mono (fun e a' w' hq => ?_) h
  cases e with
  | normal =>
    obtain ⟨s', κ', ⟨x', hI', hlt, hr', hsub⟩, hs'⟩ := hq
    obtain ⟨κ'', hs''⟩ := hsub n c κ' a' w' hs'
    exact ⟨m', by omega, x', κ'', hI', by omega, hr', hs''⟩
  | exit id => exact hq
  | goto l => exact hq
  | ret => exact hq
  | panic ch => exact hq
  | outgrown => exact hq
theorem run_back {B : ρ → S → Prop} (h : B r s) : Run P fn n out (.back B :: k) r s := fun c κ a w hc hs => ⟨s, κ, h, hs⟩

/-! ### The end of a function -/
inductive RV (P : Program) (s : S) : ResultVar → V → Prop
  | t {t : Nat} {v : V} (h : get s.T t = some (true, v)) (hn : v.notup = true) : RV P s (.tmp t) v
  | c1 {t l sz j : Nat} {ty : TypeId} {o : O} {v : V} (h : get s.T t = some (true, .op l sz 0 j)) (ho : get s.H l = some o) (ht : isCell P ty = true) (hv : (o.from 0 j).head? = some v) (h1 : v.one = true) : RV P s (.cell t ty) v
  | cN {t l sz j q : Nat} {ty : TypeId} {o : O} {us : List V} (h : get s.T t = some (true, .op l sz 0 j)) (ho : get s.H l = some o) (ht : aggSz P ty = some q) (hv : (o.from 0 j).take q = us) (hl : us.length = q) : RV P s (.cell t ty) (.st us)
inductive RVs (P : Program) (s : S) : List ResultVar → List V → Prop
  | nil : RVs P s [] []
  | cons {x : ResultVar} {v : V} {xs : List ResultVar} {vs : List V} (h : RV P s x v) (t : RVs P s xs vs) : RVs P s (x :: xs) (v :: vs)
def retV : List V → V
  | [v] => v
  | vs => .tup vs

theorem run_mapM {α β : Type} {f : α → Sem β} {w : World} : ∀ {l : List α} {ys : List β}, All2 (fun a y => (f a).run P w = .ok y w) l ys → (l.mapM f).run P w = .ok ys w
  | [], [], _ => by simp
  | a :: l, y :: ys, ⟨h1, h2⟩ => by simp [List.mapM_cons, h1, run_mapM h2]
  | [], _ :: _, h => h.elim
  | _ :: _, [], h => h.elim

theorem load_box {c : Cx} {κ : Ka} {a : Act} {w : World} {t l sz j : Nat} {o : O} (hs : Sat n c κ s a w) (h : get s.T t = some (true, .op l sz 0 j)) (ho : get s.H l = some o) :
    ∃ b, a.tmps.getD t undef = .pointer (some ⟨b, j, none⟩) ∧ ∀ (q : Nat) u, (o.from 0 j)[q]? = some u → ∃ y, w.cell? ((⟨b, j, none⟩ : Addr).add q) = some y ∧ RepC c κ u y := by
  obtain ⟨b, cap, hk, hy⟩ := repT_op ((hs.tm _ _ h).1 rfl)
  rw [Nat.zero_mul, Nat.zero_add] at hy
  refine ⟨b, hy, fun q u hu => ?_⟩
  have := holds_from (hs.mem.hp l o ho) hk (sz := sz) (.inr rfl) hu
  rwa [Nat.zero_mul, Nat.zero_add] at this

theorem cells_list {w : World} {ad : Addr} {us : List V} {R : V → Value → Prop} (h : ∀ (q : Nat) u, us[q]? = some u → ∃ y, w.cell? (ad.add q) = some y ∧ R u y) :
    ∃ ys : List Value, All2 R us ys ∧ ∀ (j : Nat) v, ys[j]? = some v → w.cell? (ad.add j) = some v := by
  refine ⟨(List.range us.length).map fun q => (w.cell? (ad.add q)).getD undef, All2.of_get (by simp) fun j u y hu hy => ?_, fun j v hv => ?_⟩
  · have hj : j < us.length := (List.getElem?_eq_some_iff.1 hu).1
    simp only [List.getElem?_map, List.getElem?_range hj, Option.map_some, Option.some.injEq] at hy
    obtain ⟨y', h1, h2⟩ := h j u hu
    rw [h1] at hy; simp at hy; subst hy; exact h2
  · have hj : j < us.length := by have := (List.getElem?_eq_some_iff.1 hv).1; simpa using this
    simp only [List.getElem?_map, List.getElem?_range hj, Option.map_some, Option.some.injEq] at hv
    obtain ⟨y', h1, h2⟩ := h j _ (List.getElem?_eq_getElem hj)
    rw [h1] at hv; simp at hv; subst hv; exact h1

theorem repS_of_repT {c : Cx} {κ : Ka} {v : V} {y : Value} (hn : v.notup = true) (h : RepT c κ v y) : RepS c κ v y := by
  cases v with
  | tup vs => simp [V.notup] at hn
  | _ => exact h

def rvS (tm : Array Value) (rv : ResultVar) : Sem Value := match rv with
  | .tmp t => pure (tm.getD t undef)
  | .cell p ty => do loadVar ty (← asAddr (tm.getD p undef))

theorem rv_one {c : Cx} {κ : Ka} {a : Act} {w : World} (hs : Sat n c κ s a w) {x : ResultVar} {v : V} (h : RV P s x v) :
    ∃ y, (rvS a.tmps x).run P w = .ok y w ∧ RepS c κ v y ∧ v.notup = true := by
  cases h with
  | t h hn => exact ⟨_, rfl, repS_of_repT hn ((hs.tm _ _ h).1 rfl), hn⟩
  | c1 h ho ht hv ho1 =>
    obtain ⟨b, hp, hcell⟩ := load_box hs h ho
    obtain ⟨y, hy, hr⟩ := hcell 0 _ (by rw [← hv, List.head?_eq_getElem?])
    have hadd : ∀ j, (⟨b, j, none⟩ : Addr).add 0 = ⟨b, j, none⟩ := fun j => rfl
    rw [hadd] at hy
    have hload := run_load1 ht hy
    simp only [Instr.loadAt, Instr.sureAddr, Sem.run_bind, Sem.run_pure, Result.andThen_ok] at hload
    have h1 := V.one_spec ho1
    refine ⟨y, by simp only [rvS, hp, asAddr, Sem.run_bind, Sem.run_pure, Result.andThen_ok, hload], ?_, ?_⟩
    · cases v with
      | st cs => exact absurd rfl (h1.1 cs)
      | _ => exact hr
    · cases v with
      | tup vs => exact absurd rfl (h1.2 vs)
      | _ => rfl
  | cN h ho ht hv hl =>
    obtain ⟨b, hp, hcell⟩ := load_box hs h ho
    rename_i t' l' sz' j' q' ty' o' us'
    obtain ⟨ys, hall, hys⟩ := cells_list (w := w) (ad := ⟨b, j', none⟩) (us := us') (R := RepC c κ) (fun q' u hu => hcell q' u (by rw [← hv, List.getElem?_take] at hu; split at hu; exact hu; simp at hu))
    have hload := run_loadN ht (by rw [← hall.length]; exact hl) hys
    simp only [Instr.loadAt, Instr.sureAddr, Sem.run_bind, Sem.run_pure, Result.andThen_ok] at hload
    exact ⟨.agg ⟨ys⟩, by simp only [rvS, hp, asAddr, Sem.run_bind, Sem.run_pure, Result.andThen_ok, hload], ⟨ys, rfl, hall⟩, rfl⟩
theorem rv_run {c : Cx} {κ : Ka} {a : Act} {w : World} (hs : Sat n c κ s a w) {xs : List ResultVar} {vs : List V} (h : RVs P s xs vs) : ∃ ys : List Value,
    All2 (fun rv y => (rvS a.tmps rv).run P w = .ok y w) xs ys ∧ All2 (RepS c κ) vs ys ∧ ∀ v ∈ vs, v.notup = true := by
  induction h with
  | nil => exact ⟨[], trivial, trivial, by simp⟩
  | cons h t ih =>
    obtain ⟨ys, h1, h2, h3⟩ := ih
    obtain ⟨y, h4, h5, h6⟩ := rv_one hs h
    refine ⟨y :: ys, ⟨h4, h1⟩, ⟨h5, h2⟩, fun v hv => ?_⟩
    rcases List.mem_cons.1 hv with e | e
    · subst e; exact h6
    · exact h3 v e

theorem retV_rep {c : Cx} {κ : Ka} {vs : List V} {ys : List Value} (h : All2 (RepS c κ) vs ys) (hn : ∀ v ∈ vs, v.notup = true) : RepT c κ (retV vs) (if h : ys.toArray.size = 1 then ys.toArray[0] else .tuple ys.toArray) := by
  match vs, ys, h with
  | [], [], _ => exact ⟨[], rfl, trivial⟩
  | [v], [y], ⟨h1, _⟩ => exact repS_repT h1 (V.notup_spec (hn v (by simp)))
  | v1 :: v2 :: vs, y1 :: y2 :: ys, h =>
    rw [dif_neg (by simp)]
    exact ⟨y1 :: y2 :: ys, rfl, h⟩
  | [_], _ :: _ :: _, ⟨_, h⟩ => exact h.elim
  | _ :: _ :: _, [_], ⟨_, h⟩ => exact h.elim

theorem fin_ret (R : List (Nat × Nat)) {vs : List V} (hres : RVs P s fn.results.toList vs) (hv : retV vs = (out r).1.ren (rn R)) (hH : subH (rn R) s (out r).2) (hok : renOk R (out r).2 = true) {c : Cx} {κ : Ka} {a : Act} {w : World} (hs : Sat n c κ s a w) :
    a.defers = [] ∧ ∃ x κ, (results fn a.tmps).run P w = .ok x w ∧ RepT c κ (out r).1 x ∧ Mem c κ (out r).2 w := by
  obtain ⟨ys, h1, h2, h3⟩ := rv_run hs hres
  refine ⟨hs.hd, (if h : ys.toArray.size = 1 then ys.toArray[0] else .tuple ys.toArray), fun l => κ (rn R l), ?_, RepT.unren (κ' := κ) (f := rn R) (fun _ _ => rfl) (hv ▸ retV_rep h2 h3), mem_sub hok hH hs.mem⟩
  have hm := run_mapM (P := P) (w := w) h1
  unfold results
  rw [Array.mapM_eq_mapM_toList]
  simp only [Sem.run_bind, Sem.run_map, Sem.run_pure]
  change (((Sem.run P (List.mapM (rvS a.tmps) fn.results.toList) w).andThen _).andThen _) = _
  rw [hm]
  rfl
theorem Au (R : List (Nat × Nat)) {vs : List V} (hres : RVs P s fn.results.toList vs) (hv : retV vs = (out r).1.ren (rn R)) (hH : subH (rn R) s (out r).2) (hok : renOk R (out r).2 = true) : Run P fn n out (.code .ret :: k) r s :=
  fun c κ a w hc hs => wp_ret (ret_post hc.ok (Q := fun c => Fin P fn out c r) (fin_ret R hres hv hH hok hs) k)
theorem run_end (R : List (Nat × Nat)) {vs : List V} (hres : RVs P s fn.results.toList vs) (hv : retV vs = (out r).1.ren (rn R)) (hH : subH (rn R) s (out r).2) (hok : renOk R (out r).2 = true) : Run P fn n out [] r s :=
  fun c κ a w hc hs => fin_ret R hres hv hH hok hs

/-! ### A contract out of a run -/
def argT : Nat → List V → List (Nat × Option En)
  | _, [] => []
  | i, v :: vs => (i, some (true, v)) :: argT (i + 1) vs
theorem argT_get {c : Cx} {κ : Ka} {m : Nat} : ∀ (vs : List V) (xs ys : List Value) (i : Nat), All2 (RepT c κ) vs xs → ys.length = i → ∀ t e, get (argT i vs) t = some e → RepE c κ e ((ys ++ xs ++ List.replicate m undef).toArray.getD t undef)
  | [], _, _, _, _, _, t, e, h => by simp [argT, get] at h
  | v :: vs, x :: xs, ys, i, ⟨h1, h2⟩, hy, t, e, h => by
    simp only [argT] at h
    rw [get_cons] at h
    split at h
    · rename_i hk
      injection h with h
      subst h; subst hk
      refine ⟨fun _ => ?_, fun h => by simp at h⟩
      have : (ys ++ x :: xs ++ List.replicate m undef).toArray.getD i undef = x := by
        rw [Array.getD_eq_getD_getElem?]
        simp [hy]
      rw [this]; exact h1
    · have := argT_get (m := m) vs xs (ys ++ [x]) (i + 1) h2 (by simp [hy]) t e h
      simpa using this
  | _ :: _, [], _, _, h, _, _, _, _ => h.elim
theorem con_intro {f : FuncId} {code : Code} {args : List V} {hin : List (Nat × Option O)} (hf : P.funcs[f]? = some fn) (hb : fn.body = some code) (hn : fn.ntmps = n) (hl : Nat.ble args.length n = true) (h : Run P fn n out [.code code] r ⟨argT 0 args, hin⟩) : Con P f args hin (out r).1 (out r).2 := by
  intro c xs hc hargs hmem
  have hl' : args.length ≤ n := Nat.le_of_ble_eq_true hl
  have hxl := hargs.length
  refine calls_of_wp hf hb ?_
  have hsat : Sat n c c.κ ⟨argT 0 args, hin⟩ ⟨⟨xs⟩ ++ Array.replicate (fn.ntmps - (⟨xs⟩ : Array Value).size) undef, []⟩ c.w := by
    refine ⟨rfl, by simp; omega, fun t e ht => ?_, hmem⟩
    have := argT_get (m := fn.ntmps - xs.length) args xs [] 0 hargs rfl t e ht
    have e1 : ((⟨xs⟩ : Array Value) ++ Array.replicate (fn.ntmps - (⟨xs⟩ : Array Value).size) undef) = ([] ++ xs ++ List.replicate (fn.ntmps - xs.length) undef).toArray := by
      apply Array.ext'; simp
    show RepE c c.κ e (((⟨xs⟩ : Array Value) ++ Array.replicate (fn.ntmps - (⟨xs⟩ : Array Value).size) undef).getD t undef)
    rw [e1]; exact this
  refine Code.wp_mono (fun e a' w' hq => ?_) (h c c.κ _ c.w hc hsat)
  have fin : ∀ e, Fin P fn out c r e a' w' → bodyPost P fn (fun e w' => ∃ x κ', e = .returned x ∧ RepT c κ' (out r).1 x ∧ Mem c κ' (out r).2 w') e a' w' := by
    intro e h
    cases e with
    | normal => obtain ⟨h1, x, κ, h2, h3, h4⟩ := h; exact ⟨h1, x, h2, x, κ, rfl, h3, h4⟩
    | ret => obtain ⟨h1, x, κ, h2, h3, h4⟩ := h; exact ⟨h1, x, h2, x, κ, rfl, h3, h4⟩
    | exit id => exact h.elim
    | goto l => exact h.elim
    | panic ch => exact h.elim
    | outgrown => exact h.elim
  exact fin e hq
end
end Go.Proofs.YtibbfdojcdkopaaGreat.E
