/-
  THE ENGINE, part U: calls of what grows, with objects that are turned and objects that come back.
  Conditions: none; all of it is over any program.
-/
import Derived.Test.YtibbfdojcdkopaaGreatEngR
import Derived.Test.YtibbfdojcdkopaaGreatEngP
set_option linter.unusedVariables false
set_option linter.unusedSimpArgs false
set_option linter.unusedSectionVars false
set_option linter.unnecessarySimpa false
namespace Go.Proofs.YtibbfdojcdkopaaGreat.E
open Go Go.RowKit
section
variable {ρ : Type} {P : Program} {fn : Func} {n : Nat} {out : ρ → V × List (Nat × Option O)} {k : List (It ρ)} {r : ρ} {s s' : S}
/-- the rest of a region, from a state on: whatever follows from the end of it in this context follows -/
def RO (P : Program) (fn : Func) (n : Nat) (out : ρ → V × List (Nat × Option O)) (k : List (It ρ)) (r : ρ) (ops : Array Oper) (rest : List Oper) (s : S) : Prop :=
  ∀ (c : Cx) (κ : Ka) (a : Act) (w : World) (Q : Exit → Act → World → Prop), c.okP P → Sat n c κ s a w → (∀ e a w, post P n (fun c => Fin P fn out c r) r k c e a w → Q e a w) → wpList P ops Q rest a w
theorem run_ro {rid : Nat} {l : List Oper} (h : RO P fn n out k r l.toArray l s) : Run P fn n out (.code (.region rid l.toArray false) :: k) r s := fun c κ a w hc hs =>
  wp_region_lit (h c κ a w _ hc hs fun _ _ _ h => h)
theorem ro_end {ops : Array Oper} (h : Run P fn n out k r s) : RO P fn n out k r ops [] s := fun c κ a w Q hc hs hq => hq _ _ _ (h c κ a w hc hs)
theorem ro_lex {ops : Array Oper} {rest l1 l2 : List Oper} {bs : List A} (e : rest = l1 ++ l2) (hl : Lex P n ops l1 s bs s') (h : RO P fn n out k r ops l2 s') : RO P fn n out k r ops rest s := by
  subst e
  exact fun c κ a w Q hc hs hq => wpList_pre hc l1 s bs s' hl κ a w hs fun a w κ hs => h c κ a w Q hc hs hq
def allT (s : S) (v : V) : List Nat → Prop
  | [] => True
  | t :: ts => get s.T t = some (true, v) ∧ allT s v ts
theorem allT_mem {s : S} {v : V} : ∀ {ts : List Nat}, allT s v ts → ∀ t ∈ ts, get s.T t = some (true, v)
  | [], _, _, h => by simp at h
  | _ :: _, ⟨h1, h2⟩, t, h => by
    rcases List.mem_cons.1 h with e | h
    · subst e; exact h1
    · exact allT_mem h2 t h
def putT (v : V) : List Nat → List (Nat × Option En) → List (Nat × Option En)
  | [], T => T
  | t :: ts, T => (t, some (true, v)) :: putT v ts T
theorem get_putT {v : V} {T : List (Nat × Option En)} : ∀ {ts : List Nat} {t : Nat} {e : En}, get (putT v ts T) t = some e → (t ∈ ts ∧ e = (true, v)) ∨ get T t = some e
  | [], _, _, h => .inr h
  | q :: ts, t, e, h => by
    rw [putT, get_cons] at h
    split at h
    · rename_i e2; subst e2; injection h with h; exact .inl ⟨List.mem_cons_self, h.symm⟩
    · exact (get_putT h).imp (fun h => ⟨List.mem_cons_of_mem _ h.1, h.2⟩) id
theorem frz_satL {c : Cx} (hc : c.ok) {κ : Ka} {a : Act} {w : World} {l : Nat} {ts : List Nat} {o : O} {v : V} (hs : Sat n c κ s a w) (ho : get s.H l = some o) (hv : ∀ t ∈ ts, RepT (frzCx c κ w l) κ v (a.tmps.getD t undef)) :
    Sat n (frzCx c κ w l) κ ⟨putT v ts s.T, (l, none) :: s.H⟩ a w := by
  have g := frz_grow hc hs ho
  refine ⟨hs.hd, hs.hn, fun t' e ht => ?_, ⟨Ext.refl _ _, fun l' o' hl => ?_, fun l' o' b k hl hk => ?_, fun l1 l2 o1 o2 b k k' h1 h2 hk1 hk2 => ?_, hs.mem.pin, ?_⟩⟩
  · rcases get_putT ht with ⟨h1, rfl⟩ | h1
    · exact ⟨fun _ => hv t' h1, fun h => by simp at h⟩
    · exact (hs.tm t' e h1).grow hc g
  · rw [get_cons] at hl
    split at hl
    · simp at hl
    · exact (hs.mem.hp l' o' hl).cx fun u _ y hy => hy.grow hc g
  · rw [get_cons] at hl
    split at hl
    · simp at hl
    · rename_i e'
      have h1 := hs.mem.ow l' o' b k hl hk
      have h2 := hs.mem.lt hl hk
      have h3 : ¬ (c.D b ∨ ∃ k, κ l = some (b, k)) := fun h => h.elim h1.2 fun ⟨k2, hk2⟩ => e' (hs.mem.ij l l' o o' b k2 k ho hl hk2 hk)
      exact ⟨.inr ⟨h2, h1.1, h3⟩, h3⟩
  · rw [get_cons] at h1 h2
    split at h1
    · simp at h1
    · split at h2
      · simp at h2
      · exact hs.mem.ij l1 l2 o1 o2 b k k' h1 h2 hk1 hk2
  · obtain ⟨φ, N⟩ := hs.mem.ns
    have sub : ∀ l' o', get ((l, none) :: s.H) l' = some o' → get s.H l' = some o' := fun l' o' h => by
      rw [get_cons] at h
      split at h
      · simp at h
      · exact h
    refine hs.mem.nsj N (fun _ _ _ _ _ _ _ _ _ _ _ _ _ _ _ _ hy => hy.grow hc g) (fun l' o' i b k hl' _ hp => ?_) (fun l' o' hl' _ => ⟨sub l' o' hl', rfl, fun _ _ => rfl⟩) (fun l' o' b k hl' hk => .inr ⟨l', o', k, sub l' o' hl', hk⟩) (fun _ _ => .inl rfl) (Nat.le_refl _)
    obtain ⟨g1, g2, g3⟩ := N.own _ _ _ _ hp
    have h3 : ¬ (c.D b ∨ ∃ k, κ l = some (b, k)) := fun h => h.elim g3 fun ⟨k2, hk2⟩ => N.out _ _ _ _ hp _ _ _ ho hk2
    exact ⟨.inr ⟨g1, g2, h3⟩, h3⟩
theorem ro_freezeL {ops : Array Oper} {rest : List Oper} {l m sz : Nat} {el : TypeId} {es us : List V} (ts : List Nat) (ht : allT s (.os l m) ts) (ho : get s.H l = some (.row el sz es)) (hu : es.take m = us) (hm : us.length = m) (hk : growOk k = true)
    (h : RO P fn n out k r ops rest ⟨putT (.sl sz us) ts s.T, (l, none) :: s.H⟩) : RO P fn n out k r ops rest s := by
  intro c κ a w Q hc hs hq
  have g := frz_grow hc.ok hs ho
  exact h (frzCx c κ w l) κ a w Q (g.okP hc) (frz_satL hc.ok hs ho fun t h => frz_row hc.ok hs (allT_mem ht t h) ho hu hm) fun e a w h => hq e a w (post_grow g hk h)
/-- a call of what grows: objects M go in to be turned, objects F come back -/
theorem ro_callGM {ops : Array Oper} {l2 : List Oper} {x : Operand} {f : FuncId} {caps : List V} {xs : List Operand} {ts : Array TypeId} {vs as : List V} {res : V} {k0 ks kh : List Nat} (M F : List (Nat × Nat)) {hin hout : List (Nat × Option O)} {d : Nat} {ty : TypeId} {pos : String} {af : Array Edge}
    (hfv : Fv s true x f caps k0) (he : entB P f = true) (hx : Ods s true xs vs ks) (hp : Passes s false M as (vs ++ caps) kh)
    (hcon : ConG P f as hin res hout) (hin' : subH (rn M) s hin) (hok : callOk M F hin hout res = true) (hnn : (hin ++ hout).all (fun p => match p.2 with | some o => !o.isNest | none => true) = true) (hf : F.all (fun p => freshB p.2 s) = true) (hd : Nat.blt d n = true) (hk : growOk k = true)
    (h : RO P fn n out k r ops l2 ⟨(d, some (true, res.ren (rn (M ++ F)))) :: s.T, hren (rn (M ++ F)) hout ++ ((M ++ F).map fun p => (p.2, none)) ++ s.H⟩) :
    RO P fn n out k r ops (⟨some d, .call ⟨.value x, ⟨xs⟩, ts⟩, ty, pos, af, none⟩ :: l2) s := by
  intro c κ a w Q hc hs hq
  have hd' : d < n := Nat.le_of_ble_eq_true hd
  refine wpList_step fun K hK => ?_
  rw [(Gd.n : Gd ops s none true []).wanted hs rfl]
  simp only [if_true]
  simp only [callOk, Bool.and_eq_true] at hok
  obtain ⟨⟨⟨⟨⟨⟨⟨⟨⟨⟨⟨c1, c2⟩, c3⟩, c4⟩, c5⟩, c6⟩, c7⟩, c8⟩, c9⟩, c10⟩, c11⟩, c12⟩ := hok
  have e1 := eqB_spec c1
  have nM1 := nodup_spec c3
  have nM2 := nodup_spec c4
  have nF1 := nodup_spec c6
  have nF2 := nodup_spec c7
  have ltM : ∀ p ∈ M, p.1 < 100 := fun p hp => Nat.le_of_ble_eq_true ((List.all_eq_true.1 c2) p hp)
  have geF : ∀ p ∈ F, 100 ≤ p.1 := fun p hp => Nat.le_of_ble_eq_true ((List.all_eq_true.1 c5) p hp)
  have disj : ∀ p ∈ F, ∀ q ∈ M, p.2 ≠ q.2 := fun p hp q hq e => by
    have := (List.all_eq_true.1 c8) p hp
    simp only [Bool.not_eq_true', List.any_eq_false] at this
    have := this q.2 (List.mem_map.2 ⟨q, hq, rfl⟩)
    simp [e] at this
  have frF : ∀ p ∈ F, Fresh p.2 s := fun p hp => Fresh.of ((List.all_eq_true.1 hf) p hp)
  -- the renaming on labels that come in
  have lookM : ∀ l ∈ M.map (·.1), ∃ L, look M l = some L ∧ rn M l = L ∧ rn (M ++ F) l = L ∧ (l, L) ∈ M := fun l hl => by
    obtain ⟨L, hL⟩ := look_of_mem hl
    exact ⟨L, hL, by simp [rn, hL], by simp [rn, look_append, hL], look_mem hL⟩
  have lookF : ∀ l ∈ F.map (·.1), ∃ L, rn (M ++ F) l = L ∧ (l, L) ∈ F ∧ look (swp F) L = some l := fun l hl => by
    obtain ⟨L, hL⟩ := look_of_mem hl
    have hm := look_mem hL
    have hnM : look M l = none := by
      cases hk : look M l with
      | none => rfl
      | some q => have := ltM _ (look_mem hk); have := geF _ hm; simp at *; omega
    refine ⟨L, by simp [rn, look_append, hnM, hL], hm, look_eq ?_ ?_⟩
    · simp only [swp, List.map_map]; exact nF2
    · simp only [swp, List.mem_map]; exact ⟨(l, L), hm, rfl⟩
  have hliveS : ∀ l o, (l, some o) ∈ hin → get hin l = some o := fun l o hlo => by
    have hnd : (hin.map (·.1)).Nodup := by rw [← e1]; exact nM1
    clear hin' hcon c1 c9 e1 hp hnn
    induction hin with
    | nil => simp at hlo
    | cons p r ih =>
      obtain ⟨k, v⟩ := p
      rw [List.map_cons, List.nodup_cons] at hnd
      rw [get_cons]
      rcases List.mem_cons.1 hlo with h | h
      · injection h with h1 h2; subst h1; subst h2; simp
      · have : k ≠ l := fun e => hnd.1 (by rw [e]; exact List.mem_map.2 ⟨(l, some o), h, rfl⟩)
        simp only [this, if_false]
        exact ih h hnd.2
  have hinObj : ∀ l ∈ M.map (·.1), ∃ o, get hin l = some o ∧ get s.H (rn M l) = some (o.ren (rn M)) ∧ ∀ x ∈ o.labs, x ∈ M.map (·.1) := fun l hl => by
    have hl' : l ∈ hin.map (·.1) := by rw [← e1]; exact hl
    obtain ⟨p, hp, e⟩ := List.mem_map.1 hl'
    obtain ⟨k, v⟩ := p
    simp at e; subst e
    have h9 := (List.all_eq_true.1 c9) _ hp
    cases v with
    | none => simp at h9
    | some o =>
      have hg1 := hliveS k o hp
      have h2 := subH_get hin' k o hg1
      obtain ⟨L, hL, hL2, _, hLm⟩ := lookM k hl
      refine ⟨o, hg1, ?_, fun x hx => subset_spec h9 hx⟩
      rw [hL2] at h2 ⊢
      exact h2
  have hl : Live s M := fun p hp => by
    obtain ⟨o, _, ho, _⟩ := hinObj p.1 (List.mem_map.2 ⟨p, hp, rfl⟩)
    have : rn M p.1 = p.2 := by simp [rn, look_eq nM1 (show (p.1, p.2) ∈ M from hp)]
    rw [this] at ho
    exact ⟨_, ho⟩
  obtain ⟨ys, hfn, hys⟩ := hfv.rep hs rfl
  have hvs := hx.rep hs rfl
  have hargs : All2 (RepT c κ) (vs ++ caps) (xs.map a.eval ++ ys) := hvs.append (hys.mono fun u hu y hy => by
    have h1 := repB_repC hy
    cases u with
    | st cs => exact (by cases (show RepR c (.st cs) y from hy))
    | tup cs => exact (by cases (show RepR c (.tup cs) y from hy))
    | _ => exact h1)
  have hXS := XS.of hs.mem hl
  have nnI : ∀ l o, get hin l = some o → o.isNest = false := fun l o h => by
    have := (List.all_eq_true.1 hnn) _ (List.mem_append_left hout (get_mem h)); simpa using this
  have nnO : ∀ l o, get hout l = some o → o.isNest = false := fun l o h => by
    have := (List.all_eq_true.1 hnn) _ (List.mem_append_right hin (get_mem h)); simpa using this
  have hin2 := hp.rep hc hs.mem hXS hargs (full := false) (w := w)
  have κM : ∀ l ∈ M.map (·.1), (cxOf c κ w false M).κ l = κ (rn M l) := fun l hl' => by
    obtain ⟨L, hL, hL2, _, _⟩ := lookM l hl'
    simp only [cxX, hL, hL2]
  have keyM : ∀ l o, get hin l = some o → l ∈ M.map (·.1) := fun l o h => by rw [e1]; exact get_of_key h
  have hmem : Mem (cxOf c κ w false M) (cxOf c κ w false M).κ hin w := by
    refine ⟨Ext.refl _ _, fun l o hlo => ?_, fun l o b k hlo hk => ?_, fun l l' o o' b k k' hlo hlo' hk hk' => ?_, fun l _ => rfl, Ns.nil nnI⟩
    · obtain ⟨o', h1, h2, h3⟩ := hinObj l (keyM l o hlo)
      rw [hlo] at h1; injection h1 with h1; subst h1
      have := hs.mem.hp _ _ h2
      have h4 : Holds c (cxOf c κ w false M).κ w l o := Holds.unren (κ' := κ) (f := rn M) (κM l (keyM l o hlo)).symm (fun x hx => (κM x (h3 x hx)).symm) this
      exact h4.cx fun u hu y hy => rep_in hc hs.mem hXS hy
    · rw [κM l (keyM l o hlo)] at hk
      obtain ⟨L, hL, hL2, _, hLm⟩ := lookM l (keyM l o hlo)
      rw [hL2] at hk
      exact ⟨.inr ⟨(l, L), hLm, k, hk⟩, fun hD => hD.2.1 ⟨(l, L), hLm, k, hk⟩⟩
    · rw [κM l (keyM l o hlo)] at hk
      rw [κM l' (keyM l' o' hlo')] at hk'
      obtain ⟨L, hL, hL2, _, hLm⟩ := lookM l (keyM l o hlo)
      obtain ⟨L', hL', hL2', _, hLm'⟩ := lookM l' (keyM l' o' hlo')
      rw [hL2] at hk
      rw [hL2'] at hk'
      obtain ⟨q, hq⟩ := hl _ hLm
      obtain ⟨q', hq'⟩ := hl _ hLm'
      have hLL := hs.mem.ij L L' q q' b k k' hq hq' hk hk'
      subst hLL
      have h1 : look (swp M) L = some l := look_eq (by simp only [swp, List.map_map]; exact nM2) (by simp only [swp, List.mem_map]; exact ⟨(l, L), hLm, rfl⟩)
      have h2 : look (swp M) L = some l' := look_eq (by simp only [swp, List.map_map]; exact nM2) (by simp only [swp, List.mem_map]; exact ⟨(l', L), hLm', rfl⟩)
      rw [h1] at h2; exact Option.some.inj h2
  unfold Oper.wp
  rw [run_call he hfn]
  simp only [Oper.upon]
  refine (hcon (cxOf c κ w false M) _ (cx_okP hc hs.mem false M hXS) hin2 hmem).mono fun e w' ⟨x', c2, κ2, he', g2, hr, hm⟩ => ?_
  subst he'
  have hxw : Ext (XOf κ M) w w' := g2.ext.trans' hm.ext g2.X
  -- the caller's new map of labels
  let κn : Ka := fun L => match look (swp F) L with
    | some l => κ2 l
    | none => κ L
  have κold : ∀ L, (∀ p ∈ F, p.2 ≠ L) → κn L = κ L := fun L hL => by
    show (match look (swp F) L with | some l => κ2 l | none => κ L) = κ L
    cases hk : look (swp F) L with
    | none => rfl
    | some l =>
      have := look_mem hk
      simp only [swp, List.mem_map] at this
      obtain ⟨p, hp, e⟩ := this
      injection e with e1 e2
      exact absurd e1 (hL p hp)
  have κR : ∀ l ∈ (M ++ F).map (·.1), κn (rn (M ++ F) l) = κ2 l := fun l hl' => by
    rw [List.map_append, List.mem_append] at hl'
    rcases hl' with hl' | hl'
    · obtain ⟨L, hL, hL2, hL3, hLm⟩ := lookM l hl'
      rw [hL3, κold L (fun p hp e => disj p hp _ hLm e)]
      have := hm.pin l (ltM _ hLm)
      rw [this, g2.κ, κM l hl', hL2]
    · obtain ⟨L, hL, hLm, hsw⟩ := lookF l hl'
      rw [hL]
      show (match look (swp F) L with | some l => κ2 l | none => κ L) = κ2 l
      rw [hsw]
  have inj : ∀ x ∈ (M ++ F).map (·.1), ∀ y ∈ (M ++ F).map (·.1), rn (M ++ F) x = rn (M ++ F) y → x = y := fun x hx y hy e => by
    rw [List.map_append, List.mem_append] at hx hy
    rcases hx with hx | hx <;> rcases hy with hy | hy
    · obtain ⟨L, _, _, h3, hm1⟩ := lookM x hx
      obtain ⟨L', _, _, h3', hm2⟩ := lookM y hy
      rw [h3, h3'] at e; subst e
      have h1 : look (swp M) L = some x := look_eq (by simp only [swp, List.map_map]; exact nM2) (by simp only [swp, List.mem_map]; exact ⟨(x, L), hm1, rfl⟩)
      have h2 : look (swp M) L = some y := look_eq (by simp only [swp, List.map_map]; exact nM2) (by simp only [swp, List.mem_map]; exact ⟨(y, L), hm2, rfl⟩)
      rw [h1] at h2; exact Option.some.inj h2
    · obtain ⟨L, _, _, h3, hm1⟩ := lookM x hx
      obtain ⟨L', h3', hm2, _⟩ := lookF y hy
      rw [h3, h3'] at e; subst e
      exact ((disj _ hm2 _ hm1) rfl).elim
    · obtain ⟨L, h3, hm1, _⟩ := lookF x hx
      obtain ⟨L', _, _, h3', hm2⟩ := lookM y hy
      rw [h3, h3'] at e; subst e
      exact ((disj _ hm1 _ hm2) rfl).elim
    · obtain ⟨L, h3, _, hs1⟩ := lookF x hx
      obtain ⟨L', h3', _, hs2⟩ := lookF y hy
      rw [h3, h3'] at e; subst e
      rw [hs1] at hs2; exact Option.some.inj hs2
  have outK : ∀ l ∈ hout.map (·.1), l ∈ (M ++ F).map (·.1) := fun l hl' => subset_spec c10 hl'
  have outO : ∀ l o, get hout l = some o → ∀ x ∈ o.labs, x ∈ (M ++ F).map (·.1) := fun l o h x hx => subset_spec ((List.all_eq_true.1 c11) _ (get_mem h)) hx
  have Xo : ∀ b, XOf κ M b → (c.w.heap.size ≤ b ∨ c.X b) ∧ ¬ c.D b ∧ b < w.heap.size := fun b hb => X_own hXS hb
  have hX2 : ∀ b, c2.X b → w.heap.size ≤ b ∨ XOf κ M b := fun b hb => g2.X b hb
  have hcw := hs.mem.ext.size
  have hww := hxw.size
  have hgr : Grow c ⟨w', fun b => c.D b ∨ (c2.D b ∧ (w.heap.size ≤ b ∨ XOf κ M b)), fun b => b < w'.heap.size ∧ (c.w.heap.size ≤ b ∨ c.X b) ∧ ¬ (c.D b ∨ (c2.D b ∧ (w.heap.size ≤ b ∨ XOf κ M b))), c.κ⟩ :=
    ⟨hs.mem.ext.trans' hxw (fun b hb => (Xo b hb).1), fun _ h => .inl h, fun _ h => h.2.1, fun b h => h.elim .inl fun h => .inr (h.2.elim (fun h => .inl (Nat.le_trans hcw h)) fun h => (Xo b h).1),
      ⟨fun b h => h.elim (fun h => by have := hc.ok.lt b h; show b < w'.heap.size; omega) fun h => by have := g2.ok.lt b h.1; have := hm.ext.size; show b < w'.heap.size; omega, fun b h hx => hx.2.2 h⟩, rfl⟩
  generalize hc' : (⟨w', fun b => c.D b ∨ (c2.D b ∧ (w.heap.size ≤ b ∨ XOf κ M b)), fun b => b < w'.heap.size ∧ (c.w.heap.size ≤ b ∨ c.X b) ∧ ¬ (c.D b ∨ (c2.D b ∧ (w.heap.size ≤ b ∨ XOf κ M b))), c.κ⟩ : Cx) = c' at hgr
  have c'w : c'.w = w' := by rw [← hc']
  have c'D : ∀ b, c'.D b ↔ (c.D b ∨ (c2.D b ∧ (w.heap.size ≤ b ∨ XOf κ M b))) := fun b => by rw [← hc']
  have c'X : ∀ b, c'.X b ↔ (b < w'.heap.size ∧ (c.w.heap.size ≤ b ∨ c.X b) ∧ ¬ (c.D b ∨ (c2.D b ∧ (w.heap.size ≤ b ∨ XOf κ M b)))) := fun b => by rw [← hc']
  have up2 : ∀ {u : V} {y : Value}, RepR c2 u y → RepR c' u y := fun h => h.mono (fun b hb => (c'D b).2 ((g2.N b hb).elim (fun h => .inl (h.2.2.elim (fun h => by simp at h) id)) fun h => .inr ⟨hb, h⟩)) (fun ad had => by
    rw [c'w]; exact cell_eq (hm.ext.block _ (g2.ok.lt _ had) (fun hx => g2.ok.ap _ had hx)))
  -- a live label of the new state: one that came out of the call, or an old one
  have live : ∀ L o, get (hren (rn (M ++ F)) hout ++ ((M ++ F).map fun p => (p.2, none)) ++ s.H) L = some o → (∃ l o', l ∈ hout.map (·.1) ∧ rn (M ++ F) l = L ∧ get hout l = some o' ∧ o = o'.ren (rn (M ++ F))) ∨ ((∀ p ∈ M ++ F, p.2 ≠ L) ∧ get s.H L = some o) := fun L o h => by
    rw [List.append_assoc] at h
    by_cases hL : ∃ l ∈ hout.map (·.1), rn (M ++ F) l = L
    · left
      obtain ⟨l, hl', e⟩ := hL
      have hk : L ∈ (hren (rn (M ++ F)) hout).map (·.1) := by
        simp only [hren, List.map_map, List.mem_map]
        obtain ⟨p, hp, e2⟩ := List.mem_map.1 hl'
        exact ⟨p, hp, by simp [e2, e]⟩
      rw [get_app_some hk] at h
      exact get_hren (fun x hx y hy => inj x (outK x hx) y (outK y hy)) h
    · right
      rw [get_hren_none (fun x hx e => hL ⟨x, hx, e⟩)] at h
      by_cases hM : ∃ p ∈ M ++ F, p.2 = L
      · obtain ⟨p, hp, e⟩ := hM
        have hk : L ∈ (((M ++ F).map fun p => (p.2, (none : Option O)))).map (·.1) := by
          simp only [List.map_map, List.mem_map]; exact ⟨p, hp, e⟩
        rw [get_app_some hk] at h
        have := get_mem h
        simp at this
      · refine ⟨fun p hp e => hM ⟨p, hp, e⟩, ?_⟩
        rw [get_append_no (fun ⟨q, hq, e⟩ => by obtain ⟨p, hp, e2⟩ := List.mem_map.1 hq; subst e2; exact hM ⟨p, hp, e⟩)] at h
        exact h
  have notX : ∀ L o b k, (∀ p ∈ M, p.2 ≠ L) → get s.H L = some o → κ L = some (b, k) → ¬ XOf κ M b := fun L o b k hM ho hk ⟨p, hp, k', hk'⟩ => by
    obtain ⟨q, hq⟩ := hl p hp
    exact hM p hp (hs.mem.ij _ _ _ _ _ _ _ hq ho hk' hk)
  have kold : ∀ L o, get s.H L = some o → ∀ x ∈ o.labs, κn x = κ x := fun L o ho x hx => κold x (fun p hp e => (frF p hp).h _ (get_mem ho) o rfl (e ▸ hx))
  have hresR : RepT c' κn (res.ren (rn (M ++ F))) x' := (hr.ren (κ' := κn) (fun l hl' => κR l (subset_spec c12 hl'))).cx (fun u hu y hy => up2 hy)
  have hsat : Sat n c' κn ⟨(d, some (true, res.ren (rn (M ++ F)))) :: s.T, hren (rn (M ++ F)) hout ++ ((M ++ F).map fun p => (p.2, none)) ++ s.H⟩ (a.put (some d) x') w' := by
    refine ⟨hs.hd, by simp [Act.put, hs.hn], fun t e' ht => ?_, ⟨by rw [c'w]; exact Ext.refl _ _, fun L o hL => ?_, fun L o b k hL hk => ?_, fun L1 L2 o1 o2 b k k' h1 h2 hk1 hk2 => ?_, fun l hl100 => ?_, ?_⟩⟩
    · rw [get_cons] at ht
      simp only [Act.put]
      rw [getD_set (by rw [hs.hn]; exact hd')]
      split
      · rename_i he2; subst he2; simp at ht; subst ht
        exact ⟨fun _ => hresR, fun h => by simp at h⟩
      · rename_i he2; simp only [he2, if_false] at ht
        exact ((hs.tm t e' ht).grow hc.ok hgr).turn fun l hl' => κold l (fun p hp e => (frF p hp).t _ (get_mem ht) e' rfl (e ▸ hl'))
    · rcases live L o hL with ⟨l, o', hl', hlL, ho', rfl⟩ | ⟨hM, ho⟩
      · subst hlL
        have hho := hm.hp l o' ho'
        have hho' : Holds c' κ2 w' l o' := hho.cx fun u hu y hy => up2 hy
        exact hho'.ren (κ' := κn) (f := rn (M ++ F)) (κR l (outK l hl')) (fun x hx => κR x (outO l o' ho' x hx))
      · have hkL : κn L = κ L := κold L (fun p hp => hM p (List.mem_append_right _ hp))
        exact ((hs.mem.hp L o ho).cx (fun u _ y hy => hy.grow hc.ok hgr)).turn hkL (fun x hx => kold L o ho x hx) (fun b k hk => hxw.block b (hs.mem.lt ho hk) (notX L o b k (fun p hp => hM p (List.mem_append_left _ hp)) ho hk))
    · rcases live L o hL with ⟨l, o', hl', hlL, ho', rfl⟩ | ⟨hM, ho⟩
      · subst hlL
        rw [κR l (outK l hl')] at hk
        obtain ⟨h1, h2⟩ := hm.ow l o' b k ho' hk
        have hlt := hm.lt ho' hk
        have h3 : w.heap.size ≤ b ∨ XOf κ M b := h1.elim (fun h => .inl (Nat.le_trans g2.ext.size h)) (hX2 b)
        have h4 : c.w.heap.size ≤ b ∨ c.X b := h3.elim (fun h => .inl (Nat.le_trans hcw h)) fun h => (Xo b h).1
        have h5 : ¬ (c.D b ∨ (c2.D b ∧ (w.heap.size ≤ b ∨ XOf κ M b))) := fun h => h.elim (fun h => h3.elim (fun h6 => by have := hc.ok.lt b h; omega) fun h6 => (Xo b h6).2.1 h) fun h => h2 h.1
        exact ⟨.inr ((c'X b).2 ⟨hlt, h4, h5⟩), fun h => h5 ((c'D b).1 h)⟩
      · rw [κold L (fun p hp => hM p (List.mem_append_right _ hp))] at hk
        have h1 := hs.mem.ow L o b k ho hk
        have h2 := hs.mem.lt ho hk
        have h3 := notX L o b k (fun p hp => hM p (List.mem_append_left _ hp)) ho hk
        have h5 : ¬ (c.D b ∨ (c2.D b ∧ (w.heap.size ≤ b ∨ XOf κ M b))) := fun h => h.elim h1.2 fun h => h.2.elim (fun h => by omega) h3
        exact ⟨.inr ((c'X b).2 ⟨by omega, h1.1, h5⟩), fun h => h5 ((c'D b).1 h)⟩
    · rcases live L1 o1 h1 with ⟨l, o', hl', hlL, ho', rfl⟩ | ⟨hM, ho⟩ <;> rcases live L2 o2 h2 with ⟨m, p', hm', hmL, hp', rfl⟩ | ⟨hM', ho2⟩
      · subst hlL; subst hmL
        rw [κR l (outK l hl')] at hk1
        rw [κR m (outK m hm')] at hk2
        rw [hm.ij l m o' p' b k k' ho' hp' hk1 hk2]
      · subst hlL
        rw [κR l (outK l hl')] at hk1
        rw [κold L2 (fun p hp => hM' p (List.mem_append_right _ hp))] at hk2
        exfalso
        have hlt := hs.mem.lt ho2 hk2
        rcases (hm.ow l o' b k ho' hk1).1 with h3 | h3
        · have := g2.ext.size; have : w.heap.size ≤ b := Nat.le_trans this h3; omega
        · exact (hX2 b h3).elim (fun h => by omega) (notX L2 o2 b k' (fun p hp => hM' p (List.mem_append_left _ hp)) ho2 hk2)
      · subst hmL
        rw [κold L1 (fun p hp => hM p (List.mem_append_right _ hp))] at hk1
        rw [κR m (outK m hm')] at hk2
        exfalso
        have hlt := hs.mem.lt ho hk1
        rcases (hm.ow m p' b k' hp' hk2).1 with h3 | h3
        · have := g2.ext.size; have : w.heap.size ≤ b := Nat.le_trans this h3; omega
        · exact (hX2 b h3).elim (fun h => by omega) (notX L1 o1 b k (fun p hp => hM p (List.mem_append_left _ hp)) ho hk1)
      · rw [κold L1 (fun p hp => hM p (List.mem_append_right _ hp))] at hk1
        rw [κold L2 (fun p hp => hM' p (List.mem_append_right _ hp))] at hk2
        exact hs.mem.ij L1 L2 o1 o2 b k k' ho ho2 hk1 hk2
    · rw [κold l (fun p hp e => by have := (frF p hp).ge; omega)]
      rw [hs.mem.pin l hl100, hgr.κ]
    · obtain ⟨φ, N⟩ := hs.mem.ns
      have notXi : ∀ L i b k, φ L i = some (b, k) → ¬ XOf κ M b := fun L i b k hp ⟨p, hpM, k', hk'⟩ => by
        obtain ⟨q, hq⟩ := hl p hpM
        exact N.out _ _ _ _ hp _ _ _ hq hk'
      refine hs.mem.nsj N (fun _ _ _ _ _ _ _ _ _ _ _ _ _ _ _ _ hy => hy.grow hc.ok hgr) (fun L o i b k hL _ hp => ?_) (fun L o hL hN => ?_) (fun L o b k hL hk => ?_) (fun b hb => ?_) hxw.size
      · obtain ⟨g1, g2', g3⟩ := N.own _ _ _ _ hp
        have h5 : ¬ (c.D b ∨ (c2.D b ∧ (w.heap.size ≤ b ∨ XOf κ M b))) := fun h => h.elim g3 fun h => h.2.elim (fun h => by omega) (notXi L i b k hp)
        exact ⟨.inr ((c'X b).2 ⟨by omega, g2', h5⟩), fun h => h5 ((c'D b).1 h)⟩
      · rcases live L o hL with ⟨l, o', hl', hlL, ho', rfl⟩ | ⟨hM, ho⟩
        · have := nnO l o' ho'
          cases o' <;> simp [O.isNest, O.ren] at this hN
        · exact ⟨ho, κold L (fun p hp => hM p (List.mem_append_right _ hp)), fun x hx => kold L o ho x hx⟩
      · rcases live L o hL with ⟨l, o', hl', hlL, ho', rfl⟩ | ⟨hM, ho⟩
        · subst hlL
          rw [κR l (outK l hl')] at hk
          have h1 := (hm.ow l o' b k ho' hk).1
          have h3 : w.heap.size ≤ b ∨ XOf κ M b := h1.elim (fun h => .inl (Nat.le_trans g2.ext.size h)) (hX2 b)
          rcases h3 with h3 | ⟨p, hpM, k', hk'⟩
          · exact .inl h3
          · obtain ⟨q, hq⟩ := hl p hpM
            exact .inr ⟨_, _, k', hq, hk'⟩
        · rw [κold L (fun p hp => hM p (List.mem_append_right _ hp))] at hk
          exact .inr ⟨L, o, k, ho, hk⟩
      · by_cases hX : XOf κ M b
        · obtain ⟨p, hpM, k', hk'⟩ := hX
          obtain ⟨o', g1, g2', _⟩ := hinObj p.1 (List.mem_map.2 ⟨p, hpM, rfl⟩)
          have e : rn M p.1 = p.2 := by simp [rn, look_eq nM1 (show (p.1, p.2) ∈ M from hpM)]
          rw [e] at g2'
          refine .inr ⟨_, _, k', g2', ?_, hk'⟩
          have := nnI _ _ g1
          cases o' <;> simp [O.isNest, O.ren] at this ⊢
        · exact .inl (hxw.block b hb hX)
  exact hK _ _ (h c' κn _ _ Q (hgr.okP hc) hsat fun e a w h => hq e a w (post_grow hgr hk h))
end
end Go.Proofs.YtibbfdojcdkopaaGreat.E
