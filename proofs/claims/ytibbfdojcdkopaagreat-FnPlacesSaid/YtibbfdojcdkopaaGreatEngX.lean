/-
  THE ENGINE, part X: regions that draw their order, with calls of what grows in them.
  Conditions: none; all of it is over any program.
-/
import Derived.Test.YtibbfdojcdkopaaGreatEngU
set_option linter.unusedVariables false
set_option linter.unusedSimpArgs false
set_option linter.unusedSectionVars false
set_option linter.unnecessarySimpa false
namespace Go.Proofs.YtibbfdojcdkopaaGreat.E
open Go Go.RowKit
section
variable {ρ : Type} {P : Program} {fn : Func} {n : Nat} {out : ρ → V × List (Nat × Option O)} {k : List (It ρ)} {r : ρ} {s s' : S}
/-- a call of what grows: objects M go in to be turned, objects F come back -/
theorem wp_callGM {x : Operand} {f : FuncId} {caps : List V} {xs : List Operand} {ts : Array TypeId} {vs as : List V} {res : V} {k0 ks kh : List Nat} (M F : List (Nat × Nat)) {hin hout : List (Nat × Option O)} {d : Nat} {ty : TypeId} {pos : String} {af : Array Edge}
    (hfv : Fv s true x f caps k0) (he : entB P f = true) (hx : Ods s true xs vs ks) (hp : Passes s false M as (vs ++ caps) kh)
    (hcon : ConG P f as hin res hout) (hin' : subH (rn M) s hin) (hok : callOk M F hin hout res = true) (hnn : (hin ++ hout).all (fun p => match p.2 with | some o => !o.isNest | none => true) = true) (frF : ∀ p ∈ F, Fresh p.2 s) (hd : Nat.blt d n = true) :
    ∀ (c : Cx) (κ : Ka) (a : Act) (w : World), c.okP P → Sat n c κ s a w → ∀ (K : Act → World → Prop) (Q : Exit → Act → World → Prop), (∀ c' a' w' κ', Grow c c' → Sat n c' κ' ⟨(d, some (true, res.ren (rn (M ++ F)))) :: s.T, hren (rn (M ++ F)) hout ++ ((M ++ F).map fun p => (p.2, none)) ++ s.H⟩ a' w' → K a' w') →
      (⟨some d, .call ⟨.value x, ⟨xs⟩, ts⟩, ty, pos, af, none⟩ : Oper).wp P a w K Q := by
  intro c κ a w hc hs K Q hK
  have hd' : d < n := Nat.le_of_ble_eq_true hd
  simp only [callOk, Bool.and_eq_true] at hok
  obtain ⟨⟨⟨⟨⟨⟨⟨⟨⟨⟨⟨c1, c2⟩, c3⟩, c4⟩, c5⟩, c6⟩, c7⟩, c8⟩, c9⟩, c10⟩, c11⟩, c12⟩ := hok
  have e1 := eqB_spec c1
  have nM1 := nodup_spec c3
  have nM2 := nodup_spec c4
  have nF1 := nodup_spec c6
  have nF2 := nodup_spec c7
  have ltM : ∀ p ∈ M, p.1 < 100 := fun p hp => Nat.le_of_ble_eq_true ((List.all_eq_true.1 c2) p hp)
  have geF : ∀ p ∈ F, 100 ≤ p.1 := fun p hp => Nat.le_of_ble_eq_true ((List.all_eq_true.1 c5) p hp)
  have disj : ∀ p ∈ F, ∀ q ∈ M, p.2 ≠ q.2 := fun p hp q hq e => by
    have := (List.all_eq_true.1 c8) p hp
    simp only [Bool.not_eq_true', List.any_eq_false] at this
    have := this q.2 (List.mem_map.2 ⟨q, hq, rfl⟩)
    simp [e] at this
  -- the renaming on labels that come in
  have lookM : ∀ l ∈ M.map (·.1), ∃ L, look M l = some L ∧ rn M l = L ∧ rn (M ++ F) l = L ∧ (l, L) ∈ M := fun l hl => by
    obtain ⟨L, hL⟩ := look_of_mem hl
    exact ⟨L, hL, by simp [rn, hL], by simp [rn, look_append, hL], look_mem hL⟩
  have lookF : ∀ l ∈ F.map (·.1), ∃ L, rn (M ++ F) l = L ∧ (l, L) ∈ F ∧ look (swp F) L = some l := fun l hl => by
    obtain ⟨L, hL⟩ := look_of_mem hl
    have hm := look_mem hL
    have hnM : look M l = none := by
      cases hk : look M l with
      | none => rfl
      | some q => have := ltM _ (look_mem hk); have := geF _ hm; simp at *; omega
    refine ⟨L, by simp [rn, look_append, hnM, hL], hm, look_eq ?_ ?_⟩
    · simp only [swp, List.map_map]; exact nF2
    · simp only [swp, List.mem_map]; exact ⟨(l, L), hm, rfl⟩
  have hliveS : ∀ l o, (l, some o) ∈ hin → get hin l = some o := fun l o hlo => by
    have hnd : (hin.map (·.1)).Nodup := by rw [← e1]; exact nM1
    clear hin' hcon c1 c9 e1 hp hnn
    induction hin with
    | nil => simp at hlo
    | cons p r ih =>
      obtain ⟨k, v⟩ := p
      rw [List.map_cons, List.nodup_cons] at hnd
      rw [get_cons]
      rcases List.mem_cons.1 hlo with h | h
      · injection h with h1 h2; subst h1; subst h2; simp
      · have : k ≠ l := fun e => hnd.1 (by rw [e]; exact List.mem_map.2 ⟨(l, some o), h, rfl⟩)
        simp only [this, if_false]
        exact ih h hnd.2
  have hinObj : ∀ l ∈ M.map (·.1), ∃ o, get hin l = some o ∧ get s.H (rn M l) = some (o.ren (rn M)) ∧ ∀ x ∈ o.labs, x ∈ M.map (·.1) := fun l hl => by
    have hl' : l ∈ hin.map (·.1) := by rw [← e1]; exact hl
    obtain ⟨p, hp, e⟩ := List.mem_map.1 hl'
    obtain ⟨k, v⟩ := p
    simp at e; subst e
    have h9 := (List.all_eq_true.1 c9) _ hp
    cases v with
    | none => simp at h9
    | some o =>
      have hg1 := hliveS k o hp
      have h2 := subH_get hin' k o hg1
      obtain ⟨L, hL, hL2, _, hLm⟩ := lookM k hl
      refine ⟨o, hg1, ?_, fun x hx => subset_spec h9 hx⟩
      rw [hL2] at h2 ⊢
      exact h2
  have hl : Live s M := fun p hp => by
    obtain ⟨o, _, ho, _⟩ := hinObj p.1 (List.mem_map.2 ⟨p, hp, rfl⟩)
    have : rn M p.1 = p.2 := by simp [rn, look_eq nM1 (show (p.1, p.2) ∈ M from hp)]
    rw [this] at ho
    exact ⟨_, ho⟩
  obtain ⟨ys, hfn, hys⟩ := hfv.rep hs rfl
  have hvs := hx.rep hs rfl
  have hargs : All2 (RepT c κ) (vs ++ caps) (xs.map a.eval ++ ys) := hvs.append (hys.mono fun u hu y hy => by
    have h1 := repB_repC hy
    cases u with
    | st cs => exact (by cases (show RepR c (.st cs) y from hy))
    | tup cs => exact (by cases (show RepR c (.tup cs) y from hy))
    | _ => exact h1)
  have hXS := XS.of hs.mem hl
  have nnI : ∀ l o, get hin l = some o → o.isNest = false := fun l o h => by
    have := (List.all_eq_true.1 hnn) _ (List.mem_append_left hout (get_mem h)); simpa using this
  have nnO : ∀ l o, get hout l = some o → o.isNest = false := fun l o h => by
    have := (List.all_eq_true.1 hnn) _ (List.mem_append_right hin (get_mem h)); simpa using this
  have hin2 := hp.rep hc hs.mem hXS hargs (full := false) (w := w)
  have κM : ∀ l ∈ M.map (·.1), (cxOf c κ w false M).κ l = κ (rn M l) := fun l hl' => by
    obtain ⟨L, hL, hL2, _, _⟩ := lookM l hl'
    simp only [cxX, hL, hL2]
  have keyM : ∀ l o, get hin l = some o → l ∈ M.map (·.1) := fun l o h => by rw [e1]; exact get_of_key h
  have hmem : Mem (cxOf c κ w false M) (cxOf c κ w false M).κ hin w := by
    refine ⟨Ext.refl _ _, fun l o hlo => ?_, fun l o b k hlo hk => ?_, fun l l' o o' b k k' hlo hlo' hk hk' => ?_, fun l _ => rfl, Ns.nil nnI⟩
    · obtain ⟨o', h1, h2, h3⟩ := hinObj l (keyM l o hlo)
      rw [hlo] at h1; injection h1 with h1; subst h1
      have := hs.mem.hp _ _ h2
      have h4 : Holds c (cxOf c κ w false M).κ w l o := Holds.unren (κ' := κ) (f := rn M) (κM l (keyM l o hlo)).symm (fun x hx => (κM x (h3 x hx)).symm) this
      exact h4.cx fun u hu y hy => rep_in hc hs.mem hXS hy
    · rw [κM l (keyM l o hlo)] at hk
      obtain ⟨L, hL, hL2, _, hLm⟩ := lookM l (keyM l o hlo)
      rw [hL2] at hk
      exact ⟨.inr ⟨(l, L), hLm, k, hk⟩, fun hD => hD.2.1 ⟨(l, L), hLm, k, hk⟩⟩
    · rw [κM l (keyM l o hlo)] at hk
      rw [κM l' (keyM l' o' hlo')] at hk'
      obtain ⟨L, hL, hL2, _, hLm⟩ := lookM l (keyM l o hlo)
      obtain ⟨L', hL', hL2', _, hLm'⟩ := lookM l' (keyM l' o' hlo')
      rw [hL2] at hk
      rw [hL2'] at hk'
      obtain ⟨q, hq⟩ := hl _ hLm
      obtain ⟨q', hq'⟩ := hl _ hLm'
      have hLL := hs.mem.ij L L' q q' b k k' hq hq' hk hk'
      subst hLL
      have h1 : look (swp M) L = some l := look_eq (by simp only [swp, List.map_map]; exact nM2) (by simp only [swp, List.mem_map]; exact ⟨(l, L), hLm, rfl⟩)
      have h2 : look (swp M) L = some l' := look_eq (by simp only [swp, List.map_map]; exact nM2) (by simp only [swp, List.mem_map]; exact ⟨(l', L), hLm', rfl⟩)
      rw [h1] at h2; exact Option.some.inj h2
  unfold Oper.wp
  rw [run_call he hfn]
  simp only [Oper.upon]
  refine (hcon (cxOf c κ w false M) _ (cx_okP hc hs.mem false M hXS) hin2 hmem).mono fun e w' ⟨x', c2, κ2, he', g2, hr, hm⟩ => ?_
  subst he'
  have hxw : Ext (XOf κ M) w w' := g2.ext.trans' hm.ext g2.X
  -- the caller's new map of labels
  let κn : Ka := fun L => match look (swp F) L with
    | some l => κ2 l
    | none => κ L
  have κold : ∀ L, (∀ p ∈ F, p.2 ≠ L) → κn L = κ L := fun L hL => by
    show (match look (swp F) L with | some l => κ2 l | none => κ L) = κ L
    cases hk : look (swp F) L with
    | none => rfl
    | some l =>
      have := look_mem hk
      simp only [swp, List.mem_map] at this
      obtain ⟨p, hp, e⟩ := this
      injection e with e1 e2
      exact absurd e1 (hL p hp)
  have κR : ∀ l ∈ (M ++ F).map (·.1), κn (rn (M ++ F) l) = κ2 l := fun l hl' => by
    rw [List.map_append, List.mem_append] at hl'
    rcases hl' with hl' | hl'
    · obtain ⟨L, hL, hL2, hL3, hLm⟩ := lookM l hl'
      rw [hL3, κold L (fun p hp e => disj p hp _ hLm e)]
      have := hm.pin l (ltM _ hLm)
      rw [this, g2.κ, κM l hl', hL2]
    · obtain ⟨L, hL, hLm, hsw⟩ := lookF l hl'
      rw [hL]
      show (match look (swp F) L with | some l => κ2 l | none => κ L) = κ2 l
      rw [hsw]
  have inj : ∀ x ∈ (M ++ F).map (·.1), ∀ y ∈ (M ++ F).map (·.1), rn (M ++ F) x = rn (M ++ F) y → x = y := fun x hx y hy e => by
    rw [List.map_append, List.mem_append] at hx hy
    rcases hx with hx | hx <;> rcases hy with hy | hy
    · obtain ⟨L, _, _, h3, hm1⟩ := lookM x hx
      obtain ⟨L', _, _, h3', hm2⟩ := lookM y hy
      rw [h3, h3'] at e; subst e
      have h1 : look (swp M) L = some x := look_eq (by simp only [swp, List.map_map]; exact nM2) (by simp only [swp, List.mem_map]; exact ⟨(x, L), hm1, rfl⟩)
      have h2 : look (swp M) L = some y := look_eq (by simp only [swp, List.map_map]; exact nM2) (by simp only [swp, List.mem_map]; exact ⟨(y, L), hm2, rfl⟩)
      rw [h1] at h2; exact Option.some.inj h2
    · obtain ⟨L, _, _, h3, hm1⟩ := lookM x hx
      obtain ⟨L', h3', hm2, _⟩ := lookF y hy
      rw [h3, h3'] at e; subst e
      exact ((disj _ hm2 _ hm1) rfl).elim
    · obtain ⟨L, h3, hm1, _⟩ := lookF x hx
      obtain ⟨L', _, _, h3', hm2⟩ := lookM y hy
      rw [h3, h3'] at e; subst e
      exact ((disj _ hm1 _ hm2) rfl).elim
    · obtain ⟨L, h3, _, hs1⟩ := lookF x hx
      obtain ⟨L', h3', _, hs2⟩ := lookF y hy
      rw [h3, h3'] at e; subst e
      rw [hs1] at hs2; exact Option.some.inj hs2
  have outK : ∀ l ∈ hout.map (·.1), l ∈ (M ++ F).map (·.1) := fun l hl' => subset_spec c10 hl'
  have outO : ∀ l o, get hout l = some o → ∀ x ∈ o.labs, x ∈ (M ++ F).map (·.1) := fun l o h x hx => subset_spec ((List.all_eq_true.1 c11) _ (get_mem h)) hx
  have Xo : ∀ b, XOf κ M b → (c.w.heap.size ≤ b ∨ c.X b) ∧ ¬ c.D b ∧ b < w.heap.size := fun b hb => X_own hXS hb
  have hX2 : ∀ b, c2.X b → w.heap.size ≤ b ∨ XOf κ M b := fun b hb => g2.X b hb
  have hcw := hs.mem.ext.size
  have hww := hxw.size
  have hgr : Grow c ⟨w', fun b => c.D b ∨ (c2.D b ∧ (w.heap.size ≤ b ∨ XOf κ M b)), fun b => b < w'.heap.size ∧ (c.w.heap.size ≤ b ∨ c.X b) ∧ ¬ (c.D b ∨ (c2.D b ∧ (w.heap.size ≤ b ∨ XOf κ M b))), c.κ⟩ :=
    ⟨hs.mem.ext.trans' hxw (fun b hb => (Xo b hb).1), fun _ h => .inl h, fun _ h => h.2.1, fun b h => h.elim .inl fun h => .inr (h.2.elim (fun h => .inl (Nat.le_trans hcw h)) fun h => (Xo b h).1),
      ⟨fun b h => h.elim (fun h => by have := hc.ok.lt b h; show b < w'.heap.size; omega) fun h => by have := g2.ok.lt b h.1; have := hm.ext.size; show b < w'.heap.size; omega, fun b h hx => hx.2.2 h⟩, rfl⟩
  generalize hc' : (⟨w', fun b => c.D b ∨ (c2.D b ∧ (w.heap.size ≤ b ∨ XOf κ M b)), fun b => b < w'.heap.size ∧ (c.w.heap.size ≤ b ∨ c.X b) ∧ ¬ (c.D b ∨ (c2.D b ∧ (w.heap.size ≤ b ∨ XOf κ M b))), c.κ⟩ : Cx) = c' at hgr
  have c'w : c'.w = w' := by rw [← hc']
  have c'D : ∀ b, c'.D b ↔ (c.D b ∨ (c2.D b ∧ (w.heap.size ≤ b ∨ XOf κ M b))) := fun b => by rw [← hc']
  have c'X : ∀ b, c'.X b ↔ (b < w'.heap.size ∧ (c.w.heap.size ≤ b ∨ c.X b) ∧ ¬ (c.D b ∨ (c2.D b ∧ (w.heap.size ≤ b ∨ XOf κ M b)))) := fun b => by rw [← hc']
  have up2 : ∀ {u : V} {y : Value}, RepR c2 u y → RepR c' u y := fun h => h.mono (fun b hb => (c'D b).2 ((g2.N b hb).elim (fun h => .inl (h.2.2.elim (fun h => by simp at h) id)) fun h => .inr ⟨hb, h⟩)) (fun ad had => by
    rw [c'w]; exact cell_eq (hm.ext.block _ (g2.ok.lt _ had) (fun hx => g2.ok.ap _ had hx)))
  -- a live label of the new state: one that came out of the call, or an old one
  have live : ∀ L o, get (hren (rn (M ++ F)) hout ++ ((M ++ F).map fun p => (p.2, none)) ++ s.H) L = some o → (∃ l o', l ∈ hout.map (·.1) ∧ rn (M ++ F) l = L ∧ get hout l = some o' ∧ o = o'.ren (rn (M ++ F))) ∨ ((∀ p ∈ M ++ F, p.2 ≠ L) ∧ get s.H L = some o) := fun L o h => by
    rw [List.append_assoc] at h
    by_cases hL : ∃ l ∈ hout.map (·.1), rn (M ++ F) l = L
    · left
      obtain ⟨l, hl', e⟩ := hL
      have hk : L ∈ (hren (rn (M ++ F)) hout).map (·.1) := by
        simp only [hren, List.map_map, List.mem_map]
        obtain ⟨p, hp, e2⟩ := List.mem_map.1 hl'
        exact ⟨p, hp, by simp [e2, e]⟩
      rw [get_app_some hk] at h
      exact get_hren (fun x hx y hy => inj x (outK x hx) y (outK y hy)) h
    · right
      rw [get_hren_none (fun x hx e => hL ⟨x, hx, e⟩)] at h
      by_cases hM : ∃ p ∈ M ++ F, p.2 = L
      · obtain ⟨p, hp, e⟩ := hM
        have hk : L ∈ (((M ++ F).map fun p => (p.2, (none : Option O)))).map (·.1) := by
          simp only [List.map_map, List.mem_map]; exact ⟨p, hp, e⟩
        rw [get_app_some hk] at h
        have := get_mem h
        simp at this
      · refine ⟨fun p hp e => hM ⟨p, hp, e⟩, ?_⟩
        rw [get_append_no (fun ⟨q, hq, e⟩ => by obtain ⟨p, hp, e2⟩ := List.mem_map.1 hq; subst e2; exact hM ⟨p, hp, e⟩)] at h
        exact h
  have notX : ∀ L o b k, (∀ p ∈ M, p.2 ≠ L) → get s.H L = some o → κ L = some (b, k) → ¬ XOf κ M b := fun L o b k hM ho hk ⟨p, hp, k', hk'⟩ => by
    obtain ⟨q, hq⟩ := hl p hp
    exact hM p hp (hs.mem.ij _ _ _ _ _ _ _ hq ho hk' hk)
  have kold : ∀ L o, get s.H L = some o → ∀ x ∈ o.labs, κn x = κ x := fun L o ho x hx => κold x (fun p hp e => (frF p hp).h _ (get_mem ho) o rfl (e ▸ hx))
  have hresR : RepT c' κn (res.ren (rn (M ++ F))) x' := (hr.ren (κ' := κn) (fun l hl' => κR l (subset_spec c12 hl'))).cx (fun u hu y hy => up2 hy)
  have hsat : Sat n c' κn ⟨(d, some (true, res.ren (rn (M ++ F)))) :: s.T, hren (rn (M ++ F)) hout ++ ((M ++ F).map fun p => (p.2, none)) ++ s.H⟩ (a.put (some d) x') w' := by
    refine ⟨hs.hd, by simp [Act.put, hs.hn], fun t e' ht => ?_, ⟨by rw [c'w]; exact Ext.refl _ _, fun L o hL => ?_, fun L o b k hL hk => ?_, fun L1 L2 o1 o2 b k k' h1 h2 hk1 hk2 => ?_, fun l hl100 => ?_, ?_⟩⟩
    · rw [get_cons] at ht
      simp only [Act.put]
      rw [getD_set (by rw [hs.hn]; exact hd')]
      split
      · rename_i he2; subst he2; simp at ht; subst ht
        exact ⟨fun _ => hresR, fun h => by simp at h⟩
      · rename_i he2; simp only [he2, if_false] at ht
        exact ((hs.tm t e' ht).grow hc.ok hgr).turn fun l hl' => κold l (fun p hp e => (frF p hp).t _ (get_mem ht) e' rfl (e ▸ hl'))
    · rcases live L o hL with ⟨l, o', hl', hlL, ho', rfl⟩ | ⟨hM, ho⟩
      · subst hlL
        have hho := hm.hp l o' ho'
        have hho' : Holds c' κ2 w' l o' := hho.cx fun u hu y hy => up2 hy
        exact hho'.ren (κ' := κn) (f := rn (M ++ F)) (κR l (outK l hl')) (fun x hx => κR x (outO l o' ho' x hx))
      · have hkL : κn L = κ L := κold L (fun p hp => hM p (List.mem_append_right _ hp))
        exact ((hs.mem.hp L o ho).cx (fun u _ y hy => hy.grow hc.ok hgr)).turn hkL (fun x hx => kold L o ho x hx) (fun b k hk => hxw.block b (hs.mem.lt ho hk) (notX L o b k (fun p hp => hM p (List.mem_append_left _ hp)) ho hk))
    · rcases live L o hL with ⟨l, o', hl', hlL, ho', rfl⟩ | ⟨hM, ho⟩
      · subst hlL
        rw [κR l (outK l hl')] at hk
        obtain ⟨h1, h2⟩ := hm.ow l o' b k ho' hk
        have hlt := hm.lt ho' hk
        have h3 : w.heap.size ≤ b ∨ XOf κ M b := h1.elim (fun h => .inl (Nat.le_trans g2.ext.size h)) (hX2 b)
        have h4 : c.w.heap.size ≤ b ∨ c.X b := h3.elim (fun h => .inl (Nat.le_trans hcw h)) fun h => (Xo b h).1
        have h5 : ¬ (c.D b ∨ (c2.D b ∧ (w.heap.size ≤ b ∨ XOf κ M b))) := fun h => h.elim (fun h => h3.elim (fun h6 => by have := hc.ok.lt b h; omega) fun h6 => (Xo b h6).2.1 h) fun h => h2 h.1
        exact ⟨.inr ((c'X b).2 ⟨hlt, h4, h5⟩), fun h => h5 ((c'D b).1 h)⟩
      · rw [κold L (fun p hp => hM p (List.mem_append_right _ hp))] at hk
        have h1 := hs.mem.ow L o b k ho hk
        have h2 := hs.mem.lt ho hk
        have h3 := notX L o b k (fun p hp => hM p (List.mem_append_left _ hp)) ho hk
        have h5 : ¬ (c.D b ∨ (c2.D b ∧ (w.heap.size ≤ b ∨ XOf κ M b))) := fun h => h.elim h1.2 fun h => h.2.elim (fun h => by omega) h3
        exact ⟨.inr ((c'X b).2 ⟨by omega, h1.1, h5⟩), fun h => h5 ((c'D b).1 h)⟩
    · rcases live L1 o1 h1 with ⟨l, o', hl', hlL, ho', rfl⟩ | ⟨hM, ho⟩ <;> rcases live L2 o2 h2 with ⟨m, p', hm', hmL, hp', rfl⟩ | ⟨hM', ho2⟩
      · subst hlL; subst hmL
        rw [κR l (outK l hl')] at hk1
        rw [κR m (outK m hm')] at hk2
        rw [hm.ij l m o' p' b k k' ho' hp' hk1 hk2]
      · subst hlL
        rw [κR l (outK l hl')] at hk1
        rw [κold L2 (fun p hp => hM' p (List.mem_append_right _ hp))] at hk2
        exfalso
        have hlt := hs.mem.lt ho2 hk2
        rcases (hm.ow l o' b k ho' hk1).1 with h3 | h3
        · have := g2.ext.size; have : w.heap.size ≤ b := Nat.le_trans this h3; omega
        · exact (hX2 b h3).elim (fun h => by omega) (notX L2 o2 b k' (fun p hp => hM' p (List.mem_append_left _ hp)) ho2 hk2)
      · subst hmL
        rw [κold L1 (fun p hp => hM p (List.mem_append_right _ hp))] at hk1
        rw [κR m (outK m hm')] at hk2
        exfalso
        have hlt := hs.mem.lt ho hk1
        rcases (hm.ow m p' b k' hp' hk2).1 with h3 | h3
        · have := g2.ext.size; have : w.heap.size ≤ b := Nat.le_trans this h3; omega
        · exact (hX2 b h3).elim (fun h => by omega) (notX L1 o1 b k (fun p hp => hM p (List.mem_append_left _ hp)) ho hk1)
      · rw [κold L1 (fun p hp => hM p (List.mem_append_right _ hp))] at hk1
        rw [κold L2 (fun p hp => hM' p (List.mem_append_right _ hp))] at hk2
        exact hs.mem.ij L1 L2 o1 o2 b k k' ho ho2 hk1 hk2
    · rw [κold l (fun p hp e => by have := (frF p hp).ge; omega)]
      rw [hs.mem.pin l hl100, hgr.κ]
    · obtain ⟨φ, N⟩ := hs.mem.ns
      have notXi : ∀ L i b k, φ L i = some (b, k) → ¬ XOf κ M b := fun L i b k hp ⟨p, hpM, k', hk'⟩ => by
        obtain ⟨q, hq⟩ := hl p hpM
        exact N.out _ _ _ _ hp _ _ _ hq hk'
      refine hs.mem.nsj N (fun _ _ _ _ _ _ _ _ _ _ _ _ _ _ _ _ hy => hy.grow hc.ok hgr) (fun L o i b k hL _ hp => ?_) (fun L o hL hN => ?_) (fun L o b k hL hk => ?_) (fun b hb => ?_) hxw.size
      · obtain ⟨g1, g2', g3⟩ := N.own _ _ _ _ hp
        have h5 : ¬ (c.D b ∨ (c2.D b ∧ (w.heap.size ≤ b ∨ XOf κ M b))) := fun h => h.elim g3 fun h => h.2.elim (fun h => by omega) (notXi L i b k hp)
        exact ⟨.inr ((c'X b).2 ⟨by omega, g2', h5⟩), fun h => h5 ((c'D b).1 h)⟩
      · rcases live L o hL with ⟨l, o', hl', hlL, ho', rfl⟩ | ⟨hM, ho⟩
        · have := nnO l o' ho'
          cases o' <;> simp [O.isNest, O.ren] at this hN
        · exact ⟨ho, κold L (fun p hp => hM p (List.mem_append_right _ hp)), fun x hx => kold L o ho x hx⟩
      · rcases live L o hL with ⟨l, o', hl', hlL, ho', rfl⟩ | ⟨hM, ho⟩
        · subst hlL
          rw [κR l (outK l hl')] at hk
          have h1 := (hm.ow l o' b k ho' hk).1
          have h3 : w.heap.size ≤ b ∨ XOf κ M b := h1.elim (fun h => .inl (Nat.le_trans g2.ext.size h)) (hX2 b)
          rcases h3 with h3 | ⟨p, hpM, k', hk'⟩
          · exact .inl h3
          · obtain ⟨q, hq⟩ := hl p hpM
            exact .inr ⟨_, _, k', hq, hk'⟩
        · rw [κold L (fun p hp => hM p (List.mem_append_right _ hp))] at hk
          exact .inr ⟨L, o, k, ho, hk⟩
      · by_cases hX : XOf κ M b
        · obtain ⟨p, hpM, k', hk'⟩ := hX
          obtain ⟨o', g1, g2', _⟩ := hinObj p.1 (List.mem_map.2 ⟨p, hpM, rfl⟩)
          have e : rn M p.1 = p.2 := by simp [rn, look_eq nM1 (show (p.1, p.2) ∈ M from hpM)]
          rw [e] at g2'
          refine .inr ⟨_, _, k', g2', ?_, hk'⟩
          have := nnI _ _ g1
          cases o' <;> simp [O.isNest, O.ren] at this ⊢
        · exact .inl (hxw.block b hb hX)
  exact hK c' _ _ κn hgr hsat
end
section
variable {P : Program} {n : Nat} {ops : Array Oper}
/-- a step behind which more may lie still -/
def StepG (P : Program) (n : Nat) (ops : Array Oper) (s : S) (o : Oper) (b : A) : Prop :=
  ∀ (c : Cx) (κ : Ka) (a : Act) (w : World), c.okP P → Sat n c κ s a w → ∀ (K : Act → World → Prop) (Q : Exit → Act → World → Prop),
    (∀ c' a' w' κ', Grow c c' → Sat n c' κ' (s.upd b) a' w' → K a' w') → if Region.wanted o (yielded ops a.tmps) then o.wp P a w K Q else K (a.put o.dst undef) w
def LocG (P : Program) (n : Nat) (ops : Array Oper) (s : S) (o : Oper) (b : A) : Prop :=
  ∀ s' : S, (∀ t ∈ b.kt, get s'.T t = get s.T t) → (∀ l ∈ b.kh, get s'.H l = get s.H l) → (∀ l ∈ b.nw, Fresh l s') → StepG P n ops s' o b
theorem Loc.G {s : S} {o : Oper} {b : A} (h : Loc P n ops s o b) : LocG P n ops s o b :=
  fun s' h1 h2 h3 c κ a w hc hs K Q hK => h s' h1 h2 h3 c κ a w hc hs K Q fun a' w' κ' hs' => hK c a' w' κ' (Grow.refl hc.ok) hs'
def LexG (P : Program) (n : Nat) (ops : Array Oper) : List Oper → S → List A → S → Prop
  | [], s, bs, s' => bs = [] ∧ s' = s
  | o :: r, s, bs, s' => ∃ b bs', bs = b :: bs' ∧ LocG P n ops s o b ∧ (∀ l ∈ b.nw, Fresh l s) ∧ LexG P n ops r (s.upd b) bs' s'
theorem Lex.appG : ∀ {l1 l2 : List Oper} {s s1 s' : S} {b1 b2 : List A}, Lex P n ops l1 s b1 s1 → LexG P n ops l2 s1 b2 s' → LexG P n ops (l1 ++ l2) s (b1 ++ b2) s'
  | [], l2, s, s1, s', b1, b2, ⟨h1, h2⟩, h => by subst h1; subst h2; exact h
  | o :: l1, l2, s, s1, s', b1, b2, ⟨b, bs, h1, h2, h3, h4⟩, h => by subst h1; exact ⟨b, bs ++ b2, rfl, h2.G, h3, Lex.appG h4 h⟩
theorem LexG.nil {s : S} : LexG P n ops [] s [] s := ⟨rfl, rfl⟩
/-- a call of what grows, with nothing to turn -/
theorem g_callG {l2 : List Oper} {x : Operand} {f : FuncId} {caps : List V} {xs : List Operand} {ts : Array TypeId} {vs as : List V} {res : V} {k0 ks kh : List Nat} (F : List (Nat × Nat)) {hout : List (Nat × Option O)} {d : Nat} {ty : TypeId} {pos : String} {af : Array Edge} {s s' : S} {bs : List A}
    (hfv : Fv s true x f caps k0) (he : entB P f = true) (hx : Ods s true xs vs ks) (hp : Passes s false [] as (vs ++ caps) kh)
    (hcon : ConG P f as [] res hout) (hok : callOk [] F [] hout res = true) (hnn : (([] : List (Nat × Option O)) ++ hout).all (fun p => match p.2 with | some o => !o.isNest | none => true) = true) (hf : F.all (fun p => freshB p.2 s) = true) (hd : Nat.blt d n = true)
    (h : LexG P n ops l2 ⟨(d, some (true, res.ren (rn ([] ++ F)))) :: s.T, (hren (rn ([] ++ F)) hout ++ (([] ++ F).map fun (p : Nat × Nat) => (p.2, (none : Option O)))) ++ s.H⟩ bs s') :
    LexG P n ops (⟨some d, .call ⟨.value x, ⟨xs⟩, ts⟩, ty, pos, af, none⟩ :: l2) s (⟨k0 ++ ks, kh, F.map (·.2), [(d, some (true, res.ren (rn ([] ++ F))))], hren (rn ([] ++ F)) hout ++ (([] ++ F).map fun (p : Nat × Nat) => (p.2, (none : Option O)))⟩ :: bs) s' := by
  have hfr0 : ∀ l ∈ F.map (·.2), Fresh l s := fun l hl => by
    obtain ⟨p, hp, rfl⟩ := List.mem_map.1 hl
    exact Fresh.of ((List.all_eq_true.1 hf) p hp)
  refine ⟨_, _, rfl, ?_, hfr0, h⟩
  intro s1 ht hh hfr c κ a w hc hs K Q hK
  rw [(Gd.n : Gd ops s1 none true []).wanted hs rfl]
  simp only [if_true]
  exact wp_callGM (M := []) (F := F) (hfv.agree fun t hm => ht t (by simp [hm])) he (hx.agree fun t hm => ht t (by simp [hm])) (hp.agree hh) hcon trivial hok hnn (fun p hp => hfr p.2 (List.mem_map.2 ⟨p, hp, rfl⟩)) hd c κ a w hc hs K Q hK
theorem lex_atG : ∀ (rest : List Oper) (s : S) (bs : List A) (s' : S), LexG P n ops rest s bs s' → bs.length = rest.length ∧ s' = bs.foldl S.upd s ∧
    ∀ i o b, rest[i]? = some o → bs[i]? = some b → LocG P n ops ((bs.take i).foldl S.upd s) o b ∧ ∀ l ∈ b.nw, Fresh l ((bs.take i).foldl S.upd s)
  | [], s, bs, s', ⟨h1, h2⟩ => by subst h1; subst h2; exact ⟨rfl, rfl, fun i o b h => by simp at h⟩
  | o0 :: r, s, bs, s', ⟨b0, bs', hb, hl, hf, hk⟩ => by
    subst hb
    obtain ⟨h1, h2, h3⟩ := lex_atG r (s.upd b0) bs' s' hk
    refine ⟨by simp [h1], by simpa using h2, fun i o b ho hb => ?_⟩
    cases i with
    | zero => simp at ho hb; subst ho; subst hb; exact ⟨hl, hf⟩
    | succ i => simpa using h3 i o b (by simpa using ho) (by simpa using hb)
theorem any_of_lexG {Q : Exit → Act → World → Prop} {c0 : Cx} (hc0 : c0.okP P) {s s' : S} {bs : List A} (hlex : LexG P n ops ops.toList s bs s') (hok : okB ops.toList bs = true) (hQ : ∀ c a w κ, Grow c0 c → Sat n c κ s' a w → Q .normal a w) :
    ∀ (fuel : Nat) (listed : Array Bool) (a : Act) (w : World) (κ : Ka) (c : Cx), Grow c0 c → listed.size = ops.size →
      (∀ i o, ops[i]? = some o → listed.getD i false = true → ∀ e ∈ o.after.toList, Region.binds .any e = true → listed.getD e.on false = true) →
      listed.toList.count false ≤ fuel → Sat n c κ (exE bs (fun i => listed.getD i false) s) a w → wpAny P .any ops Q fuel listed a w := by
  obtain ⟨hlen, hs', hat⟩ := lex_atG ops.toList s bs s' hlex
  simp only [okB, Bool.and_eq_true] at hok
  obtain ⟨hdown, hpairs⟩ := hok
  have hopl : ∀ (i : Nat) o, ops[i]? = some o ↔ ops.toList[i]? = some o := fun i o => by simp
  have hlenA : bs.length = ops.size := by simpa using hlen
  -- a state in which no operation is ready is the end
  have allDone : ∀ (listed : Array Bool), listed.size = ops.size → Region.ready .any ops listed = [] → ∀ i, i < ops.size → listed.getD i false = true := by
    intro listed hsz hr i
    induction i using Nat.strongRecOn with
    | _ i ih =>
      intro hi
      cases hli : listed.getD i false with
      | true => rfl
      | false =>
        exfalso
        have hmem : i ∈ Region.ready .any ops listed := by
          refine mem_ready.2 ⟨?_, ops[i], Array.getElem?_eq_getElem hi, fun e he hb => ?_⟩
          · have : i < listed.size := by omega
            simp [Array.getD, this] at hli ⊢; exact hli
          · have hlt := down_spec 0 ops.toList hdown i ops[i] ((hopl i _).1 (Array.getElem?_eq_getElem hi)) e (by simpa using he) hb
            exact ih e.on (by omega) (by omega)
        rw [hr] at hmem
        simp at hmem
  have endSat : ∀ (listed : Array Bool) (a : Act) (w : World) (κ : Ka) (c : Cx), Grow c0 c → (∀ i, i < ops.size → listed.getD i false = true) → Sat n c κ (exE bs (fun i => listed.getD i false) s) a w → Q .normal a w := by
    intro listed a w κ c gc hall hs
    refine hQ c a w κ gc ?_
    rw [hs', foldl_upd]
    have e1 := exU_all (bs.map (·.wt)) 0 (fun i => listed.getD i false) s.T (fun j hj => by simp only [Nat.zero_add]; exact hall j (by simp at hj; omega))
    have e2 := exU_all (bs.map (·.wh)) 0 (fun i => listed.getD i false) s.H (fun j hj => by simp only [Nat.zero_add]; exact hall j (by simp at hj; omega))
    simp only [exE, e1, e2] at hs
    exact hs
  intro fuel
  induction fuel with
  | zero =>
    intro listed a w κ c gc hsz hcl hcnt hs
    have hall : ∀ i, i < ops.size → listed.getD i false = true := by
      intro i hi
      have hi' : i < listed.size := by omega
      have : listed[i] = true := by
        cases h : listed[i] with
        | true => rfl
        | false =>
          exfalso
          have hm : false ∈ listed.toList := by rw [← h]; simp
          have := List.count_pos_iff.2 hm
          omega
      simp [Array.getD, hi', this]
    refine ⟨?_, endSat listed a w κ c gc hall hs⟩
    cases hr : Region.ready .any ops listed with
    | nil => rfl
    | cons i t =>
      exfalso
      have hmem : i ∈ Region.ready .any ops listed := by rw [hr]; exact List.mem_cons_self
      obtain ⟨hun, o, ho, _⟩ := mem_ready.1 hmem
      have hi : i < ops.size := (Array.getElem?_eq_some_iff.1 ho).1
      have h1 := hall i hi
      have hi' : i < listed.size := by omega
      simp [Array.getD, hi'] at h1 hun
      rw [h1] at hun
      simp at hun
  | succ fuel ih =>
    intro listed a w κ c gc hsz hcl hcnt hs
    refine ⟨fun hr => endSat listed a w κ c gc (allDone listed hsz hr) hs, fun i hmem => ?_⟩
    obtain ⟨hun, o, ho, hpre⟩ := mem_ready.1 hmem
    have hi : i < ops.size := (Array.getElem?_eq_some_iff.1 ho).1
    have hi' : i < listed.size := by omega
    have hEi : listed.getD i false = false := by
      simp [Array.getD, hi'] at hun ⊢; exact hun
    have hbi : bs[i]? = some (bs[i]'(by omega)) := List.getElem?_eq_getElem (by omega)
    generalize hb : bs[i]'(by omega) = b at hbi
    obtain ⟨hloc, hfr⟩ := hat i o b ((hopl i o).1 ho) hbi
    have hclosed := masks_closed (E := fun i => listed.getD i false) ops.toList (fun i o ho hE e he hb => hcl i o ((hopl i o).2 ho) hE e he hb) ops.toList [] 0 rfl (fun j o hj => by simpa using hj) (fun i j _ h => by simp at h)
    have preds : ∀ j, ((masks ops.toList []).getD i 0).testBit j = true → listed.getD j false = true := fun j hj =>
      hclosed i o j (Nat.zero_le _) ((hopl i o).1 ho) (by simpa using hi) (fun e he hb => hpre e (by simpa using he) hb) hj
    have later : ∀ q oq, ops[q]? = some oq → listed.getD q false = true → ((masks ops.toList []).getD q 0).testBit i = true → False := fun q oq hq hEq hbit => by
      have := hclosed q oq i (Nat.zero_le _) ((hopl q oq).1 hq) (by simpa using (Array.getElem?_eq_some_iff.1 hq).1) (fun e he hb => hcl q oq hq hEq e he hb) hbit
      rw [hEi] at this; simp at this
    -- whoever touches what i touches: earlier ones are done, later ones are not
    have before : ∀ p a, p < i → bs[p]? = some a → conf a b = true → listed.getD p false = true := fun p a hpi hpa hcf => by
      have := pairs_spec 0 bs hpairs p i a b hpi hpa hbi hcf
      simp only [Nat.zero_add] at this
      exact preds p this
    have after : ∀ q a, i < q → bs[q]? = some a → conf b a = true → listed.getD q false = false := fun q a hiq hqa hcf => by
      cases hEq : listed.getD q false with
      | false => rfl
      | true =>
        have := pairs_spec 0 bs hpairs i q b a hiq hbi hqa hcf
        simp only [Nat.zero_add] at this
        have hq : q < ops.size := by rw [← hlenA]; exact (List.getElem?_eq_some_iff.1 hqa).1
        exact (later q ops[q] (Array.getElem?_eq_getElem hq) hEq this).elim
    have cf : ∀ {a b : A} {x : Nat}, (x ∈ a.wt.map (·.1) ∧ x ∈ b.kt) ∨ (x ∈ a.wt.map (·.1) ∧ x ∈ b.wt.map (·.1)) ∨ (x ∈ b.wt.map (·.1) ∧ x ∈ a.kt) ∨ (x ∈ a.wh.map (·.1) ∧ x ∈ b.kh) ∨ (x ∈ a.wh.map (·.1) ∧ x ∈ b.wh.map (·.1)) ∨ (x ∈ b.wh.map (·.1) ∧ x ∈ a.kh) ∨ (x ∈ a.nw ∧ x ∈ wlabs b) → conf a b = true := by
      intro a b x h
      cases hcf : conf a b with
      | true => rfl
      | false =>
        exfalso
        simp only [conf, Bool.or_eq_false_iff] at hcf
        obtain ⟨⟨⟨⟨⟨⟨h1, h2⟩, h3⟩, h4⟩, h5⟩, h6⟩, h7⟩ := hcf
        rcases h with h | h | h | h | h | h | h
        · exact inter_false h1 h.1 h.2
        · exact inter_false h2 h.1 h.2
        · exact inter_false h3 h.1 h.2
        · exact inter_false h4 h.1 h.2
        · exact inter_false h5 h.1 h.2
        · exact inter_false h6 h.1 h.2
        · exact inter_false h7 h.1 h.2
    have keyT : ∀ (a : A) x, hasKey a.wt x → x ∈ a.wt.map (·.1) := fun a x ⟨p, hp, e⟩ => List.mem_map.2 ⟨p, hp, e⟩
    have keyH : ∀ (a : A) x, hasKey a.wh x → x ∈ a.wh.map (·.1) := fun a x ⟨p, hp, e⟩ => List.mem_map.2 ⟨p, hp, e⟩
    have hmapT : ∀ (j : Nat) u, (bs.map (·.wt))[j]? = some u → ∃ a, bs[j]? = some a ∧ u = a.wt := fun j u h => by
      rw [List.getElem?_map] at h
      cases hj : bs[j]? with
      | none => simp [hj] at h
      | some a => simp [hj] at h; exact ⟨a, rfl, h.symm⟩
    have hmapH : ∀ (j : Nat) u, (bs.map (·.wh))[j]? = some u → ∃ a, bs[j]? = some a ∧ u = a.wh := fun j u h => by
      rw [List.getElem?_map] at h
      cases hj : bs[j]? with
      | none => simp [hj] at h
      | some a => simp [hj] at h; exact ⟨a, rfl, h.symm⟩
    -- the state looks to i as it does in the order of the text
    have agT : ∀ x ∈ b.kt, get (exE bs (fun i => listed.getD i false) s).T x = get ((bs.take i).foldl S.upd s).T x := by
      intro x hx
      rw [← exE_take]
      refine exU_agree x _ 0 _ _ _ _ rfl (fun j u hj hu => ?_)
      obtain ⟨a', ha', rfl⟩ := hmapT j u hj
      simp only [Nat.zero_add]
      by_cases hji : j < i
      · rw [before j a' hji ha' (cf (.inl ⟨keyT _ x hu, hx⟩))]; simp [hji]
      · by_cases hje : j = i
        · subst hje; rw [hEi]; simp
        · rw [after j a' (by omega) ha' (cf (.inr (.inr (.inl ⟨keyT _ x hu, hx⟩))))]; simp [hji]
    have agH : ∀ x ∈ b.kh, get (exE bs (fun i => listed.getD i false) s).H x = get ((bs.take i).foldl S.upd s).H x := by
      intro x hx
      rw [← exE_take]
      refine exU_agree x _ 0 _ _ _ _ rfl (fun j u hj hu => ?_)
      obtain ⟨a', ha', rfl⟩ := hmapH j u hj
      simp only [Nat.zero_add]
      by_cases hji : j < i
      · rw [before j a' hji ha' (cf (.inr (.inr (.inr (.inl ⟨keyH _ x hu, hx⟩)))))]; simp [hji]
      · by_cases hje : j = i
        · subst hje; rw [hEi]; simp
        · rw [after j a' (by omega) ha' (cf (.inr (.inr (.inr (.inr (.inr (.inl ⟨keyH _ x hu, hx⟩)))))))]; simp [hji]
    have fr : ∀ l ∈ b.nw, Fresh l (exE bs (fun i => listed.getD i false) s) := by
      intro l hl
      have h0 := hfr l hl
      rw [← exE_take] at h0
      refine ⟨h0.ge, fun p hp e he hle => ?_, fun p hp o' ho' hlo => ?_⟩
      · rcases (mem_exU _ _ _ _ _).1 hp with hp | ⟨j, u, hj, hE, hpu⟩
        · exact h0.t p ((mem_exU _ _ _ _ _).2 (.inl hp)) e he hle
        · obtain ⟨a', ha', rfl⟩ := hmapT j u hj
          simp only [Nat.zero_add] at hE
          by_cases hji : j < i
          · exact h0.t p ((mem_exU _ _ _ _ _).2 (.inr ⟨j, _, hj, by simp [hji], hpu⟩)) e he hle
          · by_cases hje : j = i
            · subst hje; rw [hEi] at hE; simp at hE
            · have hw : l ∈ wlabs a' := by
                simp only [wlabs, List.mem_append, List.mem_flatMap]
                exact .inl ⟨p, hpu, by rw [he]; exact hle⟩
              rw [after j a' (by omega) ha' (cf (.inr (.inr (.inr (.inr (.inr (.inr ⟨hl, hw⟩)))))))] at hE
              simp at hE
      · rcases (mem_exU _ _ _ _ _).1 hp with hp | ⟨j, u, hj, hE, hpu⟩
        · exact h0.h p ((mem_exU _ _ _ _ _).2 (.inl hp)) o' ho' hlo
        · obtain ⟨a', ha', rfl⟩ := hmapH j u hj
          simp only [Nat.zero_add] at hE
          by_cases hji : j < i
          · exact h0.h p ((mem_exU _ _ _ _ _).2 (.inr ⟨j, _, hj, by simp [hji], hpu⟩)) o' ho' hlo
          · by_cases hje : j = i
            · subst hje; rw [hEi] at hE; simp at hE
            · have hw : l ∈ wlabs a' := by
                simp only [wlabs, List.mem_append, List.mem_flatMap]
                exact .inr ⟨p, hpu, by rw [ho']; exact hlo⟩
              rw [after j a' (by omega) ha' (cf (.inr (.inr (.inr (.inr (.inr (.inr ⟨hl, hw⟩)))))))] at hE
              simp at hE
    have hE' : ∀ j, (listed.setIfInBounds i true).getD j false = (Nat.beq j i || listed.getD j false) := by
      intro j
      by_cases hji : j = i
      · subst hji; simp [Array.getD, hi']
      · have hb' : Nat.beq j i = false := by
          cases hb' : Nat.beq j i
          · rfl
          · exact absurd (Nat.eq_of_beq_eq_true hb') hji
        rw [hb', Bool.false_or]
        exact getD_set_ne false (fun e => hji e.symm)
    have next : ∀ c1 a' w' κ', Grow c c1 → Sat n c1 κ' ((exE bs (fun i => listed.getD i false) s).upd b) a' w' → wpAny P .any ops Q fuel (listed.setIfInBounds i true) a' w' := by
      intro c1 a' w' κ' g1 hs'
      refine ih (listed.setIfInBounds i true) a' w' κ' c1 (gc.trans g1) (by simp [hsz]) ?_ ?_ ?_
      · intro j oj hoj hEj e he hbd
        rw [hE'] at hEj ⊢
        cases hji : Nat.beq j i with
        | true =>
          have := Nat.eq_of_beq_eq_true hji
          subst this
          have : oj = o := by rw [ho] at hoj; exact (Option.some.inj hoj).symm
          subst this
          rw [hpre e (by simpa using he) hbd, Bool.or_true]
        | false =>
          rw [hji, Bool.false_or] at hEj
          rw [hcl j oj hoj hEj e he hbd, Bool.or_true]
      · have hget : listed.toList[i]'(by simpa using hi') = false := by
          simp [Array.getD, hi'] at hEi; simpa using hEi
        rw [Array.toList_setIfInBounds, List.count_set (by simpa using hi'), hget]
        have hpos : 0 < listed.toList.count false := List.count_pos_iff.2 (by rw [← hget]; exact List.getElem_mem _)
        have e1 : (if (false == false) = true then 1 else 0) = 1 := rfl
        have e2 : (if (true == false) = true then 1 else 0) = 0 := rfl
        rw [e1, e2]
        omega
      · refine hs'.congr (fun x => ?_) (fun x => ?_)
        · have h := exU_add x i (fun i => listed.getD i false) (fun j => (listed.setIfInBounds i true).getD j false) hEi hE' (bs.map (·.wt)) 0 s.T b.wt (Nat.zero_le _) (by rw [Nat.sub_zero, List.getElem?_map, hbi]; rfl) (fun j v hj hEj hlt y hv hu => ?_)
          · exact h
          · obtain ⟨a'', ha'', rfl⟩ := hmapT j v hj
            simp only [Nat.zero_add] at hEj hlt
            rw [after j a'' hlt ha'' (cf (.inr (.inl ⟨keyT _ y hu, keyT _ y hv⟩)))] at hEj
            simp at hEj
        · have h := exU_add x i (fun i => listed.getD i false) (fun j => (listed.setIfInBounds i true).getD j false) hEi hE' (bs.map (·.wh)) 0 s.H b.wh (Nat.zero_le _) (by rw [Nat.sub_zero, List.getElem?_map, hbi]; rfl) (fun j v hj hEj hlt y hv hu => ?_)
          · exact h
          · obtain ⟨a'', ha'', rfl⟩ := hmapH j v hj
            simp only [Nat.zero_add] at hEj hlt
            rw [after j a'' hlt ha'' (cf (.inr (.inr (.inr (.inr (.inl ⟨keyH _ y hu, keyH _ y hv⟩))))))] at hEj
            simp at hEj
    have hstep := hloc (exE bs (fun i => listed.getD i false) s) agT agH fr c κ a w (gc.okP hc0) hs (wpAny P .any ops Q fuel (listed.setIfInBounds i true)) Q next
    unfold wpOp
    rw [ho]
    simp only
    split
    · rename_i hw; rw [if_pos hw] at hstep; exact .inl hstep
    · rename_i hw; rw [if_neg hw] at hstep; exact hstep

theorem wp_drawG {Q : Exit → Act → World → Prop} {c : Cx} (hc : c.okP P) {id : Nat} {s s' : S} {bs : List A} {κ : Ka} {a : Act} {w : World} (hm : P.follows .mixedOrders = true) (hlex : LexG P n ops ops.toList s bs s') (hok : okB ops.toList bs = true)
    (hQ : ∀ c' a w κ, Grow c c' → Sat n c' κ s' a w → Q .normal a w) (hs : Sat n c κ s a w) : (Code.region id ops true).wp P Q a w := by
  refine wp_region_any hm (any_of_lexG hc hlex hok hQ ops.size _ a _ κ c (Grow.refl hc.ok) (by simp) (fun i o _ h => ?_) ?_ ?_)
  · simp [Array.getD] at h
  · simp
  · have e : ∀ {α : Type} (us : List (List (Nat × Option α))) (T : List (Nat × Option α)), exU us 0 (fun i => (Array.replicate ops.size false).getD i false) T = T := fun us T =>
      exU_none us 0 _ T (fun j _ => by simp [Array.getD])
    simp only [exE, e]
    exact ⟨hs.hd, hs.hn, hs.tm, hs.mem.world ⟨rfl, rfl, rfl, Nat.le_refl _, fun _ _ _ => rfl⟩⟩
end
section
variable {ρ : Type} {P : Program} {fn : Func} {n : Nat} {out : ρ → V × List (Nat × Option O)} {k : List (It ρ)} {r : ρ} {s s' : S}
theorem run_drawG {id : Nat} {l : List Oper} {bs : List A} (hm : P.follows .mixedOrders = true) (hl : LexG P n l.toArray l s bs s') (hok : okB l bs = true) (hk : growOk k = true) (h : Run P fn n out k r s') : Run P fn n out (.code (.region id l.toArray true) :: k) r s :=
  fun c κ a w hc hs => wp_drawG hc hm (by simpa using hl) (by simpa using hok) (fun c' a' w' κ' g hs' => post_grow g hk (h c' κ' a' w' (g.okP hc) hs')) hs
end
end Go.Proofs.YtibbfdojcdkopaaGreat.E
