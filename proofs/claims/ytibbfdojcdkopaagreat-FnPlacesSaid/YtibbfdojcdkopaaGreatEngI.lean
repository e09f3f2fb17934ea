/-
  THE ENGINE, part I: the call of a function that writes what it is handed or hands back memory of its own; loops and joins by the model's combinators; rules for slices whose elements are of one plain type.
  Conditions: none; all of it is over any program.
-/
import Derived.Test.YtibbfdojcdkopaaGreatEngH
set_option linter.unusedVariables false
set_option linter.unusedSimpArgs false
set_option linter.unusedSectionVars false
set_option linter.unnecessarySimpa false
namespace Go.Proofs.YtibbfdojcdkopaaGreat.E
open Go Go.RowKit

def subsetB (l m : List Nat) : Bool := l.all (fun x => m.any (fun y => Nat.beq x y))
def nodupB : List Nat → Bool
  | [] => true
  | x :: r => !(r.any fun y => Nat.beq x y) && nodupB r
def eqB : List Nat → List Nat → Bool
  | [], [] => true
  | x :: r, y :: t => Nat.beq x y && eqB r t
  | _, _ => false
theorem subset_spec {l m : List Nat} (h : subsetB l m = true) {x : Nat} (hx : x ∈ l) : x ∈ m := by
  have := (List.all_eq_true.1 h) x hx
  simp only [List.any_eq_true] at this
  obtain ⟨y, hy, e⟩ := this
  rw [Nat.eq_of_beq_eq_true e]; exact hy
theorem nodup_spec : ∀ {l : List Nat}, nodupB l = true → l.Nodup
  | [], _ => List.nodup_nil
  | x :: r, h => by
    simp only [nodupB, Bool.and_eq_true, Bool.not_eq_true', List.any_eq_false] at h
    refine List.nodup_cons.2 ⟨fun hx => ?_, nodup_spec h.2⟩
    have := h.1 x hx
    simp at this
theorem eqB_spec : ∀ {l m : List Nat}, eqB l m = true → l = m
  | [], [], _ => rfl
  | x :: r, y :: t, h => by
    simp only [eqB, Bool.and_eq_true] at h
    rw [Nat.eq_of_beq_eq_true h.1, eqB_spec h.2]
  | [], _ :: _, h => by simp [eqB] at h
  | _ :: _, [], h => by simp [eqB] at h

def callOk (M F : List (Nat × Nat)) (hin hout : List (Nat × Option O)) (res : V) : Bool :=
  eqB (M.map (·.1)) (hin.map (·.1)) && M.all (fun p => Nat.blt p.1 100) && nodupB (M.map (·.1)) && nodupB (M.map (·.2)) &&
  F.all (fun p => Nat.ble 100 p.1) && nodupB (F.map (·.1)) && nodupB (F.map (·.2)) && F.all (fun p => !((M.map (·.2)).any fun y => Nat.beq p.2 y)) &&
  hin.all (fun p => match p.2 with | some o => subsetB o.labs (M.map (·.1)) | none => false) &&
  subsetB (hout.map (·.1)) ((M ++ F).map (·.1)) && hout.all (fun p => match p.2 with | some o => subsetB o.labs ((M ++ F).map (·.1)) | none => true) && subsetB res.labs ((M ++ F).map (·.1))

theorem look_of_mem : ∀ {l : List (Nat × Nat)} {n : Nat}, n ∈ l.map (·.1) → ∃ m, look l n = some m
  | [], _, h => by simp at h
  | (a, b) :: r, n, h => by
    rw [look_cons]
    by_cases e : a = n
    · exact ⟨b, by simp [e]⟩
    · simp only [e, if_false]
      refine look_of_mem ?_
      rcases List.mem_cons.1 h with h | h
      · exact absurd h.symm e
      · exact h
theorem look_eq : ∀ {l : List (Nat × Nat)} {n m : Nat}, (l.map (·.1)).Nodup → (n, m) ∈ l → look l n = some m
  | [], _, _, _, h => by simp at h
  | (a, b) :: r, n, m, hn, h => by
    rw [look_cons]
    rw [List.map_cons, List.nodup_cons] at hn
    rcases List.mem_cons.1 h with h | h
    · injection h with h1 h2; subst h1; subst h2; simp
    · have : a ≠ n := fun e => hn.1 (by rw [e]; exact List.mem_map.2 ⟨(n, m), h, rfl⟩)
      simp only [this, if_false]
      exact look_eq hn.2 h
theorem look_append {l r : List (Nat × Nat)} {n : Nat} : look (l ++ r) n = match look l n with | some m => some m | none => look r n := by
  induction l with
  | nil => rfl
  | cons p l ih =>
    obtain ⟨a, b⟩ := p
    rw [List.cons_append, look_cons, look_cons, ih]
    split <;> rfl
def swp (F : List (Nat × Nat)) : List (Nat × Nat) := F.map fun p => (p.2, p.1)
theorem get_of_key : ∀ {l : List (Nat × Option O)} {x : Nat} {o : O}, get l x = some o → x ∈ l.map (·.1) := fun h => List.mem_map.2 ⟨_, get_mem h, rfl⟩
def hren (f : Nat → Nat) (H : List (Nat × Option O)) : List (Nat × Option O) := H.map fun p => (f p.1, p.2.map (O.ren f))
theorem get_hren {f : Nat → Nat} : ∀ {H : List (Nat × Option O)} {L : Nat} {o : O}, (∀ x ∈ H.map (·.1), ∀ y ∈ H.map (·.1), f x = f y → x = y) → get (hren f H) L = some o → ∃ l o', l ∈ H.map (·.1) ∧ f l = L ∧ get H l = some o' ∧ o = o'.ren f
  | [], _, _, _, h => by simp [hren, get] at h
  | (k, v) :: r, L, o, hinj, h => by
    simp only [hren, List.map_cons] at h
    rw [get_cons] at h
    split at h
    · rename_i e
      cases v with
      | none => simp at h
      | some o' => simp at h; exact ⟨k, o', by simp, e, by rw [get_cons, if_pos rfl], h.symm⟩
    · rename_i e
      obtain ⟨l, o', h1, h2, h3, h4⟩ := get_hren (H := r) (fun x hx y hy => hinj x (by simp only [List.map_cons, List.mem_cons]; exact .inr hx) y (by simp only [List.map_cons, List.mem_cons]; exact .inr hy)) h
      refine ⟨l, o', by simp only [List.map_cons, List.mem_cons]; exact .inr h1, h2, ?_, h4⟩
      rw [get_cons, if_neg (fun ek => e (by rw [ek]; exact h2))]; exact h3
theorem get_hren_none {f : Nat → Nat} : ∀ {H : List (Nat × Option O)} {L : Nat} {T : List (Nat × Option O)}, (∀ x ∈ H.map (·.1), f x ≠ L) → get (hren f H ++ T) L = get T L
  | [], _, _, _ => rfl
  | (k, v) :: r, L, T, h => by
    simp only [hren, List.map_cons, List.cons_append]
    rw [get_cons, if_neg (h k (by simp))]
    exact get_hren_none (H := r) (fun x hx => h x (by simp only [List.map_cons, List.mem_cons]; exact .inr hx))
theorem get_app_some {α : Type} {l T : List (Nat × Option α)} {x : Nat} (h : x ∈ l.map (·.1)) : get (l ++ T) x = get l x := by
  have hk : hasKey l x := by obtain ⟨p, hp, e⟩ := List.mem_map.1 h; exact ⟨p, hp, e⟩
  have := get_append_yes (T := T) (T' := []) hk
  simpa using this

section
variable {P : Program} {n : Nat} {ops : Array Oper}
variable {s s' : S} {r : List Oper} {bs : List A} {g : Bool} {gks : List Nat} {d : Nat} {ty : TypeId} {pos : String} {af : Array Edge} {gd : Option (Nat × Bool)}

theorem AW {x : Operand} {f : FuncId} {caps : List V} {xs : List Operand} {ts : Array TypeId} {vs as : List V} {res : V} {full : Bool} {k0 ks kh : List Nat} (M F : List (Nat × Nat)) {hin hout : List (Nat × Option O)} (hgd : Gd ops s gd g gks) (hg : g = true) (hfv : Fv s g x f caps k0) (he : entB P f = true) (hx : Ods s g xs vs ks)
    (hp : Passes s full M as (vs ++ caps) kh) (hcon : Con P f as hin res hout) (hin' : subH (rn M) s hin) (hok : callOk M F hin hout res = true) (hf : F.all (fun p => freshB p.2 s) = true)
    (hro : full = true → res.atT.all V.noro = true) (hro' : full = true → ∀ p ∈ hout, ∀ o, p.2 = some o → ∀ u ∈ o.at_, u.noro = true) (hd : Nat.blt d n = true)
    (k : Lex P n ops r ⟨(d, some (true, res.ren (rn (M ++ F)))) :: s.T, hren (rn (M ++ F)) hout ++ ((M ++ F).map fun p => (p.2, none)) ++ s.H⟩ bs s') :
    Lex P n ops (⟨some d, .call ⟨.value x, ⟨xs⟩, ts⟩, ty, pos, af, gd⟩ :: r) s (⟨(k0 ++ ks) ++ gks, kh ++ M.map (·.2), F.map (·.2), [(d, some (true, res.ren (rn (M ++ F))))], hren (rn (M ++ F)) hout ++ ((M ++ F).map fun p => (p.2, none))⟩ :: bs) s' := by
  refine Lex.cons ?_ (fun l hl => by obtain ⟨p, hp, e⟩ := List.mem_map.1 hl; subst e; exact Fresh.of ((List.all_eq_true.1 hf) p hp)) k
  intro s' ht hh hfr c κ a w hc hs K Q hK
  have hgd' := hgd.agree (s' := s') (fun t hm => ht t (by simp [hm]))
  have hd' : d < n := Nat.le_of_ble_eq_true hd
  rw [hgd'.wanted hs rfl, hg]
  simp only [if_true]
  simp only [callOk, Bool.and_eq_true] at hok
  obtain ⟨⟨⟨⟨⟨⟨⟨⟨⟨⟨⟨c1, c2⟩, c3⟩, c4⟩, c5⟩, c6⟩, c7⟩, c8⟩, c9⟩, c10⟩, c11⟩, c12⟩ := hok
  have e1 := eqB_spec c1
  have nM1 := nodup_spec c3
  have nM2 := nodup_spec c4
  have nF1 := nodup_spec c6
  have nF2 := nodup_spec c7
  have ltM : ∀ p ∈ M, p.1 < 100 := fun p hp => Nat.le_of_ble_eq_true ((List.all_eq_true.1 c2) p hp)
  have geF : ∀ p ∈ F, 100 ≤ p.1 := fun p hp => Nat.le_of_ble_eq_true ((List.all_eq_true.1 c5) p hp)
  have disj : ∀ p ∈ F, ∀ q ∈ M, p.2 ≠ q.2 := fun p hp q hq e => by
    have := (List.all_eq_true.1 c8) p hp
    simp only [Bool.not_eq_true', List.any_eq_false] at this
    have := this q.2 (List.mem_map.2 ⟨q, hq, rfl⟩)
    simp [e] at this
  have frF : ∀ p ∈ F, Fresh p.2 s' := fun p hp => hfr p.2 (List.mem_map.2 ⟨p, hp, rfl⟩)
  -- the renaming on labels that come in
  have lookM : ∀ l ∈ M.map (·.1), ∃ L, look M l = some L ∧ rn M l = L ∧ rn (M ++ F) l = L ∧ (l, L) ∈ M := fun l hl => by
    obtain ⟨L, hL⟩ := look_of_mem hl
    exact ⟨L, hL, by simp [rn, hL], by simp [rn, look_append, hL], look_mem hL⟩
  have lookF : ∀ l ∈ F.map (·.1), ∃ L, rn (M ++ F) l = L ∧ (l, L) ∈ F ∧ look (swp F) L = some l := fun l hl => by
    obtain ⟨L, hL⟩ := look_of_mem hl
    have hm := look_mem hL
    have hnM : look M l = none := by
      cases hk : look M l with
      | none => rfl
      | some q => have := ltM _ (look_mem hk); have := geF _ hm; simp at *; omega
    refine ⟨L, by simp [rn, look_append, hnM, hL], hm, look_eq ?_ ?_⟩
    · simp only [swp, List.map_map]; exact nF2
    · simp only [swp, List.mem_map]; exact ⟨(l, L), hm, rfl⟩
  have hliveS : ∀ l o, (l, some o) ∈ hin → get hin l = some o := fun l o hlo => by
    have hnd : (hin.map (·.1)).Nodup := by rw [← e1]; exact nM1
    clear hin' hcon c1 c9 e1 hp
    induction hin with
    | nil => simp at hlo
    | cons p r ih =>
      obtain ⟨k, v⟩ := p
      rw [List.map_cons, List.nodup_cons] at hnd
      rw [get_cons]
      rcases List.mem_cons.1 hlo with h | h
      · injection h with h1 h2; subst h1; subst h2; simp
      · have : k ≠ l := fun e => hnd.1 (by rw [e]; exact List.mem_map.2 ⟨(l, some o), h, rfl⟩)
        simp only [this, if_false]
        exact ih h hnd.2
  have hinObj : ∀ l ∈ M.map (·.1), ∃ o, get hin l = some o ∧ get s'.H (rn M l) = some (o.ren (rn M)) ∧ ∀ x ∈ o.labs, x ∈ M.map (·.1) := fun l hl => by
    have hl' : l ∈ hin.map (·.1) := by rw [← e1]; exact hl
    obtain ⟨p, hp, e⟩ := List.mem_map.1 hl'
    obtain ⟨k, v⟩ := p
    simp at e; subst e
    have h9 := (List.all_eq_true.1 c9) _ hp
    cases v with
    | none => simp at h9
    | some o =>
      have hg1 := hliveS k o hp
      have h2 := subH_get hin' k o hg1
      obtain ⟨L, hL, hL2, _, hLm⟩ := lookM k hl
      refine ⟨o, hg1, ?_, fun x hx => subset_spec h9 hx⟩
      rw [hL2] at h2 ⊢
      rw [hh L (List.mem_append_right _ (List.mem_map.2 ⟨(k, L), hLm, rfl⟩))]
      exact h2
  have hl : Live s' M := fun p hp => by
    obtain ⟨o, _, ho, _⟩ := hinObj p.1 (List.mem_map.2 ⟨p, hp, rfl⟩)
    have : rn M p.1 = p.2 := by simp [rn, look_eq nM1 (show (p.1, p.2) ∈ M from hp)]
    rw [this] at ho
    exact ⟨_, ho⟩
  obtain ⟨ys, hfn, hys⟩ := (hfv.agree (s' := s') (fun t hm => ht t (by simp [hm]))).rep hs hg
  have hvs := (hx.agree (s' := s') (fun t hm => ht t (by simp [hm]))).rep hs hg
  have hargs : All2 (RepT c κ) (vs ++ caps) (xs.map a.eval ++ ys) := hvs.append (hys.mono fun u hu y hy => by
    have h1 := repB_repC hy
    cases u with
    | st cs => exact (by cases (show RepR c (.st cs) y from hy))
    | tup cs => exact (by cases (show RepR c (.tup cs) y from hy))
    | _ => exact h1)
  obtain ⟨φ, N⟩ := hs.mem.ns
  generalize hXd : (fun b : Nat => XOf κ M b ∨ ∃ p ∈ M, ∃ i k, φ p.2 i = some (b, k)) = X
  have hXi : ∀ b, X b ↔ (XOf κ M b ∨ ∃ p ∈ M, ∃ i k, φ p.2 i = some (b, k)) := fun b => by rw [← hXd]
  have hX0 := XS.of hs.mem hl
  have hX : XS c κ s'.H w M X := by
    refine ⟨fun b hb => ?_, fun l o b k hM ho hk hb => ?_, φ, N, fun l i b k hM hp hb => ?_⟩
    · rcases (hXi b).1 hb with h | ⟨p, hp, i, k, h⟩
      · exact hX0.own b h
      · obtain ⟨g1, g2, g3⟩ := N.own _ _ _ _ h; exact ⟨g2, g3, g1⟩
    · rcases (hXi b).1 hb with h | ⟨p, hp, i, k, h⟩
      · exact hX0.sep l o b k hM ho hk h
      · exact N.out _ _ _ _ h _ _ _ ho hk
    · rcases (hXi b).1 hb with ⟨q, hq, k', hk'⟩ | ⟨q, hq, i', k', h⟩
      · obtain ⟨o', ho'⟩ := hl q hq
        exact N.out _ _ _ _ hp _ _ _ ho' hk'
      · have := (N.inj _ _ _ _ _ _ _ hp h).1
        have h2 := (List.all_eq_true.1 hM) q hq
        rw [this] at h2; simp at h2
  have notM : ∀ L, (∀ p ∈ M, p.2 ≠ L) → M.all (fun p => !Nat.beq p.2 L) = true := fun L hL => by
    rw [List.all_eq_true]
    intro p hp
    cases hb : Nat.beq p.2 L with
    | false => rfl
    | true => exact absurd (Nat.eq_of_beq_eq_true hb) (hL p hp)
  have hin2 := (hp.agree (fun l hl => hh l (List.mem_append_left _ hl))).rep hc hs.mem hX hargs (full := full) (w := w)
  have κM : ∀ l ∈ M.map (·.1), (cxX c κ w full M X).κ l = κ (rn M l) := fun l hl' => by
    obtain ⟨L, hL, hL2, _, _⟩ := lookM l hl'
    simp only [cxX, hL, hL2]
  have keyM : ∀ l o, get hin l = some o → l ∈ M.map (·.1) := fun l o h => by rw [e1]; exact get_of_key h
  have hmem : Mem (cxX c κ w full M X) (cxX c κ w full M X).κ hin w := by
    refine ⟨Ext.refl _ _, fun l o hlo => ?_, fun l o b k hlo hk => ?_, fun l l' o o' b k k' hlo hlo' hk hk' => ?_, fun l _ => rfl, ?_⟩
    · obtain ⟨o', h1, h2, h3⟩ := hinObj l (keyM l o hlo)
      rw [hlo] at h1; injection h1 with h1; subst h1
      have := hs.mem.hp _ _ h2
      have h4 : Holds c (cxX c κ w full M X).κ w l o := Holds.unren (κ' := κ) (f := rn M) (κM l (keyM l o hlo)).symm (fun x hx => (κM x (h3 x hx)).symm) this
      exact h4.cx fun u hu y hy => rep_in hc hs.mem hX hy
    · rw [κM l (keyM l o hlo)] at hk
      obtain ⟨L, hL, hL2, _, hLm⟩ := lookM l (keyM l o hlo)
      rw [hL2] at hk
      have hXb : X b := (hXi b).2 (.inl ⟨(l, L), hLm, k, hk⟩)
      exact ⟨.inr hXb, fun hD => hD.2.1 hXb⟩
    · rw [κM l (keyM l o hlo)] at hk
      rw [κM l' (keyM l' o' hlo')] at hk'
      obtain ⟨L, hL, hL2, _, hLm⟩ := lookM l (keyM l o hlo)
      obtain ⟨L', hL', hL2', _, hLm'⟩ := lookM l' (keyM l' o' hlo')
      rw [hL2] at hk
      rw [hL2'] at hk'
      obtain ⟨q, hq⟩ := hl _ hLm
      obtain ⟨q', hq'⟩ := hl _ hLm'
      have hLL := hs.mem.ij L L' q q' b k k' hq hq' hk hk'
      subst hLL
      have h1 : look (swp M) L = some l := look_eq (by simp only [swp, List.map_map]; exact nM2) (by simp only [swp, List.mem_map]; exact ⟨(l, L), hLm, rfl⟩)
      have h2 : look (swp M) L = some l' := look_eq (by simp only [swp, List.map_map]; exact nM2) (by simp only [swp, List.mem_map]; exact ⟨(l', L), hLm', rfl⟩)
      rw [h1] at h2; exact Option.some.inj h2
    · refine ⟨_, hs.mem.nsx (rn M) N (fun _ _ _ _ _ _ _ _ _ _ _ _ _ _ _ _ hy => rep_in hc hs.mem hX hy) (fun l o i b k hlo hN hp => ?_) (fun l el sz q te ze g es hlo => ?_) (fun l l' o o' hlo hlo' _ _ e => ?_) (fun l o b k hlo hk => ?_) (fun _ _ => .inl rfl) (Nat.le_refl _)⟩
      · obtain ⟨L, hL, hL2, _, hLm⟩ := lookM l (keyM l o hlo)
        rw [hL2] at hp
        have hXb : X b := (hXi b).2 (.inr ⟨(l, L), hLm, i, k, hp⟩)
        exact ⟨.inr hXb, fun hD => hD.2.1 hXb⟩
      · obtain ⟨o', h1, h2, h3⟩ := hinObj l (keyM l _ hlo)
        rw [hlo] at h1; injection h1 with h1; subst h1
        exact ⟨h2, κM l (keyM l _ hlo), fun i L hL => κM L (h3 L (by subst hL; simp [O.labs]))⟩
      · obtain ⟨L, hL, hL2, _, hLm⟩ := lookM l (keyM l o hlo)
        obtain ⟨L', hL', hL2', _, hLm'⟩ := lookM l' (keyM l' o' hlo')
        rw [hL2, hL2'] at e
        subst e
        have h1 : look (swp M) L = some l := look_eq (by simp only [swp, List.map_map]; exact nM2) (by simp only [swp, List.mem_map]; exact ⟨(l, L), hLm, rfl⟩)
        have h2 : look (swp M) L = some l' := look_eq (by simp only [swp, List.map_map]; exact nM2) (by simp only [swp, List.mem_map]; exact ⟨(l', L), hLm', rfl⟩)
        rw [h1] at h2; exact Option.some.inj h2
      · rw [κM l (keyM l o hlo)] at hk
        obtain ⟨o', _, h2, _⟩ := hinObj l (keyM l o hlo)
        exact .inr ⟨_, _, k, h2, hk⟩
  unfold Oper.wp
  rw [run_call he hfn]
  simp only [Oper.upon]
  refine (hcon (cxX c κ w full M X) _ (cx_okP hc hs.mem full M hX) hin2 hmem).mono fun e w' ⟨x', κ2, he', hr, hm⟩ => ?_
  subst he'
  have hxw : Ext X w w' := hm.ext
  -- the caller's new map of labels
  let κn : Ka := fun L => match look (swp F) L with
    | some l => κ2 l
    | none => κ L
  have κold : ∀ L, (∀ p ∈ F, p.2 ≠ L) → κn L = κ L := fun L hL => by
    show (match look (swp F) L with | some l => κ2 l | none => κ L) = κ L
    cases hk : look (swp F) L with
    | none => rfl
    | some l =>
      have := look_mem hk
      simp only [swp, List.mem_map] at this
      obtain ⟨p, hp, e⟩ := this
      injection e with e1 e2
      exact absurd e1 (hL p hp)
  have κR : ∀ l ∈ (M ++ F).map (·.1), κn (rn (M ++ F) l) = κ2 l := fun l hl' => by
    rw [List.map_append, List.mem_append] at hl'
    rcases hl' with hl' | hl'
    · obtain ⟨L, hL, hL2, hL3, hLm⟩ := lookM l hl'
      rw [hL3, κold L (fun p hp e => disj p hp _ hLm e)]
      have := hm.pin l (ltM _ hLm)
      rw [this, κM l hl', hL2]
    · obtain ⟨L, hL, hLm, hsw⟩ := lookF l hl'
      rw [hL]
      show (match look (swp F) L with | some l => κ2 l | none => κ L) = κ2 l
      rw [hsw]
  have inj : ∀ x ∈ (M ++ F).map (·.1), ∀ y ∈ (M ++ F).map (·.1), rn (M ++ F) x = rn (M ++ F) y → x = y := fun x hx y hy e => by
    rw [List.map_append, List.mem_append] at hx hy
    rcases hx with hx | hx <;> rcases hy with hy | hy
    · obtain ⟨L, _, _, h3, hm1⟩ := lookM x hx
      obtain ⟨L', _, _, h3', hm2⟩ := lookM y hy
      rw [h3, h3'] at e; subst e
      have h1 : look (swp M) L = some x := look_eq (by simp only [swp, List.map_map]; exact nM2) (by simp only [swp, List.mem_map]; exact ⟨(x, L), hm1, rfl⟩)
      have h2 : look (swp M) L = some y := look_eq (by simp only [swp, List.map_map]; exact nM2) (by simp only [swp, List.mem_map]; exact ⟨(y, L), hm2, rfl⟩)
      rw [h1] at h2; exact Option.some.inj h2
    · obtain ⟨L, _, _, h3, hm1⟩ := lookM x hx
      obtain ⟨L', h3', hm2, _⟩ := lookF y hy
      rw [h3, h3'] at e; subst e
      exact ((disj _ hm2 _ hm1) rfl).elim
    · obtain ⟨L, h3, hm1, _⟩ := lookF x hx
      obtain ⟨L', _, _, h3', hm2⟩ := lookM y hy
      rw [h3, h3'] at e; subst e
      exact ((disj _ hm1 _ hm2) rfl).elim
    · obtain ⟨L, h3, _, hs1⟩ := lookF x hx
      obtain ⟨L', h3', _, hs2⟩ := lookF y hy
      rw [h3, h3'] at e; subst e
      rw [hs1] at hs2; exact Option.some.inj hs2
  have outK : ∀ l ∈ hout.map (·.1), l ∈ (M ++ F).map (·.1) := fun l hl' => subset_spec c10 hl'
  have outO : ∀ l o, get hout l = some o → ∀ x ∈ o.labs, x ∈ (M ++ F).map (·.1) := fun l o h x hx => subset_spec ((List.all_eq_true.1 c11) _ (get_mem h)) hx
  have back : ∀ {v : V} {y : Value}, (full = true → v.noro = true) → RepR (cxX c κ w full M X) v y → RepR c v y := fun hv h => rep_out hc hs.mem hv h
  -- a live label of the new state: one that came out of the call, or an old one
  have live : ∀ L o, get (hren (rn (M ++ F)) hout ++ ((M ++ F).map fun p => (p.2, none)) ++ s'.H) L = some o → (∃ l o', l ∈ hout.map (·.1) ∧ rn (M ++ F) l = L ∧ get hout l = some o' ∧ o = o'.ren (rn (M ++ F))) ∨ ((∀ p ∈ M ++ F, p.2 ≠ L) ∧ get s'.H L = some o) := fun L o h => by
    rw [List.append_assoc] at h
    by_cases hL : ∃ l ∈ hout.map (·.1), rn (M ++ F) l = L
    · left
      obtain ⟨l, hl', e⟩ := hL
      have hk : L ∈ (hren (rn (M ++ F)) hout).map (·.1) := by
        simp only [hren, List.map_map, List.mem_map]
        obtain ⟨p, hp, e2⟩ := List.mem_map.1 hl'
        exact ⟨p, hp, by simp [e2, e]⟩
      rw [get_app_some hk] at h
      exact get_hren (fun x hx y hy => inj x (outK x hx) y (outK y hy)) h
    · right
      rw [get_hren_none (fun x hx e => hL ⟨x, hx, e⟩)] at h
      by_cases hM : ∃ p ∈ M ++ F, p.2 = L
      · obtain ⟨p, hp, e⟩ := hM
        have hk : L ∈ (((M ++ F).map fun p => (p.2, (none : Option O)))).map (·.1) := by
          simp only [List.map_map, List.mem_map]; exact ⟨p, hp, e⟩
        rw [get_app_some hk] at h
        have := get_mem h
        simp at this
      · refine ⟨fun p hp e => hM ⟨p, hp, e⟩, ?_⟩
        rw [get_append_no (fun ⟨q, hq, e⟩ => by obtain ⟨p, hp, e2⟩ := List.mem_map.1 hq; subst e2; exact hM ⟨p, hp, e⟩)] at h
        exact h
  have notX : ∀ L o b k, (∀ p ∈ M, p.2 ≠ L) → get s'.H L = some o → κ L = some (b, k) → ¬ X b := fun L o b k hM ho hk => hX.sep L o b k (notM L hM) ho hk
  have notXi : ∀ L i b k, (∀ p ∈ M, p.2 ≠ L) → φ L i = some (b, k) → ¬ X b := fun L i b k hM hp hb => by
    rcases (hXi b).1 hb with ⟨q, hq, k', hk'⟩ | ⟨q, hq, i', k', h⟩
    · obtain ⟨o', ho'⟩ := hl q hq
      exact N.out _ _ _ _ hp _ _ _ ho' hk'
    · exact hM q hq (N.inj _ _ _ _ _ _ _ hp h).1.symm
  have kold : ∀ L o, get s'.H L = some o → ∀ x ∈ o.labs, κn x = κ x := fun L o ho x hx => κold x (fun p hp e => (frF p hp).h _ (get_mem ho) o rfl (e ▸ hx))
  refine hK _ _ κn ?_
  have hresR : RepT c κn (res.ren (rn (M ++ F))) x' := by
    refine (hr.ren (κ' := κn) (fun l hl' => κR l (subset_spec c12 hl'))).cx ?_
    intro u hu y hy
    refine back (fun hfl => ?_) hy
    have := hro hfl
    -- the parts of a renamed value are plain as those of the value are
    have key : ∀ (v : V), v.atT.all V.noro = true → (v.ren (rn (M ++ F))).atT.all V.noro = true := by
      have kB : ∀ v : V, v.noro = true → (v.renB (rn (M ++ F))).noro = true := fun v h => by cases v <;> simp [V.renB, V.noro] at h ⊢
      have kC : ∀ v : V, v.atC.all V.noro = true → (v.renC (rn (M ++ F))).atC.all V.noro = true := fun v h => by
        cases v with
        | clo f cs =>
          simp only [V.atC, V.renC, List.all_eq_true, List.mem_map] at h ⊢
          rintro x ⟨a, ha, rfl⟩; exact kB a (h a ha)
        | _ => (try simp [V.atC, V.renC, V.renB, V.noro] at h) <;> (try simp [V.atC, V.renC, V.renB, V.noro]) <;> (try exact h)
      have kS : ∀ v : V, v.atS.all V.noro = true → (v.renS (rn (M ++ F))).atS.all V.noro = true := fun v h => by
        cases v with
        | st cs =>
          simp only [V.atS, V.renS, List.all_flatMap, List.all_map, List.all_eq_true, Function.comp_apply] at h ⊢
          intro a ha
          exact (List.all_eq_true.1 (kC a (List.all_eq_true.2 (h a ha))))
        | clo f cs => exact kC (.clo f cs) h
        | _ => (try simp [V.atS, V.renS, V.atC, V.renC, V.renB, V.noro] at h) <;> (try simp [V.atS, V.renS, V.atC, V.renC, V.renB, V.noro]) <;> (try exact h)
      intro v h
      cases v with
      | tup vs =>
        simp only [V.atT, V.ren, List.all_flatMap, List.all_map, List.all_eq_true, Function.comp_apply] at h ⊢
        intro a ha
        exact (List.all_eq_true.1 (kS a (List.all_eq_true.2 (h a ha))))
      | st cs => exact kS (.st cs) h
      | clo f cs => exact kS (.clo f cs) h
      | _ => (try simp [V.atT, V.ren, V.atS, V.renS, V.atC, V.renC, V.renB, V.noro] at h) <;> (try simp [V.atT, V.ren, V.atS, V.renS, V.atC, V.renC, V.renB, V.noro]) <;> (try exact h)
    exact (List.all_eq_true.1 (key res this)) u hu
  refine hs.put hd' (fun t e' ht' he' => he'.turn fun l hl' => κold l (fun p hp e => (frF p hp).t _ (get_mem ht') e' rfl (e ▸ hl'))) ⟨fun _ => hresR, fun h => by simp at h⟩ ?_
  refine ⟨hs.mem.ext.trans' hxw (fun b hb => (X_own hX hb).1), fun L o hL => ?_, fun L o b k hL hk => ?_, fun L1 L2 o1 o2 b k k' h1 h2 hk1 hk2 => ?_, fun l hl100 => ?_, ?_⟩
  · rcases live L o hL with ⟨l, o', hl', hlL, ho', rfl⟩ | ⟨hM, ho⟩
    · subst hlL
      have hho := hm.hp l o' ho'
      have hho' : Holds c κ2 w' l o' := hho.cx fun u hu y hy => back (fun hfl => hro' hfl _ (get_mem ho') o' rfl u hu) hy
      exact hho'.ren (κ' := κn) (f := rn (M ++ F)) (κR l (outK l hl')) (fun x hx => κR x (outO l o' ho' x hx))
    · have hkL : κn L = κ L := κold L (fun p hp => hM p (List.mem_append_right _ hp))
      exact (hs.mem.hp L o ho).turn hkL (fun x hx => kold L o ho x hx) (fun b k hk => hxw.block b (hs.mem.lt ho hk) (notX L o b k (fun p hp => hM p (List.mem_append_left _ hp)) ho hk))
  · rcases live L o hL with ⟨l, o', hl', hlL, ho', rfl⟩ | ⟨hM, ho⟩
    · subst hlL
      rw [κR l (outK l hl')] at hk
      obtain ⟨h1, h2⟩ := hm.ow l o' b k ho' hk
      rcases h1 with h1 | h1
      · have h3 : c.w.heap.size ≤ b := Nat.le_trans hs.mem.ext.size h1
        exact ⟨.inl h3, fun hD => absurd (hc.ok.lt b hD) (by omega)⟩
      · exact ⟨(X_own hX h1).1, (X_own hX h1).2.1⟩
    · rw [κold L (fun p hp => hM p (List.mem_append_right _ hp))] at hk
      exact hs.mem.ow L o b k ho hk
  · rcases live L1 o1 h1 with ⟨l, o', hl', hlL, ho', rfl⟩ | ⟨hM, ho⟩ <;> rcases live L2 o2 h2 with ⟨m, p', hm', hmL, hp', rfl⟩ | ⟨hM', ho2⟩
    · subst hlL; subst hmL
      rw [κR l (outK l hl')] at hk1
      rw [κR m (outK m hm')] at hk2
      rw [hm.ij l m o' p' b k k' ho' hp' hk1 hk2]
    · subst hlL
      rw [κR l (outK l hl')] at hk1
      rw [κold L2 (fun p hp => hM' p (List.mem_append_right _ hp))] at hk2
      exfalso
      have hlt := hs.mem.lt ho2 hk2
      rcases (hm.ow l o' b k ho' hk1).1 with h3 | h3
      · exact absurd hlt (Nat.not_lt.2 h3)
      · exact notX L2 o2 b k' (fun p hp => hM' p (List.mem_append_left _ hp)) ho2 hk2 h3
    · subst hmL
      rw [κold L1 (fun p hp => hM p (List.mem_append_right _ hp))] at hk1
      rw [κR m (outK m hm')] at hk2
      exfalso
      have hlt := hs.mem.lt ho hk1
      rcases (hm.ow m p' b k' hp' hk2).1 with h3 | h3
      · exact absurd hlt (Nat.not_lt.2 h3)
      · exact notX L1 o1 b k (fun p hp => hM p (List.mem_append_left _ hp)) ho hk1 h3
    · rw [κold L1 (fun p hp => hM p (List.mem_append_right _ hp))] at hk1
      rw [κold L2 (fun p hp => hM' p (List.mem_append_right _ hp))] at hk2
      exact hs.mem.ij L1 L2 o1 o2 b k k' ho ho2 hk1 hk2
  · rw [κold l (fun p hp e => by have := (frF p hp).ge; omega)]
    exact hs.mem.pin l hl100
  · obtain ⟨φ2, N2⟩ := hm.ns
    generalize hH : hren (rn (M ++ F)) hout ++ ((M ++ F).map fun p => (p.2, none)) ++ s'.H = Hn at live
    -- the nests of the new state: those that came out of the call, and the old ones
    let φn : Nat → Ka := fun L i => match get Hn L with
      | some (.nest ..) => (match look (swp (M ++ F)) L with | some l => φ2 l i | none => φ L i)
      | _ => none
    have n2MF : ((M ++ F).map (·.2)).Nodup := by
      rw [List.map_append, List.nodup_append]
      refine ⟨nM2, nF2, fun a ha b hb e => ?_⟩
      obtain ⟨p, hp, e1⟩ := List.mem_map.1 ha
      obtain ⟨q, hq, e2⟩ := List.mem_map.1 hb
      exact disj q hq p hp (by rw [e1, e2, e])
    have pairOf : ∀ l ∈ (M ++ F).map (·.1), (l, rn (M ++ F) l) ∈ M ++ F := fun l hl' => by
      rw [List.map_append, List.mem_append] at hl'
      rcases hl' with hl' | hl'
      · obtain ⟨L, _, _, h3, hm1⟩ := lookM l hl'; rw [h3]; exact List.mem_append_left _ hm1
      · obtain ⟨L, h3, hm1, _⟩ := lookF l hl'; rw [h3]; exact List.mem_append_right _ hm1
    have back2 : ∀ l ∈ hout.map (·.1), look (swp (M ++ F)) (rn (M ++ F) l) = some l := fun l hl' =>
      look_eq (by simp only [swp, List.map_map]; exact n2MF) (by simp only [swp, List.mem_map]; exact ⟨(l, rn (M ++ F) l), pairOf l (outK l hl'), rfl⟩)
    have lookNo : ∀ L, (∀ p ∈ M ++ F, p.2 ≠ L) → look (swp (M ++ F)) L = none := fun L hL => by
      cases hk : look (swp (M ++ F)) L with
      | none => rfl
      | some l =>
        have := look_mem hk
        simp only [swp, List.mem_map] at this
        obtain ⟨p, hp, e⟩ := this
        injection e with e1 e2
        exact absurd e1 (hL p hp)
    have cas : ∀ L i b k, φn L i = some (b, k) → (∃ l, l ∈ hout.map (·.1) ∧ rn (M ++ F) l = L ∧ φ2 l i = some (b, k)) ∨ ((∀ p ∈ M ++ F, p.2 ≠ L) ∧ φ L i = some (b, k)) := fun L i b k hp => by
      cases hg : get Hn L with
      | none => simp [φn, hg] at hp
      | some o =>
        cases o with
        | row _ _ _ => simp [φn, hg] at hp
        | box _ _ => simp [φn, hg] at hp
        | nest el sz q te ze g es =>
          simp only [φn, hg] at hp
          rcases live L _ hg with ⟨l, o', hl', hlL, ho', _⟩ | ⟨hM, ho⟩
          · subst hlL
            rw [back2 l hl'] at hp
            exact .inl ⟨l, hl', rfl, hp⟩
          · rw [lookNo L hM] at hp
            exact .inr ⟨hM, hp⟩
    have notM' : ∀ {L}, (∀ p ∈ M ++ F, p.2 ≠ L) → ∀ p ∈ M, p.2 ≠ L := fun h p hp => h p (List.mem_append_left _ hp)
    refine ⟨φn, fun L el sz q te ze g es hL i e he => ?_, fun L i p hp => ?_, fun L i b k hp => ?_, fun L i b k hp L' o k' hL' hk' => ?_, fun L i b k L' i' k' hp hp' => ?_⟩
    · rcases live L _ hL with ⟨l, o', hl', hlL, ho', eo⟩ | ⟨hM, ho⟩
      · subst hlL
        have hφ : φn (rn (M ++ F) l) i = φ2 l i := by simp only [φn, hL, back2 l hl']
        rw [hφ]
        cases o' with
        | row _ _ _ => simp [O.ren] at eo
        | box _ _ => simp [O.ren] at eo
        | nest el' sz' q' te' ze' g' es' =>
          simp only [O.ren, O.nest.injEq] at eo
          obtain ⟨rfl, rfl, rfl, rfl, rfl, rfl, rfl⟩ := eo
          have hI := N2.inn l _ _ _ _ _ _ _ ho' i e he
          refine hI.move (fun es2 hq u hu y hy => back (fun hfl => hro' hfl _ (get_mem ho') _ rfl u ?_) hy) (κR l (outK l hl')) (fun _ _ _ => rfl) (fun _ _ _ => rfl) (fun L hL => ?_) (fun hno L hL => ?_)
          · simp only [O.at_, List.mem_flatMap]
            exact ⟨e, List.mem_of_getElem? he, List.mem_append_right _ (by rw [hq]; exact hu)⟩
          · cases g' with
            | none => simp at hL
            | some p =>
              simp only [Option.map_some, Option.some.injEq] at hL
              obtain ⟨e1, e2⟩ := Prod.mk.inj hL
              exact ⟨p.2, by rw [← e1], by rw [← e2]; exact κR p.2 (outO l _ ho' p.2 (by simp [O.labs]))⟩
          · subst hL; exact hno (rn (M ++ F) L) rfl
      · have hφ : φn L i = φ L i := by simp only [φn, hL, lookNo L hM]
        rw [hφ]
        have hI := N.inn L _ _ _ _ _ _ _ ho i e he
        refine hI.move (fun _ _ _ _ _ h => h) (κold L (fun p hp => hM p (List.mem_append_right _ hp))) (fun b k hk => hxw.block b (hs.mem.lt ho hk) (notX L _ b k (notM' hM) ho hk)) (fun b k hp => hxw.block b (N.own _ _ _ _ hp).1 (notXi L i b k (notM' hM) hp)) (fun L2 hL2 => ⟨L2, hL2, kold L _ ho L2 (by subst hL2; simp [O.labs])⟩) (fun h => h)
    · cases hg : get Hn L with
      | none => simp [φn, hg] at hp
      | some o =>
        cases o with
        | row _ _ _ => simp [φn, hg] at hp
        | box _ _ => simp [φn, hg] at hp
        | nest el sz q te ze g es => exact ⟨_, rfl, rfl⟩
    · rcases cas L i b k hp with ⟨l, hl', _, h2⟩ | ⟨hM, h2⟩
      · obtain ⟨g1, g2, g3⟩ := N2.own _ _ _ _ h2
        refine ⟨g1, ?_⟩
        rcases g2 with g2 | g2
        · have h3 : c.w.heap.size ≤ b := Nat.le_trans hs.mem.ext.size g2
          exact ⟨.inl h3, fun hD => absurd (hc.ok.lt b hD) (by omega)⟩
        · exact ⟨(X_own hX g2).1, (X_own hX g2).2.1⟩
      · obtain ⟨g1, g2, g3⟩ := N.own _ _ _ _ h2
        exact ⟨Nat.lt_of_lt_of_le g1 hxw.size, g2, g3⟩
    · rcases cas L i b k hp with ⟨l, hl', _, h2⟩ | ⟨hM, h2⟩ <;> rcases live L' o hL' with ⟨m, p', hm', hmL, hp', rfl⟩ | ⟨hM', ho2⟩
      · subst hmL
        rw [κR m (outK m hm')] at hk'
        exact N2.out _ _ _ _ h2 _ _ _ hp' hk'
      · rw [κold L' (fun p hp => hM' p (List.mem_append_right _ hp))] at hk'
        rcases (N2.own _ _ _ _ h2).2.1 with h3 | h3
        · exact absurd (hs.mem.lt ho2 hk') (Nat.not_lt.2 h3)
        · exact notX L' o b k' (notM' hM') ho2 hk' h3
      · subst hmL
        rw [κR m (outK m hm')] at hk'
        rcases (hm.ow m p' b k' hp' hk').1 with h3 | h3
        · exact absurd (N.own _ _ _ _ h2).1 (Nat.not_lt.2 h3)
        · exact notXi L i b k (notM' hM) h2 h3
      · rw [κold L' (fun p hp => hM' p (List.mem_append_right _ hp))] at hk'
        exact N.out _ _ _ _ h2 _ _ _ ho2 hk'
    · rcases cas L i b k hp with ⟨l, hl', e1, h2⟩ | ⟨hM, h2⟩ <;> rcases cas L' i' b k' hp' with ⟨m, hm', e2, h3⟩ | ⟨hM', h3⟩
      · obtain ⟨g1, g2⟩ := N2.inj _ _ _ _ _ _ _ h2 h3
        exact ⟨by rw [← e1, ← e2, g1], g2⟩
      · exfalso
        rcases (N2.own _ _ _ _ h2).2.1 with h4 | h4
        · exact absurd (N.own _ _ _ _ h3).1 (Nat.not_lt.2 h4)
        · exact notXi L' i' b k' (notM' hM') h3 h4
      · exfalso
        rcases (N2.own _ _ _ _ h3).2.1 with h4 | h4
        · exact absurd (N.own _ _ _ _ h2).1 (Nat.not_lt.2 h4)
        · exact notXi L i b k (notM' hM) h2 h4
      · exact N.inj _ _ _ _ _ _ _ h2 h3
end
end Go.Proofs.YtibbfdojcdkopaaGreat.E
