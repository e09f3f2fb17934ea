/-
  THE ENGINE, part Q: a call under a guard that turns one object of the caller's; a slot that holds a nil pointer until it is set.
  Conditions: none; all of it is over any program.
-/
import Derived.Test.YtdkkcemlnjlebaaDoorEngN
set_option linter.unusedVariables false
set_option linter.unusedSimpArgs false
set_option linter.unusedSectionVars false
set_option linter.unnecessarySimpa false
namespace Go.Proofs.YtdkkcemlnjlebaaDoor.E
open Go Go.RowKit
theorem Sat.put_none {n : Nat} {c : Cx} {κ : Ka} {s : S} {a : Act} {w : World} {d : Nat} {x : Value} (h : Sat n c κ s a w) (hd : d < n) :
    Sat n c κ ⟨(d, none) :: s.T, s.H⟩ (a.put (some d) x) w := by
  refine ⟨h.hd, by simp [Act.put, h.hn], fun t e' ht => ?_, h.mem⟩
  rw [get_cons] at ht
  simp only [Act.put]
  rw [getD_set (by rw [h.hn]; exact hd)]
  split
  · rename_i he; subst he; simp at ht
  · rename_i he; simp only [he, if_false] at ht; exact h.tm t e' ht
section
variable {P : Program} {n : Nat} {ops : Array Oper}
variable {s s' : S} {r : List Oper} {bs : List A} {g : Bool} {gks : List Nat} {d : Nat} {ty : TypeId} {pos : String} {af : Array Edge} {gd : Option (Nat × Bool)}
/-- a slot is set to a constant that nobody looks at -/
theorem q_unread {v : Value} (hgd : Gd ops s gd g gks) (hg : g = true) (hd : Nat.blt d n = true) (k : Lex P n ops r ⟨(d, none) :: s.T, s.H⟩ bs s') :
    Lex P n ops (⟨some d, .assign (.const v), ty, pos, af, gd⟩ :: r) s (⟨gks, [], [], [(d, none)], []⟩ :: bs) s' := by
  refine Lex.cons ?_ (by simp) k
  intro s1 ht hh hf c κ a w hc hs K Q hK
  have hgd' := hgd.agree (s' := s1) (fun t hm => ht t hm)
  have hd' : d < n := Nat.le_of_ble_eq_true hd
  rw [hgd'.wanted hs rfl, hg]
  simp only [if_true]
  unfold Oper.wp
  have hr : (execOp a.eval (⟨some d, .assign (.const v), ty, pos, af, gd⟩ : Oper)).run P w = .ok (.value v) w := rfl
  rw [hr]
  simp only [Oper.upon]
  exact hK _ _ κ (hs.put_none hd')
/-- a call under a guard, that turns one object of the caller's -/
theorem q_callGM {x : Operand} {f : FuncId} {caps : List V} {xs : List Operand} {ts : Array TypeId} {vs as : List V} {res : V} {full : Bool} {k0 ks kh : List Nat} {m0 L : Nat} {hin hout : List (Nat × Option O)} {v : V} {o' : O} (hgd : Gd ops s gd g gks)
    (hfv : g = true → Fv s true x f caps k0) (he : entB P f = true) (hx : g = true → Ods s true xs vs ks) (hp : Passes s full [(m0, L)] as (vs ++ caps) kh) (hcon : g = true → Con P f as hin res hout) (hin' : subH (rn [(m0, L)]) s hin) (hok : callOk [(m0, L)] [] hin hout res = true)
    (hro : full = true → res.atT.all V.noro = true) (hro' : full = true → ∀ p ∈ hout, ∀ o, p.2 = some o → ∀ u ∈ o.at_, u.noro = true) (hd : Nat.blt d n = true)
    (hv : g = true → res.ren (rn ([(m0, L)] ++ [])) = v ∧ hren (rn ([(m0, L)] ++ [])) hout = [(L, some o')]) (hn : g = false → get s.H L = some o')
    (k : Lex P n ops r ⟨(d, some (g, v)) :: s.T, (L, some o') :: (L, none) :: s.H⟩ bs s') :
    Lex P n ops (⟨some d, .call ⟨.value x, ⟨xs⟩, ts⟩, ty, pos, af, gd⟩ :: r) s (⟨((k0 ++ ks) ++ []) ++ gks, kh ++ [L], [], [(d, some (g, v))], [(L, some o'), (L, none)]⟩ :: bs) s' := by
  refine Lex.cons ?_ (by simp) k
  intro s1 ht hh hfr c κ a w hc hs K Q hK
  have hgd' := hgd.agree (s' := s1) (fun t hm => ht t (by simp [hm]))
  rw [hgd'.wanted hs rfl]
  cases hg : g with
  | true =>
    simp only [if_true]
    have h1 := q_callM (ops := ops) (ty := ty) (pos := pos) (af := af) (gd := none) (ts := ts) (d := d) (r := []) (bs := []) (n := n) (full := full) [(m0, L)] [] .n rfl (hfv hg) he (hx hg) hp (hcon hg) hin' hok rfl hro hro' hd Lex.nil
    have h2 := loc_of h1
    have h3 := h2 s1 (fun t hm => ht t (by simp only [List.mem_append] at hm ⊢; exact .inl hm)) hh (fun l hl => by simp at hl) c κ a w hc hs K Q ?_
    · exact h3
    · intro a' w' κ' hs'
      obtain ⟨e1, e2⟩ := hv hg
      refine hK a' w' κ' ?_
      rw [hg]
      simp only at hs'
      rw [e1, e2] at hs'
      exact hs'
  | false =>
    simp only [Bool.false_eq_true, if_false]
    have hd' : d < n := Nat.le_of_ble_eq_true hd
    refine hK _ _ κ ?_
    rw [hg]
    have := hs.put_same (e := (false, v)) (x := undef) hd' ⟨fun h => by simp at h, fun _ => rfl⟩
    refine Sat.congr (s := ⟨(d, some (false, v)) :: s1.T, s1.H⟩) (s' := ⟨(d, some (false, v)) :: s1.T, (L, some o') :: (L, none) :: s1.H⟩) (fun _ => rfl) (fun l => ?_) this
    show get ((L, some o') :: (L, none) :: s1.H) l = get s1.H l
    rw [get_cons]
    by_cases hl : L = l
    · subst hl
      rw [if_pos rfl]
      exact ((hh L (by simp)).trans (hn hg)).symm
    · rw [if_neg hl, get_cons, if_neg hl]
def agreeM (H H' : List (Nat × Option O)) : List (Nat × Nat) → Prop
  | [] => True
  | p :: r => get H' p.2 = get H p.2 ∧ agreeM H H' r
theorem agreeM_get {H H' : List (Nat × Option O)} : ∀ {M : List (Nat × Nat)}, agreeM H H' M → ∀ p ∈ M, get H' p.2 = get H p.2
  | [], _, p, hp => by simp at hp
  | q :: r, h, p, hp => by
    rcases List.mem_cons.1 hp with e | e
    · subst e; exact h.1
    · exact agreeM_get h.2 p e
/-- a call under a guard, that turns objects of the caller's -/
theorem q_callGMs {x : Operand} {f : FuncId} {caps : List V} {xs : List Operand} {ts : Array TypeId} {vs as : List V} {res : V} {full : Bool} {k0 ks kh : List Nat} (M : List (Nat × Nat)) {hin hout : List (Nat × Option O)} {v : V} (H' : List (Nat × Option O)) (hgd : Gd ops s gd g gks)
    (hfv : g = true → Fv s true x f caps k0) (he : entB P f = true) (hx : g = true → Ods s true xs vs ks) (hp : Passes s full M as (vs ++ caps) kh) (hcon : g = true → Con P f as hin res hout) (hin' : subH (rn M) s hin) (hok : callOk M [] hin hout res = true)
    (hro : full = true → res.atT.all V.noro = true) (hro' : full = true → ∀ p ∈ hout, ∀ o, p.2 = some o → ∀ u ∈ o.at_, u.noro = true) (hd : Nat.blt d n = true)
    (hv : g = true → res.ren (rn (M ++ [])) = v ∧ hren (rn (M ++ [])) hout = H') (hk1 : (H'.map (·.1)).all (fun l => (M.map (·.2)).contains l) = true) (hk2 : (M.map (·.2)).all (fun l => (H'.map (·.1)).contains l) = true) (hn : g = false → agreeM s.H H' M)
    (k : Lex P n ops r ⟨(d, some (g, v)) :: s.T, H' ++ ((M ++ []).map fun p : Nat × Nat => (p.2, (none : Option O))) ++ s.H⟩ bs s') :
    Lex P n ops (⟨some d, .call ⟨.value x, ⟨xs⟩, ts⟩, ty, pos, af, gd⟩ :: r) s (⟨((k0 ++ ks) ++ []) ++ gks, kh ++ M.map (·.2), [], [(d, some (g, v))], H' ++ ((M ++ []).map fun p : Nat × Nat => (p.2, (none : Option O)))⟩ :: bs) s' := by
  refine Lex.cons ?_ (by simp) k
  intro s1 ht hh hfr c κ a w hc hs K Q hK
  have hgd' := hgd.agree (s' := s1) (fun t hm => ht t (by simp [hm]))
  rw [hgd'.wanted hs rfl]
  cases hg : g with
  | true =>
    simp only [if_true]
    have h1 := q_callM (ops := ops) (ty := ty) (pos := pos) (af := af) (gd := none) (ts := ts) (d := d) (r := []) (bs := []) (n := n) (full := full) M [] .n rfl (hfv hg) he (hx hg) hp (hcon hg) hin' hok rfl hro hro' hd Lex.nil
    have h2 := loc_of h1
    have h3 := h2 s1 (fun t hm => ht t (by simp only [List.mem_append] at hm ⊢; exact .inl hm)) hh (fun l hl => by simp at hl) c κ a w hc hs K Q ?_
    · exact h3
    · intro a' w' κ' hs'
      obtain ⟨e1, e2⟩ := hv hg
      refine hK a' w' κ' ?_
      rw [hg]
      simp only at hs'
      rw [e1, e2] at hs'
      exact hs'
  | false =>
    simp only [Bool.false_eq_true, if_false]
    have hd' : d < n := Nat.le_of_ble_eq_true hd
    refine hK _ _ κ ?_
    rw [hg]
    have := hs.put_same (e := (false, v)) (x := undef) hd' ⟨fun h => by simp at h, fun _ => rfl⟩
    refine Sat.congr (s := ⟨(d, some (false, v)) :: s1.T, s1.H⟩) (s' := ⟨(d, some (false, v)) :: s1.T, H' ++ ((M ++ []).map fun p : Nat × Nat => (p.2, (none : Option O))) ++ s1.H⟩) (fun _ => rfl) (fun l => ?_) this
    show get (H' ++ ((M ++ []).map fun p : Nat × Nat => (p.2, (none : Option O))) ++ s1.H) l = get s1.H l
    rw [List.append_assoc]
    by_cases hl : l ∈ H'.map (·.1)
    · rw [get_app_some hl]
      have h4 := (List.all_eq_true.1 hk1) l hl
      have h5 : l ∈ M.map (·.2) := by simpa using h4
      obtain ⟨p, hp', e⟩ := List.mem_map.1 h5
      subst e
      rw [agreeM_get (hn hg) p hp']
      exact (hh p.2 (by simp only [List.mem_append]; exact .inr (List.mem_map.2 ⟨p, hp', rfl⟩))).symm
    · rw [get_append_no (fun ⟨p, hp', e⟩ => hl (List.mem_map.2 ⟨p, hp', e⟩))]
      refine get_append_no (fun ⟨p, hp', e⟩ => ?_)
      rw [List.append_nil] at hp'
      obtain ⟨q, hq, e2⟩ := List.mem_map.1 hp'
      have h4 := (List.all_eq_true.1 hk2) q.2 (List.mem_map.2 ⟨q, hq, rfl⟩)
      have h5 : q.2 ∈ H'.map (·.1) := by simpa using h4
      subst e2
      simp only at e
      exact hl (e ▸ h5)
/-- an operation whose value nobody looks at -/
theorem q_unreadv {o : Oper} {kt kh : List Nat} (hgd : Gd ops s o.guard g gks) (hg : g = true) (ho : o.dst = some d) (hd : Nat.blt d n = true)
    (h : ∀ s' : S, (∀ t ∈ kt, get s'.T t = get s.T t) → (∀ l ∈ kh, get s'.H l = get s.H l) → ∀ (c : Cx) (κ : Ka) (a : Act) (w : World), c.okP P → Sat n c κ s' a w → ∃ x, (execOp a.eval o).run P w = .ok (.value x) w)
    (k : Lex P n ops r ⟨(d, none) :: s.T, s.H⟩ bs s') : Lex P n ops (o :: r) s (⟨kt ++ gks, kh, [], [(d, none)], []⟩ :: bs) s' := by
  refine Lex.cons ?_ (by simp) k
  intro s1 ht hh hf c κ a w hc hs K Q hK
  have hgd' := hgd.agree (s' := s1) (fun t hm => ht t (by simp [hm]))
  have hd' : d < n := Nat.le_of_ble_eq_true hd
  rw [hgd'.wanted hs rfl, hg]
  simp only [if_true]
  obtain ⟨x, hr⟩ := h s1 (fun t hm => ht t (by simp [hm])) hh c κ a w hc hs
  unfold Oper.wp
  rw [hr]
  simp only [Oper.upon, ho]
  exact hK _ _ κ (hs.put_none hd')
/-- s[a:b:c] of an own row, that nobody looks at -/
theorem q_cut3 {x : Operand} {lo hi mx : Operand} {l m : Nat} {ma mb mc : Int} {t1 el : TypeId} {sz : Nat} {ks k1 k2 k3 : List Nat} (hgd : Gd ops s gd g gks) (hg : g = true) (hx : Od s g x (.os l m) ks) (hlo : Bd s g (some lo) (some ma) k1) (hhi : Bd s g (some hi) (some mb) k2) (hmx : Bd s g (some mx) (some mc) k3) (ht1 : slEl P t1 = some (el, sz))
    (hm : 0 ≤ ma ∧ ma ≤ mb ∧ mb ≤ mc ∧ mc ≤ m) (hd : Nat.blt d n = true)
    (k : Lex P n ops r ⟨(d, none) :: s.T, s.H⟩ bs s') :
    Lex P n ops (⟨some d, .slice t1 x (some lo) (some hi) (some mx), ty, pos, af, gd⟩ :: r) s (⟨(((ks ++ k1) ++ k2) ++ k3) ++ gks, [], [], [(d, none)], []⟩ :: bs) s' := by
  refine q_unreadv (o := ⟨some d, .slice t1 x (some lo) (some hi) (some mx), ty, pos, af, gd⟩) hgd hg rfl hd (fun s1 ht _ c κ e w _ hs => ?_) k
  have h1 : RepB c κ (.os l m) (e.eval x) := (hx.agree (ag1 (ag1 (ag1 ht)))).rep hs hg
  obtain ⟨i1, h2⟩ := (hlo.agree (ag2 (ag1 (ag1 ht)))).rep hs hg
  obtain ⟨i2, h3⟩ := (hhi.agree (ag2 (ag1 ht))).rep hs hg
  obtain ⟨i3, h4⟩ := (hmx.agree (ag2 ht)).rep hs hg
  obtain ⟨hu, i, hi', hsz⟩ := slEl_spec ht1
  simp only [RepB] at h1
  obtain ⟨A, rfl⟩ := Int.eq_ofNat_of_zero_le hm.1
  obtain ⟨B, rfl⟩ := Int.eq_ofNat_of_zero_le (a := mb) (by omega)
  obtain ⟨C, rfl⟩ := Int.eq_ofNat_of_zero_le (a := mc) (by omega)
  have key : ∀ (a : Option Addr) (cap : Nat), m ≤ cap → (Instr.sliceAt t1 (.slice a m cap) (Option.map e.eval (some lo)) (Option.map e.eval (some hi)) (Option.map e.eval (some mx))).run P w = .ok (.slice (if C = A then a else a.map (·.add (A * sz))) (B - A) (C - A)) w := by
    intro a cap hcap
    rw [h2, h3, h4]
    have hAB : A ≤ B := by omega
    have hBC : B ≤ C := by omega
    have hCc : C ≤ cap := by omega
    simp [Instr.sliceAt, run_underlying hu, Instr.slice, Instr.sliceBounds, Instr.sliceBound, asIntOf, sizeOf, typeInfo, hi', hsz, hAB, hBC, hCc]
  cases hk : κ l with
  | none =>
    simp only [hk] at h1
    refine ⟨_, by simp only [execOp, h1.2, Sem.run_bind]; rw [← h1.1, key none m (Nat.le_refl _)]; rfl⟩
  | some p =>
    obtain ⟨b, cap⟩ := p
    simp only [hk] at h1
    exact ⟨_, by simp only [execOp, h1.2.2, Sem.run_bind]; rw [key (some ⟨b, 0, none⟩) cap h1.1]; rfl⟩
/-- s[a:b] of an own row, where b may lie behind the slice's end -/
theorem q_cut_osx {x : Operand} {lo hi : Operand} {l m : Nat} {ma mb : Int} {t1 el el2 : TypeId} {sz : Nat} {es : List V} {ks k1 k2 : List Nat} (hgd : Gd ops s gd g gks) (hg : g = true) (hx : Od s g x (.os l m) ks) (ho : get s.H l = some (.row el2 sz es)) (hlo : Bd s g (some lo) (some ma) k1) (hhi : Bd s g (some hi) (some mb) k2) (ht1 : slEl P t1 = some (el, sz))
    (hm : 0 ≤ ma ∧ ma ≤ mb ∧ mb ≤ es.length) (hd : Nat.blt d n = true)
    (k : Lex P n ops r ⟨(d, some (g, .oss l sz ma.toNat (mb.toNat - ma.toNat))) :: s.T, s.H⟩ bs s') :
    Lex P n ops (⟨some d, .slice t1 x (some lo) (some hi) none, ty, pos, af, gd⟩ :: r) s (⟨((ks ++ k1) ++ k2) ++ gks, [l], [], [(d, some (g, .oss l sz ma.toNat (mb.toNat - ma.toNat)))], []⟩ :: bs) s' := by
  refine q_val (o := ⟨some d, .slice t1 x (some lo) (some hi) none, ty, pos, af, gd⟩) hgd rfl hd (fun s1 ht hh c κ e w _ hs _ => ?_) k
  have h1 : RepB c κ (.os l m) (e.eval x) := (hx.agree (ag1 (ag1 ht))).rep hs hg
  obtain ⟨i1, h2⟩ := (hlo.agree (ag2 (ag1 ht))).rep hs hg
  obtain ⟨i2, h3⟩ := (hhi.agree (ag2 ht)).rep hs hg
  obtain ⟨hu, i, hi', hsz⟩ := slEl_spec ht1
  have hho := hs.mem.hp l _ ((hh l (by simp)).trans ho)
  simp only [RepB] at h1
  obtain ⟨A, rfl⟩ := Int.eq_ofNat_of_zero_le hm.1
  obtain ⟨B, rfl⟩ := Int.eq_ofNat_of_zero_le (a := mb) (by omega)
  have key : ∀ (a : Option Addr) (cap : Nat), B ≤ cap → (Instr.sliceAt t1 (.slice a m cap) (Option.map e.eval (some lo)) (Option.map e.eval (some hi)) (Option.map e.eval none)).run P w = .ok (.slice (if cap = A then a else a.map (·.add (A * sz))) (B - A) (cap - A)) w := by
    intro a cap hcap
    rw [h2, h3]
    have hAB : A ≤ B := by omega
    simp [Instr.sliceAt, run_underlying hu, Instr.slice, Instr.sliceBounds, Instr.sliceBound, asIntOf, sizeOf, typeInfo, hi', hsz, hcap, hAB]
  cases hk : κ l with
  | none =>
    simp only [hk] at h1
    simp only [Holds, hk] at hho
    subst hho
    have hA0 : A = 0 := by simp at hm; omega
    have hB0 : B = 0 := by simp at hm; omega
    subst hA0; subst hB0
    obtain ⟨hm0, hxe⟩ := h1
    subst hm0
    refine ⟨.slice none 0 0, ?_, repT_oss0 hk⟩
    simp only [execOp, hxe, Sem.run_bind]
    rw [key none 0 (by omega)]
    rfl
  | some p =>
    obtain ⟨b, cap⟩ := p
    simp only [hk] at h1
    simp only [Holds, hk] at hho
    obtain ⟨cur, hb, hec, _⟩ := hho
    obtain ⟨hmc, hcm, hx'⟩ := h1
    refine ⟨_, by simp only [execOp, hx', Sem.run_bind]; rw [key (some ⟨b, 0, none⟩) cap (by omega)]; rfl, repT_oss hk ⟨by omega, hcm, ?_⟩⟩
    by_cases hcA : cap = A
    · simp [hcA]
    · simp only [hcA, if_false, Option.map_some]
      rw [show ((A : Int)).toNat = A from rfl, if_neg hcA, add_lit, Nat.zero_add]; rfl
theorem run_appendN (w : World) (t ty elem : TypeId) (b m cap k cap2 sz : Nat) (a : Addr) (cur : Array Value) (tt : TypeId) (cs : List Value)
    (hu : P.underlying t = some (.slice elem)) (hs : (P.info? elem).map (·.size) = some sz) (hgc : w.heap[b]? = some (.cells cur tt (0, 0))) (hn : cs.length = k * sz)
    (hsrc : ∀ (j : Nat) v, cs[j]? = some v → w.cell? (a.add j) = some v) (hfit : m * sz + cs.length ≤ cur.size) (h1 : ∀ v ∈ cs, v.oneCell' = true) (hcap : m + k ≤ cap) :
    (Builtin.append_ #[t, t] ty #[.slice (some ⟨b, 0, none⟩) m cap, .slice (some a) k cap2]).run P w =
      .ok (.slice (some ⟨b, 0, none⟩) (m + k) cap) (w.setRow b (cur.toList.take (m * sz) ++ cs ++ cur.toList.drop (m * sz + cs.length)).toArray) := by
  have hl := run_loadCells_list (P := P) w a cs hsrc
  have hst := run_storeCells_at P b (m * sz) tt cs 0 cur w hgc (by simpa using hfit) h1
  rw [Nat.add_zero] at hst
  cases hq : P.info? elem with
  | none => simp [hq] at hs
  | some i =>
    have hi : i.size = sz := by simpa [hq] using hs
    have hn' : k * sz = cs.length := hn.symm
    simp [Builtin.append_, run_underlying hu, Builtin.lenOf, Builtin.firstCells, sizeOf, typeInfo, hq, hi, hn', hl, hst, hcap, add_lit]
/-- append of an own row's tail to its own head, in place -/
theorem q_appin {x y : Operand} {l sz m q : Nat} {el e1 : TypeId} {es news : List V} {t : TypeId} {k1 k2 h2 : List Nat} (hgd : Gd ops s gd g gks) (hg : g = true) (hx : Od s g x (.os l m) k1) (ho : get s.H l = some (.row el sz es)) (hy : Src s g sz y news k2 h2) (hm : m + news.length ≤ es.length) (hq : m + news.length = q)
    (ht : slEl P t = some (e1, sz)) (hz1 : Nat.ble 1 sz = true) (hd : Nat.blt d n = true)
    (k : Lex P n ops r ⟨(d, some (true, .os l q)) :: s.T, (l, some (.row el sz (cpy es m news))) :: s.H⟩ bs s') :
    Lex P n ops (⟨some d, .call ⟨.builtin .append, #[x, y], #[t, t]⟩, ty, pos, af, gd⟩ :: r) s (⟨(k1 ++ k2) ++ gks, l :: h2, [], [(d, some (true, .os l q))], [(l, some (.row el sz (cpy es m news)))]⟩ :: bs) s' := by
  subst hq
  refine q_mem (o := ⟨some d, .call ⟨.builtin .append, #[x, y], #[t, t]⟩, ty, pos, af, gd⟩) hgd hg rfl hd (by simp) (fun s' htt hhh _ c κ a w hc hs => ?_) k
  obtain ⟨hu, i, hi, hsz⟩ := slEl_spec ht
  have hsize : (P.info? e1).map (·.size) = some sz := by rw [hi]; simp [hsz]
  obtain ⟨A, cap2, ys, hv, hcz, hall, hn, hcell⟩ := (hy.agree (ag2 htt) (fun l' hl' => hhh l' (by simp [hl']))).rep hc hs hg
  have hgl := (hhh l (by simp)).trans ho
  have hho := hs.mem.hp l _ hgl
  have h1 : RepB c κ (.os l m) (a.eval x) := (hx.agree (ag1 htt)).rep hs hg
  simp only [RepB] at h1
  have same : news = [] → Mem c κ ((l, some (.row el sz (cpy es m news))) :: s'.H) w := fun h0 => by
    have hsame : cpy es m news = es := by subst h0; simp [cpy]
    rw [hsame]
    refine hs.mem.congr fun l' => ?_
    show get ((l, some (.row el sz es)) :: s'.H) l' = _
    rw [get_cons]; split
    · rename_i e; subst e; exact hgl.symm
    · rfl
  cases hk : κ l with
  | none =>
    simp only [hk] at h1
    simp only [Holds, hk] at hho
    subst hho
    have h0 : news = [] := List.eq_nil_of_length_eq_zero (by rw [List.length_nil] at hm; omega)
    obtain ⟨hm0, hxe⟩ := h1
    subst hm0
    refine ⟨.slice none 0 0, w, κ, ?_, ⟨fun _ => ?_, fun h => by simp at h⟩, fun _ _ _ _ _ _ => rfl, same h0⟩
    · subst h0
      have : (Builtin.append_ #[t, t] ty #[.slice none 0 0, .slice A 0 cap2]).run P w = .ok (.slice none 0 0) w := by
        have hl : ∀ ad : Addr, (loadCells ad 0).run P w = .ok #[] w := fun ad => by
          have := run_loadCells_list (P := P) w ad [] (by simp)
          simpa using this
        cases A <;> simp [Builtin.append_, run_underlying hu, Builtin.lenOf, Builtin.firstCells, sizeOf, typeInfo, hi, hl]
      simp [execOp, resolve, invoke, builtin, hxe, hv, this]
    · subst h0
      show RepB c κ (.os l 0) _
      simp [RepB, hk]
  | some bk =>
    obtain ⟨b, cap⟩ := bk
    simp only [hk] at h1
    simp only [Holds, hk] at hho
    obtain ⟨hcap, hcm, hxe⟩ := h1
    obtain ⟨cur, hb, hec, hcm2, hcs, hz, hrep⟩ := hho
    have hyl : ys.length = news.length * sz := by rw [← hall.length]; exact flatMap_length news hcz
    have hon : ∀ v ∈ ys, v.oneCell' = true := fun v hv' => by
      obtain ⟨j, hj, e⟩ := List.mem_iff_getElem.1 hv'
      have hjl : j < (news.flatMap V.cells).length := by rw [hall.length]; exact hj
      obtain ⟨y', hy', hr⟩ := hall.get j _ (List.getElem?_eq_getElem hjl)
      rw [List.getElem?_eq_getElem hj, e] at hy'
      injection hy' with hy'; subst hy'
      generalize (news.flatMap V.cells)[j] = u at hr
      cases hr <;> first | rfl | (rename_i h; exact h.2)
    have hoff : (m + news.length) * sz ≤ cap * sz := Nat.mul_le_mul_right _ (by omega)
    have hoff' : (m + news.length) * sz = m * sz + news.length * sz := Nat.add_mul ..
    have hrepT : RepT c κ (.os l (m + news.length)) (.slice (some ⟨b, 0, none⟩) (m + news.length) cap) := by
      show RepB c κ (.os l (m + news.length)) _
      simp only [RepB, hk]
      exact ⟨by omega, hcm, by first | rfl | trivial⟩
    cases A with
    | none =>
      have h0 := hn rfl
      refine ⟨_, w, κ, ?_, ⟨fun _ => hrepT, fun h => by simp at h⟩, fun _ _ _ _ _ _ => rfl, same h0⟩
      subst h0
      have : (Builtin.append_ #[t, t] ty #[.slice (some ⟨b, 0, none⟩) m cap, .slice none 0 cap2]).run P w = .ok (.slice (some ⟨b, 0, none⟩) m cap) w := by
        simp [Builtin.append_, run_underlying hu, Builtin.lenOf, Builtin.firstCells, sizeOf, typeInfo, hi, hcap, storeCells]
      simp [execOp, resolve, invoke, builtin, hxe, hv, this]
    | some ad =>
      have hrun := run_appendN (P := P) (ty := ty) w t e1 b m cap news.length cap2 sz ad cur el ys hu hsize hb hyl (fun j v hj => hcell ad rfl j v hj) (by rw [hyl, hcs, ← hoff']; exact hoff) hon (by omega)
      rw [hyl] at hrun
      refine ⟨_, _, κ, by simp only [execOp, resolve, invoke, builtin]; simp [hxe, hv, hrun]; rfl, ⟨fun _ => hrepT, fun h => by simp at h⟩, fun _ _ _ _ _ _ => rfl, hs.mem.write hgl hk (ext_setRow w b _ el cur hb) ?_⟩
      simp only [Holds, hk]
      refine ⟨_, setRow_heap w b cur _ el _ hb, by rw [cpy_len (by omega)]; exact hec, hcm, ?_, fun e' he' => ?_, fun p u hu' => ?_⟩
      · simp only [List.size_toArray, List.length_append, List.length_take, List.length_drop, Array.length_toList]
        omega
      · simp only [cpy, List.mem_append] at he'
        rcases he' with (h | h) | h
        · exact hz _ (List.mem_of_mem_take h)
        · exact hcz _ h
        · exact hz _ (List.mem_of_mem_drop h)
      · have hfA : ((es.take m).flatMap V.cells).length = m * sz := by
          rw [flatMap_length (sz := sz) _ (fun e he => hz e (List.mem_of_mem_take he)), List.length_take]; congr 1; omega
        have hfB : (news.flatMap V.cells).length = news.length * sz := flatMap_length (sz := sz) _ hcz
        have hfD : ((es.take (m + news.length)).flatMap V.cells).length = (m + news.length) * sz := by
          rw [flatMap_length (sz := sz) _ (fun e he => hz e (List.mem_of_mem_take he)), List.length_take]; congr 1; omega
        have hck : (cur.toList.take (m * sz)).length = m * sz := by rw [List.length_take, Array.length_toList]; omega
        have hcur : (cur.toList.take (m * sz) ++ (ys ++ cur.toList.drop (m * sz + news.length * sz))).toArray[p]? = (cur.toList.take (m * sz) ++ (ys ++ cur.toList.drop (m * sz + news.length * sz)))[p]? := by simp
        rw [hcur]
        simp only [cpy, List.flatMap_append] at hu'
        rw [List.append_assoc] at hu'
        by_cases hp1 : p < m * sz
        · rw [List.getElem?_append_left (by omega)] at hu'
          have : (es.flatMap V.cells)[p]? = some u := by
            conv => lhs; rw [← List.take_append_drop m es, List.flatMap_append]
            rw [List.getElem?_append_left (by omega)]; exact hu'
          obtain ⟨y', hy', hr⟩ := hrep p u this
          exact ⟨y', by rw [List.getElem?_append_left (by omega), List.getElem?_take, if_pos hp1]; simpa using hy', hr⟩
        · rw [List.getElem?_append_right (by omega), hfA] at hu'
          by_cases hp2 : p < m * sz + news.length * sz
          · rw [List.getElem?_append_left (by omega)] at hu'
            obtain ⟨y', hy', hr⟩ := hall.get _ u hu'
            exact ⟨y', by rw [List.getElem?_append_right (by omega), hck, List.getElem?_append_left (by omega)]; exact hy', hr⟩
          · rw [List.getElem?_append_right (by omega), hfB] at hu'
            have : (es.flatMap V.cells)[p]? = some u := by
              conv => lhs; rw [← List.take_append_drop (m + news.length) es, List.flatMap_append]
              rw [List.getElem?_append_right (by omega), hfD]
              rw [← hu']; congr 1; omega
            obtain ⟨y', hy', hr⟩ := hrep p u this
            refine ⟨y', ?_, hr⟩
            rw [List.getElem?_append_right (by omega), hck, List.getElem?_append_right (by omega), hyl, List.getElem?_drop]
            rw [show m * sz + news.length * sz + (p - m * sz - news.length * sz) = p by omega]
            simpa using hy'
theorem q_appinm {α : Type} {f : α → V} {xs zs ys : List α} {x y : Operand} {l sz : Nat} {el e1 : TypeId} {t : TypeId} {k1 k2 h2 : List Nat} (hgd : Gd ops s gd g gks) (hg : g = true) (hx : Od s g x (.os l zs.length) k1) (ho : get s.H l = some (.row el sz (xs.map f))) (hy : Src s g sz y (ys.map f) k2 h2) (hm : zs.length + ys.length ≤ xs.length)
    (ht : slEl P t = some (e1, sz)) (hz1 : Nat.ble 1 sz = true) (hd : Nat.blt d n = true)
    (k : Lex P n ops r ⟨(d, some (true, .os l (pre' (cpy xs zs.length ys) ((zs.length : Int) + (ys.length : Int))).length)) :: s.T, (l, some (.row el sz ((cpy xs zs.length ys).map f))) :: s.H⟩ bs s') :
    Lex P n ops (⟨some d, .call ⟨.builtin .append, #[x, y], #[t, t]⟩, ty, pos, af, gd⟩ :: r) s (⟨(k1 ++ k2) ++ gks, l :: h2, [], [(d, some (true, .os l (pre' (cpy xs zs.length ys) ((zs.length : Int) + (ys.length : Int))).length))], [(l, some (.row el sz ((cpy xs zs.length ys).map f)))]⟩ :: bs) s' := by
  have hc := cpy_len (es := xs) (off := zs.length) (news := ys) hm
  have hq : zs.length + (ys.map f).length = (pre' (cpy xs zs.length ys) ((zs.length : Int) + (ys.length : Int))).length := by
    rw [List.length_map]
    have := pre_len (xs := cpy xs zs.length ys) (b := (zs.length : Int) + (ys.length : Int)) (by omega)
    omega
  have h := q_appin (ty := ty) (pos := pos) (af := af) (n := n) (s' := s') (r := r) (bs := bs) hgd hg hx ho hy (by rw [List.length_map, List.length_map]; exact hm) hq ht hz1 hd
  rw [cpy_map] at h
  exact h k
end
end Go.Proofs.YtdkkcemlnjlebaaDoor.E
