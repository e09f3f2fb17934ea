/-
  THE ENGINE, part G: regions whose order is drawn; the run of a function's code with the plain model's value beside it ('Run').
  Conditions: none; all of it is over any program.
-/
import Derived.Test.YtibbfdojcdkopaaGreatEngF
set_option linter.unusedVariables false
set_option linter.unusedSimpArgs false
set_option linter.unusedSectionVars false
set_option linter.unnecessarySimpa false
namespace Go.Proofs.YtibbfdojcdkopaaGreat.E
open Go Go.RowKit

/-! ### Updates in an order -/
section
variable {α : Type}
def exU : List (List (Nat × Option α)) → Nat → (Nat → Bool) → List (Nat × Option α) → List (Nat × Option α)
  | [], _, _, T => T
  | u :: us, k, E, T => exU us (k + 1) E (if E k then u ++ T else T)
def hasKey (u : List (Nat × Option α)) (x : Nat) : Prop := ∃ p ∈ u, p.1 = x
theorem get_append_no {u T : List (Nat × Option α)} {x : Nat} (h : ¬ hasKey u x) : get (u ++ T) x = get T x := by
  induction u with
  | nil => rfl
  | cons p u ih =>
    obtain ⟨k, v⟩ := p
    rw [List.cons_append, get_cons, if_neg (fun e => h ⟨(k, v), List.mem_cons_self, e⟩)]
    exact ih (fun ⟨p, hp, e⟩ => h ⟨p, List.mem_cons_of_mem _ hp, e⟩)
theorem get_append_yes {u T T' : List (Nat × Option α)} {x : Nat} (h : hasKey u x) : get (u ++ T) x = get (u ++ T') x := by
  induction u with
  | nil => obtain ⟨p, hp, _⟩ := h; simp at hp
  | cons p u ih =>
    obtain ⟨k, v⟩ := p
    rw [List.cons_append, List.cons_append, get_cons, get_cons]
    split
    · rfl
    · rename_i hne
      refine ih ?_
      obtain ⟨p, hp, e⟩ := h
      rcases List.mem_cons.1 hp with h1 | h1
      · subst h1; exact absurd e hne
      · exact ⟨p, h1, e⟩
theorem get_append_congr {u T T' : List (Nat × Option α)} {x : Nat} (h : get T x = get T' x) : get (u ++ T) x = get (u ++ T') x := by
  by_cases hk : hasKey u x
  · exact get_append_yes hk
  · rw [get_append_no hk, get_append_no hk, h]

theorem exU_agree (x : Nat) : ∀ (us : List (List (Nat × Option α))) (k : Nat) (E E' : Nat → Bool) (T T' : List (Nat × Option α)), get T x = get T' x →
    (∀ j u, us[j]? = some u → hasKey u x → E (k + j) = E' (k + j)) → get (exU us k E T) x = get (exU us k E' T') x
  | [], _, _, _, _, _, h, _ => h
  | u :: us, k, E, E', T, T', h, hu => by
    refine exU_agree x us (k + 1) E E' _ _ ?_ (fun j v hj hv => by have := hu (j + 1) v (by simpa using hj) hv; rw [show k + 1 + j = k + (j + 1) by omega]; exact this)
    by_cases hk : hasKey u x
    · have := hu 0 u rfl hk
      simp only [Nat.add_zero] at this
      rw [this]
      split
      · exact get_append_yes hk
      · exact h
    · have e1 : get (if E k then u ++ T else T) x = get T x := by cases E k <;> simp [get_append_no hk]
      have e2 : get (if E' k then u ++ T' else T') x = get T' x := by cases E' k <;> simp [get_append_no hk]
      rw [e1, e2, h]
theorem exU_front (u : List (Nat × Option α)) (x : Nat) : ∀ (us : List (List (Nat × Option α))) (k : Nat) (E : Nat → Bool) (T : List (Nat × Option α)),
    (∀ j v, us[j]? = some v → E (k + j) = true → ∀ y, hasKey v y → ¬ hasKey u y) → get (exU us k E (u ++ T)) x = get (u ++ exU us k E T) x
  | [], _, _, _, _ => rfl
  | v :: us, k, E, T, h => by
    simp only [exU]
    have hnext : ∀ T', get (exU us (k + 1) E (u ++ T')) x = get (u ++ exU us (k + 1) E T') x := fun T' =>
      exU_front u x us (k + 1) E T' (fun j v hj hE => h (j + 1) v (by simpa using hj) (by rw [show k + (j + 1) = k + 1 + j by omega]; exact hE))
    by_cases hE : E k = true
    · simp only [hE, if_true]
      rw [← hnext]
      refine exU_agree x us (k + 1) E E _ _ ?_ (fun _ _ _ _ => rfl)
      by_cases hv : hasKey v x
      · have hu := h 0 v rfl (by simpa using hE) x hv
        rw [get_append_no hu]
        exact get_append_yes hv
      · rw [get_append_no hv]
        exact get_append_congr (get_append_no hv).symm
    · simp only [hE]
      exact hnext T
theorem exU_add (x i0 : Nat) (E E' : Nat → Bool) (hE : E i0 = false) (hE' : ∀ j, E' j = (Nat.beq j i0 || E j)) : ∀ (us : List (List (Nat × Option α))) (k : Nat) (T : List (Nat × Option α)) (u : List (Nat × Option α)),
    k ≤ i0 → us[i0 - k]? = some u → (∀ j v, us[j]? = some v → E (k + j) = true → i0 < k + j → ∀ y, hasKey v y → ¬ hasKey u y) → get (exU us k E' T) x = get (u ++ exU us k E T) x
  | [], _, _, _, _, hu, _ => by simp at hu
  | v :: us, k, T, u, hk, hu, h => by
    have beqs : ∀ j, j ≠ i0 → E' j = E j := fun j hj => by
      rw [hE']
      have : Nat.beq j i0 = false := by
        cases hb : Nat.beq j i0
        · rfl
        · exact absurd (Nat.eq_of_beq_eq_true hb) hj
      rw [this]; rfl
    by_cases hki : k = i0
    · subst hki
      simp only [Nat.sub_self, List.getElem?_cons_zero, Option.some.injEq] at hu
      subst hu
      have e1 : E' k = true := by rw [hE']; simp
      simp only [exU, e1, hE, if_true, Bool.false_eq_true, if_false]
      have e2 : get (exU us (k + 1) E' (v ++ T)) x = get (exU us (k + 1) E (v ++ T)) x := exU_agree x us (k + 1) E' E _ _ rfl (fun j _ _ _ => beqs _ (by omega))
      rw [e2]
      exact exU_front v x us (k + 1) E T (fun j w hj hEj y hw => h (j + 1) w (by simpa using hj) (by rw [show k + (j + 1) = k + 1 + j by omega]; exact hEj) (by omega) y hw)
    · simp only [exU, beqs k hki]
      refine exU_add x i0 E E' hE hE' us (k + 1) _ u (by omega) ?_ (fun j w hj hEj hlt y hw => h (j + 1) w (by simpa using hj) (by rw [show k + (j + 1) = k + 1 + j by omega]; exact hEj) (by omega) y hw)
      rw [show i0 - k = (i0 - (k + 1)) + 1 by omega, List.getElem?_cons_succ] at hu
      exact hu
theorem mem_exU : ∀ (us : List (List (Nat × Option α))) (k : Nat) (E : Nat → Bool) (T : List (Nat × Option α)) (p : Nat × Option α), p ∈ exU us k E T ↔ p ∈ T ∨ ∃ j u, us[j]? = some u ∧ E (k + j) = true ∧ p ∈ u
  | [], _, _, T, p => by simp [exU]
  | v :: us, k, E, T, p => by
    simp only [exU]
    rw [mem_exU us (k + 1) E _ p]
    constructor
    · rintro (h | ⟨j, u, hj, hE, hp⟩)
      · split at h
        · rename_i hE
          rcases List.mem_append.1 h with h | h
          · exact .inr ⟨0, v, rfl, by simpa using hE, h⟩
          · exact .inl h
        · exact .inl h
      · exact .inr ⟨j + 1, u, by simpa using hj, by rw [show k + (j + 1) = k + 1 + j by omega]; exact hE, hp⟩
    · rintro (h | ⟨j, u, hj, hE, hp⟩)
      · left; split
        · exact List.mem_append_right _ h
        · exact h
      · cases j with
        | zero =>
          simp at hj; subst hj
          left
          rw [Nat.add_zero] at hE
          simp only [hE, if_true]
          exact List.mem_append_left _ hp
        | succ j => exact .inr ⟨j, u, by simpa using hj, by rw [show k + 1 + j = k + (j + 1) by omega]; exact hE, hp⟩
theorem exU_all (us : List (List (Nat × Option α))) : ∀ (k : Nat) (E : Nat → Bool) (T : List (Nat × Option α)), (∀ j, j < us.length → E (k + j) = true) → exU us k E T = us.foldl (fun T u => u ++ T) T := by
  induction us with
  | nil => intro k E T _; rfl
  | cons u us ih =>
    intro k E T h
    have := h 0 (by simp)
    rw [Nat.add_zero] at this
    simp only [exU, this, if_true, List.foldl_cons]
    exact ih (k + 1) E _ (fun j hj => by rw [show k + 1 + j = k + (j + 1) by omega]; exact h (j + 1) (by simpa using hj))
theorem exU_none (us : List (List (Nat × Option α))) : ∀ (k : Nat) (E : Nat → Bool) (T : List (Nat × Option α)), (∀ j, j < us.length → E (k + j) = false) → exU us k E T = T := by
  induction us with
  | nil => intro k E T _; rfl
  | cons u us ih =>
    intro k E T h
    have := h 0 (by simp)
    rw [Nat.add_zero] at this
    simp only [exU, this, Bool.false_eq_true, if_false]
    exact ih (k + 1) E _ (fun j hj => by rw [show k + 1 + j = k + (j + 1) by omega]; exact h (j + 1) (by simpa using hj))
theorem exU_take (us : List (List (Nat × Option α))) (i : Nat) : ∀ (k : Nat) (T : List (Nat × Option α)), exU us k (fun j => decide (j < i)) T = (us.take (i - k)).foldl (fun T u => u ++ T) T := by
  induction us with
  | nil => intro k T; simp [exU]
  | cons u us ih =>
    intro k T
    simp only [exU]
    rw [ih]
    by_cases h : k < i
    · rw [show i - k = (i - (k + 1)) + 1 by omega]; simp [h]
    · rw [show i - k = 0 by omega, show i - (k + 1) = 0 by omega]; simp [h]
end

/-! ### The check of a region -/
def mask (acc : List Nat) (o : Oper) : Nat := o.after.toList.foldl (fun m e => if Region.binds .any e then m ||| (2 ^ e.on ||| acc.getD e.on 0) else m) 0
def masks : List Oper → List Nat → List Nat
  | [], acc => acc
  | o :: r, acc => masks r (acc ++ [mask acc o])
def downB : Nat → List Oper → Bool
  | _, [] => true
  | i, o :: r => o.after.toList.all (fun e => !Region.binds .any e || Nat.blt e.on i) && downB (i + 1) r
def inter (l m : List Nat) : Bool := l.any fun x => m.contains x
def wlabs (b : A) : List Nat := b.wt.flatMap (fun p => match p.2 with | some e => e.2.labs | none => []) ++ b.wh.flatMap (fun p => match p.2 with | some o => o.labs | none => [])
/-- the earlier step a and the later step b touch one another -/
def conf (a b : A) : Bool :=
  inter (a.wt.map (·.1)) b.kt || inter (a.wt.map (·.1)) (b.wt.map (·.1)) || inter (b.wt.map (·.1)) a.kt ||
  inter (a.wh.map (·.1)) b.kh || inter (a.wh.map (·.1)) (b.wh.map (·.1)) || inter (b.wh.map (·.1)) a.kh || inter a.nw (wlabs b)
def pairsB (ms : List Nat) : Nat → List A → Bool
  | _, [] => true
  | i, a :: bs => (bs.zipIdx (i + 1)).all (fun p => !conf a p.1 || (ms.getD p.2 0).testBit i) && pairsB ms (i + 1) bs
def okB (ops : List Oper) (bs : List A) : Bool := downB 0 ops && pairsB (masks ops []) 0 bs

theorem inter_false {l m : List Nat} (h : inter l m = false) {x : Nat} (h1 : x ∈ l) (h2 : x ∈ m) : False := by
  unfold inter at h
  rw [List.any_eq_false] at h
  exact h x h1 (by simpa using h2)

section
variable {E : Nat → Bool}
theorem mask_bit {acc : List Nat} {o : Oper} {j : Nat} (hacc : ∀ e ∈ o.after.toList, Region.binds .any e = true → E e.on = true) (hm : ∀ i, E i = true → (acc.getD i 0).testBit j = true → E j = true) (h : (mask acc o).testBit j = true) : E j = true := by
  have key : ∀ (l : List Edge) (m : Nat), (∀ e ∈ l, Region.binds .any e = true → E e.on = true) → (m.testBit j = true → E j = true) →
      (l.foldl (fun m e => if Region.binds .any e then m ||| (2 ^ e.on ||| acc.getD e.on 0) else m) m).testBit j = true → E j = true := by
    intro l
    induction l with
    | nil => intro m _ hm' h; exact hm' h
    | cons e l ih =>
      intro m hl hm' h
      refine ih _ (fun e he => hl e (List.mem_cons_of_mem _ he)) (fun hb => ?_) h
      dsimp only at hb
      split at hb
      · rename_i hbind
        have hon := hl e List.mem_cons_self hbind
        simp only [Nat.testBit_or, Bool.or_eq_true] at hb
        rcases hb with hb | hb | hb
        · exact hm' hb
        · rw [Nat.testBit_two_pow] at hb
          simp at hb; subst hb; exact hon
        · exact hm _ hon hb
      · exact hm' hb
  exact key _ 0 hacc (by simp) h

theorem masks_prefix : ∀ (r : List Oper) (acc : List Nat), ∃ t, masks r acc = acc ++ t
  | [], acc => ⟨[], by simp [masks]⟩
  | o :: r, acc => by
    obtain ⟨t, ht⟩ := masks_prefix r (acc ++ [mask acc o])
    exact ⟨mask acc o :: t, by simp [masks, ht]⟩

/-- Where the set E is closed under the edges: whatever the mask of i names is in E as soon as i's own edges are. -/
theorem masks_closed (ops : List Oper) (hE : ∀ i o, ops[i]? = some o → E i = true → ∀ e ∈ o.after.toList, Region.binds .any e = true → E e.on = true) :
    ∀ (r : List Oper) (acc : List Nat) (k : Nat), acc.length = k → (∀ j o, r[j]? = some o → ops[k + j]? = some o) → (∀ i j, E i = true → (acc.getD i 0).testBit j = true → E j = true) →
      ∀ i o j, k ≤ i → ops[i]? = some o → i < k + r.length → (∀ e ∈ o.after.toList, Region.binds .any e = true → E e.on = true) → ((masks r acc).getD i 0).testBit j = true → E j = true
  | [], acc, k, _, _, _, i, o, j, h1, _, h3, _, _ => by simp at h3; omega
  | o0 :: r, acc, k, hk, hr, hm, i, o, j, h1, h2, h3, h4, h5 => by
    have ho0 : ops[k]? = some o0 := by simpa using hr 0 o0 rfl
    have hbit : ∀ j, (∀ e ∈ o0.after.toList, Region.binds .any e = true → E e.on = true) → (mask acc o0).testBit j = true → E j = true := fun j he h => mask_bit he (fun i hi hb => hm i j hi hb) h
    have hm' : ∀ i j, E i = true → ((acc ++ [mask acc o0]).getD i 0).testBit j = true → E j = true := by
      intro i j hi hb
      rw [List.getD_eq_getElem?_getD] at hb
      by_cases hlt : i < acc.length
      · rw [List.getElem?_append_left hlt] at hb
        exact hm i j hi (by rw [List.getD_eq_getElem?_getD]; exact hb)
      · by_cases he : i = acc.length
        · rw [List.getElem?_append_right (by omega), he, Nat.sub_self] at hb
          simp at hb
          exact hbit j (hE i o0 (by rw [he, hk]; exact ho0) hi) hb
        · rw [List.getElem?_append_right (by omega), List.getElem?_eq_none (by simp; omega)] at hb
          simp at hb
    simp only [masks] at h5
    by_cases hik : i = k
    · subst hik
      obtain ⟨t, ht⟩ := masks_prefix r (acc ++ [mask acc o0])
      rw [ht, List.getD_eq_getElem?_getD, List.append_assoc, List.getElem?_append_right (by omega), hk, Nat.sub_self] at h5
      simp at h5
      have : o = o0 := by rw [ho0] at h2; exact (Option.some.inj h2).symm
      subst this
      exact hbit j h4 h5
    · refine masks_closed ops hE r (acc ++ [mask acc o0]) (k + 1) (by simp [hk]) (fun j o hj => by have := hr (j + 1) o (by simpa using hj); rw [show k + 1 + j = k + (j + 1) by omega]; exact this) hm' i o j (by omega) h2 (by simp at h3; omega) h4 h5
end

theorem down_spec : ∀ (i : Nat) (ops : List Oper), downB i ops = true → ∀ j o, ops[j]? = some o → ∀ e ∈ o.after.toList, Region.binds .any e = true → e.on < i + j
  | _, [], _, j, o, h, _, _, _ => by simp at h
  | i, o0 :: r, hd, j, o, hj, e, he, hb => by
    simp only [downB, Bool.and_eq_true, List.all_eq_true] at hd
    cases j with
    | zero =>
      simp at hj; subst hj
      have := hd.1 e he
      rw [hb] at this
      simp at this
      omega
    | succ j =>
      have := down_spec (i + 1) r hd.2 j o (by simpa using hj) e he hb
      omega
theorem pairs_spec {ms : List Nat} : ∀ (i : Nat) (bs : List A), pairsB ms i bs = true → ∀ p q a b, p < q → bs[p]? = some a → bs[q]? = some b → conf a b = true → (ms.getD (i + q) 0).testBit (i + p) = true
  | _, [], _, p, q, a, b, _, h, _, _ => by simp at h
  | i, a0 :: bs, hp, p, q, a, b, hpq, ha, hb, hc => by
    simp only [pairsB, Bool.and_eq_true, List.all_eq_true] at hp
    cases q with
    | zero => omega
    | succ q =>
      cases p with
      | zero =>
        simp at ha; subst ha
        have hb' : bs[q]? = some b := by simpa using hb
        have hmem : (b, i + 1 + q) ∈ bs.zipIdx (i + 1) := by
          rw [List.mem_iff_getElem?]
          exact ⟨q, by rw [List.getElem?_zipIdx, hb']; simp⟩
        have := hp.1 _ hmem
        rw [hc] at this
        simp only [Bool.not_true, Bool.false_or] at this
        rw [show i + (q + 1) = i + 1 + q by omega]
        simpa using this
      | succ p =>
        have := pairs_spec (i + 1) bs hp.2 p q a b (by omega) (by simpa using ha) (by simpa using hb) hc
        rw [show i + (q + 1) = i + 1 + q by omega, show i + (p + 1) = i + 1 + p by omega]
        exact this

section
variable {P : Program} {n : Nat} {ops : Array Oper}
def exE (bs : List A) (E : Nat → Bool) (s : S) : S := ⟨exU (bs.map (·.wt)) 0 E s.T, exU (bs.map (·.wh)) 0 E s.H⟩

theorem lex_at : ∀ (rest : List Oper) (s : S) (bs : List A) (s' : S), Lex P n ops rest s bs s' → bs.length = rest.length ∧ s' = bs.foldl S.upd s ∧
    ∀ i o b, rest[i]? = some o → bs[i]? = some b → Loc P n ops ((bs.take i).foldl S.upd s) o b ∧ ∀ l ∈ b.nw, Fresh l ((bs.take i).foldl S.upd s)
  | [], s, bs, s', ⟨h1, h2⟩ => by subst h1; subst h2; exact ⟨rfl, rfl, fun i o b h => by simp at h⟩
  | o0 :: r, s, bs, s', ⟨b0, bs', hb, hl, hf, hk⟩ => by
    subst hb
    obtain ⟨h1, h2, h3⟩ := lex_at r (s.upd b0) bs' s' hk
    refine ⟨by simp [h1], by simpa using h2, fun i o b ho hb => ?_⟩
    cases i with
    | zero => simp at ho hb; subst ho; subst hb; exact ⟨hl, hf⟩
    | succ i => simpa using h3 i o b (by simpa using ho) (by simpa using hb)
theorem foldl_upd : ∀ (bs : List A) (s : S), bs.foldl S.upd s = ⟨(bs.map (·.wt)).foldl (fun T u => u ++ T) s.T, (bs.map (·.wh)).foldl (fun T u => u ++ T) s.H⟩
  | [], s => rfl
  | b :: bs, s => by simp only [List.foldl_cons, List.map_cons]; rw [foldl_upd bs]; rfl
theorem exE_take (bs : List A) (i : Nat) (s : S) : exE bs (fun j => decide (j < i)) s = (bs.take i).foldl S.upd s := by
  rw [foldl_upd]
  simp only [exE, exU_take, Nat.sub_zero, List.map_take]

theorem any_of_lex {Q : Exit → Act → World → Prop} {c : Cx} (hc : c.okP P) {s s' : S} {bs : List A} (hlex : Lex P n ops ops.toList s bs s') (hok : okB ops.toList bs = true) (hQ : ∀ a w κ, Sat n c κ s' a w → Q .normal a w) :
    ∀ (fuel : Nat) (listed : Array Bool) (a : Act) (w : World) (κ : Ka), listed.size = ops.size →
      (∀ i o, ops[i]? = some o → listed.getD i false = true → ∀ e ∈ o.after.toList, Region.binds .any e = true → listed.getD e.on false = true) →
      listed.toList.count false ≤ fuel → Sat n c κ (exE bs (fun i => listed.getD i false) s) a w → wpAny P .any ops Q fuel listed a w := by
  obtain ⟨hlen, hs', hat⟩ := lex_at ops.toList s bs s' hlex
  simp only [okB, Bool.and_eq_true] at hok
  obtain ⟨hdown, hpairs⟩ := hok
  have hopl : ∀ (i : Nat) o, ops[i]? = some o ↔ ops.toList[i]? = some o := fun i o => by simp
  have hlenA : bs.length = ops.size := by simpa using hlen
  -- a state in which no operation is ready is the end
  have allDone : ∀ (listed : Array Bool), listed.size = ops.size → Region.ready .any ops listed = [] → ∀ i, i < ops.size → listed.getD i false = true := by
    intro listed hsz hr i
    induction i using Nat.strongRecOn with
    | _ i ih =>
      intro hi
      cases hli : listed.getD i false with
      | true => rfl
      | false =>
        exfalso
        have hmem : i ∈ Region.ready .any ops listed := by
          refine mem_ready.2 ⟨?_, ops[i], Array.getElem?_eq_getElem hi, fun e he hb => ?_⟩
          · have : i < listed.size := by omega
            simp [Array.getD, this] at hli ⊢; exact hli
          · have hlt := down_spec 0 ops.toList hdown i ops[i] ((hopl i _).1 (Array.getElem?_eq_getElem hi)) e (by simpa using he) hb
            exact ih e.on (by omega) (by omega)
        rw [hr] at hmem
        simp at hmem
  have endSat : ∀ (listed : Array Bool) (a : Act) (w : World) (κ : Ka), (∀ i, i < ops.size → listed.getD i false = true) → Sat n c κ (exE bs (fun i => listed.getD i false) s) a w → Q .normal a w := by
    intro listed a w κ hall hs
    refine hQ a w κ ?_
    rw [hs', foldl_upd]
    have e1 := exU_all (bs.map (·.wt)) 0 (fun i => listed.getD i false) s.T (fun j hj => by simp only [Nat.zero_add]; exact hall j (by simp at hj; omega))
    have e2 := exU_all (bs.map (·.wh)) 0 (fun i => listed.getD i false) s.H (fun j hj => by simp only [Nat.zero_add]; exact hall j (by simp at hj; omega))
    simp only [exE, e1, e2] at hs
    exact hs
  intro fuel
  induction fuel with
  | zero =>
    intro listed a w κ hsz hcl hcnt hs
    have hall : ∀ i, i < ops.size → listed.getD i false = true := by
      intro i hi
      have hi' : i < listed.size := by omega
      have : listed[i] = true := by
        cases h : listed[i] with
        | true => rfl
        | false =>
          exfalso
          have hm : false ∈ listed.toList := by rw [← h]; simp
          have := List.count_pos_iff.2 hm
          omega
      simp [Array.getD, hi', this]
    refine ⟨?_, endSat listed a w κ hall hs⟩
    cases hr : Region.ready .any ops listed with
    | nil => rfl
    | cons i t =>
      exfalso
      have hmem : i ∈ Region.ready .any ops listed := by rw [hr]; exact List.mem_cons_self
      obtain ⟨hun, o, ho, _⟩ := mem_ready.1 hmem
      have hi : i < ops.size := (Array.getElem?_eq_some_iff.1 ho).1
      have h1 := hall i hi
      have hi' : i < listed.size := by omega
      simp [Array.getD, hi'] at h1 hun
      rw [h1] at hun
      simp at hun
  | succ fuel ih =>
    intro listed a w κ hsz hcl hcnt hs
    refine ⟨fun hr => endSat listed a w κ (allDone listed hsz hr) hs, fun i hmem => ?_⟩
    obtain ⟨hun, o, ho, hpre⟩ := mem_ready.1 hmem
    have hi : i < ops.size := (Array.getElem?_eq_some_iff.1 ho).1
    have hi' : i < listed.size := by omega
    have hEi : listed.getD i false = false := by
      simp [Array.getD, hi'] at hun ⊢; exact hun
    have hbi : bs[i]? = some (bs[i]'(by omega)) := List.getElem?_eq_getElem (by omega)
    generalize hb : bs[i]'(by omega) = b at hbi
    obtain ⟨hloc, hfr⟩ := hat i o b ((hopl i o).1 ho) hbi
    have hclosed := masks_closed (E := fun i => listed.getD i false) ops.toList (fun i o ho hE e he hb => hcl i o ((hopl i o).2 ho) hE e he hb) ops.toList [] 0 rfl (fun j o hj => by simpa using hj) (fun i j _ h => by simp at h)
    have preds : ∀ j, ((masks ops.toList []).getD i 0).testBit j = true → listed.getD j false = true := fun j hj =>
      hclosed i o j (Nat.zero_le _) ((hopl i o).1 ho) (by simpa using hi) (fun e he hb => hpre e (by simpa using he) hb) hj
    have later : ∀ q oq, ops[q]? = some oq → listed.getD q false = true → ((masks ops.toList []).getD q 0).testBit i = true → False := fun q oq hq hEq hbit => by
      have := hclosed q oq i (Nat.zero_le _) ((hopl q oq).1 hq) (by simpa using (Array.getElem?_eq_some_iff.1 hq).1) (fun e he hb => hcl q oq hq hEq e he hb) hbit
      rw [hEi] at this; simp at this
    -- whoever touches what i touches: earlier ones are done, later ones are not
    have before : ∀ p a, p < i → bs[p]? = some a → conf a b = true → listed.getD p false = true := fun p a hpi hpa hcf => by
      have := pairs_spec 0 bs hpairs p i a b hpi hpa hbi hcf
      simp only [Nat.zero_add] at this
      exact preds p this
    have after : ∀ q a, i < q → bs[q]? = some a → conf b a = true → listed.getD q false = false := fun q a hiq hqa hcf => by
      cases hEq : listed.getD q false with
      | false => rfl
      | true =>
        have := pairs_spec 0 bs hpairs i q b a hiq hbi hqa hcf
        simp only [Nat.zero_add] at this
        have hq : q < ops.size := by rw [← hlenA]; exact (List.getElem?_eq_some_iff.1 hqa).1
        exact (later q ops[q] (Array.getElem?_eq_getElem hq) hEq this).elim
    have cf : ∀ {a b : A} {x : Nat}, (x ∈ a.wt.map (·.1) ∧ x ∈ b.kt) ∨ (x ∈ a.wt.map (·.1) ∧ x ∈ b.wt.map (·.1)) ∨ (x ∈ b.wt.map (·.1) ∧ x ∈ a.kt) ∨ (x ∈ a.wh.map (·.1) ∧ x ∈ b.kh) ∨ (x ∈ a.wh.map (·.1) ∧ x ∈ b.wh.map (·.1)) ∨ (x ∈ b.wh.map (·.1) ∧ x ∈ a.kh) ∨ (x ∈ a.nw ∧ x ∈ wlabs b) → conf a b = true := by
      intro a b x h
      cases hcf : conf a b with
      | true => rfl
      | false =>
        exfalso
        simp only [conf, Bool.or_eq_false_iff] at hcf
        obtain ⟨⟨⟨⟨⟨⟨h1, h2⟩, h3⟩, h4⟩, h5⟩, h6⟩, h7⟩ := hcf
        rcases h with h | h | h | h | h | h | h
        · exact inter_false h1 h.1 h.2
        · exact inter_false h2 h.1 h.2
        · exact inter_false h3 h.1 h.2
        · exact inter_false h4 h.1 h.2
        · exact inter_false h5 h.1 h.2
        · exact inter_false h6 h.1 h.2
        · exact inter_false h7 h.1 h.2
    have keyT : ∀ (a : A) x, hasKey a.wt x → x ∈ a.wt.map (·.1) := fun a x ⟨p, hp, e⟩ => List.mem_map.2 ⟨p, hp, e⟩
    have keyH : ∀ (a : A) x, hasKey a.wh x → x ∈ a.wh.map (·.1) := fun a x ⟨p, hp, e⟩ => List.mem_map.2 ⟨p, hp, e⟩
    have hmapT : ∀ (j : Nat) u, (bs.map (·.wt))[j]? = some u → ∃ a, bs[j]? = some a ∧ u = a.wt := fun j u h => by
      rw [List.getElem?_map] at h
      cases hj : bs[j]? with
      | none => simp [hj] at h
      | some a => simp [hj] at h; exact ⟨a, rfl, h.symm⟩
    have hmapH : ∀ (j : Nat) u, (bs.map (·.wh))[j]? = some u → ∃ a, bs[j]? = some a ∧ u = a.wh := fun j u h => by
      rw [List.getElem?_map] at h
      cases hj : bs[j]? with
      | none => simp [hj] at h
      | some a => simp [hj] at h; exact ⟨a, rfl, h.symm⟩
    -- the state looks to i as it does in the order of the text
    have agT : ∀ x ∈ b.kt, get (exE bs (fun i => listed.getD i false) s).T x = get ((bs.take i).foldl S.upd s).T x := by
      intro x hx
      rw [← exE_take]
      refine exU_agree x _ 0 _ _ _ _ rfl (fun j u hj hu => ?_)
      obtain ⟨a', ha', rfl⟩ := hmapT j u hj
      simp only [Nat.zero_add]
      by_cases hji : j < i
      · rw [before j a' hji ha' (cf (.inl ⟨keyT _ x hu, hx⟩))]; simp [hji]
      · by_cases hje : j = i
        · subst hje; rw [hEi]; simp
        · rw [after j a' (by omega) ha' (cf (.inr (.inr (.inl ⟨keyT _ x hu, hx⟩))))]; simp [hji]
    have agH : ∀ x ∈ b.kh, get (exE bs (fun i => listed.getD i false) s).H x = get ((bs.take i).foldl S.upd s).H x := by
      intro x hx
      rw [← exE_take]
      refine exU_agree x _ 0 _ _ _ _ rfl (fun j u hj hu => ?_)
      obtain ⟨a', ha', rfl⟩ := hmapH j u hj
      simp only [Nat.zero_add]
      by_cases hji : j < i
      · rw [before j a' hji ha' (cf (.inr (.inr (.inr (.inl ⟨keyH _ x hu, hx⟩)))))]; simp [hji]
      · by_cases hje : j = i
        · subst hje; rw [hEi]; simp
        · rw [after j a' (by omega) ha' (cf (.inr (.inr (.inr (.inr (.inr (.inl ⟨keyH _ x hu, hx⟩)))))))]; simp [hji]
    have fr : ∀ l ∈ b.nw, Fresh l (exE bs (fun i => listed.getD i false) s) := by
      intro l hl
      have h0 := hfr l hl
      rw [← exE_take] at h0
      refine ⟨h0.ge, fun p hp e he hle => ?_, fun p hp o' ho' hlo => ?_⟩
      · rcases (mem_exU _ _ _ _ _).1 hp with hp | ⟨j, u, hj, hE, hpu⟩
        · exact h0.t p ((mem_exU _ _ _ _ _).2 (.inl hp)) e he hle
        · obtain ⟨a', ha', rfl⟩ := hmapT j u hj
          simp only [Nat.zero_add] at hE
          by_cases hji : j < i
          · exact h0.t p ((mem_exU _ _ _ _ _).2 (.inr ⟨j, _, hj, by simp [hji], hpu⟩)) e he hle
          · by_cases hje : j = i
            · subst hje; rw [hEi] at hE; simp at hE
            · have hw : l ∈ wlabs a' := by
                simp only [wlabs, List.mem_append, List.mem_flatMap]
                exact .inl ⟨p, hpu, by rw [he]; exact hle⟩
              rw [after j a' (by omega) ha' (cf (.inr (.inr (.inr (.inr (.inr (.inr ⟨hl, hw⟩)))))))] at hE
              simp at hE
      · rcases (mem_exU _ _ _ _ _).1 hp with hp | ⟨j, u, hj, hE, hpu⟩
        · exact h0.h p ((mem_exU _ _ _ _ _).2 (.inl hp)) o' ho' hlo
        · obtain ⟨a', ha', rfl⟩ := hmapH j u hj
          simp only [Nat.zero_add] at hE
          by_cases hji : j < i
          · exact h0.h p ((mem_exU _ _ _ _ _).2 (.inr ⟨j, _, hj, by simp [hji], hpu⟩)) o' ho' hlo
          · by_cases hje : j = i
            · subst hje; rw [hEi] at hE; simp at hE
            · have hw : l ∈ wlabs a' := by
                simp only [wlabs, List.mem_append, List.mem_flatMap]
                exact .inr ⟨p, hpu, by rw [ho']; exact hlo⟩
              rw [after j a' (by omega) ha' (cf (.inr (.inr (.inr (.inr (.inr (.inr ⟨hl, hw⟩)))))))] at hE
              simp at hE
    have hE' : ∀ j, (listed.setIfInBounds i true).getD j false = (Nat.beq j i || listed.getD j false) := by
      intro j
      by_cases hji : j = i
      · subst hji; simp [Array.getD, hi']
      · have hb' : Nat.beq j i = false := by
          cases hb' : Nat.beq j i
          · rfl
          · exact absurd (Nat.eq_of_beq_eq_true hb') hji
        rw [hb', Bool.false_or]
        exact getD_set_ne false (fun e => hji e.symm)
    have next : ∀ a' w' κ', Sat n c κ' ((exE bs (fun i => listed.getD i false) s).upd b) a' w' → wpAny P .any ops Q fuel (listed.setIfInBounds i true) a' w' := by
      intro a' w' κ' hs'
      refine ih (listed.setIfInBounds i true) a' w' κ' (by simp [hsz]) ?_ ?_ ?_
      · intro j oj hoj hEj e he hbd
        rw [hE'] at hEj ⊢
        cases hji : Nat.beq j i with
        | true =>
          have := Nat.eq_of_beq_eq_true hji
          subst this
          have : oj = o := by rw [ho] at hoj; exact (Option.some.inj hoj).symm
          subst this
          rw [hpre e (by simpa using he) hbd, Bool.or_true]
        | false =>
          rw [hji, Bool.false_or] at hEj
          rw [hcl j oj hoj hEj e he hbd, Bool.or_true]
      · have hget : listed.toList[i]'(by simpa using hi') = false := by
          simp [Array.getD, hi'] at hEi; simpa using hEi
        rw [Array.toList_setIfInBounds, List.count_set (by simpa using hi'), hget]
        have hpos : 0 < listed.toList.count false := List.count_pos_iff.2 (by rw [← hget]; exact List.getElem_mem _)
        have e1 : (if (false == false) = true then 1 else 0) = 1 := rfl
        have e2 : (if (true == false) = true then 1 else 0) = 0 := rfl
        rw [e1, e2]
        omega
      · refine hs'.congr (fun x => ?_) (fun x => ?_)
        · have h := exU_add x i (fun i => listed.getD i false) (fun j => (listed.setIfInBounds i true).getD j false) hEi hE' (bs.map (·.wt)) 0 s.T b.wt (Nat.zero_le _) (by rw [Nat.sub_zero, List.getElem?_map, hbi]; rfl) (fun j v hj hEj hlt y hv hu => ?_)
          · exact h
          · obtain ⟨a'', ha'', rfl⟩ := hmapT j v hj
            simp only [Nat.zero_add] at hEj hlt
            rw [after j a'' hlt ha'' (cf (.inr (.inl ⟨keyT _ y hu, keyT _ y hv⟩)))] at hEj
            simp at hEj
        · have h := exU_add x i (fun i => listed.getD i false) (fun j => (listed.setIfInBounds i true).getD j false) hEi hE' (bs.map (·.wh)) 0 s.H b.wh (Nat.zero_le _) (by rw [Nat.sub_zero, List.getElem?_map, hbi]; rfl) (fun j v hj hEj hlt y hv hu => ?_)
          · exact h
          · obtain ⟨a'', ha'', rfl⟩ := hmapH j v hj
            simp only [Nat.zero_add] at hEj hlt
            rw [after j a'' hlt ha'' (cf (.inr (.inr (.inr (.inr (.inl ⟨keyH _ y hu, keyH _ y hv⟩))))))] at hEj
            simp at hEj
    have hstep := hloc (exE bs (fun i => listed.getD i false) s) agT agH fr c κ a w hc hs (wpAny P .any ops Q fuel (listed.setIfInBounds i true)) Q next
    unfold wpOp
    rw [ho]
    simp only
    split
    · rename_i hw; rw [if_pos hw] at hstep; exact .inl hstep
    · rename_i hw; rw [if_neg hw] at hstep; exact hstep

theorem wp_draw {Q : Exit → Act → World → Prop} {c : Cx} (hc : c.okP P) {id : Nat} {s s' : S} {bs : List A} {κ : Ka} {a : Act} {w : World} (hm : P.follows .mixedOrders = true) (hlex : Lex P n ops ops.toList s bs s') (hok : okB ops.toList bs = true)
    (hQ : ∀ a w κ, Sat n c κ s' a w → Q .normal a w) (hs : Sat n c κ s a w) : (Code.region id ops true).wp P Q a w := by
  refine wp_region_any hm (any_of_lex hc hlex hok hQ ops.size _ a _ κ (by simp) (fun i o _ h => ?_) ?_ ?_)
  · simp [Array.getD] at h
  · simp
  · have e : ∀ {α : Type} (us : List (List (Nat × Option α))) (T : List (Nat × Option α)), exU us 0 (fun i => (Array.replicate ops.size false).getD i false) T = T := fun us T =>
      exU_none us 0 _ T (fun j _ => by simp [Array.getD])
    simp only [exE, e]
    exact ⟨hs.hd, hs.hn, hs.tm, hs.mem.world ⟨rfl, rfl, rfl, Nat.le_refl _, fun _ _ _ => rfl⟩⟩
end
end Go.Proofs.YtibbfdojcdkopaaGreat.E
