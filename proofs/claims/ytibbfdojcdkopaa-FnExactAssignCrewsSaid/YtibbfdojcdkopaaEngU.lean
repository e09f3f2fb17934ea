/-
  THE ENGINE, part U: calls of what grows, with objects that are turned and objects that come back.
  Conditions: none; all of it is over any program.
-/
import Derived.Test.YtibbfdojcdkopaaEngR
import Derived.Test.YtibbfdojcdkopaaEngP
set_option linter.unusedVariables false
set_option linter.unusedSimpArgs false
set_option linter.unusedSectionVars false
set_option linter.unnecessarySimpa false
namespace Go.Proofs.Ytibbfdojcdkopaa.E
open Go Go.RowKit
section
variable {ρ : Type} {P : Program} {fn : Func} {n : Nat} {out : ρ → V × List (Nat × Option O)} {k : List (It ρ)} {r : ρ} {s s' : S}
/-- the rest of a region, from a state on: whatever follows from the end of it in this context follows -/
def RO (P : Program) (fn : Func) (n : Nat) (out : ρ → V × List (Nat × Option O)) (k : List (It ρ)) (r : ρ) (ops : Array Oper) (rest : List Oper) (s : S) : Prop :=
  ∀ (c : Cx) (κ : Ka) (a : Act) (w : World) (Q : Exit → Act → World → Prop), c.okP P → Sat n c κ s a w → (∀ e a w, post P n (fun c => Fin P fn out c r) r k c e a w → Q e a w) → wpList P ops Q rest a w
theorem run_ro {rid : Nat} {l : List Oper} (h : RO P fn n out k r l.toArray l s) : Run P fn n out (.code (.region rid l.toArray false) :: k) r s := fun c κ a w hc hs =>
  wp_region_lit (h c κ a w _ hc hs fun _ _ _ h => h)
theorem ro_end {ops : Array Oper} (h : Run P fn n out k r s) : RO P fn n out k r ops [] s := fun c κ a w Q hc hs hq => hq _ _ _ (h c κ a w hc hs)
theorem ro_lex {ops : Array Oper} {rest l1 l2 : List Oper} {bs : List A} (e : rest = l1 ++ l2) (hl : Lex P n ops l1 s bs s') (h : RO P fn n out k r ops l2 s') : RO P fn n out k r ops rest s := by
  subst e
  exact fun c κ a w Q hc hs hq => wpList_pre hc l1 s bs s' hl κ a w hs fun a w κ hs => h c κ a w Q hc hs hq
def allT (s : S) (v : V) : List Nat → Prop
  | [] => True
  | t :: ts => get s.T t = some (true, v) ∧ allT s v ts
theorem allT_mem {s : S} {v : V} : ∀ {ts : List Nat}, allT s v ts → ∀ t ∈ ts, get s.T t = some (true, v)
  | [], _, _, h => by simp at h
  | _ :: _, ⟨h1, h2⟩, t, h => by
    rcases List.mem_cons.1 h with e | h
    · subst e; exact h1
    · exact allT_mem h2 t h
def putT (v : V) : List Nat → List (Nat × Option En) → List (Nat × Option En)
  | [], T => T
  | t :: ts, T => (t, some (true, v)) :: putT v ts T
theorem get_putT {v : V} {T : List (Nat × Option En)} : ∀ {ts : List Nat} {t : Nat} {e : En}, get (putT v ts T) t = some e → (t ∈ ts ∧ e = (true, v)) ∨ get T t = some e
  | [], _, _, h => .inr h
  | q :: ts, t, e, h => by
    rw [putT, get_cons] at h
    split at h
    · rename_i e2; subst e2; injection h with h; exact .inl ⟨List.mem_cons_self, h.symm⟩
    · exact (get_putT h).imp (fun h => ⟨List.mem_cons_of_mem _ h.1, h.2⟩) id
theorem frz_satL {c : Cx} (hc : c.ok) {κ : Ka} {a : Act} {w : World} {l : Nat} {ts : List Nat} {o : O} {v : V} (hs : Sat n c κ s a w) (ho : get s.H l = some o) (hv : ∀ t ∈ ts, RepT (frzCx c κ w l) κ v (a.tmps.getD t undef)) :
    Sat n (frzCx c κ w l) κ ⟨putT v ts s.T, (l, none) :: s.H⟩ a w := by
  have g := frz_grow hc hs ho
  refine ⟨hs.hd, hs.hn, fun t' e ht => ?_, ⟨Ext.refl _ _, fun l' o' hl => ?_, fun l' o' b k hl hk => ?_, fun l1 l2 o1 o2 b k k' h1 h2 hk1 hk2 => ?_, hs.mem.pin, ?_⟩⟩
  · rcases get_putT ht with ⟨h1, rfl⟩ | h1
    · exact ⟨fun _ => hv t' h1, fun h => by simp at h⟩
    · exact (hs.tm t' e h1).grow hc g
  · rw [get_cons] at hl
    split at hl
    · simp at hl
    · exact (hs.mem.hp l' o' hl).cx fun u _ y hy => hy.grow hc g
  · rw [get_cons] at hl
    split at hl
    · simp at hl
    · rename_i e'
      have h1 := hs.mem.ow l' o' b k hl hk
      have h2 := hs.mem.lt hl hk
      have h3 : ¬ (c.D b ∨ ∃ k, κ l = some (b, k)) := fun h => h.elim h1.2 fun ⟨k2, hk2⟩ => e' (hs.mem.ij l l' o o' b k2 k ho hl hk2 hk)
      exact ⟨.inr ⟨h2, h1.1, h3⟩, h3⟩
  · rw [get_cons] at h1 h2
    split at h1
    · simp at h1
    · split at h2
      · simp at h2
      · exact hs.mem.ij l1 l2 o1 o2 b k k' h1 h2 hk1 hk2
  · obtain ⟨φ, N⟩ := hs.mem.ns
    have sub : ∀ l' o', get ((l, none) :: s.H) l' = some o' → get s.H l' = some o' := fun l' o' h => by
      rw [get_cons] at h
      split at h
      · simp at h
      · exact h
    refine hs.mem.nsj N (fun _ _ _ _ _ _ _ _ _ _ _ _ _ _ _ _ hy => hy.grow hc g) (fun l' o' i b k hl' _ hp => ?_) (fun l' o' hl' _ => ⟨sub l' o' hl', rfl, fun _ _ => rfl⟩) (fun l' o' b k hl' hk => .inr ⟨l', o', k, sub l' o' hl', hk⟩) (fun _ _ => .inl rfl) (Nat.le_refl _)
    obtain ⟨g1, g2, g3⟩ := N.own _ _ _ _ hp
    have h3 : ¬ (c.D b ∨ ∃ k, κ l = some (b, k)) := fun h => h.elim g3 fun ⟨k2, hk2⟩ => N.out _ _ _ _ hp _ _ _ ho hk2
    exact ⟨.inr ⟨g1, g2, h3⟩, h3⟩
theorem ro_freezeL {ops : Array Oper} {rest : List Oper} {l m sz : Nat} {el : TypeId} {es us : List V} (ts : List Nat) (ht : allT s (.os l m) ts) (ho : get s.H l = some (.row el sz es)) (hu : es.take m = us) (hm : us.length = m) (hk : growOk k = true)
    (h : RO P fn n out k r ops rest ⟨putT (.sl sz us) ts s.T, (l, none) :: s.H⟩) : RO P fn n out k r ops rest s := by
  intro c κ a w Q hc hs hq
  have g := frz_grow hc.ok hs ho
  exact h (frzCx c κ w l) κ a w Q (g.okP hc) (frz_satL hc.ok hs ho fun t h => frz_row hc.ok hs (allT_mem ht t h) ho hu hm) fun e a w h => hq e a w (post_grow g hk h)
end
end Go.Proofs.Ytibbfdojcdkopaa.E
