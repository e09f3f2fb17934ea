/-
  THE ENGINE, part Q: a call under a guard that turns one object of the caller's; a slot that holds a nil pointer until it is set.
  Conditions: none; all of it is over any program.
-/
import Derived.Test.YtibbfdojcdkopaaEngN
set_option linter.unusedVariables false
set_option linter.unusedSimpArgs false
set_option linter.unusedSectionVars false
set_option linter.unnecessarySimpa false
namespace Go.Proofs.Ytibbfdojcdkopaa.E
open Go Go.RowKit
section
variable {P : Program} {n : Nat} {ops : Array Oper}
variable {s s' : S} {r : List Oper} {bs : List A} {g : Bool} {gks : List Nat} {d : Nat} {ty : TypeId} {pos : String} {af : Array Edge} {gd : Option (Nat × Bool)}
def agreeM (H H' : List (Nat × Option O)) : List (Nat × Nat) → Prop
  | [] => True
  | p :: r => get H' p.2 = get H p.2 ∧ agreeM H H' r
theorem agreeM_get {H H' : List (Nat × Option O)} : ∀ {M : List (Nat × Nat)}, agreeM H H' M → ∀ p ∈ M, get H' p.2 = get H p.2
  | [], _, p, hp => by simp at hp
  | q :: r, h, p, hp => by
    rcases List.mem_cons.1 hp with e | e
    · subst e; exact h.1
    · exact agreeM_get h.2 p e
/-- a call under a guard, that turns objects of the caller's -/
theorem q_callGMs {x : Operand} {f : FuncId} {caps : List V} {xs : List Operand} {ts : Array TypeId} {vs as : List V} {res : V} {full : Bool} {k0 ks kh : List Nat} (M : List (Nat × Nat)) {hin hout : List (Nat × Option O)} {v : V} (H' : List (Nat × Option O)) (hgd : Gd ops s gd g gks)
    (hfv : g = true → Fv s true x f caps k0) (he : entB P f = true) (hx : g = true → Ods s true xs vs ks) (hp : Passes s full M as (vs ++ caps) kh) (hcon : g = true → Con P f as hin res hout) (hin' : subH (rn M) s hin) (hok : callOk M [] hin hout res = true)
    (hro : full = true → res.atT.all V.noro = true) (hro' : full = true → ∀ p ∈ hout, ∀ o, p.2 = some o → ∀ u ∈ o.at_, u.noro = true) (hd : Nat.blt d n = true)
    (hv : g = true → res.ren (rn (M ++ [])) = v ∧ hren (rn (M ++ [])) hout = H') (hk1 : (H'.map (·.1)).all (fun l => (M.map (·.2)).contains l) = true) (hk2 : (M.map (·.2)).all (fun l => (H'.map (·.1)).contains l) = true) (hn : g = false → agreeM s.H H' M)
    (k : Lex P n ops r ⟨(d, some (g, v)) :: s.T, H' ++ ((M ++ []).map fun p : Nat × Nat => (p.2, (none : Option O))) ++ s.H⟩ bs s') :
    Lex P n ops (⟨some d, .call ⟨.value x, ⟨xs⟩, ts⟩, ty, pos, af, gd⟩ :: r) s (⟨((k0 ++ ks) ++ []) ++ gks, kh ++ M.map (·.2), [], [(d, some (g, v))], H' ++ ((M ++ []).map fun p : Nat × Nat => (p.2, (none : Option O)))⟩ :: bs) s' := by
  refine Lex.cons ?_ (by simp) k
  intro s1 ht hh hfr c κ a w hc hs K Q hK
  have hgd' := hgd.agree (s' := s1) (fun t hm => ht t (by simp [hm]))
  rw [hgd'.wanted hs rfl]
  cases hg : g with
  | true =>
    simp only [if_true]
    have h1 := q_callM (ops := ops) (ty := ty) (pos := pos) (af := af) (gd := none) (ts := ts) (d := d) (r := []) (bs := []) (n := n) (full := full) M [] .n rfl (hfv hg) he (hx hg) hp (hcon hg) hin' hok rfl hro hro' hd Lex.nil
    have h2 := loc_of h1
    have h3 := h2 s1 (fun t hm => ht t (by simp only [List.mem_append] at hm ⊢; exact .inl hm)) hh (fun l hl => by simp at hl) c κ a w hc hs K Q ?_
    · exact h3
    · intro a' w' κ' hs'
      obtain ⟨e1, e2⟩ := hv hg
      refine hK a' w' κ' ?_
      rw [hg]
      simp only at hs'
      rw [e1, e2] at hs'
      exact hs'
  | false =>
    simp only [Bool.false_eq_true, if_false]
    have hd' : d < n := Nat.le_of_ble_eq_true hd
    refine hK _ _ κ ?_
    rw [hg]
    have := hs.put_same (e := (false, v)) (x := undef) hd' ⟨fun h => by simp at h, fun _ => rfl⟩
    refine Sat.congr (s := ⟨(d, some (false, v)) :: s1.T, s1.H⟩) (s' := ⟨(d, some (false, v)) :: s1.T, H' ++ ((M ++ []).map fun p : Nat × Nat => (p.2, (none : Option O))) ++ s1.H⟩) (fun _ => rfl) (fun l => ?_) this
    show get (H' ++ ((M ++ []).map fun p : Nat × Nat => (p.2, (none : Option O))) ++ s1.H) l = get s1.H l
    rw [List.append_assoc]
    by_cases hl : l ∈ H'.map (·.1)
    · rw [get_app_some hl]
      have h4 := (List.all_eq_true.1 hk1) l hl
      have h5 : l ∈ M.map (·.2) := by simpa using h4
      obtain ⟨p, hp', e⟩ := List.mem_map.1 h5
      subst e
      rw [agreeM_get (hn hg) p hp']
      exact (hh p.2 (by simp only [List.mem_append]; exact .inr (List.mem_map.2 ⟨p, hp', rfl⟩))).symm
    · rw [get_append_no (fun ⟨p, hp', e⟩ => hl (List.mem_map.2 ⟨p, hp', e⟩))]
      refine get_append_no (fun ⟨p, hp', e⟩ => ?_)
      rw [List.append_nil] at hp'
      obtain ⟨q, hq, e2⟩ := List.mem_map.1 hp'
      have h4 := (List.all_eq_true.1 hk2) q.2 (List.mem_map.2 ⟨q, hq, rfl⟩)
      have h5 : q.2 ∈ H'.map (·.1) := by simpa using h4
      subst e2
      simp only at e
      exact hl (e ▸ h5)
end
end Go.Proofs.Ytibbfdojcdkopaa.E
