/-
  THE ENGINE, part K: bytes as a string; a nil slice inside a struct that becomes an empty slice of the call's own.
  Conditions: none; all of it is over any program.
-/
import Derived.Test.YtibbfdojcdkopaaGreatEngJ
import Derived.WideLaws
import Derived.Laws.BytesArg
import Derived.Lib.SliceRun
set_option linter.unusedVariables false
set_option linter.unusedSimpArgs false
set_option linter.unusedSectionVars false
set_option linter.unnecessarySimpa false
namespace Go.Proofs.YtibbfdojcdkopaaGreat.E
open Go Go.RowKit

/-- bytes as a string -/
def b2sOk (P : Program) (t1 t2 : TypeId) : Bool := match P.underlying t1, P.underlying t2 with
  | some (.slice e), some .string => (match P.underlying e with | some (.int .u8) => true | _ => false)
  | _, _ => false
theorem b2s_spec {P : Program} {t1 t2 : TypeId} (h : b2sOk P t1 t2 = true) : ∃ e, P.underlying t1 = some (.slice e) ∧ P.underlying t2 = some .string ∧ P.underlying e = some (.int .u8) := by
  unfold b2sOk at h
  split at h
  · rename_i e h1 h2
    split at h
    · rename_i h3; exact ⟨e, h1, h2, h3⟩
    · simp at h
  · simp at h
theorem flat_u8 : ∀ xs : List Int, (xs.map (V.int .u8)).flatMap V.cells = xs.map (V.int .u8)
  | [] => rfl
  | x :: xs => by simp [V.cells, flat_u8 xs]
theorem all2_u8 {c : Cx} : ∀ {xs : List Int} {ys : List Value}, All2 (RepR c) (xs.map (V.int .u8)) ys → ys = xs.map (Value.int .u8)
  | [], [], _ => rfl
  | x :: xs, y :: ys, ⟨h1, h2⟩ => by
    cases h1
    rw [all2_u8 h2]; rfl
  | [], _ :: _, h => h.elim
  | _ :: _, [], h => h.elim

section
variable {P : Program} {n : Nat} {ops : Array Oper}
variable {s s' : S} {r : List Oper} {bs : List A} {g : Bool} {gks : List Nat} {d : Nat} {ty : TypeId} {pos : String} {af : Array Edge} {gd : Option (Nat × Bool)}
theorem q_b2s {x : Operand} {xs : List Int} {t1 t2 : TypeId} {k1 h1 : List Nat} (hgd : Gd ops s gd g gks) (hx : Src s g 1 x (xs.map (V.int .u8)) k1 h1) (ht : b2sOk P t1 t2 = true) (hd : Nat.blt d n = true)
    (k : Lex P n ops r ⟨(d, some (g, .str (chars xs))) :: s.T, s.H⟩ bs s') :
    Lex P n ops (⟨some d, .convert t1 t2 x, ty, pos, af, gd⟩ :: r) s (⟨k1 ++ gks, h1, [], [(d, some (g, .str (chars xs)))], []⟩ :: bs) s' := by
  refine C0 (o := ⟨some d, .convert t1 t2 x, ty, pos, af, gd⟩) hgd rfl hd (fun s' htt hhh c κ a w hc hs hg => ?_) k
  obtain ⟨e, hu1, hu2, hu3⟩ := b2s_spec ht
  obtain ⟨A, cap, ys, hv, _, hall, hn, hcell⟩ := (hx.agree htt hhh).rep hc hs hg
  rw [flat_u8] at hall
  have hys := all2_u8 hall
  have hgoal : (convert t1 t2 (a.eval x)).run P w = .ok (.string ⟨⟨chars xs⟩⟩) w := by
    rw [hv, run_convert_bytes_string w t1 t2 e A _ _ hu1 hu3 hu2]
    cases A with
    | none =>
      have h0 : xs = [] := by have := hn rfl; simpa using this
      subst h0
      simp [Conv.bytesToString, chars, ByteArray.empty, ByteArray.emptyWithCapacity]
      rfl
    | some ad =>
      have hl : (loadCells ad (xs.map (V.int .u8)).length).run P w = .ok (xs.map (Value.int .u8)).toArray w := by
        have := run_loadCells_list (P := P) w ad (xs.map (Value.int .u8)) (fun j v hj => hcell ad rfl j v (by rw [hys]; exact hj))
        simpa using this
      rw [run_bytesToString w ad _ cap xs hl, foldl_push_bytes]
      simp [chars, ByteArray.empty, ByteArray.emptyWithCapacity]
      rfl
  refine ⟨.string ⟨⟨chars xs⟩⟩, ?_, .str _⟩
  simp [execOp, hgoal]
end
/-- a nil slice in a cell of a box of the call's own becomes an empty slice of the call's own -/
theorem sub_adoptb {s : S} {b l sz : Nat} {el el0 : TypeId} {cs : List V} (j : Nat) (hb : get s.H b = some (.box el0 cs)) (hj : cs[j]? = some .nls) (hf : freshB l s = true) (hbl : Nat.beq b l = false) :
    Sub s ⟨s.T, (b, some (.box el0 (cs.set j (.os l 0)))) :: (l, some (.row el sz [])) :: s.H⟩ := by
  intro n c κ a w hs
  have hfl := Fresh.of hf
  have hne : b ≠ l := fun e => by subst e; rw [Nat.beq_refl] at hbl; simp at hbl
  refine ⟨fun i => if i = l then none else κ i, hs.hd, hs.hn, fun t' e' ht' => ?_, ?_⟩
  · refine (hs.tm t' e' ht').turn fun l' hl' => ?_
    have : l' ≠ l := fun e => hfl.t _ (get_mem ht') e' rfl (e ▸ hl')
    simp [this]
  · refine ⟨hs.mem.ext, fun l' o hl' => ?_, fun l' o b' k hl' hk => ?_, fun l1 l2 o1 o2 b' k k' h1 h2 hk1 hk2 => ?_, fun i hi => ?_, ?_⟩
    · rw [get_cons] at hl'
      split at hl'
      · rename_i e; subst e; injection hl' with hl'; subst hl'
        obtain ⟨b', cur, h0, h1, h2⟩ := hs.mem.hp b _ hb
        refine ⟨b', cur, by simp only [hne, if_false]; exact h0, h1, All2.of_get (by rw [List.length_set]; exact h2.length) fun q u y hu hy => ?_⟩
        by_cases hq : j = q
        · subst hq
          obtain ⟨y', hy', hr⟩ := h2.get j _ hj
          rw [hy] at hy'; injection hy' with hy'; subst hy'
          rw [List.getElem?_set_self (List.getElem?_eq_some_iff.1 hj).1] at hu
          injection hu with hu; subst hu
          have hr' : RepR c .nls y := hr
          cases hr'
          simp [RepC, RepB]
        · rw [List.getElem?_set_ne hq] at hu
          obtain ⟨y', hy', hr⟩ := h2.get q u hu
          rw [hy] at hy'; injection hy' with hy'; subst hy'
          refine hr.turn fun i hi => ?_
          have : i ≠ l := fun e => hfl.h _ (get_mem hb) _ rfl (by simp only [O.labs, List.mem_flatMap]; exact ⟨u, List.mem_of_getElem? hu, e ▸ hi⟩)
          simp [this]
      · rename_i e0
        rw [get_cons] at hl'
        split at hl'
        · rename_i e; subst e; injection hl' with hl'; subst hl'; simp [Holds]
        · rename_i e
          have e' : ¬ l' = l := fun h => e h.symm
          refine (hs.mem.hp l' o hl').turn (by simp [e']) (fun i hi => ?_) (fun _ _ _ => rfl)
          have : i ≠ l := fun e2 => hfl.h _ (get_mem hl') o rfl (e2 ▸ hi)
          simp [this]
    · by_cases e : l' = l
      · simp [e] at hk
      · simp only [e, if_false] at hk
        rw [get_cons] at hl'
        split at hl'
        · rename_i e0; subst e0; exact hs.mem.ow b _ b' k hb hk
        · rw [get_cons, if_neg (fun h => e h.symm)] at hl'
          exact hs.mem.ow l' o b' k hl' hk
    · have g1 : ¬ l1 = l := fun e => by simp [e] at hk1
      have g2 : ¬ l2 = l := fun e => by simp [e] at hk2
      simp only [g1, g2, if_false] at hk1 hk2
      have key : ∀ l' o, ¬ l' = l → get ((b, some (.box el0 (cs.set j (.os l 0)))) :: (l, some (.row el sz [])) :: s.H) l' = some o → ∃ o', get s.H l' = some o' := fun l' o e h => by
        rw [get_cons] at h
        split at h
        · rename_i e0; subst e0; exact ⟨_, hb⟩
        · rw [get_cons, if_neg (fun h => e h.symm)] at h; exact ⟨o, h⟩
      obtain ⟨o1', h1'⟩ := key l1 o1 g1 h1
      obtain ⟨o2', h2'⟩ := key l2 o2 g2 h2
      exact hs.mem.ij l1 l2 o1' o2' b' k k' h1' h2' hk1 hk2
    · have : ¬ i = l := by have := hfl.ge; omega
      simp only [this, if_false]
      exact hs.mem.pin i hi
    · refine hs.mem.nsi (fun l' o hl' hN => ?_) (fun l' o b' k hl' hk => ?_) (fun _ _ => .inl rfl) (Nat.le_refl _)
      · rw [get_cons] at hl'
        split at hl'
        · injection hl' with hl'; subst hl'; simp [O.isNest] at hN
        · rw [get_cons] at hl'
          split at hl'
          · injection hl' with hl'; subst hl'; simp [O.isNest] at hN
          · rename_i e
            have e' : ¬ l' = l := fun h => e h.symm
            refine ⟨hl', by simp [e'], fun x hx => ?_⟩
            have : x ≠ l := fun e2 => hfl.h _ (get_mem hl') o rfl (e2 ▸ hx)
            simp [this]
      · by_cases e : l' = l
        · simp [e] at hk
        · simp only [e, if_false] at hk
          rw [get_cons] at hl'
          split at hl'
          · rename_i e0; subst e0; exact .inr ⟨b, _, k, hb, hk⟩
          · rw [get_cons, if_neg (fun h => e h.symm)] at hl'
            exact .inr ⟨l', o, k, hl', hk⟩
section
variable {ρ : Type} {P : Program} {fn : Func} {n : Nat} {out : ρ → V × List (Nat × Option O)} {k : List (It ρ)} {r : ρ} {s s' : S}
theorem run_factH {l sz : Nat} {el : TypeId} {es : List V} (ho : get s.H l = some (.row el sz es)) (h : es.length ≤ 9223372036854775807 → Run P fn n out k r s) : Run P fn n out k r s := by
  intro c κ a w hc hs
  refine h ?_ c κ a w hc hs
  have hh := hs.mem.hp l _ ho
  simp only [Holds] at hh
  cases hk : κ l with
  | none => rw [hk] at hh; simp only at hh; rw [hh]; simp
  | some p =>
    obtain ⟨b, cap⟩ := p
    rw [hk] at hh
    obtain ⟨cur, _, h1, h2, _⟩ := hh
    unfold maxLen at h2; omega
end
/-- what a call hands back holds no memory that is only read -/
def HR (hout : List (Nat × Option O)) : Prop := ∀ p ∈ hout, ∀ o, p.2 = some o → ∀ u ∈ o.at_, u.noro = true
theorem hr_nil : HR [] := fun p hp => by simp at hp
theorem hr_row {α : Type} {l sz : Nat} {el : TypeId} {f : α → V} {xs : List α} {hout : List (Nat × Option O)} (h : ∀ a, (f a).cells.all V.noro = true) (t : HR hout) : HR ((l, some (.row el sz (xs.map f))) :: hout) := by
  intro p hp o ho u hu
  rcases List.mem_cons.1 hp with e | e
  · subst e; injection ho with ho; subst ho
    simp only [O.at_, List.mem_flatMap, List.mem_map] at hu
    obtain ⟨_, ⟨a, _, rfl⟩, hu⟩ := hu
    exact (List.all_eq_true.1 (h a)) u hu
  · exact t p e o ho u hu
/-! ### A slice against nil: an empty one may be nil or not -/
section
variable {P : Program} {n : Nat} {ops : Array Oper}
variable {s s' : S} {r : List Oper} {bs : List A} {g : Bool} {gks : List Nat} {d : Nat} {ty : TypeId} {pos : String} {af : Array Edge} {gd : Option (Nat × Bool)}
/-! ### An error against nil -/
end
end Go.Proofs.YtibbfdojcdkopaaGreat.E
