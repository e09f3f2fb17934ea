/-
  THE ENGINE, part P: '==' and '!=' of structs whose fields have one cell each.
  Conditions: none; all of it is over any program.
-/
import Derived.Test.YtibbfdojcdkopaaGreatEngN
import Derived.Laws.StructEq
import Derived.Laws.CopyRow
import Derived.ChangeKeysEq
set_option linter.unusedVariables false
set_option linter.unusedSimpArgs false
set_option linter.unusedSectionVars false
set_option linter.unnecessarySimpa false
namespace Go.Proofs.YtibbfdojcdkopaaGreat.E
open Go Go.RowKit
def eqC : V → V → Bool
  | .int k a, .int k2 b => a == b
  | .bool a, .bool b => a == b
  | .str a, .str b => a == b
  | _, _ => false
def stEq : List V → List V → Bool
  | u :: us, v :: vs => eqC u v && stEq us vs
  | _, _ => true
def kindC (P : Program) (t : TypeId) : V → Bool
  | .int k _ => match P.underlying t with | some (.int k') => k == k' | _ => false
  | .bool _ => match P.underlying t with | some .bool => true | _ => false
  | .str _ => match P.underlying t with | some .string => true | _ => false
  | _ => false
def eqFlds (P : Program) : List Field → Nat → List V → List V → Bool
  | [], _, [], [] => true
  | f :: fs, j, u :: us, v :: vs => !(f.name == "_") && (Nat.beq f.offset j && (P.plainKey f.type && (kindC P f.type u && (kindC P f.type v && eqFlds P fs (j + 1) us vs))))
  | _, _, _, _ => false
def stOk (P : Program) (t : TypeId) (us vs : List V) : Bool :=
  match P.underlying t with
  | some (.struct fs) => !(P.stoodInHeld t) && (!(P.eqGuardType P.depth t) && eqFlds P fs.toList 0 us vs)
  | _ => false
section
variable {P : Program} {c : Cx} {w : World}
end
section
variable {P : Program} {n : Nat} {ops : Array Oper}
variable {s s' : S} {r : List Oper} {bs : List A} {g : Bool} {gks : List Nat} {d : Nat} {ty : TypeId} {pos : String} {af : Array Edge} {gd : Option (Nat × Bool)}
/-! ### 'clear' of a part of an own row -/
end
/-! ### Only the head of an own row is kept in view -/
theorem holds_shrink {α : Type} {f : α → V} {xs : List α} {c : Cx} {κ : Ka} {w : World} {l sz : Nat} {el : TypeId} (b : Int) (h : Holds c κ w l (.row el sz (xs.map f))) : Holds c κ w l (.row el sz ((pre' xs b).map f)) := by
  simp only [Holds] at h ⊢
  cases hk : κ l with
  | none =>
    simp only [hk] at h ⊢
    have : xs = [] := by simpa using h
    subst this; simp [pre']
  | some bk =>
    obtain ⟨b', cap⟩ := bk
    simp only [hk] at h ⊢
    obtain ⟨cur, hb, hl, hm, hsz, hz, hr⟩ := h
    have hsub : (pre' xs b).map f = (xs.map f).take b.toNat := by simp [pre', List.map_take]
    refine ⟨cur, hb, ?_, hm, hsz, fun e he => hz e (by rw [hsub] at he; exact List.mem_of_mem_take he), fun j u hu => hr j u ?_⟩
    · rw [hsub, List.length_take]; omega
    · rw [hsub] at hu
      conv => lhs; rw [← List.take_append_drop b.toNat (xs.map f), List.flatMap_append]
      rw [List.getElem?_append_left (List.getElem?_eq_some_iff.1 hu).1]; exact hu
theorem mem_shrink {α : Type} {f : α → V} {xs : List α} {c : Cx} {κ : Ka} {H : List (Nat × Option O)} {w : World} {l sz : Nat} {el : TypeId} (b : Int) (ho : get H l = some (.row el sz (xs.map f))) (h : Mem c κ H w) : Mem c κ ((l, some (.row el sz ((pre' xs b).map f))) :: H) w := by
  have back : ∀ l' o', get ((l, some (O.row el sz ((pre' xs b).map f))) :: H) l' = some o' → ∃ o2, get H l' = some o2 := by
    intro l' o' h'
    rw [get_cons] at h'
    by_cases hl : l = l'
    · subst hl; exact ⟨_, ho⟩
    · rw [if_neg hl] at h'; exact ⟨_, h'⟩
  refine ⟨h.ext, fun l' o' h' => ?_, fun l' o' b' k' h' hk => ?_, fun l1 l2 o1 o2 b' k1 k2 h1 h2 e1 e2 => ?_, h.pin, ?_⟩
  · rw [get_cons] at h'
    by_cases hl : l = l'
    · subst hl; rw [if_pos rfl] at h'
      have : o' = O.row el sz ((pre' xs b).map f) := (Option.some.inj h').symm
      subst this; exact holds_shrink b (h.hp l _ ho)
    · rw [if_neg hl] at h'; exact h.hp l' o' h'
  · obtain ⟨o2, h2⟩ := back l' o' h'
    exact h.ow l' o2 b' k' h2 hk
  · obtain ⟨p1, g1⟩ := back l1 o1 h1
    obtain ⟨p2, g2⟩ := back l2 o2 h2
    exact h.ij l1 l2 p1 p2 b' k1 k2 g1 g2 e1 e2
  · refine h.nsi (fun l' o' h' hN => ?_) (fun l' o' b' k' h' hk => ?_) (fun _ _ => .inl rfl) (Nat.le_refl _)
    · rw [get_cons] at h'
      split at h'
      · injection h' with h'; subst h'; simp [O.isNest] at hN
      · exact ⟨h', rfl, fun _ _ => rfl⟩
    · obtain ⟨o2, h2⟩ := back l' o' h'
      exact .inr ⟨l', o2, k', h2, hk⟩
theorem run_shrink {ρ α : Type} {P : Program} {fn : Func} {n : Nat} {out : ρ → V × List (Nat × Option O)} {k : List (It ρ)} {r : ρ} {s : S} {f : α → V} {xs : List α} {l sz : Nat} {el : TypeId} (b : Int) (ho : get s.H l = some (.row el sz (xs.map f)))
    (h : Run P fn n out k r ⟨s.T, (l, some (.row el sz ((pre' xs b).map f))) :: s.H⟩) : Run P fn n out k r s :=
  fun c κ a w hc hs => h c κ a w hc ⟨hs.hd, hs.hn, hs.tm, mem_shrink b ho hs.mem⟩
section
end
end Go.Proofs.YtibbfdojcdkopaaGreat.E
