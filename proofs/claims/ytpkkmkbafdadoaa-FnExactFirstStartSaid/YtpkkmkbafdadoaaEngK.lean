/-
  THE ENGINE, part K: bytes as a string; a nil slice inside a struct that becomes an empty slice of the call's own.
  Conditions: none; all of it is over any program.
-/
import Derived.Test.YtpkkmkbafdadoaaEngJ
import Derived.Laws.BytesArg
set_option linter.unusedVariables false
set_option linter.unusedSimpArgs false
set_option linter.unusedSectionVars false
set_option linter.unnecessarySimpa false
namespace Go.Proofs.Ytpkkmkbafdadoaa.E
open Go Go.RowKit

/-- bytes as a string -/
def b2sOk (P : Program) (t1 t2 : TypeId) : Bool := match P.underlying t1, P.underlying t2 with
  | some (.slice e), some .string => (match P.underlying e with | some (.int .u8) => true | _ => false)
  | _, _ => false
theorem b2s_spec {P : Program} {t1 t2 : TypeId} (h : b2sOk P t1 t2 = true) : ∃ e, P.underlying t1 = some (.slice e) ∧ P.underlying t2 = some .string ∧ P.underlying e = some (.int .u8) := by
  unfold b2sOk at h
  split at h
  · rename_i e h1 h2
    split at h
    · rename_i h3; exact ⟨e, h1, h2, h3⟩
    · simp at h
  · simp at h
theorem flat_u8 : ∀ xs : List Int, (xs.map (V.int .u8)).flatMap V.cells = xs.map (V.int .u8)
  | [] => rfl
  | x :: xs => by simp [V.cells, flat_u8 xs]
theorem all2_u8 {c : Cx} : ∀ {xs : List Int} {ys : List Value}, All2 (RepR c) (xs.map (V.int .u8)) ys → ys = xs.map (Value.int .u8)
  | [], [], _ => rfl
  | x :: xs, y :: ys, ⟨h1, h2⟩ => by
    cases h1
    rw [all2_u8 h2]; rfl
  | [], _ :: _, h => h.elim
  | _ :: _, [], h => h.elim

section
variable {P : Program} {n : Nat} {ops : Array Oper}
variable {s s' : S} {r : List Oper} {bs : List A} {g : Bool} {gks : List Nat} {d : Nat} {ty : TypeId} {pos : String} {af : Array Edge} {gd : Option (Nat × Bool)}
theorem q_b2s {x : Operand} {xs : List Int} {t1 t2 : TypeId} {k1 h1 : List Nat} (hgd : Gd ops s gd g gks) (hx : Src s g 1 x (xs.map (V.int .u8)) k1 h1) (ht : b2sOk P t1 t2 = true) (hd : Nat.blt d n = true)
    (k : Lex P n ops r ⟨(d, some (g, .str (chars xs))) :: s.T, s.H⟩ bs s') :
    Lex P n ops (⟨some d, .convert t1 t2 x, ty, pos, af, gd⟩ :: r) s (⟨k1 ++ gks, h1, [], [(d, some (g, .str (chars xs)))], []⟩ :: bs) s' := by
  refine q_val (o := ⟨some d, .convert t1 t2 x, ty, pos, af, gd⟩) hgd rfl hd (fun s' htt hhh c κ a w hc hs hg => ?_) k
  obtain ⟨e, hu1, hu2, hu3⟩ := b2s_spec ht
  obtain ⟨A, cap, ys, hv, _, hall, hn, hcell⟩ := (hx.agree htt hhh).rep hc hs hg
  rw [flat_u8] at hall
  have hys := all2_u8 hall
  have hgoal : (convert t1 t2 (a.eval x)).run P w = .ok (.string ⟨⟨chars xs⟩⟩) w := by
    rw [hv, run_convert_bytes_string w t1 t2 e A _ _ hu1 hu3 hu2]
    cases A with
    | none =>
      have h0 : xs = [] := by have := hn rfl; simpa using this
      subst h0
      simp [Conv.bytesToString, chars, ByteArray.empty, ByteArray.emptyWithCapacity]
      rfl
    | some ad =>
      have hl : (loadCells ad (xs.map (V.int .u8)).length).run P w = .ok (xs.map (Value.int .u8)).toArray w := by
        have := run_loadCells_list (P := P) w ad (xs.map (Value.int .u8)) (fun j v hj => hcell ad rfl j v (by rw [hys]; exact hj))
        simpa using this
      rw [run_bytesToString w ad _ cap xs hl, foldl_push_bytes]
      simp [chars, ByteArray.empty, ByteArray.emptyWithCapacity]
      rfl
  refine ⟨.string ⟨⟨chars xs⟩⟩, ?_, .str _⟩
  simp [execOp, hgoal]
end
end Go.Proofs.Ytpkkmkbafdadoaa.E
