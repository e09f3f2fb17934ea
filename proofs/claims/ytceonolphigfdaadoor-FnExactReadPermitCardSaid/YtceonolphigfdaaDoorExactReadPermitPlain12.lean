/-
  PLAIN LAWS about the models: no program in sight. Conditions: as each theorem states them.
-/
import Derived.Test.YtceonolphigfdaaDoorExactReadPermitPlain11
set_option linter.unusedVariables false
set_option linter.unusedSimpArgs false
set_option linter.unusedSectionVars false
set_option linter.unnecessarySimpa false
namespace Go.Proofs.YtceonolphigfdaaDoor
open Go Go.RowKit Go.Proofs Go.Proofs.YtceonolphigfdaaDoor.E
/-! ## A text cut at each byte by the library -/
theorem count_spl {c : UInt8} : ∀ (f : Nat) (s : List UInt8), s.length + 1 ≤ f → Lib.countFrom [c] f s + 1 = (spl c s).length
  | 0, s, h => absurd h (by omega)
  | f + 1, s, h => by
    rcases spl_first (c := c) s with ⟨h1, h2⟩ | ⟨p, r, h1, h4, h3⟩
    · rw [h2, Lib.countFrom, idx_none h1]; rfl
    · have hl : s.length = p.length + (r.length + 1) := by rw [h1]; simp
      have ih := count_spl (c := c) f r (by omega)
      rw [h3, List.length_cons, ← ih]
      subst h1
      rw [Lib.countFrom, idx_some h4]
      have hm : ¬ ((p.length : Int) == -1) = true := by simp
      rw [if_neg hm]
      have e2 : (p ++ c :: r).drop (((p.length : Int)).toNat + ([c] : List UInt8).length) = r := by simp [List.drop_append]
      rw [e2]; omega
theorem split_spl (c : UInt8) (s : List UInt8) : Lib.split s [c] = spl c s :=
  splitK_spl _ s (by have := count_spl (c := c) (s.length + 1) s (Nat.le_refl _); rw [Lib.count]; omega)
theorem three_cut {s : List UInt8} (h : ((spl 32 s).length : Int) = 3) : ∃ p q r, spl 32 s = [p, q, r] ∧ s = p ++ 32 :: (q ++ 32 :: r) := by
  have hj := spl_join 32 s
  match e : spl 32 s, h with
  | [p, q, r], _ =>
    refine ⟨p, q, r, rfl, ?_⟩
    rw [e, Lib.join_cons] at hj
    rw [← hj, Lib.joinTail]; simp
  | [], h => simp at h
  | [_], h => simp at h
  | [_, _], h => simp at h
  | _ :: _ :: _ :: _ :: _, h => simp at h; omega
theorem cut3_len {s : List UInt8} (hs : s.length ≤ 1048576) {i : Int} (hi : 0 ≤ i ∧ i < (Lib.split s ([32] : List UInt8)).length) : (at' (m_strings_Split s ([32] : List UInt8)) i).length ≤ 1048576 := by
  have := at_all (i := i) (xs := m_strings_Split s ([32] : List UInt8)) (Q := fun p => p.length ≤ s.length) (by unfold m_strings_Split; rw [split_spl]; exact spl_mem s) hi
  exact Nat.le_trans this hs
theorem cut3_rd (s : List UInt8) : -9223372036854775808 ≤ (m_impl_ReadDecimal s).1 ∧ (m_impl_ReadDecimal s).1 ≤ 9223372036854775807 := by
  have := parse_rng s
  simp only [m_impl_ReadDecimal]
  generalize ((m_strconv_ParseInt s 10 64).2 || _ || _) = b
  cases b with
  | true => exact ⟨by show (-9223372036854775808 : Int) ≤ 0; decide, by show (0 : Int) ≤ 9223372036854775807; decide⟩
  | false => exact this

end Go.Proofs.YtceonolphigfdaaDoor
