/-
  PLAIN LAWS about the models: no program in sight. Conditions: as each theorem states them.
-/
import Derived.Test.YtlbpjgeoaiiamaaMergesPlain11
set_option linter.unusedVariables false
set_option linter.unusedSimpArgs false
set_option linter.unusedSectionVars false
set_option linter.unnecessarySimpa false
namespace Go.Proofs.Ytlbpjgeoaiiamaa
open Go Go.RowKit Go.Proofs Go.Proofs.Ytlbpjgeoaiiamaa.E
theorem set_le (L : List gSetting) (e : gSetting) : ((m_spec_l27Set L e).length : Int) ≤ L.length + 1 := by
  simp only [m_spec_l27Set]
  refine LOOP_post (fun (x : List gSetting × Bool × Int) => (0 ≤ x.2.2 ∧ x.2.2 ≤ L.length) ∧ (x.1.length : Int) ≤ x.2.2 + (if x.2.1 = true then 1 else 0)) (fun x => ((L.length : Int) - x.2.2).toNat) (fun _ (r : List gSetting) => (r.length : Int) ≤ L.length + 1) (fun rec x hI ih => ?_) _ _ ⟨⟨by simp, by simp⟩, by simp⟩ (by simp)
  obtain ⟨out, done, i⟩ := x
  obtain ⟨⟨h0, h1⟩, hA⟩ := hI
  simp only at h0 h1 hA
  simp only [m_spec_l27Set_b1, JN]
  by_cases hi : i < (L.length : Int)
  · simp only [hi, decide_true, Bool.cond_true]
    cases done with
    | true =>
      simp only [if_true] at hA
      simp only [Bool.not_true, Bool.false_and, Bool.cond_false]
      cases strB .neq (at' L i).Name e.Name with
      | true => exact ih _ ⟨⟨by simp only; omega, by simp only; omega⟩, by simp; omega⟩ (by simp only; omega)
      | false => exact ih _ ⟨⟨by simp only; omega, by simp only; omega⟩, by simp; omega⟩ (by simp only; omega)
    | false =>
      simp at hA
      cases strB .geq (at' L i).Name e.Name with
      | true =>
        simp only [Bool.not_false, Bool.true_and, Bool.cond_true]
        cases strB .neq (at' L i).Name e.Name with
        | true => exact ih _ ⟨⟨by simp only; omega, by simp only; omega⟩, by simp; omega⟩ (by simp only; omega)
        | false => exact ih _ ⟨⟨by simp only; omega, by simp only; omega⟩, by simp; omega⟩ (by simp only; omega)
      | false =>
        simp only [Bool.and_false, Bool.cond_false]
        cases strB .neq (at' L i).Name e.Name with
        | true => exact ih _ ⟨⟨by simp only; omega, by simp only; omega⟩, by simp; omega⟩ (by simp only; omega)
        | false => exact ih _ ⟨⟨by simp only; omega, by simp only; omega⟩, by simp; omega⟩ (by simp only; omega)
  · simp only [hi, decide_false, Bool.cond_false]
    cases done with
    | true => simp only [if_true] at hA; simp only [Bool.not_true, Bool.cond_false]; omega
    | false => simp at hA; simp only [Bool.not_false, Bool.cond_true, List.length_append, List.length_cons, List.length_nil]; omega
theorem namesI_len {base a b : List gSetting} (h1 : base.length ≤ 24) (h2 : a.length ≤ 24) (h3 : b.length ≤ 24) : (m_impl_namesOf ([base, a, b] : List (List gSetting))).length ≤ 72 := by
  rw [names_impl]
  unfold Lib.compact Lib.compactUpTo
  rw [List.length_map]
  refine Nat.le_trans (List.length_filter_le _ _) ?_
  rw [List.length_range, List.length_mergeSort]
  simp only [nms, List.length_append, List.length_map]; omega
theorem at_rng {list : List gSetting} {name : Txt} (h : 0 ≤ m_spec_l27At list name) : 0 ≤ m_spec_l27At list name ∧ m_spec_l27At list name < list.length := by
  rcases at_is list name with ⟨h1, _⟩ | h1
  · omega
  · exact h1.1
theorem state_l24 {list : List gSetting} (h : m_spec_l27State list = true) : list.length ≤ 24 := (state_in h).1
theorem state_l24I {list : List gSetting} (h : m_impl_ValidState list = true) : list.length ≤ 24 := state_l24 (by rw [← state_eq]; exact h)
theorem idx_rng (s : List Txt) (del : Txt → Bool) : -1 ≤ m_slices_IndexFunc_string s del ∧ m_slices_IndexFunc_string s del < s.length := by
  rcases idx_is s del with ⟨h1, _⟩ | ⟨h1, _⟩ <;> omega
theorem sortS_len (l : List Txt) : (m_slices_Sort_string l).length = l.length := List.length_mergeSort l
theorem muts_len {s : S} {full : Bool} {M : List (Nat × Nat)} {l L m m' : Nat} (h : E.look M l = some L) (e : m' = m) : PassB s full M (.os l m') (.os L m) [] := by subst e; exact .muts h

end Go.Proofs.Ytlbpjgeoaiiamaa
