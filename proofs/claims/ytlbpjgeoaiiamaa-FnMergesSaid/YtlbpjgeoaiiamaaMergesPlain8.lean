/-
  PLAIN LAWS about the models: no program in sight. Conditions: as each theorem states them.
-/
import Derived.Test.YtlbpjgeoaiiamaaMergesPlain7
set_option linter.unusedVariables false
set_option linter.unusedSimpArgs false
set_option linter.unusedSectionVars false
set_option linter.unnecessarySimpa false
namespace Go.Proofs.Ytlbpjgeoaiiamaa
open Go Go.RowKit Go.Proofs Go.Proofs.Ytlbpjgeoaiiamaa.E
/-! ## Names of states: putting a setting in its place -/
abbrev nms (l : List gSetting) : List Txt := l.map (·.Name)
theorem set_is {L : List gSetting} (hL : Rise (nms L)) (e : gSetting) : Rise (nms (m_spec_l27Set L e)) ∧ ∀ z, z ∈ nms (m_spec_l27Set L e) ↔ z ∈ nms L ∨ z = e.Name := by
  simp only [m_spec_l27Set]
  refine LOOP_post (fun (x : List gSetting × Bool × Int) => (0 ≤ x.2.2 ∧ x.2.2 ≤ L.length) ∧ Rise (nms x.1) ∧ (∀ z, z ∈ nms x.1 ↔ z ∈ nms (L.take x.2.2.toNat) ∨ (x.2.1 = true ∧ z = e.Name)) ∧ (x.2.1 = false → ∀ z ∈ nms (L.take x.2.2.toNat), z < e.Name) ∧ (x.2.1 = true → ∀ j (hj : j < L.length), x.2.2.toNat ≤ j → e.Name < L[j].Name))
    (fun x => ((L.length : Int) - x.2.2).toNat) (fun _ (r : List gSetting) => Rise (nms r) ∧ ∀ z, z ∈ nms r ↔ z ∈ nms L ∨ z = e.Name) (fun rec x hI ih => ?_) _ _ ⟨⟨by simp, by simp⟩, List.Pairwise.nil, by simp [nms], by simp [nms], by simp⟩ (by simp)
  obtain ⟨out, done, i⟩ := x
  obtain ⟨⟨h0, h1⟩, hA, hB, hC, hD⟩ := hI
  simp only at h0 h1 hA hB hC hD
  simp only [m_spec_l27Set_b1, JN]
  have hget : ∀ j k (hj : j < L.length) (hk : k < L.length), j < k → L[j].Name < L[k].Name := fun j k hj hk hjk => by
    have := List.pairwise_iff_getElem.1 hL j k (by simpa [nms] using hj) (by simpa [nms] using hk) hjk
    simpa [nms] using this
  have hsnoc : ∀ (l : List gSetting) (q : gSetting), Rise (nms l) → (∀ z ∈ nms l, z < q.Name) → Rise (nms (l ++ [q])) := fun l q h1 h2 => by
    simp only [nms, List.map_append, List.map_cons, List.map_nil, Rise]
    rw [List.pairwise_append]
    exact ⟨h1, List.pairwise_singleton _ _, fun z hz y hy => by rw [List.mem_singleton] at hy; rw [hy]; exact h2 z hz⟩
  have hmem : ∀ (l : List gSetting) (q : gSetting) z, z ∈ nms (l ++ [q]) ↔ z ∈ nms l ∨ z = q.Name := fun l q z => by
    simp only [nms, List.map_append, List.map_cons, List.map_nil, List.mem_append, List.mem_singleton]
  by_cases hi : i < (L.length : Int)
  · have hlt : i.toNat < L.length := by omega
    have hat : at' L i = L[i.toNat] := by
      have := at_lt (xs := L) (j := i.toNat) hlt
      rwa [Int.toNat_of_nonneg h0] at this
    have et : (i + 1).toNat = i.toNat + 1 := by omega
    have htk : L.take (i + 1).toNat = L.take i.toNat ++ [at' L i] := by rw [et, List.take_succ_eq_append_getElem hlt, hat]
    have hup : ∀ z ∈ nms (L.take i.toNat), z < (at' L i).Name := by
      intro z hz
      obtain ⟨q, hq, rfl⟩ := List.mem_map.1 hz
      obtain ⟨j, hj, rfl⟩ := List.getElem_of_mem hq
      rw [List.length_take] at hj
      rw [List.getElem_take, hat]
      exact hget j i.toNat (by omega) hlt (by omega)
    have hnx : ∀ j (hj : j < L.length), i.toNat + 1 ≤ j → (at' L i).Name < L[j].Name := fun j hj hij => by
      rw [hat]; exact hget i.toNat j hlt hj (by omega)
    simp only [hi, decide_true, Bool.cond_true]
    cases hd : done with
    | true =>
      subst hd
      have hlt' : e.Name < (at' L i).Name := by rw [hat]; exact hD rfl i.toNat hlt (Nat.le_refl _)
      have hne : strB .neq (at' L i).Name e.Name = true := neq_iff.2 (fun h => by rw [h] at hlt'; exact List.lt_irrefl _ hlt')
      simp only [Bool.not_true, Bool.false_and, Bool.cond_false, hne, Bool.cond_true]
      refine ih _ ⟨⟨by simp only; omega, by simp only; omega⟩, hsnoc _ _ hA (fun z hz => ?_), fun z => ?_, by simp, ?_⟩ (by simp only; omega)
      · rcases (hB z).1 hz with h | ⟨_, rfl⟩
        · exact hup z h
        · exact hlt'
      · simp only [htk]
        rw [hmem, hmem, hB z]
        constructor
        · rintro ((h | h) | h)
          · exact .inl (.inl h)
          · exact .inr ⟨by trivial, h.2⟩
          · exact .inl (.inr h)
        · rintro ((h | h) | h)
          · exact .inl (.inl h)
          · exact .inr h
          · exact .inl (.inr ⟨rfl, h.2⟩)
      · intro _ j hj hij
        simp only [et] at hij
        exact hD rfl j hj (by omega)
    | false =>
      subst hd
      have hCf := hC rfl
      have hBf : ∀ z, z ∈ nms out → z ∈ nms (L.take i.toNat) := fun z hz => by
        rcases (hB z).1 hz with h | ⟨h, _⟩
        · exact h
        · simp at h
      by_cases hlt' : (at' L i).Name < e.Name
      · have hg : strB .geq (at' L i).Name e.Name = false := by rw [geq_eq]; simp [hlt']
        have hne : strB .neq (at' L i).Name e.Name = true := neq_iff.2 (fun h => by rw [h] at hlt'; exact List.lt_irrefl _ hlt')
        simp only [hg, Bool.and_false, Bool.cond_false, hne, Bool.cond_true]
        refine ih _ ⟨⟨by simp only; omega, by simp only; omega⟩, hsnoc _ _ hA (fun z hz => hup z (hBf z hz)), fun z => ?_, ?_, by simp⟩ (by simp only; omega)
        · simp only [htk]
          rw [hmem, hmem, hB z]; simp
        · intro _ z hz
          simp only [htk] at hz
          rw [hmem] at hz
          rcases hz with h | rfl
          · exact hCf z h
          · exact hlt'
      · have hle : e.Name ≤ (at' L i).Name := List.not_lt.1 hlt'
        have hg : strB .geq (at' L i).Name e.Name = true := by rw [geq_eq]; simp [hlt']
        have hS1 : Rise (nms (out ++ [e])) := hsnoc _ _ hA (fun z hz => hCf z (hBf z hz))
        have hDn : ∀ j (hj : j < L.length), (i + 1).toNat ≤ j → e.Name < L[j].Name := fun j hj hij => lt_of_le_lt hle (hnx j hj (by omega))
        simp only [hg, Bool.not_false, Bool.true_and, Bool.cond_true]
        by_cases he : (at' L i).Name = e.Name
        · have hne : strB .neq (at' L i).Name e.Name = false := by
            cases hq : strB .neq (at' L i).Name e.Name with
            | false => rfl
            | true => exact absurd he (neq_iff.1 hq)
          simp only [hne, Bool.cond_false]
          refine ih _ ⟨⟨by simp only; omega, by simp only; omega⟩, hS1, fun z => ?_, by simp, fun _ => hDn⟩ (by simp only; omega)
          simp only [htk]
          rw [hmem, hmem, hB z, he]; simp
        · simp only [neq_iff.2 he, Bool.cond_true]
          refine ih _ ⟨⟨by simp only; omega, by simp only; omega⟩, hsnoc _ _ hS1 (fun z hz => ?_), fun z => ?_, by simp, fun _ => hDn⟩ (by simp only; omega)
          · rw [hmem] at hz
            rcases hz with hz | rfl
            · exact hup z (hBf z hz)
            · exact lt_of_le_ne' hle (fun h => he h.symm)
          · simp only [htk]
            rw [hmem, hmem, hmem, hB z]
            constructor
            · rintro ((h | h) | h)
              · rcases h with h | h
                · exact .inl (.inl h)
                · simp at h
              · exact .inr ⟨by trivial, h⟩
              · exact .inl (.inr h)
            · rintro ((h | h) | h)
              · exact .inl (.inl (.inl h))
              · exact .inr h
              · exact .inl (.inr h.2)
  · have he : i = L.length := by omega
    subst he
    simp only [hi, decide_false, Bool.cond_false]
    rw [Int.toNat_natCast, List.take_length] at hB hC
    cases hd : done with
    | true =>
      subst hd
      simp only [Bool.not_true, Bool.cond_false]
      exact ⟨hA, fun z => by rw [hB z]; simp⟩
    | false =>
      subst hd
      simp only [Bool.not_false, Bool.cond_true]
      refine ⟨hsnoc _ _ hA (fun z hz => ?_), fun z => by rw [hmem, hB z]; simp⟩
      rcases (hB z).1 hz with h | ⟨h, _⟩
      · exact hC rfl z h
      · simp at h

end Go.Proofs.Ytlbpjgeoaiiamaa
