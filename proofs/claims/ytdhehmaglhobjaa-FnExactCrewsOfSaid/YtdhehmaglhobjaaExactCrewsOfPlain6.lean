/-
  PLAIN LAWS about the models: no program in sight. Conditions: as each theorem states them.
-/
import Derived.Test.YtdhehmaglhobjaaExactCrewsOfPlain5
set_option linter.unusedVariables false
set_option linter.unusedSimpArgs false
set_option linter.unusedSectionVars false
set_option linter.unnecessarySimpa false
namespace Go.Proofs.Ytdhehmaglhobjaa
open Go Go.RowKit Go.Proofs Go.Proofs.Ytdhehmaglhobjaa.E
/-! ## CrewsOf -/
theorem put_is {L : List Txt} (hL : Rise L) (name : Txt) : Rise (m_spec_l28Put L name) ∧ ∀ x, x ∈ m_spec_l28Put L name ↔ x ∈ L ∨ x = name := by
  simp only [m_spec_l28Put]
  refine LOOP_post (fun (x : List Txt × Bool × Int) => (0 ≤ x.2.2 ∧ x.2.2 ≤ L.length) ∧ Rise x.1 ∧ (∀ z, z ∈ x.1 ↔ z ∈ L.take x.2.2.toNat ∨ (x.2.1 = true ∧ z = name)) ∧ (x.2.1 = false → ∀ z ∈ L.take x.2.2.toNat, z < name) ∧ (x.2.1 = true → ∀ j (hj : j < L.length), x.2.2.toNat ≤ j → name < L[j]))
    (fun x => ((L.length : Int) - x.2.2).toNat) (fun _ (r : List Txt) => Rise r ∧ ∀ z, z ∈ r ↔ z ∈ L ∨ z = name) (fun rec x hI ih => ?_) _ _ ⟨⟨by simp, by simp⟩, List.Pairwise.nil, by simp, by simp, by simp⟩ (by simp)
  obtain ⟨out, done, i⟩ := x
  obtain ⟨⟨h0, h1⟩, hA, hB, hC, hD⟩ := hI
  simp only at h0 h1 hA hB hC hD
  simp only [m_spec_l28Put_b1, JN]
  by_cases hi : i < (L.length : Int)
  · have hlt : i.toNat < L.length := by omega
    have hat : at' L i = L[i.toNat] := by
      have := at_lt (xs := L) (j := i.toNat) hlt
      rwa [Int.toNat_of_nonneg h0] at this
    have et : (i + 1).toNat = i.toNat + 1 := by omega
    have htk : L.take (i + 1).toNat = L.take i.toNat ++ [at' L i] := by rw [et, List.take_succ_eq_append_getElem hlt, hat]
    have hup : ∀ z ∈ L.take i.toNat, z < at' L i := by
      intro z hz
      obtain ⟨j, hj, rfl⟩ := List.getElem_of_mem hz
      rw [List.length_take] at hj
      rw [List.getElem_take, hat]
      exact List.pairwise_iff_getElem.1 hL j i.toNat (by omega) hlt (by omega)
    have hnx : ∀ j (hj : j < L.length), i.toNat + 1 ≤ j → at' L i < L[j] := fun j hj hij => by
      rw [hat]; exact List.pairwise_iff_getElem.1 hL i.toNat j hlt hj (by omega)
    simp only [hi, decide_true, Bool.cond_true]
    cases hd : done with
    | true =>
      subst hd
      have hlt' : name < at' L i := by rw [hat]; exact hD rfl i.toNat hlt (Nat.le_refl _)
      have hne : strB .neq (at' L i) name = true := neq_iff.2 (fun e => by rw [e] at hlt'; exact List.lt_irrefl _ hlt')
      simp only [Bool.not_true, Bool.false_and, Bool.cond_false, hne, Bool.cond_true]
      refine ih _ ⟨⟨by simp only; omega, by simp only; omega⟩, ?_, ?_, by simp, ?_⟩ (by simp only; omega)
      · simp only [Rise]; rw [List.pairwise_append]
        refine ⟨hA, List.pairwise_singleton _ _, fun z hz y hy => ?_⟩
        rw [List.mem_singleton] at hy; subst hy
        rcases (hB z).1 hz with h | ⟨_, rfl⟩
        · exact hup z h
        · exact hlt'
      · intro z
        simp only [htk, List.mem_append, List.mem_singleton, hB z]
        constructor
        · rintro ((h | h) | h)
          · exact .inl (.inl h)
          · exact .inr h
          · exact .inl (.inr h)
        · rintro ((h | h) | h)
          · exact .inl (.inl h)
          · exact .inr h
          · exact .inl (.inr h)
      · intro _ j hj hij
        simp only [et] at hij
        exact hD rfl j hj (by omega)
    | false =>
      subst hd
      have hCf := hC rfl
      by_cases hlt' : at' L i < name
      · have hg : strB .geq (at' L i) name = false := by rw [geq_eq]; simp [hlt']
        have hne : strB .neq (at' L i) name = true := neq_iff.2 (fun e => by rw [e] at hlt'; exact List.lt_irrefl _ hlt')
        simp only [hg, Bool.and_false, Bool.cond_false, hne, Bool.cond_true]
        refine ih _ ⟨⟨by simp only; omega, by simp only; omega⟩, ?_, ?_, ?_, by simp⟩ (by simp only; omega)
        · simp only [Rise]; rw [List.pairwise_append]
          refine ⟨hA, List.pairwise_singleton _ _, fun z hz y hy => ?_⟩
          rw [List.mem_singleton] at hy; subst hy
          rcases (hB z).1 hz with h | ⟨h, _⟩
          · exact hup z h
          · simp at h
        · intro z
          simp only [htk, List.mem_append, List.mem_singleton, hB z]
          simp
        · intro _ z hz
          simp only [htk, List.mem_append, List.mem_singleton] at hz
          rcases hz with h | rfl
          · exact hCf z h
          · exact hlt'
      · have hle : name ≤ at' L i := List.not_lt.1 hlt'
        have hg : strB .geq (at' L i) name = true := by rw [geq_eq]; simp [hlt']
        have hS1 : Rise (out ++ [name]) := by
          simp only [Rise]; rw [List.pairwise_append]
          refine ⟨hA, List.pairwise_singleton _ _, fun z hz y hy => ?_⟩
          rw [List.mem_singleton] at hy; subst hy
          rcases (hB z).1 hz with h | ⟨h, _⟩
          · exact hCf z h
          · simp at h
        have hDn : ∀ j (hj : j < L.length), (i + 1).toNat ≤ j → name < L[j] := fun j hj hij => lt_of_le_lt hle (hnx j hj (by omega))
        simp only [hg, Bool.not_false, Bool.true_and, Bool.cond_true]
        by_cases he : at' L i = name
        · have hne : strB .neq (at' L i) name = false := by
            cases hq : strB .neq (at' L i) name with
            | false => rfl
            | true => exact absurd he (neq_iff.1 hq)
          simp only [hne, Bool.cond_false]
          refine ih _ ⟨⟨by simp only; omega, by simp only; omega⟩, hS1, ?_, by simp, fun _ => hDn⟩ (by simp only; omega)
          intro z
          simp only [htk, List.mem_append, List.mem_singleton, hB z, he]
          simp
        · simp only [neq_iff.2 he, Bool.cond_true]
          refine ih _ ⟨⟨by simp only; omega, by simp only; omega⟩, ?_, ?_, by simp, fun _ => hDn⟩ (by simp only; omega)
          · simp only [Rise]; rw [List.pairwise_append]
            refine ⟨hS1, List.pairwise_singleton _ _, fun z hz y hy => ?_⟩
            rw [List.mem_singleton] at hy; subst hy
            rw [List.mem_append, List.mem_singleton] at hz
            rcases hz with hz | rfl
            · rcases (hB z).1 hz with h | ⟨h, _⟩
              · exact hup z h
              · simp at h
            · exact lt_of_le_ne' hle (fun e => he e.symm)
          · intro z
            simp only [htk, List.mem_append, List.mem_singleton, hB z]
            constructor
            · rintro ((h | h) | h)
              · rcases h with h | h
                · exact .inl (.inl h)
                · simp at h
              · exact .inr ⟨by trivial, h⟩
              · exact .inl (.inr h)
            · rintro ((h | h) | h)
              · exact .inl (.inl (.inl h))
              · exact .inr h
              · exact .inl (.inr h.2)
  · have he : i = L.length := by omega
    subst he
    simp only [hi, decide_false, Bool.cond_false]
    rw [Int.toNat_natCast, List.take_length] at hB hC
    cases hd : done with
    | true =>
      subst hd
      simp only [Bool.not_true, Bool.cond_false]
      exact ⟨hA, fun z => by rw [hB z]; simp⟩
    | false =>
      subst hd
      simp only [Bool.not_false, Bool.cond_true]
      refine ⟨?_, fun z => by rw [List.mem_append, hB z]; simp⟩
      simp only [Rise]; rw [List.pairwise_append]
      refine ⟨hA, List.pairwise_singleton _ _, fun z hz y hy => ?_⟩
      rw [List.mem_singleton] at hy; subst hy
      rcases (hB z).1 hz with h | ⟨h, _⟩
      · exact hC rfl z h
      · simp at h
def crewsIn (list : List gDrill) : List Txt := list.map (·.Crew)
theorem crews_spec (list : List gDrill) : Rise (m_spec_l28Crews list) ∧ ∀ x, x ∈ m_spec_l28Crews list ↔ x ∈ crewsIn list := by
  simp only [m_spec_l28Crews]
  refine LOOP_post (fun (x : List Txt × Int) => (0 ≤ x.2 ∧ x.2 ≤ list.length) ∧ Rise x.1 ∧ ∀ z, z ∈ x.1 ↔ z ∈ (list.take x.2.toNat).map (·.Crew)) (fun x => ((list.length : Int) - x.2).toNat) (fun _ (r : List Txt) => Rise r ∧ ∀ z, z ∈ r ↔ z ∈ crewsIn list) (fun rec x hI ih => ?_) _ _ ⟨⟨by simp, by simp⟩, List.Pairwise.nil, by simp⟩ (by simp)
  obtain ⟨s, i⟩ := x
  obtain ⟨⟨h0, h1⟩, hA, hB⟩ := hI
  simp only at h0 h1 hA hB
  simp only [m_spec_l28Crews_b1]
  by_cases hi : i < (list.length : Int)
  · have hlt : i.toNat < list.length := by omega
    have hat : at' list i = list[i.toNat] := by
      have := at_lt (xs := list) (j := i.toNat) hlt
      rwa [Int.toNat_of_nonneg h0] at this
    have et : (i + 1).toNat = i.toNat + 1 := by omega
    simp only [hi, decide_true, Bool.cond_true]
    have hp := put_is hA (at' list i).Crew
    refine ih _ ⟨⟨by simp only; omega, by simp only; omega⟩, hp.1, fun z => ?_⟩ (by simp only; omega)
    simp only
    rw [hp.2 z, hB z, et, List.take_succ_eq_append_getElem hlt, List.map_append, List.mem_append, hat]; simp
  · have he : i = list.length := by omega
    subst he
    simp only [hi, decide_false, Bool.cond_false]
    rw [Int.toNat_natCast, List.take_length] at hB
    exact ⟨hA, hB⟩
theorem crews_impl (list : List gDrill) : m_impl_crewsOf list = Lib.compact ((crewsIn list).mergeSort fun x y => decide (x ≤ y)) := by
  simp only [m_impl_crewsOf]
  refine LOOP_is (fun (x : List Txt × Int) => (0 ≤ x.2 ∧ x.2 ≤ list.length) ∧ x.1 = (list.take x.2.toNat).map (·.Crew)) (fun x => ((list.length : Int) - x.2).toNat) (fun _ => Lib.compact ((crewsIn list).mergeSort fun x y => decide (x ≤ y))) (fun rec x hI ih => ?_) ⟨⟨by simp, by simp⟩, by simp⟩ (by simp)
  obtain ⟨s, i⟩ := x
  obtain ⟨⟨h0, h1⟩, hA⟩ := hI
  simp only at h0 h1 hA
  simp only [m_impl_crewsOf_b1]
  by_cases hi : i < (list.length : Int)
  · have hlt : i.toNat < list.length := by omega
    have hat : at' list i = list[i.toNat] := by
      have := at_lt (xs := list) (j := i.toNat) hlt
      rwa [Int.toNat_of_nonneg h0] at this
    have et : (i + 1).toNat = i.toNat + 1 := by omega
    simp only [hi, decide_true, Bool.cond_true]
    refine ih _ ⟨⟨by simp only; omega, by simp only; omega⟩, ?_⟩ (by simp only; omega)
    simp only
    rw [et, List.take_succ_eq_append_getElem hlt, List.map_append, hA, hat]; simp
  · have he : i = list.length := by omega
    subst he
    simp only [hi, decide_false, Bool.cond_false]
    rw [Int.toNat_natCast, List.take_length] at hA
    rw [hA]; rfl
theorem crewsOf_eq (list : List gDrill) : m_impl_crewsOf list = m_spec_l28Crews list := by
  have h := crews_spec list
  rw [crews_impl]
  refine rise_ext (compact_rise (sortS_up _)) h.1 (fun x => ?_)
  rw [compact_mem, h.2 x, (List.mergeSort_perm _ _).mem_iff]
theorem CrewsOf_eq (list : List gDrill) : m_impl_CrewsOf list = m_spec_CrewsOf list := by
  simp only [m_impl_CrewsOf, m_spec_CrewsOf, drills_eq, crewsOf_eq]
theorem crewsOf_len (list : List gDrill) : (m_impl_crewsOf list).length ≤ list.length := by
  rw [crews_impl]
  unfold Lib.compact Lib.compactUpTo
  rw [List.length_map]
  refine Nat.le_trans (List.length_filter_le _ _) ?_
  rw [List.length_range, List.length_mergeSort, crewsIn, List.length_map]; exact Nat.le_refl _
theorem put_le (L : List Txt) (name : Txt) : ((m_spec_l28Put L name).length : Int) ≤ L.length + 1 := by
  simp only [m_spec_l28Put]
  refine LOOP_post (fun (x : List Txt × Bool × Int) => (0 ≤ x.2.2 ∧ x.2.2 ≤ L.length) ∧ (x.1.length : Int) ≤ x.2.2 + (if x.2.1 = true then 1 else 0)) (fun x => ((L.length : Int) - x.2.2).toNat) (fun _ (r : List Txt) => (r.length : Int) ≤ L.length + 1) (fun rec x hI ih => ?_) _ _ ⟨⟨by simp, by simp⟩, by simp⟩ (by simp)
  obtain ⟨out, done, i⟩ := x
  obtain ⟨⟨h0, h1⟩, hA⟩ := hI
  simp only at h0 h1 hA
  simp only [m_spec_l28Put_b1, JN]
  by_cases hi : i < (L.length : Int)
  · simp only [hi, decide_true, Bool.cond_true]
    cases done with
    | true =>
      simp only [if_true] at hA
      simp only [Bool.not_true, Bool.false_and, Bool.cond_false]
      cases strB .neq (at' L i) name with
      | true => exact ih _ ⟨⟨by simp only; omega, by simp only; omega⟩, by simp; omega⟩ (by simp only; omega)
      | false => exact ih _ ⟨⟨by simp only; omega, by simp only; omega⟩, by simp; omega⟩ (by simp only; omega)
    | false =>
      simp at hA
      cases strB .geq (at' L i) name with
      | true =>
        simp only [Bool.not_false, Bool.true_and, Bool.cond_true]
        cases strB .neq (at' L i) name with
        | true => exact ih _ ⟨⟨by simp only; omega, by simp only; omega⟩, by simp; omega⟩ (by simp only; omega)
        | false => exact ih _ ⟨⟨by simp only; omega, by simp only; omega⟩, by simp; omega⟩ (by simp only; omega)
      | false =>
        simp only [Bool.and_false, Bool.cond_false]
        cases strB .neq (at' L i) name with
        | true => exact ih _ ⟨⟨by simp only; omega, by simp only; omega⟩, by simp; omega⟩ (by simp only; omega)
        | false => exact ih _ ⟨⟨by simp only; omega, by simp only; omega⟩, by simp; omega⟩ (by simp only; omega)
  · simp only [hi, decide_false, Bool.cond_false]
    cases done with
    | true => simp only [if_true] at hA; simp only [Bool.not_true, Bool.cond_false]; omega
    | false => simp at hA; simp only [Bool.not_false, Bool.cond_true, List.length_append, List.length_cons, List.length_nil]; omega
theorem okDrills_len {list : List gDrill} (h : m_spec_l28Ok list = true) : list.length ≤ 32 := (drillsOk_imp h).1
theorem validDrills_len {list : List gDrill} (h : m_impl_ValidDrills list = true) : list.length ≤ 32 := okDrills_len (by rw [← drills_eq]; exact h)
theorem sortS_len (l : List Txt) : (m_slices_Sort_string l).length = l.length := List.length_mergeSort l
theorem muts_len {s : S} {full : Bool} {M : List (Nat × Nat)} {l L m m' : Nat} (h : E.look M l = some L) (e : m' = m) : PassB s full M (.os l m') (.os L m) [] := by subst e; exact .muts h

end Go.Proofs.Ytdhehmaglhobjaa
