/-
  PLAIN LAWS about the models: no program in sight. Conditions: as each theorem states them.
-/
import Derived.Test.YtbflomopgofkgaaExactRankCrewsPlain8
set_option linter.unusedVariables false
set_option linter.unusedSimpArgs false
set_option linter.unusedSectionVars false
set_option linter.unnecessarySimpa false
namespace Go.Proofs.Ytbflomopgofkgaa
open Go Go.RowKit Go.Proofs Go.Proofs.Ytbflomopgofkgaa.E
/-! ## The crews of drills, and their medians (blocks of two other claims of ours) -/
theorem put_is {L : List Txt} (hL : Rise L) (name : Txt) : Rise (m_spec_l28Put L name) ∧ ∀ x, x ∈ m_spec_l28Put L name ↔ x ∈ L ∨ x = name := by
  simp only [m_spec_l28Put]
  refine LOOP_post (fun (x : List Txt × Bool × Int) => (0 ≤ x.2.2 ∧ x.2.2 ≤ L.length) ∧ Rise x.1 ∧ (∀ z, z ∈ x.1 ↔ z ∈ L.take x.2.2.toNat ∨ (x.2.1 = true ∧ z = name)) ∧ (x.2.1 = false → ∀ z ∈ L.take x.2.2.toNat, z < name) ∧ (x.2.1 = true → ∀ j (hj : j < L.length), x.2.2.toNat ≤ j → name < L[j]))
    (fun x => ((L.length : Int) - x.2.2).toNat) (fun _ (r : List Txt) => Rise r ∧ ∀ z, z ∈ r ↔ z ∈ L ∨ z = name) (fun rec x hI ih => ?_) _ _ ⟨⟨by simp, by simp⟩, List.Pairwise.nil, by simp, by simp, by simp⟩ (by simp)
  obtain ⟨out, done, i⟩ := x
  obtain ⟨⟨h0, h1⟩, hA, hB, hC, hD⟩ := hI
  simp only at h0 h1 hA hB hC hD
  simp only [m_spec_l28Put_b1, JN]
  by_cases hi : i < (L.length : Int)
  · have hlt : i.toNat < L.length := by omega
    have hat : at' L i = L[i.toNat] := by
      have := at_lt (xs := L) (j := i.toNat) hlt
      rwa [Int.toNat_of_nonneg h0] at this
    have et : (i + 1).toNat = i.toNat + 1 := by omega
    have htk : L.take (i + 1).toNat = L.take i.toNat ++ [at' L i] := by rw [et, List.take_succ_eq_append_getElem hlt, hat]
    have hup : ∀ z ∈ L.take i.toNat, z < at' L i := by
      intro z hz
      obtain ⟨j, hj, rfl⟩ := List.getElem_of_mem hz
      rw [List.length_take] at hj
      rw [List.getElem_take, hat]
      exact List.pairwise_iff_getElem.1 hL j i.toNat (by omega) hlt (by omega)
    have hnx : ∀ j (hj : j < L.length), i.toNat + 1 ≤ j → at' L i < L[j] := fun j hj hij => by
      rw [hat]; exact List.pairwise_iff_getElem.1 hL i.toNat j hlt hj (by omega)
    simp only [hi, decide_true, Bool.cond_true]
    cases hd : done with
    | true =>
      subst hd
      have hlt' : name < at' L i := by rw [hat]; exact hD rfl i.toNat hlt (Nat.le_refl _)
      have hne : strB .neq (at' L i) name = true := neq_iff.2 (fun e => by rw [e] at hlt'; exact List.lt_irrefl _ hlt')
      simp only [Bool.not_true, Bool.false_and, Bool.cond_false, hne, Bool.cond_true]
      refine ih _ ⟨⟨by simp only; omega, by simp only; omega⟩, ?_, ?_, by simp, ?_⟩ (by simp only; omega)
      · simp only [Rise]; rw [List.pairwise_append]
        refine ⟨hA, List.pairwise_singleton _ _, fun z hz y hy => ?_⟩
        rw [List.mem_singleton] at hy; subst hy
        rcases (hB z).1 hz with h | ⟨_, rfl⟩
        · exact hup z h
        · exact hlt'
      · intro z
        simp only [htk, List.mem_append, List.mem_singleton, hB z]
        constructor
        · rintro ((h | h) | h)
          · exact .inl (.inl h)
          · exact .inr h
          · exact .inl (.inr h)
        · rintro ((h | h) | h)
          · exact .inl (.inl h)
          · exact .inr h
          · exact .inl (.inr h)
      · intro _ j hj hij
        simp only [et] at hij
        exact hD rfl j hj (by omega)
    | false =>
      subst hd
      have hCf := hC rfl
      by_cases hlt' : at' L i < name
      · have hg : strB .geq (at' L i) name = false := by rw [geq_eq]; simp [hlt']
        have hne : strB .neq (at' L i) name = true := neq_iff.2 (fun e => by rw [e] at hlt'; exact List.lt_irrefl _ hlt')
        simp only [hg, Bool.and_false, Bool.cond_false, hne, Bool.cond_true]
        refine ih _ ⟨⟨by simp only; omega, by simp only; omega⟩, ?_, ?_, ?_, by simp⟩ (by simp only; omega)
        · simp only [Rise]; rw [List.pairwise_append]
          refine ⟨hA, List.pairwise_singleton _ _, fun z hz y hy => ?_⟩
          rw [List.mem_singleton] at hy; subst hy
          rcases (hB z).1 hz with h | ⟨h, _⟩
          · exact hup z h
          · simp at h
        · intro z
          simp only [htk, List.mem_append, List.mem_singleton, hB z]
          simp
        · intro _ z hz
          simp only [htk, List.mem_append, List.mem_singleton] at hz
          rcases hz with h | rfl
          · exact hCf z h
          · exact hlt'
      · have hle : name ≤ at' L i := List.not_lt.1 hlt'
        have hg : strB .geq (at' L i) name = true := by rw [geq_eq]; simp [hlt']
        have hS1 : Rise (out ++ [name]) := by
          simp only [Rise]; rw [List.pairwise_append]
          refine ⟨hA, List.pairwise_singleton _ _, fun z hz y hy => ?_⟩
          rw [List.mem_singleton] at hy; subst hy
          rcases (hB z).1 hz with h | ⟨h, _⟩
          · exact hCf z h
          · simp at h
        have hDn : ∀ j (hj : j < L.length), (i + 1).toNat ≤ j → name < L[j] := fun j hj hij => lt_of_le_lt hle (hnx j hj (by omega))
        simp only [hg, Bool.not_false, Bool.true_and, Bool.cond_true]
        by_cases he : at' L i = name
        · have hne : strB .neq (at' L i) name = false := by
            cases hq : strB .neq (at' L i) name with
            | false => rfl
            | true => exact absurd he (neq_iff.1 hq)
          simp only [hne, Bool.cond_false]
          refine ih _ ⟨⟨by simp only; omega, by simp only; omega⟩, hS1, ?_, by simp, fun _ => hDn⟩ (by simp only; omega)
          intro z
          simp only [htk, List.mem_append, List.mem_singleton, hB z, he]
          simp
        · simp only [neq_iff.2 he, Bool.cond_true]
          refine ih _ ⟨⟨by simp only; omega, by simp only; omega⟩, ?_, ?_, by simp, fun _ => hDn⟩ (by simp only; omega)
          · simp only [Rise]; rw [List.pairwise_append]
            refine ⟨hS1, List.pairwise_singleton _ _, fun z hz y hy => ?_⟩
            rw [List.mem_singleton] at hy; subst hy
            rw [List.mem_append, List.mem_singleton] at hz
            rcases hz with hz | rfl
            · rcases (hB z).1 hz with h | ⟨h, _⟩
              · exact hup z h
              · simp at h
            · exact lt_of_le_ne' hle (fun e => he e.symm)
          · intro z
            simp only [htk, List.mem_append, List.mem_singleton, hB z]
            constructor
            · rintro ((h | h) | h)
              · rcases h with h | h
                · exact .inl (.inl h)
                · simp at h
              · exact .inr ⟨by trivial, h⟩
              · exact .inl (.inr h)
            · rintro ((h | h) | h)
              · exact .inl (.inl (.inl h))
              · exact .inr h
              · exact .inl (.inr h.2)
  · have he : i = L.length := by omega
    subst he
    simp only [hi, decide_false, Bool.cond_false]
    rw [Int.toNat_natCast, List.take_length] at hB hC
    cases hd : done with
    | true =>
      subst hd
      simp only [Bool.not_true, Bool.cond_false]
      exact ⟨hA, fun z => by rw [hB z]; simp⟩
    | false =>
      subst hd
      simp only [Bool.not_false, Bool.cond_true]
      refine ⟨?_, fun z => by rw [List.mem_append, hB z]; simp⟩
      simp only [Rise]; rw [List.pairwise_append]
      refine ⟨hA, List.pairwise_singleton _ _, fun z hz y hy => ?_⟩
      rw [List.mem_singleton] at hy; subst hy
      rcases (hB z).1 hz with h | ⟨h, _⟩
      · exact hC rfl z h
      · simp at h
def crewsIn (list : List gDrill) : List Txt := list.map (·.Crew)
theorem crews_spec (list : List gDrill) : Rise (m_spec_l28Crews list) ∧ ∀ x, x ∈ m_spec_l28Crews list ↔ x ∈ crewsIn list := by
  simp only [m_spec_l28Crews]
  refine LOOP_post (fun (x : List Txt × Int) => (0 ≤ x.2 ∧ x.2 ≤ list.length) ∧ Rise x.1 ∧ ∀ z, z ∈ x.1 ↔ z ∈ (list.take x.2.toNat).map (·.Crew)) (fun x => ((list.length : Int) - x.2).toNat) (fun _ (r : List Txt) => Rise r ∧ ∀ z, z ∈ r ↔ z ∈ crewsIn list) (fun rec x hI ih => ?_) _ _ ⟨⟨by simp, by simp⟩, List.Pairwise.nil, by simp⟩ (by simp)
  obtain ⟨s, i⟩ := x
  obtain ⟨⟨h0, h1⟩, hA, hB⟩ := hI
  simp only at h0 h1 hA hB
  simp only [m_spec_l28Crews_b1]
  by_cases hi : i < (list.length : Int)
  · have hlt : i.toNat < list.length := by omega
    have hat : at' list i = list[i.toNat] := by
      have := at_lt (xs := list) (j := i.toNat) hlt
      rwa [Int.toNat_of_nonneg h0] at this
    have et : (i + 1).toNat = i.toNat + 1 := by omega
    simp only [hi, decide_true, Bool.cond_true]
    have hp := put_is hA (at' list i).Crew
    refine ih _ ⟨⟨by simp only; omega, by simp only; omega⟩, hp.1, fun z => ?_⟩ (by simp only; omega)
    simp only
    rw [hp.2 z, hB z, et, List.take_succ_eq_append_getElem hlt, List.map_append, List.mem_append, hat]; simp
  · have he : i = list.length := by omega
    subst he
    simp only [hi, decide_false, Bool.cond_false]
    rw [Int.toNat_natCast, List.take_length] at hB
    exact ⟨hA, hB⟩
theorem crews_impl (list : List gDrill) : m_impl_crewsOf list = Lib.compact ((crewsIn list).mergeSort fun x y => decide (x ≤ y)) := by
  simp only [m_impl_crewsOf]
  refine LOOP_is (fun (x : List Txt × Int) => (0 ≤ x.2 ∧ x.2 ≤ list.length) ∧ x.1 = (list.take x.2.toNat).map (·.Crew)) (fun x => ((list.length : Int) - x.2).toNat) (fun _ => Lib.compact ((crewsIn list).mergeSort fun x y => decide (x ≤ y))) (fun rec x hI ih => ?_) ⟨⟨by simp, by simp⟩, by simp⟩ (by simp)
  obtain ⟨s, i⟩ := x
  obtain ⟨⟨h0, h1⟩, hA⟩ := hI
  simp only at h0 h1 hA
  simp only [m_impl_crewsOf_b1]
  by_cases hi : i < (list.length : Int)
  · have hlt : i.toNat < list.length := by omega
    have hat : at' list i = list[i.toNat] := by
      have := at_lt (xs := list) (j := i.toNat) hlt
      rwa [Int.toNat_of_nonneg h0] at this
    have et : (i + 1).toNat = i.toNat + 1 := by omega
    simp only [hi, decide_true, Bool.cond_true]
    refine ih _ ⟨⟨by simp only; omega, by simp only; omega⟩, ?_⟩ (by simp only; omega)
    simp only
    rw [et, List.take_succ_eq_append_getElem hlt, List.map_append, hA, hat]; simp
  · have he : i = list.length := by omega
    subst he
    simp only [hi, decide_false, Bool.cond_false]
    rw [Int.toNat_natCast, List.take_length] at hA
    rw [hA]; rfl
theorem crewsOf_eq (list : List gDrill) : m_impl_crewsOf list = m_spec_l28Crews list := by
  have h := crews_spec list
  rw [crews_impl]
  refine rise_ext (compact_rise (sortS_up _)) h.1 (fun x => ?_)
  rw [compact_mem, h.2 x, (List.mergeSort_perm _ _).mem_iff]
theorem crewsOf_len (list : List gDrill) : (m_impl_crewsOf list).length ≤ list.length := by
  rw [crews_impl]
  unfold Lib.compact Lib.compactUpTo
  rw [List.length_map]
  refine Nat.le_trans (List.length_filter_le _ _) ?_
  rw [List.length_range, List.length_mergeSort, crewsIn, List.length_map]; exact Nat.le_refl _
theorem put_le (L : List Txt) (name : Txt) : ((m_spec_l28Put L name).length : Int) ≤ L.length + 1 := by
  simp only [m_spec_l28Put]
  refine LOOP_post (fun (x : List Txt × Bool × Int) => (0 ≤ x.2.2 ∧ x.2.2 ≤ L.length) ∧ (x.1.length : Int) ≤ x.2.2 + (if x.2.1 = true then 1 else 0)) (fun x => ((L.length : Int) - x.2.2).toNat) (fun _ (r : List Txt) => (r.length : Int) ≤ L.length + 1) (fun rec x hI ih => ?_) _ _ ⟨⟨by simp, by simp⟩, by simp⟩ (by simp)
  obtain ⟨out, done, i⟩ := x
  obtain ⟨⟨h0, h1⟩, hA⟩ := hI
  simp only at h0 h1 hA
  simp only [m_spec_l28Put_b1, JN]
  by_cases hi : i < (L.length : Int)
  · simp only [hi, decide_true, Bool.cond_true]
    cases done with
    | true =>
      simp only [if_true] at hA
      simp only [Bool.not_true, Bool.false_and, Bool.cond_false]
      cases strB .neq (at' L i) name with
      | true => exact ih _ ⟨⟨by simp only; omega, by simp only; omega⟩, by simp; omega⟩ (by simp only; omega)
      | false => exact ih _ ⟨⟨by simp only; omega, by simp only; omega⟩, by simp; omega⟩ (by simp only; omega)
    | false =>
      simp at hA
      cases strB .geq (at' L i) name with
      | true =>
        simp only [Bool.not_false, Bool.true_and, Bool.cond_true]
        cases strB .neq (at' L i) name with
        | true => exact ih _ ⟨⟨by simp only; omega, by simp only; omega⟩, by simp; omega⟩ (by simp only; omega)
        | false => exact ih _ ⟨⟨by simp only; omega, by simp only; omega⟩, by simp; omega⟩ (by simp only; omega)
      | false =>
        simp only [Bool.and_false, Bool.cond_false]
        cases strB .neq (at' L i) name with
        | true => exact ih _ ⟨⟨by simp only; omega, by simp only; omega⟩, by simp; omega⟩ (by simp only; omega)
        | false => exact ih _ ⟨⟨by simp only; omega, by simp only; omega⟩, by simp; omega⟩ (by simp only; omega)
  · simp only [hi, decide_false, Bool.cond_false]
    cases done with
    | true => simp only [if_true] at hA; simp only [Bool.not_true, Bool.cond_false]; omega
    | false => simp at hA; simp only [Bool.not_false, Bool.cond_true, List.length_append, List.length_cons, List.length_nil]; omega
theorem sortS_len (l : List Txt) : (m_slices_Sort_string l).length = l.length := List.length_mergeSort l
theorem muts_len {s : S} {full : Bool} {M : List (Nat × Nat)} {l L m m' : Nat} (h : E.look M l = some L) (e : m' = m) : PassB s full M (.os l m') (.os L m) [] := by subst e; exact .muts h
def ofCrew (list : List gDrill) (crew : List UInt8) (g : Int → Int) : List Int := sel (fun j => strB .eql (at' list j).Crew crew) g list.length 0
theorem of_spec (list : List gDrill) (crew : List UInt8) : m_spec_l28Of list crew = ofCrew list crew fun j => j := by
  simp only [m_spec_l28Of]
  exact filt_loop (p := fun j => strB .eql (at' list j).Crew crew) (g := fun j => j) (b := m_spec_l28Of_b1 list crew) (fun rec x => rfl)
theorem med_impl (list : List gDrill) (crew : List UInt8) : m_impl_medianSeconds list crew = at' (srt (ofCrew list crew fun j => (at' list j).Seconds)) (IntKind.wrap .i64 (Int.tdiv (IntKind.wrap .i64 (((ofCrew list crew fun j => (at' list j).Seconds).length : Int) - 1)) 2)) := by
  simp only [m_impl_medianSeconds]
  exact filt_loop (n := list.length) (p := fun j => strB .eql (at' list j).Crew crew) (g := fun j => (at' list j).Seconds) (b := m_impl_medianSeconds_b1 list crew) (k := fun (x1 : (List Int) × Int) => at' (m_slices_Sort_int64 x1.1) (IntKind.wrap .i64 (Int.tdiv (IntKind.wrap .i64 ((x1.1.length : Int) - 1)) 2))) (fun rec x => rfl)
theorem med_spec (list : List gDrill) (crew : List UInt8) : m_spec_l28Median list crew = m_spec_l24Middle (ofCrew list crew fun j => (at' list j).Seconds) := by
  simp only [m_spec_l28Median]
  have := filt_loop (n := (m_spec_l28Of list crew).length) (p := fun _ => true) (g := fun i => (fun j => (at' list j).Seconds) (at' (m_spec_l28Of list crew) i)) (b := m_spec_l28Median_b1 list crew) (k := fun (x1 : (List Int) × Int) => m_spec_l24Middle x1.1) (fun rec x => by simp only [m_spec_l28Median_b1, Bool.cond_true])
  rw [this]
  simp only
  rw [sel_list (L := m_spec_l28Of list crew) (h := fun j => (at' list j).Seconds), of_spec, ofCrew, sel_map]; rfl
theorem med_skip {list : List gDrill} {crew : List UInt8} {n : Int} {l : List Int} (h : ∀ j : Int, 0 ≤ j → j < n → strB .eql (at' list j).Crew crew = true → 1 ≤ (l.length : Int)) (hn : strB .eql (at' list n).Crew crew = false) :
    ∀ j : Int, 0 ≤ j → j < n + 1 → strB .eql (at' list j).Crew crew = true → 1 ≤ (l.length : Int) := by
  intro j h0 h1 h2
  by_cases hj : j = n
  · subst hj; rw [hn] at h2; simp at h2
  · exact h j h0 (by omega) h2
theorem mid_idx {l : List Int} (h1 : 1 ≤ (l.length : Int)) (h2 : (l.length : Int) ≤ 1000000) : 0 ≤ IntKind.wrap .i64 (Int.tdiv (IntKind.wrap .i64 ((l.length : Int) - 1)) 2) ∧ IntKind.wrap .i64 (Int.tdiv (IntKind.wrap .i64 ((l.length : Int) - 1)) 2) < (l.length : Int) := by
  have e1 : IntKind.wrap .i64 ((l.length : Int) - 1) = (l.length : Int) - 1 := wr64 (by omega)
  have e2 : Int.tdiv ((l.length : Int) - 1) 2 = ((l.length : Int) - 1) / 2 := Int.tdiv_eq_ediv_of_nonneg (by omega)
  have e3 : IntKind.wrap .i64 (((l.length : Int) - 1) / 2) = ((l.length : Int) - 1) / 2 := wr64 (by omega)
  rw [e1, e2, e3]; omega
theorem sort_len64 (l : List Int) : (m_slices_Sort_int64 l).length = l.length := List.length_mergeSort l
theorem med_idx {list : List gDrill} {crew : List UInt8} {n : Int} {l : List Int} (hp : ∃ j : Int, 0 ≤ j ∧ j < list.length ∧ strB .eql (at' list j).Crew crew = true) (hn : (list.length : Int) ≤ n) (h : ∀ j : Int, 0 ≤ j → j < n → strB .eql (at' list j).Crew crew = true → 1 ≤ (l.length : Int)) (h2 : (l.length : Int) ≤ 1000000) :
    0 ≤ IntKind.wrap .i64 (Int.tdiv (IntKind.wrap .i64 ((l.length : Int) - 1)) 2) ∧ IntKind.wrap .i64 (Int.tdiv (IntKind.wrap .i64 ((l.length : Int) - 1)) 2) < ((m_slices_Sort_int64 l).length : Int) := by
  obtain ⟨j, h3, h4, h5⟩ := hp
  rw [sort_len64]; exact mid_idx (h j h3 (by omega) h5) h2
theorem of_rng {list : List gDrill} {crew : List UInt8} {i : Int} (hi : 0 ≤ i ∧ i < (m_spec_l28Of list crew).length) : 0 ≤ at' (m_spec_l28Of list crew) i ∧ at' (m_spec_l28Of list crew) i < list.length := by
  refine at_all (xs := m_spec_l28Of list crew) (Q := fun y => 0 ≤ y ∧ y < (list.length : Int)) (fun y hy => ?_) hi
  rw [of_spec] at hy
  obtain ⟨j, h1, h2, rfl⟩ := sel_mem _ _ y hy
  exact ⟨h1, by omega⟩
theorem of_le (list : List gDrill) (crew : List UInt8) : (m_spec_l28Of list crew).length ≤ list.length := by rw [of_spec]; exact sel_len _ _
theorem okDrills_len {list : List gDrill} (h : m_spec_l28Ok list = true) : list.length ≤ 32 := (drillsOk_imp h).1
theorem validDrills_len {list : List gDrill} (h : m_impl_ValidDrills list = true) : list.length ≤ 32 := okDrills_len (by rw [← drills_eq]; exact h)
theorem own_len (l : List Int) : (m_spec_l00Own l).length = l.length := by simp [m_spec_l00Own]
theorem pre_le {s : List Int} {x : Int} : (pre' s x).length ≤ s.length := by unfold pre'; rw [List.length_take]; exact Nat.min_le_right _ _
theorem ins_len {s : List Int} {x y : Int} (h : 0 ≤ x ∧ x ≤ s.length) : (((m_spec_l00Own (pre' s x) ++ ([y] : List Int)) ++ cut' s x (s.length : Int)).length : Int) = s.length + 1 := by
  simp only [List.length_append, own_len, pre', cut', List.length_take, List.length_drop, List.length_cons, List.length_nil]
  omega
theorem med_idx' {list : List gDrill} {crew : List UInt8} {n : Int} {l : List Int} (hp : ∃ j : Int, 0 ≤ j ∧ j < list.length ∧ strB .eql (at' list j).Crew crew = true) (hn : (list.length : Int) ≤ n) (h : ∀ j : Int, 0 ≤ j → j < n → strB .eql (at' list j).Crew crew = true → 1 ≤ (l.length : Int)) (h2 : (l.length : Int) ≤ 1000000) :
    0 ≤ IntKind.wrap .i64 (Int.tdiv (IntKind.wrap .i64 ((l.length : Int) - 1)) 2) ∧ IntKind.wrap .i64 (Int.tdiv (IntKind.wrap .i64 ((l.length : Int) - 1)) 2) < (l.length : Int) := by
  have := med_idx hp hn h h2
  rwa [sort_len64] at this

end Go.Proofs.Ytbflomopgofkgaa
