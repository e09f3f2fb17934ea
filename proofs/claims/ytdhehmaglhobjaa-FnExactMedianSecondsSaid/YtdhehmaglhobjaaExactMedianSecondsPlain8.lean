/-
  PLAIN LAWS about the models: no program in sight. Conditions: as each theorem states them.
-/
import Derived.Test.YtdhehmaglhobjaaExactMedianSecondsPlain7
set_option linter.unusedVariables false
set_option linter.unusedSimpArgs false
set_option linter.unusedSectionVars false
set_option linter.unnecessarySimpa false
namespace Go.Proofs.Ytdhehmaglhobjaa
open Go Go.RowKit Go.Proofs Go.Proofs.Ytdhehmaglhobjaa.E
/-! ### What the walks of MedianSeconds ask -/
theorem med_skip {list : List gDrill} {crew : List UInt8} {n : Int} {l : List Int} (h : ∀ j : Int, 0 ≤ j → j < n → strB .eql (at' list j).Crew crew = true → 1 ≤ (l.length : Int)) (hn : strB .eql (at' list n).Crew crew = false) :
    ∀ j : Int, 0 ≤ j → j < n + 1 → strB .eql (at' list j).Crew crew = true → 1 ≤ (l.length : Int) := by
  intro j h0 h1 h2
  by_cases hj : j = n
  · subst hj; rw [hn] at h2; simp at h2
  · exact h j h0 (by omega) h2
theorem mid_idx {l : List Int} (h1 : 1 ≤ (l.length : Int)) (h2 : (l.length : Int) ≤ 1000000) : 0 ≤ IntKind.wrap .i64 (Int.tdiv (IntKind.wrap .i64 ((l.length : Int) - 1)) 2) ∧ IntKind.wrap .i64 (Int.tdiv (IntKind.wrap .i64 ((l.length : Int) - 1)) 2) < (l.length : Int) := by
  have e1 : IntKind.wrap .i64 ((l.length : Int) - 1) = (l.length : Int) - 1 := wr64 (by omega)
  have e2 : Int.tdiv ((l.length : Int) - 1) 2 = ((l.length : Int) - 1) / 2 := Int.tdiv_eq_ediv_of_nonneg (by omega)
  have e3 : IntKind.wrap .i64 (((l.length : Int) - 1) / 2) = ((l.length : Int) - 1) / 2 := wr64 (by omega)
  rw [e1, e2, e3]; omega
theorem sort_len64 (l : List Int) : (m_slices_Sort_int64 l).length = l.length := List.length_mergeSort l
theorem med_idx {list : List gDrill} {crew : List UInt8} {n : Int} {l : List Int} (hp : ∃ j : Int, 0 ≤ j ∧ j < list.length ∧ strB .eql (at' list j).Crew crew = true) (hn : (list.length : Int) ≤ n) (h : ∀ j : Int, 0 ≤ j → j < n → strB .eql (at' list j).Crew crew = true → 1 ≤ (l.length : Int)) (h2 : (l.length : Int) ≤ 1000000) :
    0 ≤ IntKind.wrap .i64 (Int.tdiv (IntKind.wrap .i64 ((l.length : Int) - 1)) 2) ∧ IntKind.wrap .i64 (Int.tdiv (IntKind.wrap .i64 ((l.length : Int) - 1)) 2) < ((m_slices_Sort_int64 l).length : Int) := by
  obtain ⟨j, h3, h4, h5⟩ := hp
  rw [sort_len64]; exact mid_idx (h j h3 (by omega) h5) h2
theorem drillsOf_imp {list : List gDrill} {crew : List UInt8} (h : (m_impl_drillsOf list crew).2 = 0) : list.length ≤ 32 ∧ ∃ j : Int, 0 ≤ j ∧ j < list.length ∧ strB .eql (at' list j).Crew crew = true := by
  rw [of_impl] at h
  cases hok : m_spec_l28Ok list with
  | false => rw [hok] at h; simp at h
  | true =>
    rw [hok] at h
    refine ⟨(drillsOk_imp hok).1, ?_⟩
    cases hz : (((ofCrew list crew fun j => j).length : Int) == 0) with
    | true => rw [hz] at h; simp at h
    | false =>
      have hne : ofCrew list crew (fun j => j) ≠ [] := by
        intro e; rw [e] at hz; simp at hz
      obtain ⟨y, hy⟩ := List.exists_mem_of_ne_nil _ hne
      have hsel : ∀ (m : Nat) (i : Int), ∀ y ∈ sel (fun j => strB .eql (at' list j).Crew crew) (fun j => j) m i, i ≤ y ∧ y < i + m ∧ strB .eql (at' list y).Crew crew = true := by
        intro m
        induction m with
        | zero => intro i y h; simp [sel] at h
        | succ m ih =>
          intro i y h
          rw [sel, List.mem_append] at h
          rcases h with h | h
          · by_cases hp : strB .eql (at' list i).Crew crew = true
            · rw [if_pos hp] at h
              have : y = i := by simpa using h
              subst this; exact ⟨by omega, by omega, hp⟩
            · rw [if_neg hp] at h; simp at h
          · have := ih (i + 1) y h; exact ⟨by omega, by omega, this.2.2⟩
      have := hsel list.length 0 y hy
      exact ⟨y, this.1, by omega, this.2.2⟩
theorem ask_len {list : List gDrill} {crew : List UInt8} (h : m_spec_l28Ask list crew = 0) : list.length ≤ 32 := by
  simp only [m_spec_l28Ask] at h
  cases hok : m_spec_l28Ok list with
  | false => rw [hok] at h; simp at h
  | true => exact (drillsOk_imp hok).1
theorem of_rng {list : List gDrill} {crew : List UInt8} {i : Int} (hi : 0 ≤ i ∧ i < (m_spec_l28Of list crew).length) : 0 ≤ at' (m_spec_l28Of list crew) i ∧ at' (m_spec_l28Of list crew) i < list.length := by
  refine at_all (xs := m_spec_l28Of list crew) (Q := fun y => 0 ≤ y ∧ y < (list.length : Int)) (fun y hy => ?_) hi
  rw [of_spec] at hy
  obtain ⟨j, h1, h2, rfl⟩ := sel_mem _ _ y hy
  exact ⟨h1, by omega⟩
theorem of_le (list : List gDrill) (crew : List UInt8) : (m_spec_l28Of list crew).length ≤ list.length := by rw [of_spec]; exact sel_len _ _
theorem okDrills_len {list : List gDrill} (h : m_spec_l28Ok list = true) : list.length ≤ 32 := (drillsOk_imp h).1
theorem validDrills_len {list : List gDrill} (h : m_impl_ValidDrills list = true) : list.length ≤ 32 := okDrills_len (by rw [← drills_eq]; exact h)
theorem own_len (l : List Int) : (m_spec_l00Own l).length = l.length := by simp [m_spec_l00Own]
theorem pre_le {s : List Int} {x : Int} : (pre' s x).length ≤ s.length := by unfold pre'; rw [List.length_take]; exact Nat.min_le_right _ _
theorem ins_len {s : List Int} {x y : Int} (h : 0 ≤ x ∧ x ≤ s.length) : (((m_spec_l00Own (pre' s x) ++ ([y] : List Int)) ++ cut' s x (s.length : Int)).length : Int) = s.length + 1 := by
  simp only [List.length_append, own_len, pre', cut', List.length_take, List.length_drop, List.length_cons, List.length_nil]
  omega
theorem med_idx' {list : List gDrill} {crew : List UInt8} {n : Int} {l : List Int} (hp : ∃ j : Int, 0 ≤ j ∧ j < list.length ∧ strB .eql (at' list j).Crew crew = true) (hn : (list.length : Int) ≤ n) (h : ∀ j : Int, 0 ≤ j → j < n → strB .eql (at' list j).Crew crew = true → 1 ≤ (l.length : Int)) (h2 : (l.length : Int) ≤ 1000000) :
    0 ≤ IntKind.wrap .i64 (Int.tdiv (IntKind.wrap .i64 ((l.length : Int) - 1)) 2) ∧ IntKind.wrap .i64 (Int.tdiv (IntKind.wrap .i64 ((l.length : Int) - 1)) 2) < (l.length : Int) := by
  have := med_idx hp hn h h2
  rwa [sort_len64] at this

end Go.Proofs.Ytdhehmaglhobjaa
