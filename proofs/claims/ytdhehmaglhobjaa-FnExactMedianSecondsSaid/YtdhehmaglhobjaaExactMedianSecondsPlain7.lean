/-
  PLAIN LAWS about the models: no program in sight. Conditions: as each theorem states them.
-/
import Derived.Test.YtdhehmaglhobjaaExactMedianSecondsPlain6
set_option linter.unusedVariables false
set_option linter.unusedSimpArgs false
set_option linter.unusedSectionVars false
set_option linter.unnecessarySimpa false
namespace Go.Proofs.Ytdhehmaglhobjaa
open Go Go.RowKit Go.Proofs Go.Proofs.Ytdhehmaglhobjaa.E
/-! ## MedianSeconds -/
def ofCrew (list : List gDrill) (crew : List UInt8) (g : Int → Int) : List Int := sel (fun j => strB .eql (at' list j).Crew crew) g list.length 0
theorem of_spec (list : List gDrill) (crew : List UInt8) : m_spec_l28Of list crew = ofCrew list crew fun j => j := by
  simp only [m_spec_l28Of]
  exact filt_loop (p := fun j => strB .eql (at' list j).Crew crew) (g := fun j => j) (b := m_spec_l28Of_b1 list crew) (fun rec x => rfl)
theorem of_impl (list : List gDrill) (crew : List UInt8) : m_impl_drillsOf list crew = bif !(m_spec_l28Ok list) then (([] : List Int), 1) else bif ((ofCrew list crew fun j => j).length : Int) == 0 then (([] : List Int), 3) else (ofCrew list crew fun j => j, 0) := by
  simp only [m_impl_drillsOf, drills_eq]
  have := filt_loop (n := list.length) (p := fun j => strB .eql (at' list j).Crew crew) (g := fun j => j) (b := m_impl_drillsOf_b1 list crew) (k := fun (x1 : (List Int) × Int) => bif (x1.1.length : Int) == 0 then (([] : List Int), 3) else (x1.1, 0)) (fun rec x => rfl)
  rw [this]; rfl
theorem med_impl (list : List gDrill) (crew : List UInt8) : m_impl_medianSeconds list crew = at' (srt (ofCrew list crew fun j => (at' list j).Seconds)) (IntKind.wrap .i64 (Int.tdiv (IntKind.wrap .i64 (((ofCrew list crew fun j => (at' list j).Seconds).length : Int) - 1)) 2)) := by
  simp only [m_impl_medianSeconds]
  exact filt_loop (n := list.length) (p := fun j => strB .eql (at' list j).Crew crew) (g := fun j => (at' list j).Seconds) (b := m_impl_medianSeconds_b1 list crew) (k := fun (x1 : (List Int) × Int) => at' (m_slices_Sort_int64 x1.1) (IntKind.wrap .i64 (Int.tdiv (IntKind.wrap .i64 ((x1.1.length : Int) - 1)) 2))) (fun rec x => rfl)
theorem med_spec (list : List gDrill) (crew : List UInt8) : m_spec_l28Median list crew = m_spec_l24Middle (ofCrew list crew fun j => (at' list j).Seconds) := by
  simp only [m_spec_l28Median]
  have := filt_loop (n := (m_spec_l28Of list crew).length) (p := fun _ => true) (g := fun i => (fun j => (at' list j).Seconds) (at' (m_spec_l28Of list crew) i)) (b := m_spec_l28Median_b1 list crew) (k := fun (x1 : (List Int) × Int) => m_spec_l24Middle x1.1) (fun rec x => by simp only [m_spec_l28Median_b1, Bool.cond_true])
  rw [this]
  simp only
  rw [sel_list (L := m_spec_l28Of list crew) (h := fun j => (at' list j).Seconds), of_spec, ofCrew, sel_map]; rfl
theorem MedianSeconds_eq (list : List gDrill) (crew : List UInt8) : m_impl_MedianSeconds list crew = m_spec_MedianSeconds list crew := by
  simp only [m_impl_MedianSeconds, m_spec_MedianSeconds, m_spec_l28Ask, of_impl, of_spec]
  cases hok : m_spec_l28Ok list with
  | false => rfl
  | true =>
    simp only [Bool.not_true, Bool.cond_false]
    cases hz : (((ofCrew list crew fun j => j).length : Int) == 0) with
    | true => rfl
    | false =>
      have hsec : (ofCrew list crew fun j => (at' list j).Seconds) = (ofCrew list crew fun j => j).map fun j => (at' list j).Seconds := by
        rw [ofCrew, ofCrew, sel_map]
      have hlen : (ofCrew list crew fun j => (at' list j).Seconds).length = (ofCrew list crew fun j => j).length := by rw [hsec, List.length_map]
      have hne : ∀ y ∈ ofCrew list crew (fun j => (at' list j).Seconds), y ≠ -1 := by
        intro y hy
        obtain ⟨j, h1, h2, rfl⟩ := sel_mem _ _ y hy
        have := one_sec (at_all (Q := fun x => m_spec_l28One x = true) (drillsOk_imp hok).2 (i := j) ⟨h1, by omega⟩)
        omega
      have hm := middle_is _ hne
      rw [hlen, hz, Bool.cond_false] at hm
      rw [med_impl, med_spec, hm, hlen]
      rfl

end Go.Proofs.Ytdhehmaglhobjaa
