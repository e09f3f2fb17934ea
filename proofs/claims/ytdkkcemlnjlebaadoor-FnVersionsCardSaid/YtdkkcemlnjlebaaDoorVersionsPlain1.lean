/-
  PLAIN LAWS about the models: no program in sight. Conditions: as each theorem states them.
-/
import Derived.Test.YtdkkcemlnjlebaaDoorVersionsModels
set_option linter.unusedVariables false
set_option linter.unusedSimpArgs false
set_option linter.unusedSectionVars false
set_option linter.unnecessarySimpa false
namespace Go.Proofs.YtdkkcemlnjlebaaDoor
open Go Go.RowKit Go.Proofs Go.Proofs.YtdkkcemlnjlebaaDoor.E
/-! ## Sizes, copies, equality: printed by a program of this claim -/
theorem cf_int64 {s : List Int} {f : Int → Bool} : m_slices_ContainsFunc_int64 s f = true ↔ ∃ y ∈ s, f y = true := by
  have hd : m_slices_ContainsFunc_int64 s f = true ↔ 0 ≤ LOOP (m_slices_IndexFunc_int64_b1 s f) (fun _ => (-1)) (((s.length : Int) - 0 : Int).toNat + 1) 0 := decide_eq_true_iff
  rw [hd]
  rcases LOOP_find (b := m_slices_IndexFunc_int64_b1 s f) (k := fun _ => (-1)) (n := (s.length : Int)) (fun i => f (at' s i)) (fun i => i) (fun rec i h0 h1 => by simp only [m_slices_IndexFunc_int64_b1, h1, decide_true, Bool.cond_true]) (fun rec => by simp [m_slices_IndexFunc_int64_b1]) (((s.length : Int) - 0 : Int).toNat + 1) 0 (by omega) (by omega) (by omega) with ⟨j, h1, h2, h3, h4, h5⟩ | ⟨h1, h2⟩
  · rw [h5]; exact ⟨fun _ => ⟨_, at_mem ⟨h1, h2⟩, h3⟩, fun _ => h1⟩
  · rw [h2]
    constructor
    · intro h; omega
    · rintro ⟨y, hy, h⟩
      obtain ⟨j, hj, e⟩ := List.mem_iff_getElem.1 hy
      have := h1 j (by omega) (by omega)
      rw [at_lt hj, e, h] at this; simp at this
/-- the first place with a property, or -1 -/
theorem if_int64 {s : List Int} {f : Int → Bool} : (∃ j : Int, 0 ≤ j ∧ j < s.length ∧ f (at' s j) = true ∧ (∀ q : Int, 0 ≤ q → q < j → f (at' s q) = false) ∧ m_slices_IndexFunc_int64 s f = j) ∨ ((∀ q : Int, 0 ≤ q → q < s.length → f (at' s q) = false) ∧ m_slices_IndexFunc_int64 s f = -1) := by
  rcases LOOP_find (b := m_slices_IndexFunc_int64_b1 s f) (k := fun _ => (-1)) (n := (s.length : Int)) (fun i => f (at' s i)) (fun i => i) (fun rec i h0 h1 => by simp only [m_slices_IndexFunc_int64_b1, h1, decide_true, Bool.cond_true]) (fun rec => by simp [m_slices_IndexFunc_int64_b1]) (((s.length : Int) - 0 : Int).toNat + 1) 0 (by omega) (by omega) (by omega) with ⟨j, h1, h2, h3, h4, h5⟩ | ⟨h1, h2⟩
  · exact .inl ⟨j, h1, h2, h3, h4, h5⟩
  · exact .inr ⟨h1, h2⟩
theorem cf_impl_Change {s : List gChange} {f : gChange → Bool} : m_slices_ContainsFunc_impl_Change s f = true ↔ ∃ y ∈ s, f y = true := by
  have hd : m_slices_ContainsFunc_impl_Change s f = true ↔ 0 ≤ LOOP (m_slices_IndexFunc_impl_Change_b1 s f) (fun _ => (-1)) (((s.length : Int) - 0 : Int).toNat + 1) 0 := decide_eq_true_iff
  rw [hd]
  rcases LOOP_find (b := m_slices_IndexFunc_impl_Change_b1 s f) (k := fun _ => (-1)) (n := (s.length : Int)) (fun i => f (at' s i)) (fun i => i) (fun rec i h0 h1 => by simp only [m_slices_IndexFunc_impl_Change_b1, h1, decide_true, Bool.cond_true]) (fun rec => by simp [m_slices_IndexFunc_impl_Change_b1]) (((s.length : Int) - 0 : Int).toNat + 1) 0 (by omega) (by omega) (by omega) with ⟨j, h1, h2, h3, h4, h5⟩ | ⟨h1, h2⟩
  · rw [h5]; exact ⟨fun _ => ⟨_, at_mem ⟨h1, h2⟩, h3⟩, fun _ => h1⟩
  · rw [h2]
    constructor
    · intro h; omega
    · rintro ⟨y, hy, h⟩
      obtain ⟨j, hj, e⟩ := List.mem_iff_getElem.1 hy
      have := h1 j (by omega) (by omega)
      rw [at_lt hj, e, h] at this; simp at this
/-- the first place with a property, or -1 -/
theorem if_impl_Change {s : List gChange} {f : gChange → Bool} : (∃ j : Int, 0 ≤ j ∧ j < s.length ∧ f (at' s j) = true ∧ (∀ q : Int, 0 ≤ q → q < j → f (at' s q) = false) ∧ m_slices_IndexFunc_impl_Change s f = j) ∨ ((∀ q : Int, 0 ≤ q → q < s.length → f (at' s q) = false) ∧ m_slices_IndexFunc_impl_Change s f = -1) := by
  rcases LOOP_find (b := m_slices_IndexFunc_impl_Change_b1 s f) (k := fun _ => (-1)) (n := (s.length : Int)) (fun i => f (at' s i)) (fun i => i) (fun rec i h0 h1 => by simp only [m_slices_IndexFunc_impl_Change_b1, h1, decide_true, Bool.cond_true]) (fun rec => by simp [m_slices_IndexFunc_impl_Change_b1]) (((s.length : Int) - 0 : Int).toNat + 1) 0 (by omega) (by omega) (by omega) with ⟨j, h1, h2, h3, h4, h5⟩ | ⟨h1, h2⟩
  · exact .inl ⟨j, h1, h2, h3, h4, h5⟩
  · exact .inr ⟨h1, h2⟩
theorem cf_impl_Version {s : List gVersion} {f : gVersion → Bool} : m_slices_ContainsFunc_impl_Version s f = true ↔ ∃ y ∈ s, f y = true := by
  have hd : m_slices_ContainsFunc_impl_Version s f = true ↔ 0 ≤ LOOP (m_slices_IndexFunc_impl_Version_b1 s f) (fun _ => (-1)) (((s.length : Int) - 0 : Int).toNat + 1) 0 := decide_eq_true_iff
  rw [hd]
  rcases LOOP_find (b := m_slices_IndexFunc_impl_Version_b1 s f) (k := fun _ => (-1)) (n := (s.length : Int)) (fun i => f (at' s i)) (fun i => i) (fun rec i h0 h1 => by simp only [m_slices_IndexFunc_impl_Version_b1, h1, decide_true, Bool.cond_true]) (fun rec => by simp [m_slices_IndexFunc_impl_Version_b1]) (((s.length : Int) - 0 : Int).toNat + 1) 0 (by omega) (by omega) (by omega) with ⟨j, h1, h2, h3, h4, h5⟩ | ⟨h1, h2⟩
  · rw [h5]; exact ⟨fun _ => ⟨_, at_mem ⟨h1, h2⟩, h3⟩, fun _ => h1⟩
  · rw [h2]
    constructor
    · intro h; omega
    · rintro ⟨y, hy, h⟩
      obtain ⟨j, hj, e⟩ := List.mem_iff_getElem.1 hy
      have := h1 j (by omega) (by omega)
      rw [at_lt hj, e, h] at this; simp at this
/-- the first place with a property, or -1 -/
theorem if_impl_Version {s : List gVersion} {f : gVersion → Bool} : (∃ j : Int, 0 ≤ j ∧ j < s.length ∧ f (at' s j) = true ∧ (∀ q : Int, 0 ≤ q → q < j → f (at' s q) = false) ∧ m_slices_IndexFunc_impl_Version s f = j) ∨ ((∀ q : Int, 0 ≤ q → q < s.length → f (at' s q) = false) ∧ m_slices_IndexFunc_impl_Version s f = -1) := by
  rcases LOOP_find (b := m_slices_IndexFunc_impl_Version_b1 s f) (k := fun _ => (-1)) (n := (s.length : Int)) (fun i => f (at' s i)) (fun i => i) (fun rec i h0 h1 => by simp only [m_slices_IndexFunc_impl_Version_b1, h1, decide_true, Bool.cond_true]) (fun rec => by simp [m_slices_IndexFunc_impl_Version_b1]) (((s.length : Int) - 0 : Int).toNat + 1) 0 (by omega) (by omega) (by omega) with ⟨j, h1, h2, h3, h4, h5⟩ | ⟨h1, h2⟩
  · exact .inl ⟨j, h1, h2, h3, h4, h5⟩
  · exact .inr ⟨h1, h2⟩

end Go.Proofs.YtdkkcemlnjlebaaDoor
