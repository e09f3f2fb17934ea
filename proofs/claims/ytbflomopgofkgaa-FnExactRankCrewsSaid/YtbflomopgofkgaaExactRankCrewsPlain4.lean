/-
  PLAIN LAWS about the models: no program in sight. Conditions: as each theorem states them.
-/
import Derived.Test.YtbflomopgofkgaaExactRankCrewsPlain3
set_option linter.unusedVariables false
set_option linter.unusedSimpArgs false
set_option linter.unusedSectionVars false
set_option linter.unnecessarySimpa false
namespace Go.Proofs.Ytbflomopgofkgaa
open Go Go.RowKit Go.Proofs Go.Proofs.Ytbflomopgofkgaa.E
/-! ## Rising lists of texts -/
abbrev Txt := List UInt8
theorem lss_eq (a b : Txt) : strB .lss a b = decide (a < b) := bytesLess_eq a b
theorem geq_eq (a b : Txt) : strB .geq a b = !decide (a < b) := by show (!Op.bytesLess a b) = _; rw [bytesLess_eq]
theorem neq_iff {a b : Txt} : strB .neq a b = true ↔ a ≠ b := by simp [strB]
theorem lt_le {a b : Txt} (h : a < b) : a ≤ b := List.le_of_lt h
theorem lt_trans' {a b c : Txt} (h : a < b) (h2 : b < c) : a < c := List.lt_trans h h2
theorem lt_of_le_lt {a b c : Txt} (h : a ≤ b) (h2 : b < c) : a < c := List.lt_of_le_of_lt h h2
theorem lt_of_le_ne' {a b : Txt} (h : a ≤ b) (h2 : a ≠ b) : a < b := Std.lt_of_le_of_ne h h2
abbrev Rise (l : List Txt) : Prop := l.Pairwise (· < ·)
theorem rise_ext {s t : List Txt} (hs : Rise s) (ht : Rise t) (h : ∀ x, x ∈ s ↔ x ∈ t) : s = t := by
  have nd : ∀ {l : List Txt}, Rise l → l.Nodup := fun hl => hl.imp (fun hab e => by subst e; exact List.lt_irrefl _ hab)
  have hp : s.Perm t := (List.perm_ext_iff_of_nodup (nd hs) (nd ht)).2 h
  exact List.Perm.eq_of_pairwise (le := (· < ·)) (fun a b _ _ h1 h2 => absurd (List.lt_trans h1 h2) (List.lt_irrefl a)) hs ht hp
theorem sortS_up (l : List Txt) : (l.mergeSort fun x y => decide (x ≤ y)).Pairwise (· ≤ ·) := by
  have := List.pairwise_mergeSort (le := fun x y : Txt => decide (x ≤ y)) (fun a b c h1 h2 => by simp only [decide_eq_true_eq] at *; exact List.le_trans h1 h2) (fun a b => by simp only [Bool.or_eq_true, decide_eq_true_eq]; exact List.le_total a b) l
  exact this.imp (fun h => by simpa using h)
theorem arr_at {zs : List Txt} {j : Nat} (h : j < zs.length) : zs.toArray[j]! = zs[j] := by
  rw [getElem!_pos _ j (by simpa using h), List.getElem_toArray]
theorem compact_mem {zs : List Txt} : ∀ x, x ∈ Lib.compact zs ↔ x ∈ zs := by
  intro x
  simp only [Lib.compact, Lib.compactUpTo, List.mem_map, List.mem_filter, List.mem_range]
  constructor
  · rintro ⟨j, ⟨hj, _⟩, rfl⟩
    rw [arr_at hj]; exact List.getElem_mem hj
  · intro hx
    obtain ⟨j, hj, rfl⟩ := List.getElem_of_mem hx
    induction j with
    | zero => exact ⟨0, ⟨hj, by simp [Lib.keeps]⟩, arr_at hj⟩
    | succ j ih =>
      by_cases he : zs[j + 1] = zs[j]'(by omega)
      · rw [he]; exact ih (by omega) (List.getElem_mem _)
      · refine ⟨j + 1, ⟨hj, ?_⟩, arr_at hj⟩
        simp only [Lib.keeps, decide_eq_true_eq]
        right
        rw [arr_at hj, Nat.add_sub_cancel, arr_at (by omega)]; exact he
theorem compact_rise {zs : List Txt} (h : zs.Pairwise (· ≤ ·)) : Rise (Lib.compact zs) := by
  simp only [Rise, Lib.compact, Lib.compactUpTo, List.pairwise_map]
  have hr : ((List.range zs.length).filter (Lib.keeps zs.toArray)).Pairwise (· < ·) := List.Pairwise.filter _ List.pairwise_lt_range
  refine hr.imp_of_mem (fun {i j} hi hj hij => ?_)
  simp only [List.mem_filter, List.mem_range] at hi hj
  have hk := hj.2
  simp only [Lib.keeps, decide_eq_true_eq] at hk
  rw [arr_at hi.1, arr_at hj.1]
  rw [arr_at hj.1, arr_at (by omega)] at hk
  have hne : zs[j]'hj.1 ≠ zs[j - 1]'(by omega) := by
    rcases hk with hk | hk
    · omega
    · exact hk
  have h1 : zs[i]'hi.1 ≤ zs[j - 1]'(by omega) := by
    rcases Nat.lt_or_ge i (j - 1) with hlt | hge
    · exact List.pairwise_iff_getElem.1 h i (j - 1) hi.1 (by omega) hlt
    · have : i = j - 1 := by omega
      subst this; exact List.le_refl _
  have h2 : zs[j - 1]'(by omega) ≤ zs[j]'hj.1 := List.pairwise_iff_getElem.1 h (j - 1) j (by omega) hj.1 (by omega)
  exact lt_of_le_lt h1 (lt_of_le_ne' h2 (fun e => hne e.symm))

end Go.Proofs.Ytbflomopgofkgaa
