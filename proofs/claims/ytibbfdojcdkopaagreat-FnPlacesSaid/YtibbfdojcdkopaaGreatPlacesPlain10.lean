/-
  PLAIN LAWS about the models: no program in sight. Conditions: as each theorem states them.
-/
import Derived.Test.YtibbfdojcdkopaaGreatPlacesPlain9
set_option linter.unusedVariables false
set_option linter.unusedSimpArgs false
set_option linter.unusedSectionVars false
set_option linter.unnecessarySimpa false
namespace Go.Proofs.YtibbfdojcdkopaaGreat
open Go Go.RowKit Go.Proofs Go.Proofs.YtibbfdojcdkopaaGreat.E

/-! ## NearestRefuge -/
theorem escTimes_len {m : AB} {arr : List Int} {blocked : Int} {c : Bu} {start : Int} (h : (AO m arr blocked [c] start []).2.1 = 0) : ((Bj (AO m arr blocked [c] start []).1 c start).length : Int) = m.Junctions := by
  have g := escapeOf1 m arr blocked c start
  rw [g.1] at h
  have hi := l19Ask_imp h
  rw [g.2 h, times_eq hi.1 hi.2.1 hi.2.2.1]
  exact (times_SmB hi.1 hi.2.1 hi.2.2.1).1
theorem askTimes_len {m : AB} {arr : List Int} {blocked : Int} {c : Bu} {start : Int} (h : (Bh m arr blocked c start).2 = 0) : ((Bh m arr blocked c start).1.length : Int) = m.Junctions := by
  simp only [Bh] at h ⊢
  cases hc : (Bz m arr blocked c start != 0) with
  | true => rw [hc] at h; simp only [Bool.cond_true] at h; simp [h] at hc
  | false =>
    have hi := l19Ask_imp (by simpa using hc)
    exact (times_SmB hi.1 hi.2.1 hi.2.2.1).1
/-! ### What the walks of the law ask -/
theorem WalkS_ok {m : AB} {j speed : Int} (h : (A6 m j speed).2 = 0) : MineIn m ∧ (0 ≤ j ∧ j < m.Junctions) ∧ (10 ≤ speed ∧ speed ≤ 300) ∧ (A6 m j speed).1 = Cj m j speed := by
  simp only [A6] at h ⊢
  cases h1 : AD m <;> cases h2 : Bx m j <;> cases h3 : Cz speed <;> simp [h1, h2, h3] at h ⊢
  exact ⟨l04Ok_imp h1, junS_in (l04Ok_imp h1) h2, spdS_in h3⟩
theorem l20_len {m : AB} {j speed : Int} (hm : MineIn m) (hj : 0 ≤ j ∧ j < m.Junctions) (hs : 10 ≤ speed ∧ speed ≤ 300) : ((Cj m j speed).length : Int) = m.Junctions := by
  rw [l20Walks_is hm hj hs, (wlk_WI (safe := wkS m) (s := j) ⟨hj.1, by omega⟩ (wkE_ok hm hs)).len]
  have := hm.1; omega
theorem wlkS_len {m : AB} {j speed : Int} (h : (A6 m j speed).2 = 0) : ((A6 m j speed).1.length : Int) = m.Junctions := by
  have g := WalkS_ok h
  rw [g.2.2.2]; exact l20_len g.1 g.2.1 g.2.2.1
theorem Made.ok' {m : AB} {speed limit budget n : Int} {js : List Int} {ts : List (List Int)} (hm : MineIn m) (hs : 10 ≤ speed ∧ speed ≤ 300) (hn : n = m.Junctions) (h : Made m speed n js ts) : SetOk (AA.mk js (gEnv45.mk ts limit js) budget K_5) := by
  subst hn; exact h.ok hm hs
theorem vref_imp {m : AB} {list : List AS} (h : BW m list = true) : RefugeIn m list := l20Ok_imp h

end Go.Proofs.YtibbfdojcdkopaaGreat
