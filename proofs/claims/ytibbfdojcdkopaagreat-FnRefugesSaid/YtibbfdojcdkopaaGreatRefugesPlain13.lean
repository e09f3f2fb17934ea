/-
  PLAIN LAWS about the models: no program in sight. Conditions: as each theorem states them.
-/
import Derived.Test.YtibbfdojcdkopaaGreatRefugesPlain12
set_option linter.unusedVariables false
set_option linter.unusedSimpArgs false
set_option linter.unusedSectionVars false
set_option linter.unnecessarySimpa false
namespace Go.Proofs.YtibbfdojcdkopaaGreat
open Go Go.RowKit Go.Proofs Go.Proofs.YtibbfdojcdkopaaGreat.E
/-! ## What the walks of walks and hours ask -/
theorem MineOk.of {m : AH} (h : AO m = true) : MineIn m := l04Ok_imp h
theorem hrs_ne {p u : Int} (hp : 0 ≤ p ∧ p ≤ 1600) (hu : 1 ≤ u ∧ u ≤ 10000) (h0 : ¬ p = 0) : ¬ IntKind.wrap .i64 (p * u) = 0 := by
  have h1 : 1 * 1 ≤ p * u := Int.mul_le_mul (by omega) hu.1 (by omega) (by omega)
  have h2 : p * u ≤ 1600 * 10000 := Int.mul_le_mul hp.2 hu.2 (by omega) (by omega)
  rw [wr64 (by omega)]; omega
theorem aw_imp {l : List Int} {a b : Int} (h : Bn l a b = true) : ∀ y ∈ l, a ≤ y ∧ y ≤ b := allWithin_iff.1 h
theorem hrs_place {list : List AI} {places : List Int} {i : Int} (h : ∀ y ∈ places, -1 ≤ y ∧ y ≤ (list.length : Int) - 1) (hi : 0 ≤ i ∧ i < places.length) : -1 ≤ at' places i ∧ at' places i < list.length := by
  have := at_all h hi
  omega
theorem hrs_step {sizes a : List Int} {p i : Int} (hz : ∀ y ∈ sizes, 1 ≤ y ∧ y ≤ 200) (h : ∀ y ∈ a, 0 ≤ y ∧ y ≤ 200 * i) (hi : 0 ≤ i ∧ i < sizes.length ∧ i < 100) (hp : 0 ≤ p ∧ p < a.length) : ∀ y ∈ put' a p (IntKind.wrap .i64 (at' a p + at' sizes i)), 0 ≤ y ∧ y ≤ 200 * (i + 1) := by
  intro y hy
  have h1 := at_all h hp
  have h2 := at_all hz ⟨hi.1, hi.2.1⟩
  rw [wr64 (by omega)] at hy
  rcases List.mem_or_eq_of_mem_set hy with hy | hy
  · have := h y hy; omega
  · omega
theorem hrs_at {a : List Int} {b i : Int} (h : ∀ y ∈ a, 0 ≤ y ∧ y ≤ 200 * b) (hi : 0 ≤ i ∧ i < a.length) (hb : b ≤ 8) : 0 ≤ at' a i ∧ at' a i ≤ 1600 := by
  have := at_all h hi
  omega
theorem hrs_keep {a : List Int} {i : Int} (h : ∀ y ∈ a, 0 ≤ y ∧ y ≤ 200 * i) : ∀ y ∈ a, 0 ≤ y ∧ y ≤ 200 * (i + 1) := fun y hy => by
  have := h y hy
  omega
theorem hrs_nil {n : Nat} : ∀ y ∈ List.replicate n (0 : Int), 0 ≤ y ∧ y ≤ 200 * (0 : Int) := by
  intro y hy
  rw [List.eq_of_mem_replicate hy]; omega
theorem junc_in {m : AH} {j : Int} (hm : Bz m = true) (h : A2 m j = true) : 0 ≤ j ∧ j < m.Junctions := by
  rw [hasJunction_eq (ValidMine_imp hm), Bool.and_eq_true, decide_eq_true_eq, decide_eq_true_eq] at h
  exact h
/-! ### Walks, one way and the other -/
def wkE (m : AH) (speed : Int) : List (Int × Int × Int) := cwEs m (-1) speed
def wkS (m : AH) : Int → Int → Bool := cwSafe (List.replicate m.Junctions.toNat (-1))
theorem wkE_ok {m : AH} (hm : MineIn m) {speed : Int} (hs : 10 ≤ speed ∧ speed ≤ 300) : ∀ e ∈ wkE m speed, EdOk m.Junctions.toNat e := fun e he => (cwEs_ok hm (-1) hs e he).ok
theorem wkE_sym {m : AH} {speed : Int} : ∀ e ∈ wkE m speed, (e.2.1, e.1, e.2.2) ∈ wkE m speed := by
  intro e he
  unfold wkE cwEs at he ⊢
  rw [List.mem_flatMap] at he ⊢
  obtain ⟨k, h1, h2⟩ := he
  refine ⟨k, h1, ?_⟩
  unfold cwE at h2 ⊢
  simp only [List.mem_cons, List.not_mem_nil, or_false] at h2 ⊢
  rcases h2 with h2 | h2 <;> subst h2
  · exact .inr rfl
  · exact .inl rfl
theorem wkS_yes {m : AH} : ∀ v t : Int, 0 ≤ v → v < (m.Junctions.toNat : Int) → wkS m v t = true := by
  intro v t h0 h1
  unfold wkS cwSafe
  rw [at_rep h0 h1]; rfl
theorem walks_is {m : AH} (hm : MineIn m) {j speed : Int} (hj : 0 ≤ j ∧ j < m.Junctions) (hs : 10 ≤ speed ∧ speed ≤ 300) : Br m j speed = wlk m.Junctions.toNat (wkS m) (wkE m speed) j := by
  simp only [Br]
  rw [implTimes_is (e := Cb.mk m (Bh K_7 m.Junctions) (-1)) (c := Bi.mk ([] : List UInt8) j speed) hm ⟨hj, hs⟩ (by omega)]
  dsimp only
  rw [rep_eq hm.1]
  have : cwSafe (List.replicate m.Junctions.toNat (-1)) j 0 = true := wkS_yes (m := m) j 0 hj.1 (by omega)
  rw [this]; rfl
theorem walks_len {m : AH} (hm : MineIn m) {j speed : Int} (hj : 0 ≤ j ∧ j < m.Junctions) (hs : 10 ≤ speed ∧ speed ≤ 300) : ((Br m j speed).length : Int) = m.Junctions := by
  rw [walks_is hm hj hs, (wlk_WI (safe := wkS m) (s := j) ⟨hj.1, by omega⟩ (wkE_ok hm hs)).len]; omega
theorem WalkTimes_ok {m : AH} {j speed : Int} (h : (AQ m j speed).2 = 0) : MineIn m ∧ (0 ≤ j ∧ j < m.Junctions) ∧ (10 ≤ speed ∧ speed ≤ 300) ∧ (AQ m j speed).1 = Br m j speed ∧ Bz m = true := by
  simp only [AQ] at h ⊢
  cases h1 : Bz m <;> cases h2 : A2 m j <;> cases h3 : Bf speed 10 300 <;> simp [h1, h2, h3] at h ⊢
  exact ⟨ValidMine_imp h1, junc_in h1 h2, within_imp h3⟩
theorem WalkTimes_is {m : AH} {j speed : Int} (hm : Bz m = true) (hj : 0 ≤ j ∧ j < m.Junctions) (hs : 10 ≤ speed ∧ speed ≤ 300) : AQ m j speed = (Br m j speed, 0) := by
  have h2 : A2 m j = true := by
    rw [hasJunction_eq (ValidMine_imp hm)]; simp; exact hj
  have h3 : Bf speed 10 300 = true := by simp only [Bf, Bool.and_eq_true, decide_eq_true_eq]; exact hs
  simp only [AQ, hm, h2, h3, Bool.not_true, Bool.or_self, Bool.cond_false]
theorem walk_J {m : AH} {j speed : Int} (h : (AQ m j speed).2 = 0) : m.Junctions ≤ 16 := (WalkTimes_ok h).1.1.2

end Go.Proofs.YtibbfdojcdkopaaGreat
