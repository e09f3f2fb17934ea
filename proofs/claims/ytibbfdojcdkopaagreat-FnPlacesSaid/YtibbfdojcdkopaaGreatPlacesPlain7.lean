/-
  PLAIN LAWS about the models: no program in sight. Conditions: as each theorem states them.
-/
import Derived.Test.YtibbfdojcdkopaaGreatPlacesPlain6
set_option linter.unusedVariables false
set_option linter.unusedSimpArgs false
set_option linter.unusedSectionVars false
set_option linter.unnecessarySimpa false
namespace Go.Proofs.YtibbfdojcdkopaaGreat
open Go Go.RowKit Go.Proofs Go.Proofs.YtibbfdojcdkopaaGreat.E
/-! ## What the walks of the set search ask -/
theorem env_rows {x : gEnv45} {n : Nat} (h : EnvOk x n) : ∀ r ∈ x.c0, r.length = x.c0.length := fun r hr => (h.2.1 r hr).trans h.1.symm
theorem env_some {s : AA} (h : SetOk s) : ∀ y ∈ s.some_, 0 ≤ y ∧ y < (s.right.c0.length : Int) := fun y hy => by rw [h.env.1]; exact h.som y hy
theorem env_jun {x : gEnv45} {n : Nat} (h : EnvOk x n) : ∀ y ∈ x.c2, 0 ≤ y ∧ y < (x.c0.length : Int) := fun y hy => by rw [h.1]; exact h.2.2 y hy
def ExtH (self_ : AA → Int → Int → (Bool × AA)) (fuel : Nat) : Prop := ∀ (s : AA) (from_ more : Int), SetOk s → (0 ≤ from_ ∧ from_ ≤ s.list.length) → (0 ≤ more ∧ more ≤ 17) → (0 ≤ s.budget ∧ s.budget ≤ 20000) → (s.some_.length : Int) + more ≤ 40 → more.toNat < fuel → ExtR s from_ more (self_ s from_ more)
/-- after a turn: what is known of the budget, and of the numbers when nothing was found -/
theorem ext_some {self_ : AA → Int → Int → (Bool × AA)} {fuel : Nat} (hself : ExtH self_ fuel) {s : AA} (hS : SetOk s) {so : List Int} {b i more : Int} (hi : 0 ≤ i ∧ i ≤ s.list.length) (hm : 1 ≤ more ∧ more ≤ 17) (hb : 0 ≤ b ∧ b ≤ 20000) (hl : (s.some_.length : Int) + more ≤ 40) (hso : so = s.some_) (hc : IntKind.wrap .i64 (i + more) ≤ (s.list.length : Int) ∧ more.toNat < fuel + 1) :
    (-1 ≤ (self_ (AA.mk s.list s.right b (so ++ ([at' s.list i] : List Int))) (i + 1) (IntKind.wrap .i64 (more - 1))).2.budget ∧ (self_ (AA.mk s.list s.right b (so ++ ([at' s.list i] : List Int))) (i + 1) (IntKind.wrap .i64 (more - 1))).2.budget ≤ 20000) ∧
    ((self_ (AA.mk s.list s.right b (so ++ ([at' s.list i] : List Int))) (i + 1) (IntKind.wrap .i64 (more - 1))).1 = false → (self_ (AA.mk s.list s.right b (so ++ ([at' s.list i] : List Int))) (i + 1) (IntKind.wrap .i64 (more - 1))).2.some_ = so ++ ([at' s.list i] : List Int) ∧
      pre' (self_ (AA.mk s.list s.right b (so ++ ([at' s.list i] : List Int))) (i + 1) (IntKind.wrap .i64 (more - 1))).2.some_ (IntKind.wrap .i64 (((self_ (AA.mk s.list s.right b (so ++ ([at' s.list i] : List Int))) (i + 1) (IntKind.wrap .i64 (more - 1))).2.some_.length : Int) - 1)) = s.some_) := by
  subst hso
  have hlen := hS.len
  rw [wr64 (n := i + more) (by omega)] at hc
  have hR := hself (AA.mk s.list s.right b (s.some_ ++ ([at' s.list i] : List Int))) (i + 1) (more - 1) (hS.push ⟨by omega, by omega⟩) ⟨by omega, by dsimp only; omega⟩ ⟨by omega, by omega⟩ ⟨by dsimp only; omega, by dsimp only; omega⟩ (by simp only [List.length_append, List.length_cons, List.length_nil]; omega) (by omega)
  rw [wr64 (n := more - 1) (by omega)]
  have hbud := hR.bud
  dsimp only at hbud
  refine ⟨by omega, fun h => ?_⟩
  have h1 := (hR.no h).1
  dsimp only at h1
  exact ⟨h1, by rw [h1, app_cutW (by omega)]⟩
theorem ext_fst {s : AA} {so : List Int} {b n : Int} (hS : SetOk s) (hn : s.some_ = []) (hso : so = s.some_) (hb : 0 ≤ b ∧ b ≤ 20000) (hi : 0 ≤ n ∧ n ≤ 17) :
    (-1 ≤ (A3 (AA.mk s.list s.right b so) 0 n).2.budget ∧ (A3 (AA.mk s.list s.right b so) 0 n).2.budget ≤ 20000) ∧ ((A3 (AA.mk s.list s.right b so) 0 n).1 = false → (A3 (AA.mk s.list s.right b so) 0 n).2.some_ = s.some_) := by
  subst hso
  have hR := ext_top (s := AA.mk s.list s.right b s.some_) (from_ := 0) (more := n) ⟨hS.len, hS.num, hS.env, hS.som⟩ ⟨by omega, by dsimp only; omega⟩ hi hb (by dsimp only; rw [hn]; simp only [List.length_nil]; omega)
  have hbud := hR.bud
  dsimp only at hbud
  exact ⟨by omega, fun h => (hR.no h).1⟩
theorem Lim.spd20 {s : Ak} {n : Int} (h : Lim s n) : Lim (Bw s).2 (n + 2) := h.among

end Go.Proofs.YtibbfdojcdkopaaGreat
