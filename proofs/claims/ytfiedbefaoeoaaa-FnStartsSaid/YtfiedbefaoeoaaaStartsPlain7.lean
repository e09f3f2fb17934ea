/-
  PLAIN LAWS about the models: no program in sight. Conditions: as each theorem states them.
-/
import Derived.Test.YtfiedbefaoeoaaaStartsPlain6
set_option linter.unusedVariables false
set_option linter.unusedSimpArgs false
set_option linter.unusedSectionVars false
set_option linter.unnecessarySimpa false
namespace Go.Proofs.Ytfiedbefaoeoaaa
open Go Go.RowKit Go.Proofs Go.Proofs.Ytfiedbefaoeoaaa.E
theorem Lim.one26 {s : gl00Src} {n : Int} {id : List UInt8} (h : Lim s n) : Lim (m_spec_l26DrawOne s id).2 (n + 8) := h.pick.pick.pick.pick.mono (by omega)
theorem Lim.bend26 {s : gl00Src} {n : Int} {x : gPermit} (h : Lim s n) : Lim (m_spec_l26Bend s x).2 (n + 4) := by
  simp only [m_spec_l26Bend]
  refine limB (Lim.mono (Lim.among (Lim.pick h)) (by omega)) (limB (Lim.mono (Lim.among (Lim.pick h)) (by omega)) (limB (Lim.mono (Lim.among (Lim.pick h)) (by omega)) (limB (Lim.mono (Lim.among (Lim.pick h)) (by omega)) (Lim.mono (Lim.pick h) (by omega)))))
structure D26 (n : Int) (r : gMine × List gPermit × gl00Src) : Prop where
  lim : Lim r.2.2 n
  air : r.1.Airways.length ≤ 30
  len : r.2.1.length ≤ 30
theorem D26.bif {n : Int} {c : Bool} {a b : gMine × List gPermit × gl00Src} (h1 : D26 n a) (h2 : D26 n b) : D26 n (bif c then a else b) := by cases c <;> assumption
theorem Lim.draw26 {s : gl00Src} {n : Int} (h : Lim s n) : D26 (n + 700) (m_spec_l26Draw s) := by
  have h0 := Lim.draw4 h
  have hair := h0.len
  simp only [m_spec_l26Draw]
  refine LOOP_post (fun (x : (List Int) × Int × Int × Int × (List gPermit)) => (0 ≤ x.2.2.2.1 ∧ x.2.2.2.1 ≤ 6 ∧ (x.2.2.2.2.length : Int) ≤ x.2.2.2.1) ∧ Lim (gl00Src.mk x.1 x.2.1 x.2.2.1) (n + 500 + 10 * x.2.2.2.1)) (fun x => (6 - x.2.2.2.1).toNat) (fun _ r => D26 (n + 700) r) (fun rec x hI ih => ?_) _ _ ⟨by simp, h0.lim.mono (by simp)⟩ (by simp)
  obtain ⟨c, a, sd, k, A⟩ := x
  obtain ⟨⟨g0, g1, g2⟩, hL⟩ := hI
  simp only at g0 g1 g2 hL
  simp only [m_spec_l26Draw_b1]
  rw [show (((([([97] : List UInt8), ([98] : List UInt8), ([99] : List UInt8), ([100] : List UInt8), ([101] : List UInt8), ([102] : List UInt8)] : List (List UInt8)).length : Nat)) : Int) = 6 from rfl]
  by_cases hk : k < 6
  · simp only [hk, decide_true, Bool.cond_true]
    have go : ∀ (S : gl00Src) (B : List gPermit), (B.length : Int) ≤ A.length + 1 → Lim S (n + 500 + 10 * (k + 1)) → D26 (n + 700) (rec (S.code, S.at_, S.seed, k + 1, B)) := fun S B hB hS => ih _ ⟨⟨by simp only; omega, by simp only; omega, by simp only; omega⟩, hS⟩ (by simp only; omega)
    have l1 := hL.one (k := 3)
    refine D26.bif (go _ _ (by omega) (l1.mono (by omega))) (go _ _ (by simp only [List.length_append, List.length_cons, List.length_nil]; omega) (Lim.mono (Lim.one26 l1) (by omega)))
  · simp only [hk, decide_false, Bool.cond_false]
    have l1 := hL.pick (k := 20)
    refine D26.bif ⟨Lim.mono (Lim.bend26 (Lim.one26 l1)) (by omega), hair, by simp only [List.length_append, List.length_cons, List.length_nil]; omega⟩ (D26.bif ?_ ⟨l1.mono (by omega), hair, by simp only; omega⟩)
    have hm := among2 (B := 17) l1 (x := 16) (y := 17) (by omega) (by omega)
    have l2 := l1.among (l := ([16, 17] : List Int))
    generalize hM : (m_spec_l00Src_among (m_spec_l00Src_pick (gl00Src.mk c a sd) 20).2 ([16, 17] : List Int)).1 = M at hm
    refine LOOP_post (fun (x : (List gPermit) × Int) => 0 ≤ x.2 ∧ (x.1.length : Int) = x.2 ∧ (x.2 ≤ M ∨ x.2 = 0)) (fun x => (M - x.2).toNat) (fun _ r => D26 (n + 700) r) (fun rec2 x hI ih2 => ?_) _ _ (by simp) (by simp)
    obtain ⟨B, j⟩ := x
    obtain ⟨q0, q1, q2⟩ := hI
    simp only at q0 q1 q2
    simp only [m_spec_l26Draw_b2, hM]
    by_cases hj : j < M
    · simp only [hj, decide_true, Bool.cond_true]
      exact ih2 _ (by simp only [List.length_append, List.length_cons, List.length_nil]; omega) (by simp only; omega)
    · simp only [hj, decide_false, Bool.cond_false]
      exact ⟨l2.mono (by omega), hair, by simp only; omega⟩
theorem Lim.d26 {s : gl00Src} {n : Int} (h : Lim s n) : Lim (m_spec_l26Draw s).2.2 (n + 700) := (Lim.draw26 h).lim
theorem max1_ne {a : Int} : m_spec_l00Max 1 a ≠ 0 := by
  simp only [m_spec_l00Max]
  by_cases h : a < 1
  · simp [h]
  · simp only [h, decide_false, Bool.cond_false]; omega

end Go.Proofs.Ytfiedbefaoeoaaa
