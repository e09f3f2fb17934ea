/-
  PLAIN LAWS about the models: no program in sight. Conditions: as each theorem states them.
-/
import Derived.Test.YtfiedbefaoeoaaaStartsPlain5
set_option linter.unusedVariables false
set_option linter.unusedSimpArgs false
set_option linter.unusedSectionVars false
set_option linter.unnecessarySimpa false
namespace Go.Proofs.Ytfiedbefaoeoaaa
open Go Go.RowKit Go.Proofs Go.Proofs.Ytfiedbefaoeoaaa.E
theorem limB {α : Type} {n : Int} {c : Bool} {a b : α × gl00Src} (h1 : Lim a.2 n) (h2 : Lim b.2 n) : Lim (bif c then a else b).2 n := by cases c <;> assumption
theorem Lim.bent {s : gl00Src} {n : Int} (h : Lim s n) : Lim (m_spec_l03Bent s).2 (n + 40) := by
  simp only [m_spec_l03Bent]
  have e : ∀ {S : gl00Src} {m : Int}, Lim S m → m ≤ n + 20 → ∀ l, Lim (m_spec_l00Src_among S l).2.1 (n + 40) := fun hS hm l => Lim.mono (Lim.among hS) (by omega)
  exact limB (e (Lim.pick (Lim.draw3 (Lim.pick (Lim.pick (Lim.text h))))) (by omega) _) (limB (e (Lim.pick (Lim.draw3 (Lim.pick (Lim.pick (Lim.text h))))) (by omega) _) (limB (e (Lim.pick (Lim.draw3 (Lim.pick (Lim.pick (Lim.text h))))) (by omega) _) (limB (e (Lim.pick (Lim.draw3 (Lim.pick (Lim.pick (Lim.text h))))) (by omega) _) (limB (e (Lim.pick (Lim.draw3 (Lim.pick (Lim.pick (Lim.text h))))) (by omega) _) (Lim.mono (Lim.pick (Lim.draw3 (Lim.pick (Lim.pick (Lim.text h))))) (by omega))))))
structure DMk (n : Int) (r : gMine × gl00Src) : Prop where
  lim : Lim r.2 n
  len : r.1.Airways.length ≤ 30
theorem DMk.bif {n : Int} {c : Bool} {a b : gMine × gl00Src} (h1 : DMk n a) (h2 : DMk n b) : DMk n (bif c then a else b) := by cases c <;> assumption
theorem among2 {s : gl00Src} {n x y B : Int} (h : Lim s n) (hx : x ≤ B) (hy : y ≤ B) : (m_spec_l00Src_among s ([x, y] : List Int)).1 ≤ B := by
  have hn := h.num (k := (([x, y] : List Int).length : Int))
  simp only [m_spec_l00Src_among]
  have h2 : (m_spec_l00Src_pick s (([x, y] : List Int).length : Int)).1 < 2 := hn.2 (by simp)
  generalize (m_spec_l00Src_pick s (([x, y] : List Int).length : Int)).1 = v at hn h2
  have hv : v = 0 ∨ v = 1 := by omega
  rcases hv with rfl | rfl
  · exact hx
  · exact hy
theorem among_rng {s : gl00Src} {n x y : Int} (h : Lim s n) (hxy : x ≤ y) : x ≤ (m_spec_l00Src_among s ([x, y] : List Int)).1 ∧ (m_spec_l00Src_among s ([x, y] : List Int)).1 ≤ y := by
  refine ⟨?_, among2 h hxy (Int.le_refl _)⟩
  have hn := h.num (k := (([x, y] : List Int).length : Int))
  simp only [m_spec_l00Src_among]
  have h2 : (m_spec_l00Src_pick s (([x, y] : List Int).length : Int)).1 < 2 := hn.2 (by simp)
  generalize (m_spec_l00Src_pick s (([x, y] : List Int).length : Int)).1 = v at hn h2
  have hv : v = 0 ∨ v = 1 := by omega
  rcases hv with rfl | rfl
  · exact Int.le_refl _
  · exact hxy
theorem Lim.draw4 {s : gl00Src} {n : Int} (h : Lim s n) : DMk (n + 500) (m_spec_l04Draw s) := by
  have h0 := Lim.draw4_ok h
  have h1 := h0.lim.pick (k := 20)
  have hlen := h0.len
  simp only [m_spec_l04Draw]
  refine DMk.bif ⟨h1.among.mono (by omega), by simp only; omega⟩ (DMk.bif ⟨h1.bent.mono (by omega), by simp only [List.length_append, List.length_cons, List.length_nil]; omega⟩ (DMk.bif ?_ ⟨h1.mono (by omega), by simp only; omega⟩))
  have hm := among2 (B := 25) h1 (x := 24) (y := 25) (by omega) (by omega)
  have h2 := h1.among (l := ([24, 25] : List Int))
  generalize hM : (m_spec_l00Src_among (m_spec_l00Src_pick (m_spec_l04DrawOk s).2 20).2 ([24, 25] : List Int)).1 = M at hm
  refine LOOP_post (fun (x : (List Int) × Int × Int × (List gAirway) × Int) => (0 ≤ x.2.2.2.2 ∧ (x.2.2.2.1.length : Int) = x.2.2.2.2 ∧ (x.2.2.2.2 ≤ M ∨ x.2.2.2.2 = 0)) ∧ Lim (gl00Src.mk x.1 x.2.1 x.2.2.1) (n + 210 + 8 * x.2.2.2.2)) (fun x => (M - x.2.2.2.2).toNat) (fun _ r => DMk (n + 500) r) (fun rec x hI ih => ?_) _ _ ⟨by simp, h2.mono (by simp only; omega)⟩ (by simp)
  obtain ⟨c, a, sd, A, k⟩ := x
  obtain ⟨⟨g0, g1, g2⟩, hL⟩ := hI
  simp only at g0 g1 g2 hL
  simp only [m_spec_l04Draw_b1, hM]
  by_cases hk : k < M
  · simp only [hk, decide_true, Bool.cond_true]
    have go : ∀ (S : gl00Src) (B : List gAirway), (B.length : Int) = k + 1 → Lim S (n + 210 + 8 * (k + 1)) → DMk (n + 500) (rec (S.code, S.at_, S.seed, B, k + 1)) := fun S B hB hS => ih _ ⟨by simp only; omega, hS⟩ (by simp only; omega)
    exact go _ _ (by simp only [List.length_append, List.length_cons, List.length_nil]; omega) (Lim.mono (Lim.draw3 hL) (by omega))
  · simp only [hk, decide_false, Bool.cond_false]
    exact ⟨hL.mono (by omega), by simp only; omega⟩
theorem Lim.dmk {s : gl00Src} {n : Int} (h : Lim s n) : Lim (m_spec_l04Draw s).2 (n + 500) := (Lim.draw4 h).lim

end Go.Proofs.Ytfiedbefaoeoaaa
