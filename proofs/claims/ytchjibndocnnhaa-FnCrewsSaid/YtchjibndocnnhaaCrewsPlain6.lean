/-
  PLAIN LAWS about the models: no program in sight. Conditions: as each theorem states them.
-/
import Derived.Test.YtchjibndocnnhaaCrewsPlain5
set_option linter.unusedVariables false
set_option linter.unusedSimpArgs false
set_option linter.unusedSectionVars false
set_option linter.unnecessarySimpa false
namespace Go.Proofs.Ytchjibndocnnhaa
open Go Go.RowKit Go.Proofs Go.Proofs.Ytchjibndocnnhaa.E
/-! ## A mine that is drawn -/
structure DOk (n : Int) (r : gMine × gl00Src) : Prop where
  lim : Lim r.2 n
  len : r.1.Airways.length ≤ 8
theorem DOk.bif {n : Int} {c : Bool} {a b : gMine × gl00Src} (h1 : DOk n a) (h2 : DOk n b) : DOk n (bif c then a else b) := by cases c <;> assumption
theorem Lim.draw4_ok {s : gl00Src} {n : Int} (h : Lim s n) : DOk (n + 200) (m_spec_l04DrawOk s) := by
  simp only [m_spec_l04DrawOk]
  refine LOOP_post (fun (x : (List Int) × Int × Int × Int × (List gAirway)) => (0 ≤ x.2.2.2.1 ∧ x.2.2.2.1 ≤ 8 ∧ (x.2.2.2.2.length : Int) ≤ x.2.2.2.1) ∧ Lim (gl00Src.mk x.1 x.2.1 x.2.2.1) (n + 2 + 20 * x.2.2.2.1)) (fun x => (8 - x.2.2.2.1).toNat) (fun _ r => DOk (n + 200) r) (fun rec x hI ih => ?_) _ _ ⟨by simp, h.pick.mono (by simp)⟩ (by simp)
  obtain ⟨c, a, sd, k, A⟩ := x
  obtain ⟨⟨h0, h1, h2⟩, hL⟩ := hI
  simp only at h0 h1 h2 hL
  simp only [m_spec_l04DrawOk_b1, JN]
  rw [show (((([([97] : List UInt8), ([98] : List UInt8), ([99] : List UInt8), ([100] : List UInt8), ([101] : List UInt8), ([102] : List UInt8), ([103] : List UInt8), ([104] : List UInt8)] : List (List UInt8)).length : Nat)) : Int) = 8 from rfl]
  by_cases hk : k < 8
  · simp only [hk, decide_true, Bool.cond_true]
    have go : ∀ (S : gl00Src) (B : List gAirway), (B.length : Int) ≤ A.length + 1 → Lim S (n + 2 + 20 * (k + 1)) → DOk (n + 200) (rec (S.code, S.at_, S.seed, k + 1, B)) := fun S B hB hS => ih _ ⟨⟨by simp only; omega, by simp only; omega, by simp only; omega⟩, hS⟩ (by simp only; omega)
    have l1 := hL.one (k := 5)
    refine DOk.bif (go _ _ (by omega) (l1.mono (by omega))) ?_
    have step : ∀ (c' : List Int) (a' s' f t : Int) (g : Bool) (q : Int) (id : List UInt8), Lim (gl00Src.mk c' a' s') (n + 2 + 20 * k + 6) → DOk (n + 200) (rec ((m_spec_l03DrawOk (bif g then (m_spec_l00Src_one (m_spec_l00Src_pick (gl00Src.mk c' a' s') q).2 4).2 else (m_spec_l00Src_pick (gl00Src.mk c' a' s') q).2) id f t).2.code, (m_spec_l03DrawOk (bif g then (m_spec_l00Src_one (m_spec_l00Src_pick (gl00Src.mk c' a' s') q).2 4).2 else (m_spec_l00Src_pick (gl00Src.mk c' a' s') q).2) id f t).2.at_, (m_spec_l03DrawOk (bif g then (m_spec_l00Src_one (m_spec_l00Src_pick (gl00Src.mk c' a' s') q).2 4).2 else (m_spec_l00Src_pick (gl00Src.mk c' a' s') q).2) id f t).2.seed, k + 1, A ++ ([(m_spec_l03DrawOk (bif g then (m_spec_l00Src_one (m_spec_l00Src_pick (gl00Src.mk c' a' s') q).2 4).2 else (m_spec_l00Src_pick (gl00Src.mk c' a' s') q).2) id f t).1] : List gAirway))) := fun c' a' s' f t g q id hS =>
      go _ _ (by simp only [List.length_append, List.length_cons, List.length_nil]; omega) ((Lim.draw3 (Lim.bif1 (k := 4) (hS.pick (k := q)))).mono (by omega))
    refine DOk.bif ?_ ?_
    · exact DOk.bif (step _ _ _ _ _ _ _ _ ((l1.one.pick).mono (by omega))) (step _ _ _ _ _ _ _ _ ((l1.one.pick).mono (by omega)))
    · exact DOk.bif (step _ _ _ _ _ _ _ _ ((l1.one).mono (by omega))) (step _ _ _ _ _ _ _ _ ((l1.one).mono (by omega)))
  · simp only [hk, decide_false, Bool.cond_false]
    exact ⟨hL.mono (by omega), by simp only; omega⟩
theorem Lim.dok {s : gl00Src} {n : Int} (h : Lim s n) : Lim (m_spec_l04DrawOk s).2 (n + 200) := (Lim.draw4_ok h).lim

end Go.Proofs.Ytchjibndocnnhaa
