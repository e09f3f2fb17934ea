/-
  PLAIN LAWS about the models: no program in sight. Conditions: as each theorem states them.
-/
import Derived.Test.YtahohnhmdlndfaaExactLastArrivalPlain8
set_option linter.unusedVariables false
set_option linter.unusedSimpArgs false
set_option linter.unusedSectionVars false
set_option linter.unnecessarySimpa false
namespace Go.Proofs.Ytahohnhmdlndfaa
open Go Go.RowKit Go.Proofs Go.Proofs.Ytahohnhmdlndfaa.E
/-! ## No arrival is less than -1 -/
theorem rlx_ge {e : Int × Int × Int} {a : List Int} (hw : 0 ≤ e.2.2) (hv : 0 ≤ e.2.1 ∧ e.2.1 < a.length) (h : ∀ j : Int, 0 ≤ j → j < a.length → -1 ≤ at' a j) : ∀ j : Int, 0 ≤ j → j < (rlx yes e a).length → -1 ≤ at' (rlx yes e a) j := by
  rcases rlx_cases (safe := yes) e a with h0 | ⟨h1, h2, _, h4⟩
  · rw [h0]; exact h
  · rw [h4]
    intro j hj0 hj
    rw [put_len] at hj
    by_cases e0 : j = e.2.1
    · rw [e0, put_at hv]; omega
    · rw [put_at_ne hv.1 hj0 (fun h => e0 h.symm)]; exact h j hj0 hj
theorem swp_ge : ∀ {es : List (Int × Int × Int)} {a : List Int} {J : Nat}, a.length = J → (∀ e ∈ es, EdOk J e) → (∀ j : Int, 0 ≤ j → j < a.length → -1 ≤ at' a j) → ∀ j : Int, 0 ≤ j → j < (swp yes es a).length → -1 ≤ at' (swp yes es a) j
  | [], _, _, _, _, h => h
  | e :: es, a, J, hl, hok, h => by
    have he := hok e List.mem_cons_self
    unfold EdOk at he
    exact swp_ge (a := rlx yes e a) (J := J) (by rw [rlx_len]; exact hl) (fun e' h' => hok e' (List.mem_cons_of_mem _ h')) (rlx_ge (by omega) (by omega) h)
theorem swps_ge : ∀ {es : List (Int × Int × Int)} (k : Nat) {a : List Int} {J : Nat}, a.length = J → (∀ e ∈ es, EdOk J e) → (∀ j : Int, 0 ≤ j → j < a.length → -1 ≤ at' a j) → ∀ j : Int, 0 ≤ j → j < (swps yes es k a).length → -1 ≤ at' (swps yes es k a) j
  | _, 0, _, _, _, _, h => h
  | es, k + 1, a, J, hl, hok, h => swps_ge k (J := J) (by rw [swp_len]; exact hl) hok (swp_ge hl hok h)
theorem arrivals_ge {m : gMine} {flows : List Int} {f : gFire} (hm : MineIn m) (hf : FlowsIn m flows) (hF : FireIn m f) : ∀ j : Int, 0 ≤ j → j < (m_spec_l17Arrival m flows f).length → -1 ≤ at' (m_spec_l17Arrival m flows f) j := by
  have hJ := hm.1
  rw [specArr_is hm hf hF]
  by_cases h0 : at' flows f.Airway = 0
  · rw [if_pos h0]
    intro j hj0 hj
    simp at hj
    rw [at_rep hj0 (by omega)]; omega
  · rw [if_neg h0]
    have h1 := (leave_rng hm hf hF h0).2
    have h2 := (smUV (flows := flows) hm hF.1).2
    refine swps_ge _ (J := m.Junctions.toNat) (by simp [smStart, put_len]) (smEs_ok hm hf) fun j hj0 hj => ?_
    simp only [smStart, put_len, List.length_replicate] at hj
    by_cases e : j = smV m flows f.Airway
    · subst e; rw [smStart, put_at ⟨hj0, by simp; omega⟩]; omega
    · rw [smStart, put_at_ne h2.1 hj0 (fun h => e h.symm), at_rep hj0 (by omega)]; omega

end Go.Proofs.Ytahohnhmdlndfaa
