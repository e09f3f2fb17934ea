/-
  PLAIN LAWS about the models: no program in sight. Conditions: as each theorem states them.
-/
import Derived.Test.YtibbfdojcdkopaaGreatRefugesPlain7
set_option linter.unusedVariables false
set_option linter.unusedSimpArgs false
set_option linter.unusedSectionVars false
set_option linter.unnecessarySimpa false
namespace Go.Proofs.YtibbfdojcdkopaaGreat
open Go Go.RowKit Go.Proofs Go.Proofs.YtibbfdojcdkopaaGreat.E
/-! ## Walks there and back -/
inductive Way (es : List (Int × Int × Int)) (s : Int) : Int → Int → Prop
  | nil : Way es s s 0
  | snoc {u n : Int} {e : Int × Int × Int} : Way es s u n → e ∈ es → e.1 = u → Way es s e.2.1 (n + e.2.2)
theorem Way.cons {es : List (Int × Int × Int)} {e : Int × Int × Int} (he : e ∈ es) : ∀ {v n : Int}, Way es e.2.1 v n → Way es e.1 v (e.2.2 + n) := by
  intro v n h
  induction h with
  | nil =>
    have := Way.snoc (es := es) (s := e.1) .nil he rfl
    rwa [Int.zero_add, ← Int.add_zero e.2.2] at this
  | snoc h1 h2 h3 ih =>
    have := Way.snoc ih h2 h3
    rwa [Int.add_assoc] at this
theorem Way.rev {es : List (Int × Int × Int)} (hsym : ∀ e ∈ es, (e.2.1, e.1, e.2.2) ∈ es) {s : Int} : ∀ {v n : Int}, Way es s v n → Way es v s n := by
  intro v n h
  induction h with
  | nil => exact .nil
  | @snoc u n e h1 h2 h3 ih =>
    subst h3
    have := Way.cons (e := (e.2.1, e.1, e.2.2)) (hsym e h2) ih
    rwa [Int.add_comm] at this
section
variable {J : Nat} {safe : Int → Int → Bool} {es : List (Int × Int × Int)} {s : Int}
structure WI (J : Nat) (es : List (Int × Int × Int)) (s : Int) (a : List Int) : Prop where
  len : a.length = J
  at0 : at' a s = 0
  way : ∀ v : Int, 0 ≤ v → v < J → at' a v = -1 ∨ (0 ≤ at' a v ∧ Way es s v (at' a v))
theorem rlx_WI (hs : 0 ≤ s ∧ s < J) {a : List Int} (h : WI J es s a) {e : Int × Int × Int} (he : e ∈ es) (hok : EdOk J e) : WI J es s (rlx safe e a) := by
  rcases rlx_cases (safe := safe) e a with h0 | ⟨h1, h2, h3, h4⟩
  · rw [h0]; exact h
  · rw [h4]
    obtain ⟨b1, b2, b3, b4, b5⟩ := hok
    have hl := h.len
    have h00 := h.at0
    have hne : e.2.1 ≠ s := fun e0 => by rw [e0, h00] at h2; omega
    refine ⟨by rw [put_len]; exact hl, by rw [put_at_ne b3 hs.1 hne]; exact h00, fun v v0 v1 => ?_⟩
    by_cases hv : v = e.2.1
    · subst hv
      rw [put_at ⟨b3, by omega⟩]
      have hw := (h.way e.1 b1 b2).resolve_left (by omega)
      exact .inr ⟨by omega, .snoc hw.2 he rfl⟩
    · rw [put_at_ne b3 v0 (fun e0 => hv e0.symm)]; exact h.way v v0 v1
theorem swp_WI (hs : 0 ≤ s ∧ s < J) : ∀ (fs : List (Int × Int × Int)) {a : List Int}, (∀ e ∈ fs, e ∈ es ∧ EdOk J e) → WI J es s a → WI J es s (swp safe fs a)
  | [], _, _, h => h
  | e :: fs, a, hf, h => by
    have he := hf e List.mem_cons_self
    exact swp_WI hs fs (a := rlx safe e a) (fun e' h' => hf e' (List.mem_cons_of_mem _ h')) (rlx_WI hs h he.1 he.2)
theorem swps_WI (hs : 0 ≤ s ∧ s < J) (hok : ∀ e ∈ es, EdOk J e) : ∀ (k : Nat) {a : List Int}, WI J es s a → WI J es s (swps safe es k a)
  | 0, _, h => h
  | k + 1, _, h => swps_WI hs hok k (swp_WI hs es (fun e he => ⟨he, hok e he⟩) h)
theorem way_le (hok : ∀ e ∈ es, EdOk J e) (hsafe : ∀ v t : Int, 0 ≤ v → v < J → safe v t = true) {a : List Int} (h : WI J es s a) (hf : Fixd safe es a) : ∀ {v n : Int}, Way es s v n → 0 ≤ at' a v ∧ at' a v ≤ n := by
  intro v n hw
  induction hw with
  | nil => rw [h.at0]; omega
  | @snoc u n e h1 h2 h3 ih =>
    subst h3
    have hr := self_rel (safe := safe) (F := []) (hok e h2) h.len ih.1
    rw [hf e h2] at hr
    have := hr (hsafe _ _ (hok e h2).2.2.1 (hok e h2).2.2.2.1)
    omega
def wlk (J : Nat) (safe : Int → Int → Bool) (es : List (Int × Int × Int)) (s : Int) : List Int := swps safe es J (put' (List.replicate J (-1)) s 0)
theorem wlk_WI (hs : 0 ≤ s ∧ s < J) (hok : ∀ e ∈ es, EdOk J e) : WI J es s (wlk J safe es s) := by
  refine swps_WI hs hok J ⟨by rw [put_len, List.length_replicate], put_at ⟨hs.1, by rw [List.length_replicate]; exact hs.2⟩, fun v v0 v1 => ?_⟩
  by_cases hv : v = s
  · subst hv
    rw [put_at ⟨hs.1, by rw [List.length_replicate]; exact hs.2⟩]
    exact .inr ⟨by omega, .nil⟩
  · rw [put_at_ne hs.1 v0 (fun e0 => hv e0.symm), at_rep v0 (by omega)]; exact .inl rfl
theorem wlk_fix (hs : 0 ≤ s ∧ s < J) (hok : ∀ e ∈ es, EdOk J e) : Fixd safe es (wlk J safe es s) := by
  refine enough (s := s) (c := 0) hok (by rw [put_len, List.length_replicate]) hs (by omega) (put_at ⟨hs.1, by rw [List.length_replicate]; exact hs.2⟩) fun v v0 v1 hv => ?_
  rw [put_at_ne hs.1 v0 (fun e0 => hv e0.symm), at_rep v0 (by omega)]; omega
theorem wlk_sym (hok : ∀ e ∈ es, EdOk J e) (hsym : ∀ e ∈ es, (e.2.1, e.1, e.2.2) ∈ es) (hsafe : ∀ v t : Int, 0 ≤ v → v < J → safe v t = true) {v : Int} (hs : 0 ≤ s ∧ s < J) (hv : 0 ≤ v ∧ v < J) : at' (wlk J safe es s) v = at' (wlk J safe es v) s := by
  have h1 := wlk_WI (safe := safe) hs hok
  have h2 := wlk_WI (safe := safe) hv hok
  have f1 := wlk_fix (safe := safe) hs hok
  have f2 := wlk_fix (safe := safe) hv hok
  have g1 := h1.way v hv.1 hv.2
  have g2 := h2.way s hs.1 hs.2
  rcases g1 with g1 | g1
  · rcases g2 with g2 | g2
    · rw [g1, g2]
    · have := way_le hok hsafe h1 f1 (g2.2.rev hsym); omega
  · have k1 := way_le hok hsafe h2 f2 (g1.2.rev hsym)
    rcases g2 with g2 | g2
    · omega
    · have k2 := way_le hok hsafe h1 f1 (g2.2.rev hsym); omega
end

end Go.Proofs.YtibbfdojcdkopaaGreat
