/-
  PLAIN LAWS about the models: no program in sight. Conditions: as each theorem states them.
-/
import Derived.Test.YtlbpjgeoaiiamaaRoutesPlain21
set_option linter.unusedVariables false
set_option linter.unusedSimpArgs false
set_option linter.unusedSectionVars false
set_option linter.unnecessarySimpa false
namespace Go.Proofs.Ytlbpjgeoaiiamaa
open Go Go.RowKit Go.Proofs Go.Proofs.Ytlbpjgeoaiiamaa.E
/-! ## Who starts earlier comes no later -/
section
variable {J : Int} {safe : Int → Int → Bool} {es : List (Int × Int × Int)}
def Sooner (J : Int) (a b : List Int) : Prop := ∀ v : Int, 0 ≤ v → v < J → 0 ≤ at' b v → 0 ≤ at' a v ∧ at' a v ≤ at' b v
theorem rlx_dec {a : List Int} (hl : (a.length : Int) = J) {e : Int × Int × Int} (he : EdN J e) {v : Int} (hv0 : 0 ≤ v) (hr : 0 ≤ at' a v) : 0 ≤ at' (rlx safe e a) v ∧ at' (rlx safe e a) v ≤ at' a v := by
  obtain ⟨hu, hv, hne, hw⟩ := he
  rcases rlx_cases (safe := safe) e a with h0 | ⟨h1, h2, h3, h4⟩
  · rw [h0]; omega
  · rw [h4]
    by_cases hvv : v = e.2.1
    · subst hvv; rw [put_at ⟨hv.1, by omega⟩]; omega
    · rw [put_at_ne hv.1 hv0 (fun e0 => hvv e0.symm)]; omega
theorem rlx_at {a : List Int} (hl : (a.length : Int) = J) {e : Int × Int × Int} (he : EdN J e) (h0 : 0 ≤ at' a e.1) (hs : safe e.2.1 (at' a e.1 + e.2.2) = true) : 0 ≤ at' (rlx safe e a) e.2.1 ∧ at' (rlx safe e a) e.2.1 ≤ at' a e.1 + e.2.2 := by
  obtain ⟨hu, hv, hne, hw⟩ := he
  by_cases hc : at' a e.2.1 < 0 ∨ at' a e.1 + e.2.2 < at' a e.2.1
  · have hb : ((decide (0 ≤ at' a e.1) && (decide (at' a e.2.1 < 0) || decide (at' a e.1 + e.2.2 < at' a e.2.1))) && safe e.2.1 (at' a e.1 + e.2.2)) = true := by
      simp only [Bool.and_eq_true, Bool.or_eq_true, decide_eq_true_eq]; exact ⟨⟨h0, hc⟩, hs⟩
    simp only [rlx, hb, Bool.cond_true]
    rw [put_at ⟨hv.1, by omega⟩]; omega
  · have := rlx_dec (safe := safe) hl (e := e) ⟨hu, hv, hne, hw⟩ hv.1 (by omega)
    omega
theorem rlx_sooner (hmono : ∀ v t t', t' ≤ t → safe v t = true → safe v t' = true) {a b : List Int} (hla : (a.length : Int) = J) (hlb : (b.length : Int) = J) {e : Int × Int × Int} (he : EdN J e) (h : Sooner J a b) : Sooner J (rlx safe e a) (rlx safe e b) := by
  obtain ⟨hu, hv, hne, hw⟩ := he
  intro v hv0 hvJ hr
  rcases rlx_cases (safe := safe) e b with h0 | ⟨h1, h2, h3, h4⟩
  · rw [h0] at hr ⊢
    have h5 := h v hv0 hvJ hr
    have h6 := rlx_dec (safe := safe) hla (e := e) ⟨hu, hv, hne, hw⟩ hv0 h5.1
    omega
  · rw [h4] at hr ⊢
    by_cases hvv : v = e.2.1
    · subst hvv
      rw [put_at ⟨hv.1, by omega⟩]
      have h5 := h e.1 hu.1 hu.2 h1
      have h6 := rlx_at (safe := safe) hla (e := e) ⟨hu, hv, hne, hw⟩ h5.1 (hmono _ _ _ (by omega) h3)
      omega
    · rw [put_at_ne hv.1 hv0 (fun e0 => hvv e0.symm)] at hr ⊢
      have h5 := h v hv0 hvJ hr
      have h6 := rlx_dec (safe := safe) hla (e := e) ⟨hu, hv, hne, hw⟩ hv0 h5.1
      omega
theorem swp_sooner (hmono : ∀ v t t', t' ≤ t → safe v t = true → safe v t' = true) : ∀ (fs : List (Int × Int × Int)) {a b : List Int}, (∀ e ∈ fs, EdN J e) → (a.length : Int) = J → (b.length : Int) = J → Sooner J a b → Sooner J (swp safe fs a) (swp safe fs b)
  | [], _, _, _, _, _, h => h
  | e :: fs, a, b, hf, ha, hb, h => swp_sooner hmono fs (a := rlx safe e a) (b := rlx safe e b) (fun e' h' => hf e' (List.mem_cons_of_mem _ h')) (by rw [rlx_len]; exact ha) (by rw [rlx_len]; exact hb) (rlx_sooner hmono ha hb (hf e List.mem_cons_self) h)
theorem swps_sooner (hmono : ∀ v t t', t' ≤ t → safe v t = true → safe v t' = true) (hok : ∀ e ∈ es, EdN J e) : ∀ (k : Nat) {a b : List Int}, (a.length : Int) = J → (b.length : Int) = J → Sooner J a b → Sooner J (swps safe es k a) (swps safe es k b)
  | 0, _, _, _, _, h => h
  | k + 1, a, b, ha, hb, h => swps_sooner hmono hok k (a := swp safe es a) (b := swp safe es b) (by rw [swp_len]; exact ha) (by rw [swp_len]; exact hb) (swp_sooner hmono es hok ha hb h)
end
section
variable {m : gMine} {arr : List Int} {blocked : Int} {c : gCrew}
theorem times_sooner (hm : MineIn m) (hc : CrewIn m c) {t t' : Int} (h0 : 0 ≤ t) (h1 : t ≤ t') (h2 : t' ≤ 36000) : Sooner m.Junctions (m_spec_l19Times m arr blocked c t) (m_spec_l19Times m arr blocked c t') := by
  have hJ := hm.1
  rw [specTimes_is (arr := arr) (blocked := blocked) hm hc (start := t) (by omega), specTimes_is (arr := arr) (blocked := blocked) hm hc (start := t') (by omega)]
  cases hs : cwSafe arr c.Junction t' with
  | false =>
    intro v hv0 hvJ hr
    simp only [Bool.not_false, Bool.cond_true] at hr
    rw [at_rep hv0 (by omega)] at hr; omega
  | true =>
    rw [cwSafe_mono arr c.Junction t' t h1 hs]
    simp only [Bool.not_true, Bool.cond_false]
    have hlen : ∀ x, ((cwStart m c x).length : Int) = m.Junctions := fun x => by rw [cwStart, put_len, List.length_replicate]; omega
    refine swps_sooner (cwSafe_mono arr) (cwEs_n hm blocked hc.2) _ (hlen t) (hlen t') fun v hv0 hvJ hr => ?_
    have hat : ∀ x, at' (cwStart m c x) c.Junction = x := fun x => put_at ⟨hc.1.1, by rw [List.length_replicate]; have := hc.1.2; omega⟩
    by_cases hv : v = c.Junction
    · subst hv; rw [hat, hat]; omega
    · rw [cwStart, put_at_ne hc.1.1 hv0 (fun e => hv e.symm), at_rep hv0 (by omega)] at hr; omega
theorem exit_some {times exits : List Int} {J : Int} (h : ∀ y ∈ exits, 0 ≤ y ∧ y < J) : 0 ≤ m_spec_l19Exit times exits ↔ ∃ y ∈ exits, 0 ≤ at' times y := by
  constructor
  · intro hn
    have : m_spec_l19Exit times exits = -1 ∨ (m_spec_l19Exit times exits ∈ exits ∧ 0 ≤ at' times (m_spec_l19Exit times exits)) := by
      simp only [m_spec_l19Exit]
      refine LOOP_post (fun (x : Int × Int) => (0 ≤ x.2 ∧ x.2 ≤ exits.length) ∧ (x.1 = -1 ∨ (x.1 ∈ exits ∧ 0 ≤ at' times x.1))) (fun x => ((exits.length : Int) - x.2).toNat) (fun _ (r : Int) => r = -1 ∨ (r ∈ exits ∧ 0 ≤ at' times r)) ?_ _ _ ⟨by dsimp only; omega, .inl rfl⟩ (by dsimp only; omega)
      rintro rec ⟨a, i⟩ ⟨hr, hI⟩ ih
      dsimp only at hr hI ih ⊢
      simp only [m_spec_l19Exit_b1]
      by_cases hi : i < exits.length
      · simp only [hi, decide_true, Bool.cond_true]
        cases hc : (decide (0 ≤ (at' times (at' exits i)))) && ((decide (a < 0)) || (decide ((at' times (at' exits i)) < (at' times a)))) with
        | true =>
          simp only [Bool.and_eq_true, decide_eq_true_eq] at hc
          have hmem : at' exits i ∈ exits := at_all (Q := fun y => y ∈ exits) (fun y hy => hy) ⟨hr.1, hi⟩
          exact ih _ ⟨by dsimp only; omega, .inr ⟨hmem, hc.1⟩⟩ (by dsimp only; omega)
        | false => exact ih _ ⟨by dsimp only; omega, hI⟩ (by dsimp only; omega)
      · simp only [hi, decide_false, Bool.cond_false]; exact hI
    rcases this with h1 | h1
    · omega
    · exact ⟨_, h1⟩
  · rintro ⟨y, hy, hr⟩
    simp only [m_spec_l19Exit]
    have key : ∀ q : Nat, q < exits.length → 0 ≤ at' times (at' exits q) → 0 ≤ LOOP (m_spec_l19Exit_b1 times exits) (fun (x1 : Int × Int) => x1.1) (((exits.length : Int) - 0 : Int).toNat + 1) ((-1), 0) := by
      intro q hq hqr
      refine LOOP_post (fun (x : Int × Int) => (0 ≤ x.2 ∧ x.2 ≤ exits.length) ∧ (0 ≤ x.1 ∨ (x.1 = -1 ∧ x.2 ≤ q))) (fun x => ((exits.length : Int) - x.2).toNat) (fun _ (r : Int) => 0 ≤ r) ?_ _ _ ⟨by dsimp only; omega, .inr ⟨rfl, by dsimp only; omega⟩⟩ (by dsimp only; omega)
      rintro rec ⟨a, i⟩ ⟨hr2, hI⟩ ih
      dsimp only at hr2 hI ih ⊢
      simp only [m_spec_l19Exit_b1]
      by_cases hi : i < exits.length
      · simp only [hi, decide_true, Bool.cond_true]
        cases hc : (decide (0 ≤ (at' times (at' exits i)))) && ((decide (a < 0)) || (decide ((at' times (at' exits i)) < (at' times a)))) with
        | true => exact ih _ ⟨by dsimp only; omega, .inl (at_all h ⟨hr2.1, hi⟩).1⟩ (by dsimp only; omega)
        | false =>
          refine ih _ ⟨by dsimp only; omega, ?_⟩ (by dsimp only; omega)
          rcases hI with h1 | ⟨h1, h2⟩
          · exact .inl h1
          · refine .inr ⟨h1, ?_⟩
            dsimp only
            have hne : i ≠ q := by
              rintro rfl
              have h3 : a < 0 := by omega
              simp [hqr, h3] at hc
            omega
      · simp only [hi, decide_false, Bool.cond_false]; omega
    obtain ⟨q, hq, e⟩ := List.getElem_of_mem hy
    exact key q hq (by rw [show at' exits (q : Int) = exits[q] by simp [at', hq], e]; exact hr)
/-- who gets out starting later gets out starting earlier -/
theorem out_sooner (hm : MineIn m) (hc : CrewIn m c) {exits : List Int} (he : ∀ y ∈ exits, 0 ≤ y ∧ y < m.Junctions) {t t' : Int} (h0 : 0 ≤ t) (h1 : t ≤ t') (h2 : t' ≤ 36000) (h : 0 ≤ m_spec_l19Exit (m_spec_l19Times m arr blocked c t') exits) : 0 ≤ m_spec_l19Exit (m_spec_l19Times m arr blocked c t) exits := by
  obtain ⟨y, hy, hr⟩ := (exit_some he).1 h
  exact (exit_some he).2 ⟨y, hy, (times_sooner (arr := arr) (blocked := blocked) hm hc h0 h1 h2 y (he y hy).1 (he y hy).2 hr).1⟩
end

end Go.Proofs.Ytlbpjgeoaiiamaa
