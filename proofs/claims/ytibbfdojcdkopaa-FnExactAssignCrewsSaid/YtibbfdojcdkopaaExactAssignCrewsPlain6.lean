/-
  PLAIN LAWS about the models: no program in sight. Conditions: as each theorem states them.
-/
import Derived.Test.YtibbfdojcdkopaaExactAssignCrewsPlain5
set_option linter.unusedVariables false
set_option linter.unusedSimpArgs false
set_option linter.unusedSectionVars false
set_option linter.unnecessarySimpa false
namespace Go.Proofs.Ytibbfdojcdkopaa
open Go Go.RowKit Go.Proofs Go.Proofs.Ytibbfdojcdkopaa.E
/-! ## Rounds with a mark whether something has changed -/
section
variable {J : Int} {safe : Int → Int → Bool}
def rlxW (safe : Int → Int → Bool) (e : Int × Int × Int) (x : List Int × Bool) : List Int × Bool :=
  bif (decide (0 ≤ at' x.1 e.1) && (decide (at' x.1 e.2.1 < 0) || decide (IntKind.wrap .i64 (at' x.1 e.1 + e.2.2) < at' x.1 e.2.1))) && safe e.2.1 (IntKind.wrap .i64 (at' x.1 e.1 + e.2.2)) then (put' x.1 e.2.1 (IntKind.wrap .i64 (at' x.1 e.1 + e.2.2)), true) else x
def swpW (safe : Int → Int → Bool) (es : List (Int × Int × Int)) (x : List Int × Bool) : List Int × Bool := es.foldl (fun x e => rlxW safe e x) x
/-- an edge between two of J places, with a time that is not great -/
def EdW (J : Int) (e : Int × Int × Int) : Prop := (0 ≤ e.1 ∧ e.1 < J) ∧ (0 ≤ e.2.1 ∧ e.2.1 < J) ∧ 0 ≤ e.2.2 ∧ e.2.2 ≤ 1000000000
theorem rlxW_SmI (hJ : J ≤ 16) {e : Int × Int × Int} (he : EdW J e) {a0 : List Int} {x : List Int × Bool} (h : SmI J a0 x.1 x.2) :
    (rlxW safe e x).1 = rlx safe e x.1 ∧ SmI J a0 (rlxW safe e x).1 (rlxW safe e x).2 ∧ ((rlxW safe e x).2 = false → x.2 = false ∧ rlx safe e x.1 = x.1) := by
  obtain ⟨hu, hv, hw⟩ := he
  by_cases h0 : 0 ≤ at' x.1 e.1
  · have hwr : IntKind.wrap .i64 (at' x.1 e.1 + e.2.2) = at' x.1 e.1 + e.2.2 := by have := h.1.hi hJ hu.1 hu.2; exact wr64 (by omega)
    simp only [rlxW, rlx, hwr]
    by_cases hc : (at' x.1 e.2.1 < 0 ∨ at' x.1 e.1 + e.2.2 < at' x.1 e.2.1) ∧ safe e.2.1 (at' x.1 e.1 + e.2.2) = true
    · have hb : ((decide (0 ≤ at' x.1 e.1) && (decide (at' x.1 e.2.1 < 0) || decide (at' x.1 e.1 + e.2.2 < at' x.1 e.2.1))) && safe e.2.1 (at' x.1 e.1 + e.2.2)) = true := by
        simp only [Bool.and_eq_true, Bool.or_eq_true, decide_eq_true_eq]; exact ⟨⟨h0, hc.1⟩, hc.2⟩
      rw [hb]
      exact ⟨rfl, h.put hJ hu hv h0 hw hc.1, fun h => by simp at h⟩
    · have hb : ((decide (0 ≤ at' x.1 e.1) && (decide (at' x.1 e.2.1 < 0) || decide (at' x.1 e.1 + e.2.2 < at' x.1 e.2.1))) && safe e.2.1 (at' x.1 e.1 + e.2.2)) = false := by
        rw [← Bool.not_eq_true]
        simp only [Bool.and_eq_true, Bool.or_eq_true, decide_eq_true_eq]
        rintro ⟨⟨_, h1⟩, h2⟩; exact hc ⟨h1, h2⟩
      rw [hb]
      exact ⟨rfl, h, fun h => ⟨h, rfl⟩⟩
  · have hb : decide (0 ≤ at' x.1 e.1) = false := by simpa using h0
    simp only [rlxW, rlx, hb, Bool.false_and, Bool.cond_false]
    exact ⟨trivial, h, fun h => ⟨h, trivial⟩⟩
theorem swpW_SmI (hJ : J ≤ 16) : ∀ {es : List (Int × Int × Int)} {a0 : List Int} {x : List Int × Bool}, (∀ e ∈ es, EdW J e) → SmI J a0 x.1 x.2 →
    (swpW safe es x).1 = swp safe es x.1 ∧ SmI J a0 (swpW safe es x).1 (swpW safe es x).2 ∧ ((swpW safe es x).2 = false → x.2 = false ∧ Fixd safe es x.1)
  | [], _, x, _, h => ⟨rfl, h, fun hf => ⟨hf, fun e he => by simp at he⟩⟩
  | e :: es, a0, x, hok, h => by
    obtain ⟨h1, h2, h3⟩ := rlxW_SmI (safe := safe) hJ (hok e List.mem_cons_self) h
    obtain ⟨h4, h5, h6⟩ := swpW_SmI hJ (es := es) (x := rlxW safe e x) (fun e' h' => hok e' (List.mem_cons_of_mem _ h')) h2
    refine ⟨?_, h5, fun hf => ?_⟩
    · show (swpW safe es (rlxW safe e x)).1 = swp safe es (rlx safe e x.1)
      rw [h4, h1]
    · obtain ⟨h7, h8⟩ := h6 hf
      obtain ⟨h9, h10⟩ := h3 h7
      rw [h1, h10] at h8
      refine ⟨h9, fun e' he' => ?_⟩
      rcases List.mem_cons.1 he' with e0 | he'
      · subst e0; exact h10
      · exact h8 e' he'
/-- round and round till nothing changes -/
theorem LOOP_fix {ρ : Type} {b : (List Int × Bool → ρ) → (List Int × Bool → ρ) → List Int × Bool → ρ} {k : List Int × Bool → ρ} {es : List (Int × Int × Int)} {n : Nat} {a0 : List Int} (hJ : J ≤ 16) (hok : ∀ e ∈ es, EdW J e) (hS : SmB J a0) (hfix : Fixd safe es (swps safe es n a0))
    (hb : ∀ rec a, SmB J a → b rec k (a, true) = rec (swpW safe es (a, false))) (hb0 : ∀ rec a, b rec k (a, false) = k (a, false)) : LOOP b k 300000000000 (a0, true) = k (swps safe es n a0, false) := by
  have hpot := hS.pot hJ
  refine LOOP_is (fun (x : List Int × Bool) => SmB J x.1 ∧ (∃ r, x.1 = swps safe es r a0) ∧ (x.2 = false → Fixd safe es x.1)) (fun x => pot x.1 + (bif x.2 then 1 else 0)) (fun _ => k (swps safe es n a0, false)) ?_ (x := (a0, true)) ⟨hS, ⟨0, rfl⟩, fun h => by simp at h⟩ (by simp only [Bool.cond_true]; omega)
  rintro rec ⟨a, more⟩ ⟨ha, ⟨r, hr⟩, hx⟩ ih
  dsimp only at ha hr hx ih
  cases more with
  | false =>
    rw [hb0]
    have := hx rfl
    rw [hr] at this ⊢
    rw [fix_same this hfix]
  | true =>
    rw [hb _ _ ha]
    obtain ⟨g1, g2, g3⟩ := swpW_SmI (safe := safe) hJ (x := (a, false)) hok (SmI.refl ha)
    refine ih _ ⟨g2.1, ⟨r + 1, ?_⟩, fun hfl => ?_⟩ (g2.mu rfl)
    · rw [g1, hr, swps_add]; rfl
    · have hfx := (g3 hfl).2
      rw [g1, fix_swp hfx]; exact hfx
theorem swp_SmB (hJ : J ≤ 16) {es : List (Int × Int × Int)} {a : List Int} (hok : ∀ e ∈ es, EdW J e) (h : SmB J a) : SmB J (swp safe es a) := by
  obtain ⟨g1, g2, _⟩ := swpW_SmI (safe := safe) hJ (x := (a, false)) hok (SmI.refl h)
  rw [← g1]; exact g2.1
theorem swps_SmBw (hJ : J ≤ 16) {es : List (Int × Int × Int)} (hok : ∀ e ∈ es, EdW J e) : ∀ (k : Nat) {a : List Int}, SmB J a → SmB J (swps safe es k a)
  | 0, _, h => h
  | k + 1, _, h => swps_SmBw hJ hok k (swp_SmB hJ hok h)
theorem fori_swpsW {es : List (Int × Int × Int)} : ∀ (n : Nat) (i : Int) (a : List Int), fori (fun _ a => swp safe es a) n i a = swps safe es n a
  | 0, _, _ => rfl
  | n + 1, i, a => fori_swpsW n (i + 1) _
theorem EdW.ok {e : Int × Int × Int} (h : EdW J e) : EdOk J.toNat e := by
  unfold EdW at h; unfold EdOk; omega
end
theorem rep_append : ∀ (n : Nat) (i : Int), fori (fun _ xs => xs ++ [(-1 : Int)]) n i [] = List.replicate n (-1) := fun n i => by
  rw [fori_map (f := fun _ => (-1 : Int)), List.nil_append]
  apply List.ext_getElem?
  intro j
  by_cases hj : j < n
  · rw [List.getElem?_map, irange_get hj, List.getElem?_replicate, if_pos hj]; rfl
  · rw [List.getElem?_eq_none (by simp [irange_len]; omega), List.getElem?_eq_none (by simp; omega)]
theorem LOOP_foriF2 {ρ σ : Type} {n : Int} {b : (Int × σ → ρ) → (Int × σ → ρ) → Int × σ → ρ} {k : Int × σ → ρ} (I : Int → σ → Prop) (st : Int → σ → σ) (hb : ∀ rec s i, 0 ≤ i → i < n → I i s → b rec k (i, s) = rec (i + 1, st i s)) (hI : ∀ s i, 0 ≤ i → i < n → I i s → I (i + 1) (st i s)) (he : ∀ rec s, I n s → b rec k (n, s) = k (n, s)) :
    ∀ (f : Nat) (i : Int) (s : σ), 0 ≤ i → i ≤ n → (n - i).toNat < f → I i s → LOOP b k f (i, s) = k (n, fori st (n - i).toNat i s)
  | 0, _, _, _, _, h, _ => by omega
  | f + 1, i, s, h0, h1, h2, hi => by
    simp only [LOOP]
    by_cases h : i < n
    · rw [hb _ _ _ h0 h hi, LOOP_foriF2 I st hb hI he f (i + 1) _ (by omega) (by omega) (by omega) (hI _ _ h0 h hi)]
      rw [show (n - i).toNat = (n - (i + 1)).toNat + 1 by omega]; rfl
    · have : i = n := by omega
      subst this
      rw [he _ _ hi]; simp [fori]

end Go.Proofs.Ytibbfdojcdkopaa
