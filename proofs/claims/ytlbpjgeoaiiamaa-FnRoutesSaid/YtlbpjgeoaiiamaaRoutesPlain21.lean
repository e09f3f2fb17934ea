/-
  PLAIN LAWS about the models: no program in sight. Conditions: as each theorem states them.
-/
import Derived.Test.YtlbpjgeoaiiamaaRoutesPlain20
set_option linter.unusedVariables false
set_option linter.unusedSimpArgs false
set_option linter.unusedSectionVars false
set_option linter.unnecessarySimpa false
namespace Go.Proofs.Ytlbpjgeoaiiamaa
open Go Go.RowKit Go.Proofs Go.Proofs.Ytlbpjgeoaiiamaa.E
/-! ## Ways back: each reached place but the start is reached along an edge, to the second -/
section
variable {J : Int} {safe : Int → Int → Bool} {es : List (Int × Int × Int)} {s : Int}
def Prd (J s : Int) (es : List (Int × Int × Int)) (safe : Int → Int → Bool) (a : List Int) : Prop := ∀ v : Int, 0 ≤ v → v < J → v ≠ s → 0 ≤ at' a v → safe v (at' a v) = true ∧ ∃ e ∈ es, e.2.1 = v ∧ 0 ≤ at' a e.1 ∧ at' a e.1 + e.2.2 ≤ at' a v
/-- an edge between two places of their own -/
def EdN (J : Int) (e : Int × Int × Int) : Prop := (0 ≤ e.1 ∧ e.1 < J) ∧ (0 ≤ e.2.1 ∧ e.2.1 < J) ∧ e.1 ≠ e.2.1 ∧ 0 ≤ e.2.2
theorem rlx_prd (hok : ∀ e ∈ es, EdN J e) {a : List Int} (hl : (a.length : Int) = J) {e : Int × Int × Int} (he : e ∈ es) (h : Prd J s es safe a) : Prd J s es safe (rlx safe e a) := by
  rcases rlx_cases (safe := safe) e a with h0 | ⟨h1, h2, h3, h4⟩
  · rw [h0]; exact h
  · rw [h4]
    obtain ⟨hu, hv, hne, hw⟩ := hok e he
    have hat : at' (put' a e.2.1 (at' a e.1 + e.2.2)) e.2.1 = at' a e.1 + e.2.2 := put_at ⟨hv.1, by omega⟩
    intro v hv0 hvJ hvs hr
    by_cases hvv : v = e.2.1
    · subst hvv
      rw [hat]
      refine ⟨h3, e, he, rfl, ?_, ?_⟩
      · rw [put_at_ne hv.1 hu.1 (fun e0 => hne e0.symm)]; exact h1
      · rw [put_at_ne hv.1 hu.1 (fun e0 => hne e0.symm)]; omega
    · rw [put_at_ne hv.1 hv0 (fun e0 => hvv e0.symm)] at hr ⊢
      obtain ⟨g1, e', he', g2, g3, g4⟩ := h v hv0 hvJ hvs hr
      have hu' := (hok e' he').1
      refine ⟨g1, e', he', g2, ?_, ?_⟩
      · by_cases hx : e'.1 = e.2.1
        · rw [hx, hat]; omega
        · rw [put_at_ne hv.1 hu'.1 (fun e0 => hx e0.symm)]; exact g3
      · by_cases hx : e'.1 = e.2.1
        · rw [hx] at g3 g4 ⊢; rw [hat]; omega
        · rw [put_at_ne hv.1 hu'.1 (fun e0 => hx e0.symm)]; exact g4
theorem swp_prd (hok : ∀ e ∈ es, EdN J e) : ∀ (fs : List (Int × Int × Int)) {a : List Int}, (∀ e ∈ fs, e ∈ es) → (a.length : Int) = J → Prd J s es safe a → Prd J s es safe (swp safe fs a)
  | [], _, _, _, h => h
  | e :: fs, a, hf, hl, h => swp_prd hok fs (a := rlx safe e a) (fun e' h' => hf e' (List.mem_cons_of_mem _ h')) (by rw [rlx_len]; exact hl) (rlx_prd hok hl (hf e List.mem_cons_self) h)
theorem swps_prd (hok : ∀ e ∈ es, EdN J e) : ∀ (k : Nat) {a : List Int}, (a.length : Int) = J → Prd J s es safe a → Prd J s es safe (swps safe es k a)
  | 0, _, _, h => h
  | k + 1, a, hl, h => swps_prd hok k (a := swp safe es a) (by rw [swp_len]; exact hl) (swp_prd hok es (fun _ h => h) hl h)
theorem fixd_le (hok : ∀ e ∈ es, EdN J e) {a : List Int} (hl : (a.length : Int) = J) (hf : Fixd safe es a) {e : Int × Int × Int} (he : e ∈ es) (h0 : 0 ≤ at' a e.1) (hs : safe e.2.1 (at' a e.1 + e.2.2) = true) : at' a e.2.1 ≤ at' a e.1 + e.2.2 := by
  obtain ⟨hu, hv, hne, hw⟩ := hok e he
  refine Decidable.byContradiction fun hc => ?_
  have h1 := hf e he
  have hb : ((decide (0 ≤ at' a e.1) && (decide (at' a e.2.1 < 0) || decide (at' a e.1 + e.2.2 < at' a e.2.1))) && safe e.2.1 (at' a e.1 + e.2.2)) = true := by
    simp only [Bool.and_eq_true, Bool.or_eq_true, decide_eq_true_eq]; exact ⟨⟨h0, .inr (by omega)⟩, hs⟩
  simp only [rlx, hb, Bool.cond_true] at h1
  have h2 : at' (put' a e.2.1 (at' a e.1 + e.2.2)) e.2.1 = at' a e.1 + e.2.2 := put_at ⟨hv.1, by omega⟩
  rw [h1] at h2
  omega
/-- at the end the last edge's time is the least of its kind and comes out to the second -/
theorem prd_eq (hok : ∀ e ∈ es, EdN J e) (hmono : ∀ v t t', t' ≤ t → safe v t = true → safe v t' = true) {a : List Int} (hl : (a.length : Int) = J) (hf : Fixd safe es a) (h : Prd J s es safe a) {v : Int} (hv0 : 0 ≤ v) (hvJ : v < J) (hvs : v ≠ s) (hr : 0 ≤ at' a v) :
    ∃ e ∈ es, e.2.1 = v ∧ 0 ≤ at' a e.1 ∧ at' a e.1 + e.2.2 = at' a v ∧ ∀ e' ∈ es, e'.1 = e.1 → e'.2.1 = v → e.2.2 ≤ e'.2.2 := by
  obtain ⟨g1, e, he, g2, g3, g4⟩ := h v hv0 hvJ hvs hr
  have h1 := fixd_le hok hl hf he g3 (by rw [g2]; exact hmono v _ _ g4 g1)
  rw [g2] at h1
  refine ⟨e, he, g2, g3, by omega, fun e' he' h3 h4 => ?_⟩
  refine Decidable.byContradiction fun hc => ?_
  have h5 := fixd_le hok hl hf he' (by rw [h3]; exact g3) (by rw [h4, h3]; exact hmono v _ _ (by omega) g1)
  rw [h4, h3] at h5
  omega
end
theorem cwSafe_mono (arr : List Int) : ∀ v t t', t' ≤ t → cwSafe arr v t = true → cwSafe arr v t' = true := by
  intro v t t' h h1
  simp only [cwSafe, Bool.or_eq_true, decide_eq_true_eq] at h1 ⊢
  omega
theorem walk_pos {J : Int} {a : gAirway} (ha : AirIn J a) {speed : Int} (hs : 10 ≤ speed ∧ speed ≤ 300) : 0 < m_impl_Airway_walkTime a speed := by
  unfold AirIn at ha
  simp only [m_impl_Airway_walkTime, m_impl_divUp]
  rw [wr64 (n := 100 * a.Length) (by omega), wr64 (n := 100 * a.Length + speed) (by omega), wr64 (n := 100 * a.Length + speed - 1) (by omega), Int.tdiv_eq_ediv_of_nonneg (by omega)]
  have h0 : 1 ≤ (100 * a.Length + speed - 1) / speed := by
    rw [Int.le_ediv_iff_mul_le (by omega)]; omega
  have h1 : (100 * a.Length + speed - 1) / speed < 1000001 := Int.ediv_lt_of_lt_mul (by omega) (by
    have : 1000001 * 1 ≤ 1000001 * speed := by omega
    omega)
  rw [wr64 (by omega)]
  omega
theorem cwEs_n {m : gMine} (hm : MineIn m) (blocked : Int) {speed : Int} (hs : 10 ≤ speed ∧ speed ≤ 300) : ∀ e ∈ cwEs m blocked speed, EdN m.Junctions e := by
  intro e he
  obtain ⟨k, hk, he⟩ := List.mem_flatMap.1 he
  rw [List.mem_filter, mem_irange] at hk
  have ha := hm.at (i := k) (by omega)
  have hw := walk_rng ha hs
  unfold AirIn at ha
  simp only [cwE, List.mem_cons, List.not_mem_nil, or_false] at he
  rcases he with rfl | rfl <;> (simp only [EdN, cwW]; omega)
/-- an airway leads from u to v -/
def Leads (m : gMine) (blocked u v k : Int) : Prop := (0 ≤ k ∧ k < m.Airways.length) ∧ k ≠ blocked ∧ (((at' m.Airways k).From = u ∧ (at' m.Airways k).To = v) ∨ ((at' m.Airways k).From = v ∧ (at' m.Airways k).To = u))
theorem mem_cwEs {m : gMine} {blocked speed : Int} {e : Int × Int × Int} : e ∈ cwEs m blocked speed ↔ ∃ k, Leads m blocked e.1 e.2.1 k ∧ e.2.2 = cwW m speed k := by
  obtain ⟨u, v, w⟩ := e
  simp only [cwEs, List.mem_flatMap, List.mem_filter, mem_irange, cwE, List.mem_cons, List.not_mem_nil, or_false, Prod.mk.injEq, Leads]
  constructor
  · rintro ⟨k, ⟨hk, hb⟩, h | h⟩
    · exact ⟨k, ⟨by omega, by simpa using hb, .inl ⟨h.1.symm, h.2.1.symm⟩⟩, h.2.2⟩
    · exact ⟨k, ⟨by omega, by simpa using hb, .inr ⟨h.2.1.symm, h.1.symm⟩⟩, h.2.2⟩
  · rintro ⟨k, ⟨hk, hb, h | h⟩, hw⟩
    · exact ⟨k, ⟨by omega, by simpa using hb⟩, .inl ⟨h.1.symm, h.2.symm, hw⟩⟩
    · exact ⟨k, ⟨by omega, by simpa using hb⟩, .inr ⟨h.2.symm, h.1.symm, hw⟩⟩

end Go.Proofs.Ytlbpjgeoaiiamaa
