/-
  PLAIN LAWS about the models: no program in sight. Conditions: as each theorem states them.
-/
import Derived.Test.YtchjibndocnnhaaCrewsPlain13
set_option linter.unusedVariables false
set_option linter.unusedSimpArgs false
set_option linter.unusedSectionVars false
set_option linter.unnecessarySimpa false
namespace Go.Proofs.Ytchjibndocnnhaa
open Go Go.RowKit Go.Proofs Go.Proofs.Ytchjibndocnnhaa.E
/-! ## Needs are sums; the jobs of a shift -/
def SN (k : Int) : List gJob → Int
  | [] => 0
  | t :: L => (if t.Airway = k then m_impl_Job_need t else 0) + SN k L
theorem SN_app {k : Int} : ∀ {A B : List gJob}, SN k (A ++ B) = SN k A + SN k B
  | [], B => by simp [SN]
  | t :: A, B => by simp only [List.cons_append, SN, SN_app (A := A)]; omega
def JobOk (m : gMine) (t : gJob) : Prop := (0 ≤ t.Airway ∧ t.Airway < m.Airways.length) ∧ 1 ≤ t.People ∧ t.People ≤ 40 ∧ 0 ≤ t.Power ∧ t.Power ≤ 500
theorem need_rng {m : gMine} {t : gJob} (h : JobOk m t) : 0 ≤ m_impl_Job_need t ∧ m_impl_Job_need t ≤ 3400 := by
  unfold JobOk at h
  simp only [m_impl_Job_need]
  rw [wr64 (n := 10 * t.People) (by omega), wr64 (n := 6 * t.Power) (by omega), wr64 (by omega)]; omega
theorem SN_rng {m : gMine} {k : Int} : ∀ {L : List gJob}, (∀ t ∈ L, JobOk m t) → 0 ≤ SN k L ∧ SN k L ≤ 3400 * L.length
  | [], _ => by simp [SN]
  | t :: L, h => by
    have h1 := need_rng (h t List.mem_cons_self)
    have h2 := SN_rng (k := k) (L := L) (fun x hx => h x (List.mem_cons_of_mem _ hx))
    simp only [SN, List.length_cons]
    split <;> omega
theorem needs_at {m : gMine} {L : List gJob} (h : ∀ t ∈ L, JobOk m t) (hl : L.length ≤ 1000) : ∀ k : Int, 0 ≤ k → k < m.Airways.length → at' (m_impl_Mine_airNeeds m L) k = SN k L := by
  simp only [m_impl_Mine_airNeeds]
  refine LOOP_post (fun (x : List Int × Int) => (x.1.length = m.Airways.length ∧ 0 ≤ x.2 ∧ x.2 ≤ L.length) ∧ ∀ k : Int, 0 ≤ k → k < m.Airways.length → at' x.1 k = SN k (L.take x.2.toNat)) (fun x => ((L.length : Int) - x.2).toNat) (fun _ (r : List Int) => ∀ k : Int, 0 ≤ k → k < m.Airways.length → at' r k = SN k L) (fun rec x hI ih => ?_) _ _ ⟨⟨by simp, by simp, by simp⟩, fun k h0 h1 => ?_⟩ (by simp)
  · obtain ⟨xs, i⟩ := x
    obtain ⟨⟨g1, g2, g3⟩, hA⟩ := hI
    simp only at g1 g2 g3 hA
    simp only [m_impl_Mine_airNeeds_b1]
    by_cases hi : i < (L.length : Int)
    · simp only [hi, decide_true, Bool.cond_true]
      have hlt : i.toNat < L.length := by omega
      have hat : at' L i = L[i.toNat] := by
        have := at_lt (xs := L) (j := i.toNat) hlt
        rwa [Int.toNat_of_nonneg g2] at this
      have hok := h _ (List.getElem_mem hlt)
      rw [hat]
      have hn := need_rng hok
      have htk : ∀ x ∈ L.take i.toNat, JobOk m x := fun x hx => h x (List.mem_of_mem_take hx)
      have hS := SN_rng (k := (L[i.toNat]).Airway) htk
      have hlen : (L.take i.toNat).length ≤ 1000 := by rw [List.length_take]; omega
      have ha := hA _ hok.1.1 hok.1.2
      refine ih _ ⟨⟨by simp only [put_len]; exact g1, by simp only; omega, by simp only; omega⟩, fun k h0 h1 => ?_⟩ (by simp only; omega)
      simp only
      rw [show (i + 1).toNat = i.toNat + 1 by omega, List.take_succ_eq_append_getElem hlt, SN_app]
      by_cases e : k = (L[i.toNat]).Airway
      · subst e
        rw [put_at ⟨h0, by omega⟩, ha, wr64 (by omega)]
        simp [SN]
      · rw [put_at_ne hok.1.1 h0 (fun h => e h.symm), hA k h0 h1]
        have : ¬ (L[i.toNat]).Airway = k := fun h => e h.symm
        simp [SN, this]
    · have he : i = L.length := by omega
      subst he
      simp only [hi, decide_false, Bool.cond_false]
      intro k h0 h1
      rw [hA k h0 h1, Int.toNat_natCast, List.take_length]
  · simp only [at', List.getD_eq_getElem?_getD]
    rw [List.getElem?_replicate]
    split <;> simp [SN]
theorem fit_iff {m : gMine} {flows : List Int} {L : List gJob} (h : ∀ t ∈ L, JobOk m t) (hl : L.length ≤ 1000) : m_impl_Mine_fitJobs m flows L = true ↔ ∀ k : Nat, k < m.Airways.length → ¬ m_impl_abs (at' flows k) < SN k L := by
  have h2 := LOOP_all (b := m_impl_Mine_fitJobs_b1 m flows L) (n := (m_impl_Mine_airNeeds m L).length) (fun rec k i _ => rfl) (k := fun _ => true) ((((m_impl_Mine_airNeeds m L).length : Int) - 0 : Int).toNat + 1) 0 (by omega) (by omega) (by omega)
  simp only [m_impl_Mine_fitJobs]
  rw [h2, needs_len]
  simp only [decide_eq_false_iff_not, and_true]
  constructor
  · intro h3 k hk
    have := h3 k (by omega) hk
    rwa [needs_at h hl k (by omega) (by omega)] at this
  · intro h3 k _ hk
    rw [needs_at h hl k (by omega) (by omega)]
    exact h3 k hk
def idxS (shifts : List Int) (s : Int) : List Int := ((irange 0 shifts.length).filter (fun i => at' shifts i == s)).map (fun i => i)
theorem idxS_rng {shifts : List Int} {s : Int} : ∀ y ∈ idxS shifts s, 0 ≤ y ∧ y < shifts.length := fun y hy => by
  simp only [idxS, List.mem_map, List.mem_filter] at hy
  obtain ⟨a, ⟨h1, _⟩, rfl⟩ := hy
  rw [mem_irange] at h1; omega
theorem idxS_len {shifts : List Int} {s : Int} : (idxS shifts s).length ≤ shifts.length := by
  simp only [idxS, List.length_map]
  exact Nat.le_trans (List.length_filter_le _ _) (by rw [irange_len]; exact Nat.le_refl _)
theorem at_map' {α β : Type} [Inhabited α] [Inhabited β] {xs : List α} {f : α → β} {i : Int} (h : 0 ≤ i ∧ i < xs.length) : at' (xs.map f) i = f (at' xs i) := by
  have hlt : i.toNat < xs.length := by omega
  simp only [at', List.getD_eq_getElem?_getD, List.getElem?_map, List.getElem?_eq_getElem hlt]; rfl
theorem needs_map (m : gMine) (list : List gJob) (some_ : List Int) : m_spec_l23Needs m list some_ = m_impl_Mine_airNeeds m (some_.map (at' list)) := by
  refine LOOP_sim (fun x y => x = y ∧ 0 ≤ x.2) (fun (x : List Int × Int) => ((some_.length : Int) - x.2).toNat) (fun x => ((some_.length : Int) - x.2).toNat) ?_ _ _ _ _ ⟨rfl, by dsimp only; omega⟩ (by dsimp only; omega) (by rw [List.length_map]; dsimp only; omega)
  rintro rec1 rec1' ⟨xs, i⟩ _ ⟨rfl, hi0⟩ hrec
  dsimp only at hi0 hrec
  simp only [m_spec_l23Needs_b1, m_impl_Mine_airNeeds_b1, List.length_map]
  by_cases hi : i < (some_.length : Int)
  · simp only [hi, decide_true, Bool.cond_true]
    rw [at_map' ⟨hi0, hi⟩]
    exact hrec _ _ ⟨rfl, by dsimp only; omega⟩ (by dsimp only; omega) (by dsimp only; omega)
  · simp only [hi, decide_false, Bool.cond_false]
theorem fits_map {m : gMine} {flows : List Int} (hf : FlowsIn m flows) (list : List gJob) (some_ : List Int) : m_spec_l23Fits m flows list some_ = m_impl_Mine_fitJobs m flows (some_.map (at' list)) := by
  have hl := hf.1
  refine LOOP_sim (fun x y => x = y) (fun (x : Int) => ((m.Airways.length : Int) - x).toNat) (fun x => ((m.Airways.length : Int) - x).toNat) ?_ _ _ _ _ rfl (by omega) (by rw [needs_len]; omega)
  rintro rec1 rec1' i _ rfl hrec
  simp only [m_spec_l23Fits_b1, m_impl_Mine_fitJobs_b1, needs_map, needs_len, abs_eq, hl]
  by_cases hi : i < (m.Airways.length : Int)
  · simp only [hi, decide_true, Bool.cond_true]
    cases decide (m_spec_l03Abs (at' flows i) < at' (m_impl_Mine_airNeeds m (some_.map (at' list))) i)
    · exact hrec _ _ rfl (by omega) (by omega)
    · rfl
  · simp only [hi, decide_false, Bool.cond_false]
theorem impl_jobs {ρ : Type} {list : List gJob} {shifts : List Int} {s : Int} {acc : List gJob} {b : (List gJob × Int → ρ) → (List gJob × Int → ρ) → List gJob × Int → ρ} {k : List gJob × Int → ρ}
    (hb : ∀ rec x, b rec k x = bif decide (x.2 < (shifts.length : Int)) then bif (at' shifts x.2) == s then rec (x.1 ++ ([at' list x.2] : List gJob), x.2 + 1) else rec (x.1, x.2 + 1) else k (x.1, x.2)) :
    LOOP b k (((shifts.length : Int) - 0 : Int).toNat + 1) (acc, 0) = k (acc ++ (idxS shifts s).map (at' list), (shifts.length : Int)) := by
  have h := LOOP_fori (b := b) (k := k) (n := (shifts.length : Int)) (fun i xs => bif (at' shifts i) == s then xs ++ [at' list i] else xs) (fun rec xs i h0 h1 => by
    rw [hb]; simp only [h1, decide_true, Bool.cond_true]; cases (at' shifts i) == s <;> rfl) (fun rec xs => by rw [hb]; simp) (((shifts.length : Int) - 0 : Int).toNat + 1) 0 acc (by omega) (by omega) (by omega)
  rw [h, show ((shifts.length : Int) - 0).toNat = shifts.length by omega, fori_collect (f := at' list)]
  rw [idxS, List.map_map]; rfl

end Go.Proofs.Ytchjibndocnnhaa
