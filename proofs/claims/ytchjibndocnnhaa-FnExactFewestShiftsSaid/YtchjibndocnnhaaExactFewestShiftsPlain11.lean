/-
  PLAIN LAWS about the models: no program in sight. Conditions: as each theorem states them.
-/
import Derived.Test.YtchjibndocnnhaaExactFewestShiftsPlain10
set_option linter.unusedVariables false
set_option linter.unusedSimpArgs false
set_option linter.unusedSectionVars false
set_option linter.unnecessarySimpa false
namespace Go.Proofs.Ytchjibndocnnhaa
open Go Go.RowKit Go.Proofs Go.Proofs.Ytchjibndocnnhaa.E
/-! ## FewestShifts: rounds of the reference -/
def FitTo (m : gMine) (flows : List Int) (list : List gJob) (k : Int) : Prop := ∀ i : Int, 0 ≤ i → i < k → m_impl_Mine_fitJobs m flows ([at' list i] : List gJob) = true
theorem FitTo.nil {m : gMine} {flows : List Int} {list : List gJob} : FitTo m flows list 0 := fun i h0 h1 => by omega
theorem FitTo.add {m : gMine} {flows : List Int} {list : List gJob} {k : Int} (hf : FlowsIn m flows) (h : FitTo m flows list k) (hk : m_spec_l23Fits m flows list ([k] : List Int) = true) : FitTo m flows list (k + 1) := fun i h0 h1 => by
  by_cases e : i = k
  · subst e; rw [← single_iff hf]; exact hk
  · exact h i h0 (by omega)
theorem place_round {m : gMine} {flows : List Int} {list : List gJob} {nd n B k : Int} (hf : FlowsIn m flows) (hj : JobsIn m list) (hn : 0 ≤ nd ∧ nd ≤ B) (hB : B ≤ 20000) (hs : FitTo m flows list k) (hk : 0 ≤ n ∧ n ≤ nd + 1 ∧ (list.length : Int) ≤ k) (hq : (m_spec_l23Search_place (gl23Search.mk m flows list [] [] [] n nd B)).1 = false) :
    nd ≤ (m_spec_l23Search_place (gl23Search.mk m flows list [] [] [] n nd B)).2.nodes ∧ (m_spec_l23Search_place (gl23Search.mk m flows list [] [] [] n nd B)).2.nodes ≤ B ∧ (1 ≤ n → nd < (m_spec_l23Search_place (gl23Search.mk m flows list [] [] [] n nd B)).2.nodes) := by
  have hrel := place_rel (((list.length : Int) - (([] : List Int).length : Int)).toNat + 1) _ _ _ _ (sr_nil (list := list) (b := B - nd) (n := n) (B := B) hf hj (by omega) (by omega) (by omega)) (by simp only; omega)
  rw [show B - (B - nd) = nd by omega] at hrel
  have hround := round_is (m := m) (flows := flows) (list := list) (b := B - nd) (n := n) hj.1 (by omega) hk.1 (fun i h0 h1 => hs i h0 (by omega))
  have e5 : m_impl_shiftSearch_extend_n (((list.length : Int) - (([] : List Int).length : Int)).toNat + 1) (gshiftSearch.mk m flows list (B - nd) []) n 0 = m_impl_shiftSearch_extend (gshiftSearch.mk m flows list (B - nd) []) n 0 := rfl
  have e6 : m_spec_l23Search_place_n (((list.length : Int) - (([] : List Int).length : Int)).toNat + 1) (gl23Search.mk m flows list [] [] [] n nd B) = m_spec_l23Search_place (gl23Search.mk m flows list [] [] [] n nd B) := rfl
  rw [e5, e6] at hrel
  rcases hrel with ⟨h1, h2, h3, h4, h5⟩ | ⟨h1, h2, h3, h4⟩
  · simp only at h3 h5
    have hr := hround (h1.trans hq)
    refine ⟨h5, by omega, fun h => ?_⟩
    have := hr.2.2 h
    omega
  · rw [hq] at h3; simp at h3
theorem place_bd {m : gMine} {flows : List Int} {list : List gJob} {nd n B k : Int} (hf : FlowsIn m flows) (hj : JobsIn m list) (hn : 0 ≤ nd ∧ nd ≤ B) (hB : B ≤ 20000) (hs : FitTo m flows list k) (hk : 0 ≤ n ∧ n ≤ nd + 1 ∧ (list.length : Int) ≤ k) (hq : (m_spec_l23Search_place (gl23Search.mk m flows list [] [] [] n nd B)).1 = false) :
    nd + (if n = 0 then 0 else 1) ≤ (m_spec_l23Search_place (gl23Search.mk m flows list [] [] [] n nd B)).2.nodes ∧ (m_spec_l23Search_place (gl23Search.mk m flows list [] [] [] n nd B)).2.nodes ≤ B ∧ n + 1 ≤ (m_spec_l23Search_place (gl23Search.mk m flows list [] [] [] n nd B)).2.nodes + 1 := by
  have h := place_round hf hj hn hB hs hk hq
  refine ⟨?_, h.2.1, ?_⟩
  · split
    · have := h.1; omega
    · have := h.2.2 (by omega); omega
  · by_cases h1 : 1 ≤ n
    · have := h.2.2 h1; omega
    · have := h.1; omega
theorem place_mu {m : gMine} {flows : List Int} {list : List gJob} {nd n B k : Int} (hf : FlowsIn m flows) (hj : JobsIn m list) (hn : 0 ≤ nd ∧ nd ≤ B) (hB : B ≤ 20000) (hs : FitTo m flows list k) (hk : 0 ≤ n ∧ n ≤ nd + 1 ∧ (list.length : Int) ≤ k) (hq : (m_spec_l23Search_place (gl23Search.mk m flows list [] [] [] n nd B)).1 = false) :
    (2 * (B - (m_spec_l23Search_place (gl23Search.mk m flows list [] [] [] n nd B)).2.nodes) + (if n + 1 = 0 then 1 else 0)).toNat < (2 * (B - nd) + (if n = 0 then 1 else 0)).toNat := by
  have h := place_round hf hj hn hB hs hk hq
  rw [if_neg (by omega : ¬ n + 1 = 0)]
  split
  · have := h.1; omega
  · have := h.2.2 (by omega); omega
theorem FewestShifts_len (m : gMine) (flows : List Int) (list : List gJob) (budget : Int) : (m_spec_FewestShifts m flows list budget).1.length ≤ 1048576 := by
  simp only [m_spec_FewestShifts]
  cases h0 : (m_spec_l23Begin m flows list budget != 0) with
  | true => simp
  | false =>
    simp only [Bool.cond_false]
    have hB : m_spec_l23Begin m flows list budget = 0 := by simpa using h0
    have h := l23Ask_imp (l23Begin_imp hB)
    rcases singles h.2.1 (list := list) (([] : List Int), (0 : Int), (3 : Int)) (b := m_spec_FewestShifts_b1 m flows list budget) (fun rec x => rfl) with ⟨g1, g2⟩ | ⟨g1, g2, g3⟩
    · rw [g2]; simp
    · rw [g3]
      have hbb : 1 ≤ budget ∧ budget ≤ 20000 := by
        simp only [m_spec_l23Begin] at hB
        cases h1 : (m_spec_l23Ask m flows list == 1) with
        | true => rw [h1] at hB; simp at h1; simp [h1] at hB
        | false =>
          rw [h1] at hB
          cases hb : m_spec_l00In budget 1 20000 with
          | false => rw [hb] at hB; simp at hB
          | true => exact l00In_imp hb
      refine LOOP_post (b := m_spec_FewestShifts_b2 m flows list budget (list.length : Int)) (fun (y : Int × Int × List Int) => y.2.2 = [] ∧ 0 ≤ y.2.1 ∧ y.2.1 ≤ budget ∧ 0 ≤ y.1 ∧ y.1 ≤ y.2.1 + 1) (fun y => (2 * (budget - y.2.1) + (if y.1 = 0 then 1 else 0)).toNat) (fun _ (r : List Int × Int × Int) => r.1.length ≤ 1048576) (fun rec y hI ih => ?_) _ _ ⟨rfl, by simp, by simp only; omega, by simp, by simp⟩ (by simp only [if_true]; omega)
      obtain ⟨c, nd, sh⟩ := y
      obtain ⟨e, r1, r2, r3, r4⟩ := hI
      simp only at e r1 r2 r3 r4
      subst e
      simp only [m_spec_FewestShifts_b2]
      have hF : FitTo m flows list (list.length : Int) := g2
      have hbd := fun hq => place_bd (m := m) (flows := flows) (list := list) (B := budget) (nd := nd) (n := c) h.2.1 h.2.2 ⟨r1, r2⟩ hbb.2 hF ⟨r3, r4, Int.le_refl _⟩ hq
      have hmu := fun hq => place_mu (m := m) (flows := flows) (list := list) (B := budget) (nd := nd) (n := c) h.2.1 h.2.2 ⟨r1, r2⟩ hbb.2 hF ⟨r3, r4, Int.le_refl _⟩ hq
      have hpl : (m_spec_l23Search_place (gl23Search.mk m flows list [] [] [] c nd budget)).2.shifts.length ≤ list.length := place_len (((list.length : Int) - (([] : List Int).length : Int)).toNat + 1) (gl23Search.mk m flows list [] [] [] c nd budget) (by simp) (by have := h.2.2.1; simp only; omega) (by simp only; omega)
      generalize m_spec_l23Search_place (gl23Search.mk m flows list [] [] [] c nd budget) = q at hbd hmu hpl ⊢
      cases hq : q.1 with
      | true =>
        simp only [Bool.not_true, Bool.cond_false]
        cases decide (budget < q.2.nodes) with
        | true => simp
        | false => simp only [Bool.cond_false, m_spec_l00Own, List.nil_append]; have := h.2.2.1; omega
      | false =>
        simp only [Bool.not_false, Bool.cond_true]
        have h1 := hbd hq
        have h2 := hmu hq
        rw [wr64 (n := c + 1) (by omega)]
        refine ih _ ⟨rfl, ?_, ?_, ?_, ?_⟩ h2
        · simp only; have := h1.1; split at this <;> omega
        · simp only; omega
        · simp only; omega
        · simp only; omega
theorem place_len0 {m : gMine} {flows : List Int} {list : List gJob} {n nd B : Int} (hj : JobsIn m list) : (m_spec_l23Search_place (gl23Search.mk m flows list [] [] [] n nd B)).2.shifts.length ≤ 1000 :=
  Nat.le_trans (place_len (((list.length : Int) - (([] : List Int).length : Int)).toNat + 1) (gl23Search.mk m flows list [] [] [] n nd B) (by simp) (by have := hj.1; simp only; omega) (by simp only; omega)) (by have := hj.1; simp only; omega)

end Go.Proofs.Ytchjibndocnnhaa
