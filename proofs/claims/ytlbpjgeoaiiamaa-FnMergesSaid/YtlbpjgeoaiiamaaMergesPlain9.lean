/-
  PLAIN LAWS about the models: no program in sight. Conditions: as each theorem states them.
-/
import Derived.Test.YtlbpjgeoaiiamaaMergesPlain8
set_option linter.unusedVariables false
set_option linter.unusedSimpArgs false
set_option linter.unusedSectionVars false
set_option linter.unnecessarySimpa false
namespace Go.Proofs.Ytlbpjgeoaiiamaa
open Go Go.RowKit Go.Proofs Go.Proofs.Ytlbpjgeoaiiamaa.E
/-! ## Names and values of states: the program alone -/
theorem app_loop {σ : Type} [Inhabited σ] {x3 : List σ} {g : σ → Txt} {acc : List Txt} {ρ : Type} {b : ((List Txt) × Int → ρ) → ((List Txt) × Int → ρ) → (List Txt) × Int → ρ} {k : (List Txt) × Int → ρ} (hb : ∀ rec x, b rec k x = bif decide (x.2 < (x3.length : Int)) then rec (x.1 ++ ([g (at' x3 x.2)] : List Txt), x.2 + 1) else k (x.1, x.2)) :
    LOOP b k (((x3.length : Int) - 0 : Int).toNat + 1) (acc, 0) = k (acc ++ x3.map g, (x3.length : Int)) := by
  refine LOOP_is (fun (x : List Txt × Int) => (0 ≤ x.2 ∧ x.2 ≤ x3.length) ∧ x.1 = acc ++ (x3.take x.2.toNat).map g) (fun x => ((x3.length : Int) - x.2).toNat) (fun _ => k (acc ++ x3.map g, (x3.length : Int))) (fun rec x hI ih => ?_) ⟨⟨by simp, by simp⟩, by simp⟩ (by simp)
  obtain ⟨s, i⟩ := x
  obtain ⟨⟨h0, h1⟩, hA⟩ := hI
  simp only at h0 h1 hA
  rw [hb]
  simp only
  by_cases hi : i < (x3.length : Int)
  · have hlt : i.toNat < x3.length := by omega
    have hat : at' x3 i = x3[i.toNat] := by
      have := at_lt (xs := x3) (j := i.toNat) hlt
      rwa [Int.toNat_of_nonneg h0] at this
    simp only [hi, decide_true, Bool.cond_true]
    refine ih _ ⟨⟨by simp only; omega, by simp only; omega⟩, ?_⟩ (by simp only; omega)
    simp only
    rw [show (i + 1).toNat = i.toNat + 1 by omega, List.take_succ_eq_append_getElem hlt, List.map_append, hA, hat]; simp
  · have he : i = x3.length := by omega
    subst he
    simp only [hi, decide_false, Bool.cond_false]
    rw [Int.toNat_natCast, List.take_length] at hA
    rw [hA]
theorem names_impl (base a b : List gSetting) : m_impl_namesOf ([base, a, b] : List (List gSetting)) = Lib.compact ((nms base ++ nms a ++ nms b).mergeSort fun x y => decide (x ≤ y)) := by
  have e0 : at' ([base, a, b] : List (List gSetting)) 0 = base := rfl
  have e1 : at' ([base, a, b] : List (List gSetting)) 1 = a := rfl
  have e2 : at' ([base, a, b] : List (List gSetting)) 2 = b := rfl
  have inner : ∀ (x1 : List Txt × Int) (rec1 k1 : (List Txt × Int) → List Txt), LOOP (m_impl_namesOf_b2 ([base, a, b] : List (List gSetting)) rec1 k1 x1) (fun (x2 : (List (List UInt8)) × Int) => rec1 (x2.1, x1.2 + 1)) ((((at' ([base, a, b] : List (List gSetting)) x1.2).length : Int) - 0 : Int).toNat + 1) (x1.1, 0) = rec1 (x1.1 ++ nms (at' ([base, a, b] : List (List gSetting)) x1.2), x1.2 + 1) := fun x1 rec1 k1 =>
    app_loop (x3 := at' ([base, a, b] : List (List gSetting)) x1.2) (g := fun q => q.Name) (acc := x1.1) (fun rec x => rfl)
  have hf : (((([base, a, b] : List (List gSetting)).length : Int) - 0 : Int).toNat + 1) = 4 := rfl
  simp only [m_impl_namesOf, hf]
  have step : ∀ (m : Nat) (x : List Txt × Int), x.2 < 3 → LOOP (m_impl_namesOf_b1 ([base, a, b] : List (List gSetting))) (fun (x1 : (List (List UInt8)) × Int) => m_slices_Compact_string (m_slices_Sort_string x1.1)) (m + 1) x = LOOP (m_impl_namesOf_b1 ([base, a, b] : List (List gSetting))) (fun (x1 : (List (List UInt8)) × Int) => m_slices_Compact_string (m_slices_Sort_string x1.1)) m (x.1 ++ nms (at' ([base, a, b] : List (List gSetting)) x.2), x.2 + 1) := fun m x hx => by
    have hl : x.2 < ((([base, a, b] : List (List gSetting)).length : Nat) : Int) := hx
    rw [LOOP, m_impl_namesOf_b1]
    simp only [hl, decide_true, Bool.cond_true]
    exact inner x _ _
  rw [step 3 _ (by simp), step 2 _ (by simp), step 1 _ (by simp)]
  simp only [Int.zero_add]
  rw [show (1 : Int) + 1 = 2 from rfl, e0, e1, e2]
  rfl
theorem eql_iff {a b : Txt} : strB .eql a b = true ↔ a = b := by simp [strB]
def firstAt (list : List gSetting) (name : Txt) (j : Int) : Prop := (0 ≤ j ∧ j < list.length) ∧ (at' list j).Name = name ∧ ∀ q, 0 ≤ q → q < j → (at' list q).Name ≠ name
def noneAt (list : List gSetting) (name : Txt) : Prop := ∀ q, 0 ≤ q → q < (list.length : Int) → (at' list q).Name ≠ name
theorem at_is (list : List gSetting) (name : Txt) : (m_spec_l27At list name = -1 ∧ noneAt list name) ∨ firstAt list name (m_spec_l27At list name) := by
  simp only [m_spec_l27At]
  refine LOOP_post (fun (x : Int) => (0 ≤ x ∧ x ≤ list.length) ∧ ∀ q, 0 ≤ q → q < x → (at' list q).Name ≠ name) (fun x => ((list.length : Int) - x).toNat) (fun _ (r : Int) => (r = -1 ∧ noneAt list name) ∨ firstAt list name r) (fun rec x hI ih => ?_) _ _ ⟨⟨by omega, by omega⟩, fun q h1 h2 => by omega⟩ (by omega)
  obtain ⟨⟨h0, h1⟩, h2⟩ := hI
  simp only [m_spec_l27At_b1]
  by_cases hi : x < (list.length : Int)
  · simp only [hi, decide_true, Bool.cond_true]
    cases hq : strB .eql (at' list x).Name name with
    | true => exact .inr ⟨⟨h0, hi⟩, eql_iff.1 hq, h2⟩
    | false =>
      refine ih _ ⟨⟨by omega, by omega⟩, fun q g1 g2 => ?_⟩ (by omega)
      by_cases hqx : q = x
      · subst hqx; intro e; rw [eql_iff.2 e] at hq; simp at hq
      · exact h2 q g1 (by omega)
  · simp only [hi, decide_false, Bool.cond_false]
    exact .inl ⟨by first | rfl | trivial, fun q g1 g2 => h2 q g1 (by omega)⟩
theorem value_is (list : List gSetting) (name : Txt) : (m_impl_valueAt list name = (0, false) ∧ noneAt list name) ∨ ∃ j, firstAt list name j ∧ m_impl_valueAt list name = ((at' list j).Value, true) := by
  simp only [m_impl_valueAt]
  refine LOOP_post (fun (x : Int) => (0 ≤ x ∧ x ≤ list.length) ∧ ∀ q, 0 ≤ q → q < x → (at' list q).Name ≠ name) (fun x => ((list.length : Int) - x).toNat) (fun _ (r : Int × Bool) => (r = (0, false) ∧ noneAt list name) ∨ ∃ j, firstAt list name j ∧ r = ((at' list j).Value, true)) (fun rec x hI ih => ?_) _ _ ⟨⟨by omega, by omega⟩, fun q h1 h2 => by omega⟩ (by omega)
  obtain ⟨⟨h0, h1⟩, h2⟩ := hI
  simp only [m_impl_valueAt_b1]
  by_cases hi : x < (list.length : Int)
  · simp only [hi, decide_true, Bool.cond_true]
    cases hq : strB .eql (at' list x).Name name with
    | true => exact .inr ⟨x, ⟨⟨h0, hi⟩, eql_iff.1 hq, h2⟩, rfl⟩
    | false =>
      refine ih _ ⟨⟨by omega, by omega⟩, fun q g1 g2 => ?_⟩ (by omega)
      by_cases hqx : q = x
      · subst hqx; intro e; rw [eql_iff.2 e] at hq; simp at hq
      · exact h2 q g1 (by omega)
  · simp only [hi, decide_false, Bool.cond_false]
    exact .inl ⟨by first | rfl | trivial, fun q g1 g2 => h2 q g1 (by omega)⟩

end Go.Proofs.Ytlbpjgeoaiiamaa
