/-
  PLAIN LAWS about the models: no program in sight. Conditions: as each theorem states them.
-/
import Derived.Test.YtdhehmaglhobjaaExactMergeStatesPlain8
set_option linter.unusedVariables false
set_option linter.unusedSimpArgs false
set_option linter.unusedSectionVars false
set_option linter.unnecessarySimpa false
namespace Go.Proofs.Ytdhehmaglhobjaa
open Go Go.RowKit Go.Proofs Go.Proofs.Ytdhehmaglhobjaa.E
/-! ## ConflictsOf: names -/
theorem sets_is {L base : List gSetting} (hL : Rise (nms L)) {b : ((List gSetting) × Int → List Txt) → ((List gSetting) × Int → List Txt) → (List gSetting) × Int → List Txt} {k : (List gSetting) × Int → List Txt} (hb : ∀ rec x, b rec k x = bif decide (x.2 < (base.length : Int)) then rec (m_spec_l27Set x.1 (at' base x.2), x.2 + 1) else k (x.1, x.2)) :
    ∃ R, Rise (nms R) ∧ (∀ z, z ∈ nms R ↔ z ∈ nms L ∨ z ∈ nms base) ∧ LOOP b k (((base.length : Int) - 0 : Int).toNat + 1) (L, 0) = k (R, (base.length : Int)) := by
  have := LOOP_post (b := b) (k := k) (fun (x : List gSetting × Int) => (0 ≤ x.2 ∧ x.2 ≤ base.length) ∧ Rise (nms x.1) ∧ ∀ z, z ∈ nms x.1 ↔ z ∈ nms L ∨ z ∈ nms (base.take x.2.toNat)) (fun x => ((base.length : Int) - x.2).toNat) (fun _ (r : List Txt) => ∃ R, Rise (nms R) ∧ (∀ z, z ∈ nms R ↔ z ∈ nms L ∨ z ∈ nms base) ∧ r = k (R, (base.length : Int))) (fun rec x hI ih => ?_) (((base.length : Int) - 0 : Int).toNat + 1) (L, 0) ⟨⟨by simp, by simp⟩, hL, by simp [nms]⟩ (by simp)
  · exact this
  · obtain ⟨s, i⟩ := x
    obtain ⟨⟨h0, h1⟩, hA, hB⟩ := hI
    simp only at h0 h1 hA hB
    rw [hb]
    simp only
    by_cases hi : i < (base.length : Int)
    · have hlt : i.toNat < base.length := by omega
      have hat : at' base i = base[i.toNat] := by
        have := at_lt (xs := base) (j := i.toNat) hlt
        rwa [Int.toNat_of_nonneg h0] at this
      simp only [hi, decide_true, Bool.cond_true]
      have hp := set_is hA (at' base i)
      refine ih _ ⟨⟨by simp only; omega, by simp only; omega⟩, hp.1, fun z => ?_⟩ (by simp only; omega)
      simp only
      rw [hp.2 z, hB z, show (i + 1).toNat = i.toNat + 1 by omega, List.take_succ_eq_append_getElem hlt]
      simp only [nms, List.map_append, List.mem_append, List.map_cons, List.map_nil, List.mem_singleton, hat]
      constructor
      · rintro ((h | h) | h)
        · exact .inl h
        · exact .inr (.inl h)
        · exact .inr (.inr h)
      · rintro (h | (h | h))
        · exact .inl (.inl h)
        · exact .inl (.inr h)
        · exact .inr h
    · have he : i = base.length := by omega
      subst he
      simp only [hi, decide_false, Bool.cond_false]
      rw [Int.toNat_natCast, List.take_length] at hB
      exact ⟨s, hA, hB, rfl⟩
theorem app_loop {σ : Type} [Inhabited σ] {x3 : List σ} {g : σ → Txt} {acc : List Txt} {ρ : Type} {b : ((List Txt) × Int → ρ) → ((List Txt) × Int → ρ) → (List Txt) × Int → ρ} {k : (List Txt) × Int → ρ} (hb : ∀ rec x, b rec k x = bif decide (x.2 < (x3.length : Int)) then rec (x.1 ++ ([g (at' x3 x.2)] : List Txt), x.2 + 1) else k (x.1, x.2)) :
    LOOP b k (((x3.length : Int) - 0 : Int).toNat + 1) (acc, 0) = k (acc ++ x3.map g, (x3.length : Int)) := by
  refine LOOP_is (fun (x : List Txt × Int) => (0 ≤ x.2 ∧ x.2 ≤ x3.length) ∧ x.1 = acc ++ (x3.take x.2.toNat).map g) (fun x => ((x3.length : Int) - x.2).toNat) (fun _ => k (acc ++ x3.map g, (x3.length : Int))) (fun rec x hI ih => ?_) ⟨⟨by simp, by simp⟩, by simp⟩ (by simp)
  obtain ⟨s, i⟩ := x
  obtain ⟨⟨h0, h1⟩, hA⟩ := hI
  simp only at h0 h1 hA
  rw [hb]
  simp only
  by_cases hi : i < (x3.length : Int)
  · have hlt : i.toNat < x3.length := by omega
    have hat : at' x3 i = x3[i.toNat] := by
      have := at_lt (xs := x3) (j := i.toNat) hlt
      rwa [Int.toNat_of_nonneg h0] at this
    simp only [hi, decide_true, Bool.cond_true]
    refine ih _ ⟨⟨by simp only; omega, by simp only; omega⟩, ?_⟩ (by simp only; omega)
    simp only
    rw [show (i + 1).toNat = i.toNat + 1 by omega, List.take_succ_eq_append_getElem hlt, List.map_append, hA, hat]; simp
  · have he : i = x3.length := by omega
    subst he
    simp only [hi, decide_false, Bool.cond_false]
    rw [Int.toNat_natCast, List.take_length] at hA
    rw [hA]
theorem names_spec (base a b : List gSetting) : Rise (m_spec_l27Names base a b) ∧ ∀ z, z ∈ m_spec_l27Names base a b ↔ z ∈ nms base ∨ z ∈ nms a ∨ z ∈ nms b := by
  simp only [m_spec_l27Names]
  obtain ⟨R1, h1, m1, e1⟩ := sets_is (L := []) (base := base) (by exact List.Pairwise.nil) (b := m_spec_l27Names_b1 base a b) (k := fun (x1 : (List gSetting) × Int) => LOOP (m_spec_l27Names_b2 base a b x1) (fun (x2 : (List gSetting) × Int) => LOOP (m_spec_l27Names_b3 base a b x1 x2) (fun (x3 : (List gSetting) × Int) => LOOP (m_spec_l27Names_b4 base a b x1 x2 x3) (fun (x4 : (List (List UInt8)) × Int) => x4.1) (((x3.1.length : Int) - 0 : Int).toNat + 1) (([] : List (List UInt8)), 0)) (((b.length : Int) - 0 : Int).toNat + 1) (x2.1, 0)) (((a.length : Int) - 0 : Int).toNat + 1) (x1.1, 0)) (fun rec x => rfl)
  rw [e1]
  obtain ⟨R2, h2, m2, e2⟩ := sets_is (L := R1) (base := a) h1 (b := m_spec_l27Names_b2 base a b (R1, (base.length : Int))) (k := fun (x2 : (List gSetting) × Int) => LOOP (m_spec_l27Names_b3 base a b (R1, (base.length : Int)) x2) (fun (x3 : (List gSetting) × Int) => LOOP (m_spec_l27Names_b4 base a b (R1, (base.length : Int)) x2 x3) (fun (x4 : (List (List UInt8)) × Int) => x4.1) (((x3.1.length : Int) - 0 : Int).toNat + 1) (([] : List (List UInt8)), 0)) (((b.length : Int) - 0 : Int).toNat + 1) (x2.1, 0)) (fun rec x => rfl)
  simp only
  rw [e2]
  obtain ⟨R3, h3, m3, e3⟩ := sets_is (L := R2) (base := b) h2 (b := m_spec_l27Names_b3 base a b (R1, (base.length : Int)) (R2, (a.length : Int))) (k := fun (x3 : (List gSetting) × Int) => LOOP (m_spec_l27Names_b4 base a b (R1, (base.length : Int)) (R2, (a.length : Int)) x3) (fun (x4 : (List (List UInt8)) × Int) => x4.1) (((x3.1.length : Int) - 0 : Int).toNat + 1) (([] : List (List UInt8)), 0)) (fun rec x => rfl)
  simp only
  rw [e3]
  simp only
  rw [app_loop (x3 := R3) (g := fun q => q.Name) (acc := []) (fun rec x => rfl)]
  simp only [List.nil_append]
  refine ⟨h3, fun z => ?_⟩
  show z ∈ nms R3 ↔ _
  rw [m3 z, m2 z, m1 z]
  simp [nms, or_assoc]
theorem names_impl (base a b : List gSetting) : m_impl_namesOf ([base, a, b] : List (List gSetting)) = Lib.compact ((nms base ++ nms a ++ nms b).mergeSort fun x y => decide (x ≤ y)) := by
  have e0 : at' ([base, a, b] : List (List gSetting)) 0 = base := rfl
  have e1 : at' ([base, a, b] : List (List gSetting)) 1 = a := rfl
  have e2 : at' ([base, a, b] : List (List gSetting)) 2 = b := rfl
  have inner : ∀ (x1 : List Txt × Int) (rec1 k1 : (List Txt × Int) → List Txt), LOOP (m_impl_namesOf_b2 ([base, a, b] : List (List gSetting)) rec1 k1 x1) (fun (x2 : (List (List UInt8)) × Int) => rec1 (x2.1, x1.2 + 1)) ((((at' ([base, a, b] : List (List gSetting)) x1.2).length : Int) - 0 : Int).toNat + 1) (x1.1, 0) = rec1 (x1.1 ++ nms (at' ([base, a, b] : List (List gSetting)) x1.2), x1.2 + 1) := fun x1 rec1 k1 =>
    app_loop (x3 := at' ([base, a, b] : List (List gSetting)) x1.2) (g := fun q => q.Name) (acc := x1.1) (fun rec x => rfl)
  have hf : (((([base, a, b] : List (List gSetting)).length : Int) - 0 : Int).toNat + 1) = 4 := rfl
  simp only [m_impl_namesOf, hf]
  have step : ∀ (m : Nat) (x : List Txt × Int), x.2 < 3 → LOOP (m_impl_namesOf_b1 ([base, a, b] : List (List gSetting))) (fun (x1 : (List (List UInt8)) × Int) => m_slices_Compact_string (m_slices_Sort_string x1.1)) (m + 1) x = LOOP (m_impl_namesOf_b1 ([base, a, b] : List (List gSetting))) (fun (x1 : (List (List UInt8)) × Int) => m_slices_Compact_string (m_slices_Sort_string x1.1)) m (x.1 ++ nms (at' ([base, a, b] : List (List gSetting)) x.2), x.2 + 1) := fun m x hx => by
    have hl : x.2 < ((([base, a, b] : List (List gSetting)).length : Nat) : Int) := hx
    rw [LOOP, m_impl_namesOf_b1]
    simp only [hl, decide_true, Bool.cond_true]
    exact inner x _ _
  rw [step 3 _ (by simp), step 2 _ (by simp), step 1 _ (by simp)]
  simp only [Int.zero_add]
  rw [show (1 : Int) + 1 = 2 from rfl, e0, e1, e2]
  rfl
theorem names_eq (base a b : List gSetting) : m_impl_namesOf ([base, a, b] : List (List gSetting)) = m_spec_l27Names base a b := by
  have h := names_spec base a b
  rw [names_impl]
  refine rise_ext (compact_rise (sortS_up _)) h.1 (fun x => ?_)
  rw [compact_mem, h.2 x, (List.mergeSort_perm _ _).mem_iff]
  simp [List.mem_append, or_assoc]

end Go.Proofs.Ytdhehmaglhobjaa
