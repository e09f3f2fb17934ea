/-
  PLAIN LAWS about the models: no program in sight. Conditions: as each theorem states them.
-/
import Derived.Test.YtdhehmaglhobjaaExactConflictsOfPlain13
set_option linter.unusedVariables false
set_option linter.unusedSimpArgs false
set_option linter.unusedSectionVars false
set_option linter.unnecessarySimpa false
namespace Go.Proofs.Ytdhehmaglhobjaa
open Go Go.RowKit Go.Proofs Go.Proofs.Ytdhehmaglhobjaa.E
theorem set_le (L : List gSetting) (e : gSetting) : ((m_spec_l27Set L e).length : Int) ≤ L.length + 1 := by
  simp only [m_spec_l27Set]
  refine LOOP_post (fun (x : List gSetting × Bool × Int) => (0 ≤ x.2.2 ∧ x.2.2 ≤ L.length) ∧ (x.1.length : Int) ≤ x.2.2 + (if x.2.1 = true then 1 else 0)) (fun x => ((L.length : Int) - x.2.2).toNat) (fun _ (r : List gSetting) => (r.length : Int) ≤ L.length + 1) (fun rec x hI ih => ?_) _ _ ⟨⟨by simp, by simp⟩, by simp⟩ (by simp)
  obtain ⟨out, done, i⟩ := x
  obtain ⟨⟨h0, h1⟩, hA⟩ := hI
  simp only at h0 h1 hA
  simp only [m_spec_l27Set_b1, JN]
  by_cases hi : i < (L.length : Int)
  · simp only [hi, decide_true, Bool.cond_true]
    cases done with
    | true =>
      simp only [if_true] at hA
      simp only [Bool.not_true, Bool.false_and, Bool.cond_false]
      cases strB .neq (at' L i).Name e.Name with
      | true => exact ih _ ⟨⟨by simp only; omega, by simp only; omega⟩, by simp; omega⟩ (by simp only; omega)
      | false => exact ih _ ⟨⟨by simp only; omega, by simp only; omega⟩, by simp; omega⟩ (by simp only; omega)
    | false =>
      simp at hA
      cases strB .geq (at' L i).Name e.Name with
      | true =>
        simp only [Bool.not_false, Bool.true_and, Bool.cond_true]
        cases strB .neq (at' L i).Name e.Name with
        | true => exact ih _ ⟨⟨by simp only; omega, by simp only; omega⟩, by simp; omega⟩ (by simp only; omega)
        | false => exact ih _ ⟨⟨by simp only; omega, by simp only; omega⟩, by simp; omega⟩ (by simp only; omega)
      | false =>
        simp only [Bool.and_false, Bool.cond_false]
        cases strB .neq (at' L i).Name e.Name with
        | true => exact ih _ ⟨⟨by simp only; omega, by simp only; omega⟩, by simp; omega⟩ (by simp only; omega)
        | false => exact ih _ ⟨⟨by simp only; omega, by simp only; omega⟩, by simp; omega⟩ (by simp only; omega)
  · simp only [hi, decide_false, Bool.cond_false]
    cases done with
    | true => simp only [if_true] at hA; simp only [Bool.not_true, Bool.cond_false]; omega
    | false => simp at hA; simp only [Bool.not_false, Bool.cond_true, List.length_append, List.length_cons, List.length_nil]; omega
theorem namesI_len {base a b : List gSetting} (h1 : base.length ≤ 24) (h2 : a.length ≤ 24) (h3 : b.length ≤ 24) : (m_impl_namesOf ([base, a, b] : List (List gSetting))).length ≤ 72 := by
  rw [names_impl]
  unfold Lib.compact Lib.compactUpTo
  rw [List.length_map]
  refine Nat.le_trans (List.length_filter_le _ _) ?_
  rw [List.length_range, List.length_mergeSort]
  simp only [nms, List.length_append, List.length_map]; omega
theorem names_le {base a b : List gSetting} (h1 : base.length ≤ 24) (h2 : a.length ≤ 24) (h3 : b.length ≤ 24) : (m_spec_l27Names base a b).length ≤ 72 := by
  rw [← names_eq]; exact namesI_len h1 h2 h3
theorem at_rng {list : List gSetting} {name : Txt} (h : 0 ≤ m_spec_l27At list name) : 0 ≤ m_spec_l27At list name ∧ m_spec_l27At list name < list.length := by
  rcases at_is list name with ⟨h1, _⟩ | h1
  · omega
  · exact h1.1
theorem conf_len (base a b : List gSetting) : (m_spec_ConflictsOf base a b).1.length ≤ 1000 := by
  rw [← ConflictsOf_eq]
  simp only [m_impl_ConflictsOf, state_eq]
  cases h1 : m_spec_l27State base <;> cases h2 : m_spec_l27State a <;> cases h3 : m_spec_l27State b <;> simp only [Bool.not_true, Bool.not_false, Bool.or_self, Bool.or_true, Bool.true_or, Bool.or_false, Bool.false_or, Bool.cond_true, Bool.cond_false, List.length_nil] <;> try omega
  have hl := namesI_len (state_in h1).1 (state_in h2).1 (state_in h3).1
  simp only [m_impl_conflictsOf]
  rw [del_is _ _ (by omega)]
  exact Nat.le_trans (List.length_filter_le _ _) (by omega)
theorem law_FnExactConflictsOf (aBase : List gSetting) (aA : List gSetting) (aB : List gSetting) (hp1 : aBase.length ≤ 9223372036854775807 ∧ ∀ y ∈ aBase, gSetting.ok y) (hp2 : aA.length ≤ 9223372036854775807 ∧ ∀ y ∈ aA, gSetting.ok y) (hp3 : aB.length ≤ 9223372036854775807 ∧ ∀ y ∈ aB, gSetting.ok y) : m_laws_FnExactConflictsOf aBase aA aB = true := by
  simp only [m_laws_FnExactConflictsOf, toSetting_eq, toSettingS_eq, eqStringS_refl, eqSetting_refl, eqSettingS_refl, ConflictsOf_eq, bne_self_eq_false, strB_neq_self, Bool.or_self, Bool.or_false, Bool.false_or, Bool.not_true, Bool.cond_false]
  by_cases h1 : m_laws_szSettingS aBase 1048576 < 0
  · simp [h1]
  have a1 := szSettingS_impA (a := aBase) (l := 1048576) hp1 (by omega) (by omega) (by omega)
  have b1 := szSettingS_impB (a := aBase) (l := 1048576) hp1 (by omega) (by omega) (by omega)
  by_cases h2 : m_laws_szSettingS aA (m_laws_szSettingS aBase 1048576) < 0
  · simp [h2]
  have a2 := szSettingS_impA (a := aA) (l := (m_laws_szSettingS aBase 1048576)) hp2 (by omega) (by omega) (by omega)
  have b2 := szSettingS_impB (a := aA) (l := (m_laws_szSettingS aBase 1048576)) hp2 (by omega) (by omega) (by omega)
  by_cases h3 : m_laws_szSettingS aB (m_laws_szSettingS aA (m_laws_szSettingS aBase 1048576)) < 0
  · simp [h3]
  have a3 := szSettingS_impA (a := aB) (l := (m_laws_szSettingS aA (m_laws_szSettingS aBase 1048576))) hp3 (by omega) (by omega) (by omega)
  have b3 := szSettingS_impB (a := aB) (l := (m_laws_szSettingS aA (m_laws_szSettingS aBase 1048576))) hp3 (by omega) (by omega) (by omega)
  have k0 := markSettingS_rng (a := aBase) (k := 1) (by omega) (by omega)
  have k1 := markSettingS_rng (a := aA) (k := (m_laws_markSettingS aBase 1).1) (by omega) (by omega)
  have k2 := markSettingS_rng (a := aB) (k := (m_laws_markSettingS aA (m_laws_markSettingS aBase 1).1).1) (by omega) (by omega)
  have kk : ¬ (m_laws_markSettingS aB (m_laws_markSettingS aA (m_laws_markSettingS aBase 1).1).1).1 < 0 := by omega
  have hh := held_mark_str (a := (m_spec_ConflictsOf aBase aA aB).1) (by have := conf_len aBase aA aB; omega)
  simp [h1, h2, h3, kk, hh.1, hh.2]
theorem state_l24 {list : List gSetting} (h : m_spec_l27State list = true) : list.length ≤ 24 := (state_in h).1
theorem state_l24I {list : List gSetting} (h : m_impl_ValidState list = true) : list.length ≤ 24 := state_l24 (by rw [← state_eq]; exact h)
theorem idx_rng (s : List Txt) (del : Txt → Bool) : -1 ≤ m_slices_IndexFunc_string s del ∧ m_slices_IndexFunc_string s del < s.length := by
  rcases idx_is s del with ⟨h1, _⟩ | ⟨h1, _⟩ <;> omega
theorem sortS_len (l : List Txt) : (m_slices_Sort_string l).length = l.length := List.length_mergeSort l
theorem muts_len {s : S} {full : Bool} {M : List (Nat × Nat)} {l L m m' : Nat} (h : E.look M l = some L) (e : m' = m) : PassB s full M (.os l m') (.os L m) [] := by subst e; exact .muts h

end Go.Proofs.Ytdhehmaglhobjaa
