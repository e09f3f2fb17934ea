/-
  PLAIN LAWS about the models: no program in sight. Conditions: as each theorem states them.
-/
import Derived.Test.YtdhehmaglhobjaaExactMergeStatesPlain9
set_option linter.unusedVariables false
set_option linter.unusedSimpArgs false
set_option linter.unusedSectionVars false
set_option linter.unnecessarySimpa false
namespace Go.Proofs.Ytdhehmaglhobjaa
open Go Go.RowKit Go.Proofs Go.Proofs.Ytdhehmaglhobjaa.E
/-! ## ConflictsOf: what stands at a name -/
theorem eql_iff {a b : Txt} : strB .eql a b = true ↔ a = b := by simp [strB]
def firstAt (list : List gSetting) (name : Txt) (j : Int) : Prop := (0 ≤ j ∧ j < list.length) ∧ (at' list j).Name = name ∧ ∀ q, 0 ≤ q → q < j → (at' list q).Name ≠ name
def noneAt (list : List gSetting) (name : Txt) : Prop := ∀ q, 0 ≤ q → q < (list.length : Int) → (at' list q).Name ≠ name
theorem at_is (list : List gSetting) (name : Txt) : (m_spec_l27At list name = -1 ∧ noneAt list name) ∨ firstAt list name (m_spec_l27At list name) := by
  simp only [m_spec_l27At]
  refine LOOP_post (fun (x : Int) => (0 ≤ x ∧ x ≤ list.length) ∧ ∀ q, 0 ≤ q → q < x → (at' list q).Name ≠ name) (fun x => ((list.length : Int) - x).toNat) (fun _ (r : Int) => (r = -1 ∧ noneAt list name) ∨ firstAt list name r) (fun rec x hI ih => ?_) _ _ ⟨⟨by omega, by omega⟩, fun q h1 h2 => by omega⟩ (by omega)
  obtain ⟨⟨h0, h1⟩, h2⟩ := hI
  simp only [m_spec_l27At_b1]
  by_cases hi : x < (list.length : Int)
  · simp only [hi, decide_true, Bool.cond_true]
    cases hq : strB .eql (at' list x).Name name with
    | true => exact .inr ⟨⟨h0, hi⟩, eql_iff.1 hq, h2⟩
    | false =>
      refine ih _ ⟨⟨by omega, by omega⟩, fun q g1 g2 => ?_⟩ (by omega)
      by_cases hqx : q = x
      · subst hqx; intro e; rw [eql_iff.2 e] at hq; simp at hq
      · exact h2 q g1 (by omega)
  · simp only [hi, decide_false, Bool.cond_false]
    exact .inl ⟨by first | rfl | trivial, fun q g1 g2 => h2 q g1 (by omega)⟩
theorem value_is (list : List gSetting) (name : Txt) : (m_impl_valueAt list name = (0, false) ∧ noneAt list name) ∨ ∃ j, firstAt list name j ∧ m_impl_valueAt list name = ((at' list j).Value, true) := by
  simp only [m_impl_valueAt]
  refine LOOP_post (fun (x : Int) => (0 ≤ x ∧ x ≤ list.length) ∧ ∀ q, 0 ≤ q → q < x → (at' list q).Name ≠ name) (fun x => ((list.length : Int) - x).toNat) (fun _ (r : Int × Bool) => (r = (0, false) ∧ noneAt list name) ∨ ∃ j, firstAt list name j ∧ r = ((at' list j).Value, true)) (fun rec x hI ih => ?_) _ _ ⟨⟨by omega, by omega⟩, fun q h1 h2 => by omega⟩ (by omega)
  obtain ⟨⟨h0, h1⟩, h2⟩ := hI
  simp only [m_impl_valueAt_b1]
  by_cases hi : x < (list.length : Int)
  · simp only [hi, decide_true, Bool.cond_true]
    cases hq : strB .eql (at' list x).Name name with
    | true => exact .inr ⟨x, ⟨⟨h0, hi⟩, eql_iff.1 hq, h2⟩, rfl⟩
    | false =>
      refine ih _ ⟨⟨by omega, by omega⟩, fun q g1 g2 => ?_⟩ (by omega)
      by_cases hqx : q = x
      · subst hqx; intro e; rw [eql_iff.2 e] at hq; simp at hq
      · exact h2 q g1 (by omega)
  · simp only [hi, decide_false, Bool.cond_false]
    exact .inl ⟨by first | rfl | trivial, fun q g1 g2 => h2 q g1 (by omega)⟩
/-- what both models find -/
theorem thing_is (list : List gSetting) (name : Txt) : (m_impl_thingAt list name = gthing.mk 0 false ∧ m_spec_l27Get list name = gSetting.mk [] 0) ∨ ∃ v, m_impl_thingAt list name = gthing.mk v true ∧ m_spec_l27Get list name = gSetting.mk name v := by
  rcases at_is list name with ⟨h1, h2⟩ | h1 <;> rcases value_is list name with ⟨h3, h4⟩ | ⟨j, h3, h4⟩
  · left; exact ⟨by simp only [m_impl_thingAt, h3], by simp only [m_spec_l27Get, h1]; rfl⟩
  · exact absurd h3.2.1 (h2 j h3.1.1 h3.1.2)
  · exact absurd h1.2.1 (h4 _ h1.1.1 h1.1.2)
  · right
    have hj : m_spec_l27At list name = j := by
      rcases Int.lt_trichotomy (m_spec_l27At list name) j with h | h | h
      · exact absurd h1.2.1 (h3.2.2 _ h1.1.1 h)
      · exact h
      · exact absurd h3.2.1 (h1.2.2 _ h3.1.1 h)
    refine ⟨(at' list j).Value, by simp only [m_impl_thingAt, h4], ?_⟩
    have hneg : ¬ j < 0 := by have := h3.1.1; omega
    simp only [m_spec_l27Get, hj, hneg, decide_false, Bool.cond_false]
    have hn := h3.2.1
    cases hq : at' list j with
    | mk nm vl => rw [hq] at hn; simp only at hn; rw [hn]
theorem same_is {l1 l2 : List gSetting} {name : Txt} (hn : name ≠ []) : (((m_impl_thingAt l1 name).value == (m_impl_thingAt l2 name).value) && (((m_impl_thingAt l1 name).there == (m_impl_thingAt l2 name).there) && true)) = ((strB .eql (m_spec_l27Get l1 name).Name (m_spec_l27Get l2 name).Name) && (((m_spec_l27Get l1 name).Value == (m_spec_l27Get l2 name).Value) && true)) := by
  have hs : ∀ a : Txt, strB .eql a a = true := fun a => eql_iff.2 rfl
  have h0 : strB .eql name [] = false := by cases h : strB .eql name [] with | false => rfl | true => exact absurd (eql_iff.1 h) hn
  have h0' : strB .eql [] name = false := by cases h : strB .eql [] name with | false => rfl | true => exact absurd (eql_iff.1 h).symm hn
  rcases thing_is l1 name with ⟨h1, h2⟩ | ⟨v1, h1, h2⟩ <;> rcases thing_is l2 name with ⟨h3, h4⟩ | ⟨v2, h3, h4⟩ <;> rw [h1, h2, h3, h4] <;> simp [hs, h0, h0']
theorem same_comm {l1 l2 : List gSetting} {name : Txt} : (((m_impl_thingAt l1 name).value == (m_impl_thingAt l2 name).value) && (((m_impl_thingAt l1 name).there == (m_impl_thingAt l2 name).there) && true)) = (((m_impl_thingAt l2 name).value == (m_impl_thingAt l1 name).value) && (((m_impl_thingAt l2 name).there == (m_impl_thingAt l1 name).there) && true)) := by
  rw [Bool.eq_iff_iff]; simp only [Bool.and_eq_true, beq_iff_eq, and_true]
  constructor <;> rintro ⟨h1, h2⟩ <;> exact ⟨h1.symm, h2.symm⟩
def del3 (base a b : List gSetting) (name : Txt) : Bool := m_impl_conflictsOf_1 name base a b
theorem conf_spec (base a b : List gSetting) (hn : ∀ y ∈ m_spec_l27Names base a b, y ≠ []) : m_spec_l27Conflicts base a b = (m_spec_l27Names base a b).filter (fun y => !del3 base a b y) := by
  simp only [m_spec_l27Conflicts]
  generalize hN : m_spec_l27Names base a b = N at hn
  refine LOOP_is (fun (x : List Txt × Int) => (0 ≤ x.2 ∧ x.2 ≤ N.length) ∧ x.1 = (N.take x.2.toNat).filter (fun y => !del3 base a b y)) (fun x => ((N.length : Int) - x.2).toNat) (fun _ => N.filter (fun y => !del3 base a b y)) (fun rec x hI ih => ?_) ⟨⟨by simp, by simp⟩, by simp⟩ (by simp)
  obtain ⟨s, i⟩ := x
  obtain ⟨⟨h0, h1⟩, hA⟩ := hI
  simp only at h0 h1 hA
  simp only [m_spec_l27Conflicts_b1, hN]
  by_cases hi : i < (N.length : Int)
  · have hlt : i.toNat < N.length := by omega
    have hat : at' N i = N[i.toNat] := by
      have := at_lt (xs := N) (j := i.toNat) hlt
      rwa [Int.toNat_of_nonneg h0] at this
    have hne : at' N i ≠ [] := by rw [hat]; exact hn _ (List.getElem_mem hlt)
    simp only [hi, decide_true, Bool.cond_true]
    rw [← same_is (l1 := base) (l2 := a) hne, ← same_is (l1 := base) (l2 := b) hne, ← same_is (l1 := a) (l2 := b) hne]
    have hd : ∀ c, (((!(((m_impl_thingAt base (at' N i)).value == (m_impl_thingAt a (at' N i)).value) && (((m_impl_thingAt base (at' N i)).there == (m_impl_thingAt a (at' N i)).there) && true))) && (!(((m_impl_thingAt base (at' N i)).value == (m_impl_thingAt b (at' N i)).value) && (((m_impl_thingAt base (at' N i)).there == (m_impl_thingAt b (at' N i)).there) && true)))) && (!(((m_impl_thingAt a (at' N i)).value == (m_impl_thingAt b (at' N i)).value) && (((m_impl_thingAt a (at' N i)).there == (m_impl_thingAt b (at' N i)).there) && true)))) = c → (!del3 base a b (at' N i)) = c := by
      intro c hc
      rw [← hc]
      simp only [del3, m_impl_conflictsOf_1]
      rw [same_comm (l1 := a) (l2 := base), same_comm (l1 := b) (l2 := base)]
      generalize (((m_impl_thingAt a (at' N i)).value == (m_impl_thingAt b (at' N i)).value) && (((m_impl_thingAt a (at' N i)).there == (m_impl_thingAt b (at' N i)).there) && true)) = p
      generalize (((m_impl_thingAt base (at' N i)).value == (m_impl_thingAt a (at' N i)).value) && (((m_impl_thingAt base (at' N i)).there == (m_impl_thingAt a (at' N i)).there) && true)) = q
      generalize (((m_impl_thingAt base (at' N i)).value == (m_impl_thingAt b (at' N i)).value) && (((m_impl_thingAt base (at' N i)).there == (m_impl_thingAt b (at' N i)).there) && true)) = t
      cases p <;> cases q <;> cases t <;> rfl
    rw [← hd _ rfl]
    have htk : N.take (i + 1).toNat = N.take i.toNat ++ [at' N i] := by rw [show (i + 1).toNat = i.toNat + 1 by omega, List.take_succ_eq_append_getElem hlt, hat]
    cases hq : del3 base a b (at' N i) with
    | true =>
      simp only [Bool.not_true, Bool.cond_false]
      refine ih _ ⟨⟨by simp only; omega, by simp only; omega⟩, ?_⟩ (by simp only; omega)
      simp only; rw [htk, List.filter_append, hA]; simp [hq]
    | false =>
      simp only [Bool.not_false, Bool.cond_true]
      refine ih _ ⟨⟨by simp only; omega, by simp only; omega⟩, ?_⟩ (by simp only; omega)
      simp only; rw [htk, List.filter_append, hA]; simp [hq]
  · have he : i = N.length := by omega
    subst he
    simp only [hi, decide_false, Bool.cond_false]
    rw [Int.toNat_natCast, List.take_length] at hA
    exact hA

end Go.Proofs.Ytdhehmaglhobjaa
