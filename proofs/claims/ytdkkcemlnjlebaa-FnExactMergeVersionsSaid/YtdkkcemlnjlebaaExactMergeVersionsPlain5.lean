/-
  PLAIN LAWS about the models: no program in sight. Conditions: as each theorem states them.
-/
import Derived.Test.YtdkkcemlnjlebaaExactMergeVersionsPlain4
set_option linter.unusedVariables false
set_option linter.unusedSimpArgs false
set_option linter.unusedSectionVars false
set_option linter.unnecessarySimpa false
namespace Go.Proofs.Ytdkkcemlnjlebaa
open Go Go.RowKit Go.Proofs Go.Proofs.Ytdkkcemlnjlebaa.E
/-! ## Two versions merged -/
theorem merge_eqM {base a b : List gSetting} (h1 : m_spec_l27State base = true) (h2 : m_spec_l27State a = true) (h3 : m_spec_l27State b = true) : m_impl_MergeStates base a b = m_spec_l27Merge base a b := by
  simp only [m_impl_MergeStates, state_eq, h1, h2, h3]
  have hn := mnames h1 h2 h3
  simp only [Bool.not_true, Bool.or_self, Bool.cond_false, m_spec_l27Merge]
  rw [conf_eq h1 h2 h3, names_eq]
  cases decide (0 < ((m_spec_l27Conflicts base a b).length : Int)) with
  | true => rfl
  | false =>
    simp only [Bool.cond_false]
    show _ = LOOP (m_spec_l27Merge_b1 base a b) _ _ _
    refine LOOP_sim (fun (x y : List gSetting × Int) => x = y ∧ 0 ≤ x.2 ∧ x.2 ≤ (m_spec_l27Names base a b).length) (fun x => (((m_spec_l27Names base a b).length : Int) - x.2).toNat) (fun x => (((m_spec_l27Names base a b).length : Int) - x.2).toNat) (fun rec₁ rec₂ x₁ x₂ hR ih => ?_) _ _ _ _ ⟨rfl, by simp, by simp⟩ (by simp) (by simp)
    obtain ⟨he, g0, g1⟩ := hR
    subst he
    obtain ⟨s, i⟩ := x₁
    simp only at g0 g1
    simp only [m_impl_MergeStates_b1, m_spec_l27Merge_b1, names_eq, JN]
    by_cases hi : i < ((m_spec_l27Names base a b).length : Int)
    · have hlt : i.toNat < (m_spec_l27Names base a b).length := by omega
      have hat : at' (m_spec_l27Names base a b) i = (m_spec_l27Names base a b)[i.toNat] := by
        have := at_lt (xs := m_spec_l27Names base a b) (j := i.toNat) hlt
        rwa [Int.toNat_of_nonneg g0] at this
      have hne : at' (m_spec_l27Names base a b) i ≠ [] := by rw [hat]; exact hn.1 _ (List.getElem_mem hlt)
      simp only [hi, decide_true, Bool.cond_true]
      rw [same_is (l1 := a) (l2 := base) hne]
      generalize at' (m_spec_l27Names base a b) i = nm at hne
      have key : ∀ l : List gSetting, (bif (m_impl_thingAt l nm).there then rec₁ (s ++ ([gSetting.mk nm (m_impl_thingAt l nm).value] : List gSetting), i + 1) else rec₁ (s, i + 1)) = (bif strB .neq (m_spec_l27Get l nm).Name ([] : List UInt8) then rec₂ (s ++ ([gSetting.mk (m_spec_l27Get l nm).Name (m_spec_l27Get l nm).Value] : List gSetting), i + 1) else rec₂ (s, i + 1)) := fun l => by
        rcases thing_is l nm with ⟨q1, q2⟩ | ⟨v, q1, q2⟩ <;> rw [q1, q2]
        · simp only [Bool.cond_false, strB_neq_self]
          exact ih _ _ ⟨rfl, by simp only; omega, by simp only; omega⟩ (by simp only; omega) (by simp only; omega)
        · simp only [Bool.cond_true, neq_nil hne]
          exact ih _ _ ⟨rfl, by simp only; omega, by simp only; omega⟩ (by simp only; omega) (by simp only; omega)
      generalize ((strB .eql (m_spec_l27Get a nm).Name (m_spec_l27Get base nm).Name) && (((m_spec_l27Get a nm).Value == (m_spec_l27Get base nm).Value) && true)) = c
      cases c with
      | true => simpa only [Bool.cond_true] using key b
      | false => simpa only [Bool.cond_false] using key a
    · simp only [hi, decide_false, Bool.cond_false]
theorem merge_valid {base a b : List gSetting} (h1 : m_spec_l27State base = true) (h2 : m_spec_l27State a = true) (h3 : m_spec_l27State b = true) : (m_spec_l27Merge base a b).1.length ≤ 24 := by
  rw [← merge_eqM h1 h2 h3]; exact mergeI_len base a b
/-! ### Lines, and what two lines share -/
theorem lineF_fuel {list : List gVersion} (h : HV list) : ∀ (k k' : Nat) (n : Int), 0 ≤ n → n ≤ list.length → n.toNat < k → n.toNat < k' → lineF list k n = lineF list k' n
  | 0, _, _, _, _, h, _ => by omega
  | _, 0, _, _, _, _, h => by omega
  | k + 1, k' + 1, n, h0, h1, hk, hk' => by
    rw [lineF, lineF]
    by_cases hn : 0 < n
    · have hp := h.par ⟨hn, h1⟩
      rw [if_pos hn, if_pos hn, lineF_fuel h k k' _ hp.1 (by omega) (by omega) (by omega)]
    · rw [if_neg hn, if_neg hn]
theorem above_loop {list : List gVersion} (h : HV list) {m : Int} : ∀ (fuel : Nat) (n : Int) (acc : List Int), 0 ≤ n → n ≤ list.length → n.toNat < fuel → LOOP (m_spec_l27Above_b1 list m) (fun (x1 : Int × (List Int)) => x1.2) fuel (n, acc) = acc ++ (if 0 < n then lineF list fuel (at' list (n - 1)).Parent else [])
  | 0, _, _, _, _, hf => by omega
  | fuel + 1, n, acc, h0, h1, hf => by
    have hl := h.1
    rw [LOOP, m_spec_l27Above_b1]
    by_cases hn : 0 < n
    · have e : (n != 0) = true := by simp; omega
      simp only [e, Bool.cond_true]
      rw [wr64 (n := n - 1) (by omega), if_pos hn]
      have hp := h.par ⟨hn, h1⟩
      generalize (at' list (n - 1)).Parent = p at hp ⊢
      by_cases hp0 : p = 0
      · subst hp0
        simp only [bne_self_eq_false, Bool.cond_false]
        rw [above_loop h fuel 0 _ (by omega) (by omega) (by omega)]
        simp [lineF]
      · have e2 : (p != 0) = true := by simp [hp0]
        have hp1 : 0 < p := by omega
        simp only [e2, Bool.cond_true]
        rw [above_loop h fuel p _ hp.1 (by omega) (by omega), if_pos hp1, lineF, if_pos hp1]
        simp
    · have : n = 0 := by omega
      subst this
      simp
theorem above_is {list : List gVersion} (h : HV list) {n : Int} (hn : 1 ≤ n ∧ n ≤ list.length) : ([n] : List Int) ++ m_spec_l27Above list n = m_impl_lineOf list n := by
  have hp := h.par (n := n) ⟨by omega, hn.2⟩
  have e : lineF list (n.toNat + 1) n = n :: lineF list n.toNat (at' list (n - 1)).Parent := by rw [lineF, if_pos (by omega)]
  have e2 : m_spec_l27Above list n = lineF list (n.toNat + 1) (at' list (n - 1)).Parent := by
    rw [m_spec_l27Above, above_loop h (n.toNat + 1) n [] (by omega) hn.2 (by omega), if_pos (by omega), List.nil_append]
  rw [line_is h ⟨by omega, hn.2⟩, e, e2, lineF_fuel h (n.toNat + 1) n.toNat _ hp.1 (by omega) (by omega) (by omega)]
  rfl
theorem above_len {list : List gVersion} (h : HV list) {n : Int} (hn : 0 ≤ n ∧ n ≤ list.length) : ((m_spec_l27Above list n).length : Int) ≤ 32 := by
  by_cases h0 : n = 0
  · subst h0
    rw [m_spec_l27Above, above_loop h _ _ _ (by omega) hn.2 (by omega)]
    simp
  · have e := above_is h (n := n) ⟨by omega, hn.2⟩
    have := line_len h hn
    rw [← e, List.length_append] at this
    simp only [List.length_cons, List.length_nil] at this
    omega
theorem has_eq (s : List Int) (v : Int) : m_spec_l00Has s v = m_slices_Contains_int64 s v := by
  have h1 : (m_spec_l00Has s v = true) ↔ v ∈ s := by
    simp only [m_spec_l00Has]
    have key := LOOP_post (b := m_spec_l00Has_b1 s v) (k := fun _ => false) (fun i => 0 ≤ i ∧ i ≤ (s.length : Int) ∧ ∀ j : Int, 0 ≤ j → j < i → at' s j ≠ v) (fun i => ((s.length : Int) - i).toNat) (fun _ r => r = true ↔ v ∈ s) (fun rec i hi ih => by
      simp only [m_spec_l00Has_b1]
      by_cases hl : i < (s.length : Int)
      · simp only [hl, decide_true, Bool.cond_true]
        by_cases he : at' s i = v
        · have : (at' s i == v) = true := by simp [he]
          simp only [this, Bool.cond_true, true_iff]
          rw [← he]; exact at_mem ⟨hi.1, hl⟩
        · have : (at' s i == v) = false := by simp [he]
          simp only [this, Bool.cond_false]
          exact ih _ ⟨by omega, by omega, fun j h0 hj => by
            by_cases e : j = i
            · subst e; exact he
            · exact hi.2.2 j h0 (by omega)⟩ (by omega)
      · simp only [hl, decide_false, Bool.cond_false]
        constructor
        · intro h; simp at h
        · intro hm
          obtain ⟨j, hj, e⟩ := List.mem_iff_getElem.1 hm
          have h2 : at' s (j : Int) = s[j] := by simp [at', List.getD_eq_getElem?_getD, hj]
          exact absurd (h2.trans e) (hi.2.2 j (by omega) (by omega))) (((s.length : Int) - 0 : Int).toNat + 1) 0 ⟨by omega, by omega, fun j h0 hj => by omega⟩ (by omega)
    exact key
  rw [Bool.eq_iff_iff, h1, has_iff]
theorem com_eq {list : List gVersion} (h : HV list) {a b : Int} (ha : 1 ≤ a ∧ a ≤ list.length) (hb : 1 ≤ b ∧ b ≤ list.length) : m_spec_l27Common list a b = m_impl_commonAncestor list a b := by
  simp only [m_spec_l27Common, m_impl_commonAncestor]
  rw [show ((([a] : List Int) ++ m_spec_l27Above list a).length : Int) = ((m_impl_lineOf list a).length : Int) by rw [above_is h ha]]
  refine LOOP_sim (b₁ := m_spec_l27Common_b1 list a b) (b₂ := m_impl_commonAncestor_b1 list a b) (fun x y => x = y ∧ 0 ≤ x) (fun x => (((m_impl_lineOf list a).length : Int) - x).toNat) (fun x => (((m_impl_lineOf list a).length : Int) - x).toNat) ?_ _ _ _ _ ⟨rfl, by omega⟩ (by omega) (by omega)
  rintro r1 r2 x y ⟨rfl, h0⟩ ih
  simp only [m_spec_l27Common_b1, m_impl_commonAncestor_b1, above_is h ha, above_is h hb, has_eq]
  by_cases hx : x < ((m_impl_lineOf list a).length : Int)
  · simp only [hx, decide_true, Bool.cond_true]
    cases m_slices_Contains_int64 (m_impl_lineOf list b) (at' (m_impl_lineOf list a) x) with
    | true => rfl
    | false => exact ih _ _ ⟨rfl, by omega⟩ (by omega) (by omega)
  · simp only [hx, decide_false, Bool.cond_false]
theorem stateof_eq (list : List gVersion) (n : Int) : m_spec_l27StateOf list n = m_impl_versionState list n := rfl
theorem com_spec {list : List gVersion} (h : HV list) {a b : Int} (ha : 1 ≤ a ∧ a ≤ list.length) (hb : 1 ≤ b ∧ b ≤ list.length) : (0 ≤ m_spec_l27Common list a b ∧ m_spec_l27Common list a b ≤ list.length) ∧ (m_spec_l27Merge (m_spec_l27StateOf list (m_spec_l27Common list a b)) (m_spec_l27StateOf list a) (m_spec_l27StateOf list b)).1.length ≤ 24 ∧ (m_spec_l27StateOf list (m_spec_l27Common list a b)).length ≤ 24 ∧ (m_spec_l27StateOf list a).length ≤ 24 ∧ (m_spec_l27StateOf list b).length ≤ 24 := by
  have hc := com_rng h (a := a) (b := b) ⟨by omega, ha.2⟩ ⟨by omega, hb.2⟩
  rw [com_eq h ha hb]
  have v1 := vstate_ok h (n := m_impl_commonAncestor list a b) ⟨hc.1, by omega⟩
  have v2 := vstate_ok h (n := a) ⟨by omega, ha.2⟩
  have v3 := vstate_ok h (n := b) ⟨by omega, hb.2⟩
  simp only [stateof_eq]
  exact ⟨⟨hc.1, by omega⟩, merge_valid v1 v2 v3, state_l24 v1, state_l24 v2, state_l24 v3⟩
theorem hist_eq (list : List gVersion) : m_impl_ValidHistory list = m_spec_l27Ok list := Bool.eq_iff_iff.2 ((histI_iff list).trans (hist_iff list).symm)
theorem number2_eq (list : List gVersion) (a b : Int) : m_impl_allWithin ([a, b] : List Int) 1 (list.length : Int) = (m_spec_l27Number list a && m_spec_l27Number list b) := by
  rw [Bool.eq_iff_iff, allWithin_iff]
  simp [m_spec_l27Number, m_spec_l00In]
theorem MergeVersions_eq (list : List gVersion) (a b : Int) (memo : List UInt8) : m_impl_MergeVersions list a b memo = m_spec_MergeVersions list a b memo := by
  simp only [m_impl_MergeVersions, m_spec_MergeVersions, m_impl_versionsCode, hist_eq, number2_eq, memo_eq]
  cases h1 : m_spec_l27Ok list with
  | false => simp
  | true =>
    cases h2 : m_spec_l27Memo memo with
    | false => simp
    | true =>
      cases h3 : m_spec_l27Number list a with
      | false => simp
      | true =>
        cases h4 : m_spec_l27Number list b with
        | false => simp
        | true =>
          simp only [Bool.not_true, Bool.or_self, Bool.and_self, Bool.cond_false, bne_self_eq_false, show ((0 : Int) == 1) = false from rfl]
          have hv := (hist_iff list).1 h1
          have ha : 1 ≤ a ∧ a ≤ (list.length : Int) := l00In_imp h3
          have hb : 1 ≤ b ∧ b ≤ (list.length : Int) := l00In_imp h4
          have hc := com_rng hv (a := a) (b := b) ⟨by omega, ha.2⟩ ⟨by omega, hb.2⟩
          have v1 := vstate_ok hv (n := m_impl_commonAncestor list a b) ⟨hc.1, by omega⟩
          have v2 := vstate_ok hv (n := a) ⟨by omega, ha.2⟩
          have v3 := vstate_ok hv (n := b) ⟨by omega, hb.2⟩
          rw [com_eq hv ha hb, merge_eqM v1 v2 v3, add_is]
          rfl
theorem MergeVersions_small (list : List gVersion) (a b : Int) (memo : List UInt8) : (m_spec_MergeVersions list a b memo).1.length ≤ 1048576 ∧ ∀ e ∈ (m_spec_MergeVersions list a b memo).1, e.State.length ≤ 1048576 := by
  simp only [m_spec_MergeVersions]
  cases h1 : m_spec_l27Ok list with
  | false => simp
  | true =>
    cases h2 : m_spec_l27Memo memo with
    | false => simp
    | true =>
      cases h3 : m_spec_l27Number list a with
      | false => simp
      | true =>
        cases h4 : m_spec_l27Number list b with
        | false => simp
        | true =>
          simp only [Bool.not_true, Bool.or_self, Bool.cond_false]
          have hv := (hist_iff list).1 h1
          have hs := com_spec hv (l00In_imp h3) (l00In_imp h4)
          cases ((m_spec_l27Merge (m_spec_l27StateOf list (m_spec_l27Common list a b)) (m_spec_l27StateOf list a) (m_spec_l27StateOf list b)).2 != 0) with
          | true => simp
          | false =>
            simp only [Bool.cond_false]
            exact add_small hv hs.2.1

end Go.Proofs.Ytdkkcemlnjlebaa
