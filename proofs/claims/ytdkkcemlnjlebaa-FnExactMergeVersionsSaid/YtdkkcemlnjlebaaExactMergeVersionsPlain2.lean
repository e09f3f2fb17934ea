/-
  PLAIN LAWS about the models: no program in sight. Conditions: as each theorem states them.
-/
import Derived.Test.YtdkkcemlnjlebaaExactMergeVersionsPlain1
set_option linter.unusedVariables false
set_option linter.unusedSimpArgs false
set_option linter.unusedSectionVars false
set_option linter.unnecessarySimpa false
namespace Go.Proofs.Ytdkkcemlnjlebaa
open Go Go.RowKit Go.Proofs Go.Proofs.Ytdkkcemlnjlebaa.E

/-! ## Names: both models judge alike -/
theorem and_bif (p q : Bool) : (bif p then q else false) = (p && q) := by cases p <;> rfl
theorem name_eq (s : List UInt8) : m_impl_IsName s = m_spec_l01Name s := by
  rw [Bool.eq_iff_iff]
  have h1 := LOOP_all (b := m_impl_onlyNameBytes_b1 s) (n := s.length) (fun rec k i _ => rfl) (k := fun _ => true) ((s.length : Int) - 0 : Int).toNat.succ 0 (by omega) (by omega) (by omega)
  have h2 := LOOP_all (b := m_spec_l01Name_b1 s) (n := s.length) (fun rec k i _ => rfl) (k := fun _ => true) ((s.length : Int) - 0 : Int).toNat.succ 0 (by omega) (by omega) (by omega)
  simp only [m_impl_IsName, m_spec_l01Name, m_impl_onlyNameBytes]
  change (LOOP _ _ (((s.length : Int) - 0 : Int).toNat + 1) _ = true ↔ _) at h1
  change (LOOP _ _ (((s.length : Int) - 0 : Int).toNat + 1) _ = true ↔ _) at h2
  have hl : strB .eql s [] = decide ((s.length : Int) < 1) := by
    cases s <;> simp [strB]; omega
  rw [hl]
  generalize ((s.getD (0 : Int).toNat 0).toNat : Int) = c
  simp only [m_spec_l01Small]
  simp only [Bool.cond_eq_ite, Bool.or_eq_true, Bool.not_eq_true', Bool.and_eq_false_iff, decide_eq_true_eq, decide_eq_false_iff_not]
  have e : (∀ j : Nat, (0 : Int) ≤ j → j < s.length → ((decide ((((s.getD (j : Int).toNat 0).toNat : Nat) : Int) < 97) || decide (122 < (((s.getD (j : Int).toNat 0).toNat : Nat) : Int))) && (decide ((((s.getD (j : Int).toNat 0).toNat : Nat) : Int) < 48) || decide (57 < (((s.getD (j : Int).toNat 0).toNat : Nat) : Int)))) = false) ↔ (∀ j : Nat, (0 : Int) ≤ j → j < s.length → (!m_spec_l01Small (((s.getD (j : Int).toNat 0).toNat : Nat) : Int) && !m_spec_l01Digit (((s.getD (j : Int).toNat 0).toNat : Nat) : Int)) = false) := by
    refine forall_congr' fun j => forall_congr' fun _ => forall_congr' fun _ => ?_
    generalize (((s.getD (j : Int).toNat 0).toNat : Nat) : Int) = c
    simp only [m_spec_l01Small, m_spec_l01Digit, Bool.and_eq_false_iff, Bool.or_eq_false_iff, Bool.not_eq_false', Bool.and_eq_true, decide_eq_true_eq, decide_eq_false_iff_not]
    omega
  split <;> rename_i h1' <;> split <;> rename_i h2'
  · simp
  · exfalso; omega
  · exfalso; omega
  · rw [h1, h2, e]
theorem within_eq (n l h : Int) : m_impl_within n l h = m_spec_l00In n l h := rfl
theorem name_len {s : List UInt8} (h : m_spec_l01Name s = true) : s.length ≤ 10 := by
  simp only [m_spec_l01Name] at h
  cases hc : ((strB .eql s ([] : List UInt8)) || (decide (10 < (s.length : Int)))) with
  | true => rw [hc] at h; simp at h
  | false =>
    simp only [Bool.or_eq_false_iff, decide_eq_false_iff_not] at hc; omega

/-! ## Bounds -/
theorem l00In_imp {n l h : Int} (e : m_spec_l00In n l h = true) : l ≤ n ∧ n ≤ h := by
  simpa [m_spec_l00In] using e
theorem within_imp {n l h : Int} (e : m_impl_within n l h = true) : l ≤ n ∧ n ≤ h := by
  simpa [m_impl_within] using e

/-! ## Texts in order -/
theorem bytes_tri : ∀ (a b : List UInt8), (Op.bytesLess a b || a == b) = !Op.bytesLess b a
  | [], [] => rfl
  | [], _ :: _ => rfl
  | _ :: _, [] => rfl
  | x :: a, y :: b => by
    have ih := bytes_tri a b
    simp only [Op.bytesLess]
    by_cases h1 : x < y
    · have h2 : ¬ y < x := fun h => absurd (UInt8.lt_trans h1 h) (UInt8.lt_irrefl _)
      have h3 : ¬ (y == x) = true := fun h => by rw [beq_iff_eq] at h; subst h; exact h2 h1
      simp [h1, h2, h3]
    · by_cases h2 : y < x
      · have h3 : ¬ (x == y) = true := fun h => by rw [beq_iff_eq] at h; subst h; exact h1 h2
        have h4 : ¬ x = y := fun h => h3 (by simp [h])
        simp [h1, h2, h4]
      · have h3 : x = y := UInt8.le_antisymm (UInt8.not_lt.1 h2) (UInt8.not_lt.1 h1)
        subst h3
        simp only [h1, decide_false, Bool.false_or, beq_self_eq_true, Bool.true_and]
        rw [← ih]
        simp
theorem strleq_geq (a b : List UInt8) : strB .leq a b = strB .geq b a := bytes_tri a b

/-! ## Labels of what a closure holds -/
theorem labB_ro {C : List V} (h : C.all V.ro = true) : C.flatMap V.labB = [] := by
  rw [List.flatMap_eq_nil_iff]
  intro v hv
  have := List.all_eq_true.1 h v hv
  cases v <;> first | rfl | (simp [V.ro] at this)
theorem cpy_tail_len {α : Type} {xs : List α} {o : Nat} {z : α} : (cpy xs o (List.replicate ((xs.length : Int).toNat - o) z)).length = xs.length := by
  simp only [cpy, List.length_append, List.length_take, List.length_drop, List.length_replicate, Int.toNat_natCast]; omega
theorem pre_len2 {α : Type} {xs : List α} {b : Int} : (pre' xs b).length = min b.toNat xs.length := by unfold pre'; rw [List.length_take]

/-! ## Rising lists of texts -/
abbrev Txt := List UInt8
theorem lss_eq (a b : Txt) : strB .lss a b = decide (a < b) := bytesLess_eq a b
theorem geq_eq (a b : Txt) : strB .geq a b = !decide (a < b) := by show (!Op.bytesLess a b) = _; rw [bytesLess_eq]
theorem neq_iff {a b : Txt} : strB .neq a b = true ↔ a ≠ b := by simp [strB]
theorem lt_le {a b : Txt} (h : a < b) : a ≤ b := List.le_of_lt h
theorem lt_trans' {a b c : Txt} (h : a < b) (h2 : b < c) : a < c := List.lt_trans h h2
theorem lt_of_le_lt {a b c : Txt} (h : a ≤ b) (h2 : b < c) : a < c := List.lt_of_le_of_lt h h2
theorem lt_of_le_ne' {a b : Txt} (h : a ≤ b) (h2 : a ≠ b) : a < b := Std.lt_of_le_of_ne h h2
abbrev Rise (l : List Txt) : Prop := l.Pairwise (· < ·)
theorem rise_ext {s t : List Txt} (hs : Rise s) (ht : Rise t) (h : ∀ x, x ∈ s ↔ x ∈ t) : s = t := by
  have nd : ∀ {l : List Txt}, Rise l → l.Nodup := fun hl => hl.imp (fun hab e => by subst e; exact List.lt_irrefl _ hab)
  have hp : s.Perm t := (List.perm_ext_iff_of_nodup (nd hs) (nd ht)).2 h
  exact List.Perm.eq_of_pairwise (le := (· < ·)) (fun a b _ _ h1 h2 => absurd (List.lt_trans h1 h2) (List.lt_irrefl a)) hs ht hp
theorem sortS_up (l : List Txt) : (l.mergeSort fun x y => decide (x ≤ y)).Pairwise (· ≤ ·) := by
  have := List.pairwise_mergeSort (le := fun x y : Txt => decide (x ≤ y)) (fun a b c h1 h2 => by simp only [decide_eq_true_eq] at *; exact List.le_trans h1 h2) (fun a b => by simp only [Bool.or_eq_true, decide_eq_true_eq]; exact List.le_total a b) l
  exact this.imp (fun h => by simpa using h)
theorem arr_at {zs : List Txt} {j : Nat} (h : j < zs.length) : zs.toArray[j]! = zs[j] := by
  rw [getElem!_pos _ j (by simpa using h), List.getElem_toArray]
theorem compact_mem {zs : List Txt} : ∀ x, x ∈ Lib.compact zs ↔ x ∈ zs := by
  intro x
  simp only [Lib.compact, Lib.compactUpTo, List.mem_map, List.mem_filter, List.mem_range]
  constructor
  · rintro ⟨j, ⟨hj, _⟩, rfl⟩
    rw [arr_at hj]; exact List.getElem_mem hj
  · intro hx
    obtain ⟨j, hj, rfl⟩ := List.getElem_of_mem hx
    induction j with
    | zero => exact ⟨0, ⟨hj, by simp [Lib.keeps]⟩, arr_at hj⟩
    | succ j ih =>
      by_cases he : zs[j + 1] = zs[j]'(by omega)
      · rw [he]; exact ih (by omega) (List.getElem_mem _)
      · refine ⟨j + 1, ⟨hj, ?_⟩, arr_at hj⟩
        simp only [Lib.keeps, decide_eq_true_eq]
        right
        rw [arr_at hj, Nat.add_sub_cancel, arr_at (by omega)]; exact he
theorem compact_rise {zs : List Txt} (h : zs.Pairwise (· ≤ ·)) : Rise (Lib.compact zs) := by
  simp only [Rise, Lib.compact, Lib.compactUpTo, List.pairwise_map]
  have hr : ((List.range zs.length).filter (Lib.keeps zs.toArray)).Pairwise (· < ·) := List.Pairwise.filter _ List.pairwise_lt_range
  refine hr.imp_of_mem (fun {i j} hi hj hij => ?_)
  simp only [List.mem_filter, List.mem_range] at hi hj
  have hk := hj.2
  simp only [Lib.keeps, decide_eq_true_eq] at hk
  rw [arr_at hi.1, arr_at hj.1]
  rw [arr_at hj.1, arr_at (by omega)] at hk
  have hne : zs[j]'hj.1 ≠ zs[j - 1]'(by omega) := by
    rcases hk with hk | hk
    · omega
    · exact hk
  have h1 : zs[i]'hi.1 ≤ zs[j - 1]'(by omega) := by
    rcases Nat.lt_or_ge i (j - 1) with hlt | hge
    · exact List.pairwise_iff_getElem.1 h i (j - 1) hi.1 (by omega) hlt
    · have : i = j - 1 := by omega
      subst this; exact List.le_refl _
  have h2 : zs[j - 1]'(by omega) ≤ zs[j]'hj.1 := List.pairwise_iff_getElem.1 h (j - 1) j (by omega) hj.1 (by omega)
  exact lt_of_le_lt h1 (lt_of_le_ne' h2 (fun e => hne e.symm))

/-! ## slices.IndexFunc and slices.DeleteFunc over texts -/
theorem idx_is (s : List Txt) (del : Txt → Bool) : (m_slices_IndexFunc_string s del = -1 ∧ ∀ y ∈ s, del y = false) ∨ ((0 ≤ m_slices_IndexFunc_string s del ∧ m_slices_IndexFunc_string s del < s.length) ∧ del (at' s (m_slices_IndexFunc_string s del)) = true ∧ ∀ y ∈ s.take (m_slices_IndexFunc_string s del).toNat, del y = false) := by
  simp only [m_slices_IndexFunc_string]
  refine LOOP_post (fun (x : Int) => (0 ≤ x ∧ x ≤ s.length) ∧ ∀ y ∈ s.take x.toNat, del y = false) (fun x => ((s.length : Int) - x).toNat) (fun _ (r : Int) => (r = -1 ∧ ∀ y ∈ s, del y = false) ∨ ((0 ≤ r ∧ r < s.length) ∧ del (at' s r) = true ∧ ∀ y ∈ s.take r.toNat, del y = false)) (fun rec x hI ih => ?_) _ _ ⟨⟨by omega, by omega⟩, by simp⟩ (by omega)
  obtain ⟨⟨h0, h1⟩, h2⟩ := hI
  simp only [m_slices_IndexFunc_string_b1]
  by_cases hi : x < (s.length : Int)
  · have hlt : x.toNat < s.length := by omega
    have hat : at' s x = s[x.toNat] := by
      have := at_lt (xs := s) (j := x.toNat) hlt
      rwa [Int.toNat_of_nonneg h0] at this
    simp only [hi, decide_true, Bool.cond_true]
    cases hd : del (at' s x) with
    | true => exact .inr ⟨⟨h0, hi⟩, hd, h2⟩
    | false =>
      refine ih _ ⟨⟨by omega, by omega⟩, fun y hy => ?_⟩ (by omega)
      rw [show (x + 1).toNat = x.toNat + 1 by omega, List.take_succ_eq_append_getElem hlt, List.mem_append, List.mem_singleton] at hy
      rcases hy with hy | hy
      · exact h2 y hy
      · rw [hy, ← hat]; exact hd
  · have : x = s.length := by omega
    subst this
    simp only [hi, decide_false, Bool.cond_false]
    rw [Int.toNat_natCast, List.take_length] at h2
    exact .inl ⟨by first | rfl | trivial, h2⟩
theorem filt_none {s : List Txt} {del : Txt → Bool} (h : ∀ y ∈ s, del y = false) : s.filter (fun y => !del y) = s := by
  rw [List.filter_eq_self]; intro y hy; simp [h y hy]
theorem del_is (s : List Txt) (del : Txt → Bool) (hl : s.length ≤ 1000000) : m_slices_DeleteFunc_string s del = (s.filter (fun y => !del y), s.filter (fun y => !del y)) := by
  simp only [m_slices_DeleteFunc_string]
  rcases idx_is s del with ⟨h1, h2⟩ | ⟨⟨h0, h1⟩, h2, h3⟩
  · rw [h1, filt_none h2]; rfl
  · generalize m_slices_IndexFunc_string s del = I at h0 h1 h2 h3
    have hne : (I == -1) = false := by rw [beq_eq_false_iff_ne]; omega
    have hlt : I.toNat < s.length := by omega
    have hat : at' s I = s[I.toNat] := by
      have := at_lt (xs := s) (j := I.toNat) hlt
      rwa [Int.toNat_of_nonneg h0] at this
    rw [hne, Bool.cond_false, wr64 (n := I + 1) (by omega)]
    refine LOOP_is (fun (x : List Txt × Int × Int) => (0 ≤ x.2.1 ∧ x.2.1 < x.2.2 ∧ x.2.2 ≤ s.length) ∧ x.1.length = s.length ∧ x.1.take x.2.1.toNat = (s.take x.2.2.toNat).filter (fun y => !del y) ∧ x.1.drop x.2.2.toNat = s.drop x.2.2.toNat) (fun x => ((s.length : Int) - x.2.2).toNat) (fun _ => (s.filter (fun y => !del y), s.filter (fun y => !del y))) (fun rec x hI ih => ?_) ⟨⟨h0, by simp only; omega, by simp only; omega⟩, rfl, ?_, rfl⟩ (by simp only; omega)
    · obtain ⟨xs, i, j⟩ := x
      obtain ⟨⟨g0, g1, g2⟩, hx, ht, hd⟩ := hI
      simp only at g0 g1 g2 hx ht hd
      simp only [m_slices_DeleteFunc_string_b1, hx]
      by_cases hj : j < (s.length : Int)
      · have hjl : j.toNat < s.length := by omega
        have ej : (j + 1).toNat = j.toNat + 1 := by omega
        have hxj : at' xs j = s[j.toNat] := by
          have h := at_lt (xs := xs) (j := j.toNat) (by omega)
          rw [Int.toNat_of_nonneg (by omega)] at h
          rw [h]
          have h4 : xs.drop j.toNat = xs[j.toNat]'(by omega) :: xs.drop (j.toNat + 1) := List.drop_eq_getElem_cons (by omega)
          have h5 : s.drop j.toNat = s[j.toNat] :: s.drop (j.toNat + 1) := List.drop_eq_getElem_cons hjl
          rw [h4, h5] at hd
          exact (List.cons.inj hd).1
        have hdn : xs.drop (j.toNat + 1) = s.drop (j.toNat + 1) := by
          have := congrArg (List.drop 1) hd
          rwa [List.drop_drop, List.drop_drop] at this
        simp only [hj, decide_true, Bool.cond_true, hxj]
        cases hq : del s[j.toNat] with
        | true =>
          simp only [Bool.not_true, Bool.cond_false]
          refine ih _ ⟨⟨by simp only; omega, by simp only; omega, by simp only; omega⟩, hx, ?_, ?_⟩ (by simp only; omega)
          · simp only; rw [ej, List.take_succ_eq_append_getElem hjl, List.filter_append, ht]; simp [hq]
          · simp only; rw [ej]; exact hdn
        | false =>
          simp only [Bool.not_false, Bool.cond_true]
          rw [wr64 (n := i + 1) (by omega)]
          refine ih _ ⟨⟨by simp only; omega, by simp only; omega, by simp only; omega⟩, by simp only [put_len]; exact hx, ?_, ?_⟩ (by simp only; omega)
          · simp only
            have hpt : (put' xs i s[j.toNat]).take (i + 1).toNat = xs.take i.toNat ++ [s[j.toNat]] := by
              have e1 : (i + 1).toNat = i.toNat + 1 := by omega
              unfold put'
              rw [e1, List.take_succ_eq_append_getElem (by rw [List.length_set]; omega), List.getElem_set_self, List.take_set_of_le (by omega)]
            rw [hpt, ej, List.take_succ_eq_append_getElem hjl, List.filter_append, ht]; simp [hq]
          · simp only
            unfold put'
            rw [ej, List.drop_set_of_lt (by omega)]; exact hdn
      · have he : j = s.length := by omega
        subst he
        simp only [hj, decide_false, Bool.cond_false]
        rw [Int.toNat_natCast, List.take_length] at ht
        have hp : pre' (cpy xs i.toNat (List.replicate ((s.length : Int).toNat - i.toNat) ([] : Txt))) i = s.filter (fun y => !del y) := by
          unfold pre' cpy
          rw [List.append_assoc, List.take_append_of_le_length (by rw [List.length_take]; omega), List.take_take, Nat.min_self]; exact ht
        rw [hp]
    · simp only
      rw [show (I + 1).toNat = I.toNat + 1 by omega, List.take_succ_eq_append_getElem hlt, List.filter_append, filt_none h3, ← hat]
      simp [h2]

/-! ## Names of states: putting a setting in its place -/
abbrev nms (l : List gSetting) : List Txt := l.map (·.Name)
theorem set_is {L : List gSetting} (hL : Rise (nms L)) (e : gSetting) : Rise (nms (m_spec_l27Set L e)) ∧ ∀ z, z ∈ nms (m_spec_l27Set L e) ↔ z ∈ nms L ∨ z = e.Name := by
  simp only [m_spec_l27Set]
  refine LOOP_post (fun (x : List gSetting × Bool × Int) => (0 ≤ x.2.2 ∧ x.2.2 ≤ L.length) ∧ Rise (nms x.1) ∧ (∀ z, z ∈ nms x.1 ↔ z ∈ nms (L.take x.2.2.toNat) ∨ (x.2.1 = true ∧ z = e.Name)) ∧ (x.2.1 = false → ∀ z ∈ nms (L.take x.2.2.toNat), z < e.Name) ∧ (x.2.1 = true → ∀ j (hj : j < L.length), x.2.2.toNat ≤ j → e.Name < L[j].Name))
    (fun x => ((L.length : Int) - x.2.2).toNat) (fun _ (r : List gSetting) => Rise (nms r) ∧ ∀ z, z ∈ nms r ↔ z ∈ nms L ∨ z = e.Name) (fun rec x hI ih => ?_) _ _ ⟨⟨by simp, by simp⟩, List.Pairwise.nil, by simp [nms], by simp [nms], by simp⟩ (by simp)
  obtain ⟨out, done, i⟩ := x
  obtain ⟨⟨h0, h1⟩, hA, hB, hC, hD⟩ := hI
  simp only at h0 h1 hA hB hC hD
  simp only [m_spec_l27Set_b1, JN]
  have hget : ∀ j k (hj : j < L.length) (hk : k < L.length), j < k → L[j].Name < L[k].Name := fun j k hj hk hjk => by
    have := List.pairwise_iff_getElem.1 hL j k (by simpa [nms] using hj) (by simpa [nms] using hk) hjk
    simpa [nms] using this
  have hsnoc : ∀ (l : List gSetting) (q : gSetting), Rise (nms l) → (∀ z ∈ nms l, z < q.Name) → Rise (nms (l ++ [q])) := fun l q h1 h2 => by
    simp only [nms, List.map_append, List.map_cons, List.map_nil, Rise]
    rw [List.pairwise_append]
    exact ⟨h1, List.pairwise_singleton _ _, fun z hz y hy => by rw [List.mem_singleton] at hy; rw [hy]; exact h2 z hz⟩
  have hmem : ∀ (l : List gSetting) (q : gSetting) z, z ∈ nms (l ++ [q]) ↔ z ∈ nms l ∨ z = q.Name := fun l q z => by
    simp only [nms, List.map_append, List.map_cons, List.map_nil, List.mem_append, List.mem_singleton]
  by_cases hi : i < (L.length : Int)
  · have hlt : i.toNat < L.length := by omega
    have hat : at' L i = L[i.toNat] := by
      have := at_lt (xs := L) (j := i.toNat) hlt
      rwa [Int.toNat_of_nonneg h0] at this
    have et : (i + 1).toNat = i.toNat + 1 := by omega
    have htk : L.take (i + 1).toNat = L.take i.toNat ++ [at' L i] := by rw [et, List.take_succ_eq_append_getElem hlt, hat]
    have hup : ∀ z ∈ nms (L.take i.toNat), z < (at' L i).Name := by
      intro z hz
      obtain ⟨q, hq, rfl⟩ := List.mem_map.1 hz
      obtain ⟨j, hj, rfl⟩ := List.getElem_of_mem hq
      rw [List.length_take] at hj
      rw [List.getElem_take, hat]
      exact hget j i.toNat (by omega) hlt (by omega)
    have hnx : ∀ j (hj : j < L.length), i.toNat + 1 ≤ j → (at' L i).Name < L[j].Name := fun j hj hij => by
      rw [hat]; exact hget i.toNat j hlt hj (by omega)
    simp only [hi, decide_true, Bool.cond_true]
    cases hd : done with
    | true =>
      subst hd
      have hlt' : e.Name < (at' L i).Name := by rw [hat]; exact hD rfl i.toNat hlt (Nat.le_refl _)
      have hne : strB .neq (at' L i).Name e.Name = true := neq_iff.2 (fun h => by rw [h] at hlt'; exact List.lt_irrefl _ hlt')
      simp only [Bool.not_true, Bool.false_and, Bool.cond_false, hne, Bool.cond_true]
      refine ih _ ⟨⟨by simp only; omega, by simp only; omega⟩, hsnoc _ _ hA (fun z hz => ?_), fun z => ?_, by simp, ?_⟩ (by simp only; omega)
      · rcases (hB z).1 hz with h | ⟨_, rfl⟩
        · exact hup z h
        · exact hlt'
      · simp only [htk]
        rw [hmem, hmem, hB z]
        constructor
        · rintro ((h | h) | h)
          · exact .inl (.inl h)
          · exact .inr ⟨by trivial, h.2⟩
          · exact .inl (.inr h)
        · rintro ((h | h) | h)
          · exact .inl (.inl h)
          · exact .inr h
          · exact .inl (.inr ⟨rfl, h.2⟩)
      · intro _ j hj hij
        simp only [et] at hij
        exact hD rfl j hj (by omega)
    | false =>
      subst hd
      have hCf := hC rfl
      have hBf : ∀ z, z ∈ nms out → z ∈ nms (L.take i.toNat) := fun z hz => by
        rcases (hB z).1 hz with h | ⟨h, _⟩
        · exact h
        · simp at h
      by_cases hlt' : (at' L i).Name < e.Name
      · have hg : strB .geq (at' L i).Name e.Name = false := by rw [geq_eq]; simp [hlt']
        have hne : strB .neq (at' L i).Name e.Name = true := neq_iff.2 (fun h => by rw [h] at hlt'; exact List.lt_irrefl _ hlt')
        simp only [hg, Bool.and_false, Bool.cond_false, hne, Bool.cond_true]
        refine ih _ ⟨⟨by simp only; omega, by simp only; omega⟩, hsnoc _ _ hA (fun z hz => hup z (hBf z hz)), fun z => ?_, ?_, by simp⟩ (by simp only; omega)
        · simp only [htk]
          rw [hmem, hmem, hB z]; simp
        · intro _ z hz
          simp only [htk] at hz
          rw [hmem] at hz
          rcases hz with h | rfl
          · exact hCf z h
          · exact hlt'
      · have hle : e.Name ≤ (at' L i).Name := List.not_lt.1 hlt'
        have hg : strB .geq (at' L i).Name e.Name = true := by rw [geq_eq]; simp [hlt']
        have hS1 : Rise (nms (out ++ [e])) := hsnoc _ _ hA (fun z hz => hCf z (hBf z hz))
        have hDn : ∀ j (hj : j < L.length), (i + 1).toNat ≤ j → e.Name < L[j].Name := fun j hj hij => lt_of_le_lt hle (hnx j hj (by omega))
        simp only [hg, Bool.not_false, Bool.true_and, Bool.cond_true]
        by_cases he : (at' L i).Name = e.Name
        · have hne : strB .neq (at' L i).Name e.Name = false := by
            cases hq : strB .neq (at' L i).Name e.Name with
            | false => rfl
            | true => exact absurd he (neq_iff.1 hq)
          simp only [hne, Bool.cond_false]
          refine ih _ ⟨⟨by simp only; omega, by simp only; omega⟩, hS1, fun z => ?_, by simp, fun _ => hDn⟩ (by simp only; omega)
          simp only [htk]
          rw [hmem, hmem, hB z, he]; simp
        · simp only [neq_iff.2 he, Bool.cond_true]
          refine ih _ ⟨⟨by simp only; omega, by simp only; omega⟩, hsnoc _ _ hS1 (fun z hz => ?_), fun z => ?_, by simp, fun _ => hDn⟩ (by simp only; omega)
          · rw [hmem] at hz
            rcases hz with hz | rfl
            · exact hup z (hBf z hz)
            · exact lt_of_le_ne' hle (fun h => he h.symm)
          · simp only [htk]
            rw [hmem, hmem, hmem, hB z]
            constructor
            · rintro ((h | h) | h)
              · rcases h with h | h
                · exact .inl (.inl h)
                · simp at h
              · exact .inr ⟨by trivial, h⟩
              · exact .inl (.inr h)
            · rintro ((h | h) | h)
              · exact .inl (.inl (.inl h))
              · exact .inr h
              · exact .inl (.inr h.2)
  · have he : i = L.length := by omega
    subst he
    simp only [hi, decide_false, Bool.cond_false]
    rw [Int.toNat_natCast, List.take_length] at hB hC
    cases hd : done with
    | true =>
      subst hd
      simp only [Bool.not_true, Bool.cond_false]
      exact ⟨hA, fun z => by rw [hB z]; simp⟩
    | false =>
      subst hd
      simp only [Bool.not_false, Bool.cond_true]
      refine ⟨hsnoc _ _ hA (fun z hz => ?_), fun z => by rw [hmem, hB z]; simp⟩
      rcases (hB z).1 hz with h | ⟨h, _⟩
      · exact hC rfl z h
      · simp at h

/-! ## ConflictsOf: names -/
theorem sets_is {L base : List gSetting} (hL : Rise (nms L)) {b : ((List gSetting) × Int → List Txt) → ((List gSetting) × Int → List Txt) → (List gSetting) × Int → List Txt} {k : (List gSetting) × Int → List Txt} (hb : ∀ rec x, b rec k x = bif decide (x.2 < (base.length : Int)) then rec (m_spec_l27Set x.1 (at' base x.2), x.2 + 1) else k (x.1, x.2)) :
    ∃ R, Rise (nms R) ∧ (∀ z, z ∈ nms R ↔ z ∈ nms L ∨ z ∈ nms base) ∧ LOOP b k (((base.length : Int) - 0 : Int).toNat + 1) (L, 0) = k (R, (base.length : Int)) := by
  have := LOOP_post (b := b) (k := k) (fun (x : List gSetting × Int) => (0 ≤ x.2 ∧ x.2 ≤ base.length) ∧ Rise (nms x.1) ∧ ∀ z, z ∈ nms x.1 ↔ z ∈ nms L ∨ z ∈ nms (base.take x.2.toNat)) (fun x => ((base.length : Int) - x.2).toNat) (fun _ (r : List Txt) => ∃ R, Rise (nms R) ∧ (∀ z, z ∈ nms R ↔ z ∈ nms L ∨ z ∈ nms base) ∧ r = k (R, (base.length : Int))) (fun rec x hI ih => ?_) (((base.length : Int) - 0 : Int).toNat + 1) (L, 0) ⟨⟨by simp, by simp⟩, hL, by simp [nms]⟩ (by simp)
  · exact this
  · obtain ⟨s, i⟩ := x
    obtain ⟨⟨h0, h1⟩, hA, hB⟩ := hI
    simp only at h0 h1 hA hB
    rw [hb]
    simp only
    by_cases hi : i < (base.length : Int)
    · have hlt : i.toNat < base.length := by omega
      have hat : at' base i = base[i.toNat] := by
        have := at_lt (xs := base) (j := i.toNat) hlt
        rwa [Int.toNat_of_nonneg h0] at this
      simp only [hi, decide_true, Bool.cond_true]
      have hp := set_is hA (at' base i)
      refine ih _ ⟨⟨by simp only; omega, by simp only; omega⟩, hp.1, fun z => ?_⟩ (by simp only; omega)
      simp only
      rw [hp.2 z, hB z, show (i + 1).toNat = i.toNat + 1 by omega, List.take_succ_eq_append_getElem hlt]
      simp only [nms, List.map_append, List.mem_append, List.map_cons, List.map_nil, List.mem_singleton, hat]
      constructor
      · rintro ((h | h) | h)
        · exact .inl h
        · exact .inr (.inl h)
        · exact .inr (.inr h)
      · rintro (h | (h | h))
        · exact .inl (.inl h)
        · exact .inl (.inr h)
        · exact .inr h
    · have he : i = base.length := by omega
      subst he
      simp only [hi, decide_false, Bool.cond_false]
      rw [Int.toNat_natCast, List.take_length] at hB
      exact ⟨s, hA, hB, rfl⟩
theorem app_loop {σ : Type} [Inhabited σ] {x3 : List σ} {g : σ → Txt} {acc : List Txt} {ρ : Type} {b : ((List Txt) × Int → ρ) → ((List Txt) × Int → ρ) → (List Txt) × Int → ρ} {k : (List Txt) × Int → ρ} (hb : ∀ rec x, b rec k x = bif decide (x.2 < (x3.length : Int)) then rec (x.1 ++ ([g (at' x3 x.2)] : List Txt), x.2 + 1) else k (x.1, x.2)) :
    LOOP b k (((x3.length : Int) - 0 : Int).toNat + 1) (acc, 0) = k (acc ++ x3.map g, (x3.length : Int)) := by
  refine LOOP_is (fun (x : List Txt × Int) => (0 ≤ x.2 ∧ x.2 ≤ x3.length) ∧ x.1 = acc ++ (x3.take x.2.toNat).map g) (fun x => ((x3.length : Int) - x.2).toNat) (fun _ => k (acc ++ x3.map g, (x3.length : Int))) (fun rec x hI ih => ?_) ⟨⟨by simp, by simp⟩, by simp⟩ (by simp)
  obtain ⟨s, i⟩ := x
  obtain ⟨⟨h0, h1⟩, hA⟩ := hI
  simp only at h0 h1 hA
  rw [hb]
  simp only
  by_cases hi : i < (x3.length : Int)
  · have hlt : i.toNat < x3.length := by omega
    have hat : at' x3 i = x3[i.toNat] := by
      have := at_lt (xs := x3) (j := i.toNat) hlt
      rwa [Int.toNat_of_nonneg h0] at this
    simp only [hi, decide_true, Bool.cond_true]
    refine ih _ ⟨⟨by simp only; omega, by simp only; omega⟩, ?_⟩ (by simp only; omega)
    simp only
    rw [show (i + 1).toNat = i.toNat + 1 by omega, List.take_succ_eq_append_getElem hlt, List.map_append, hA, hat]; simp
  · have he : i = x3.length := by omega
    subst he
    simp only [hi, decide_false, Bool.cond_false]
    rw [Int.toNat_natCast, List.take_length] at hA
    rw [hA]
theorem names_spec (base a b : List gSetting) : Rise (m_spec_l27Names base a b) ∧ ∀ z, z ∈ m_spec_l27Names base a b ↔ z ∈ nms base ∨ z ∈ nms a ∨ z ∈ nms b := by
  simp only [m_spec_l27Names]
  obtain ⟨R1, h1, m1, e1⟩ := sets_is (L := []) (base := base) (by exact List.Pairwise.nil) (b := m_spec_l27Names_b1 base a b) (k := fun (x1 : (List gSetting) × Int) => LOOP (m_spec_l27Names_b2 base a b x1) (fun (x2 : (List gSetting) × Int) => LOOP (m_spec_l27Names_b3 base a b x1 x2) (fun (x3 : (List gSetting) × Int) => LOOP (m_spec_l27Names_b4 base a b x1 x2 x3) (fun (x4 : (List (List UInt8)) × Int) => x4.1) (((x3.1.length : Int) - 0 : Int).toNat + 1) (([] : List (List UInt8)), 0)) (((b.length : Int) - 0 : Int).toNat + 1) (x2.1, 0)) (((a.length : Int) - 0 : Int).toNat + 1) (x1.1, 0)) (fun rec x => rfl)
  rw [e1]
  obtain ⟨R2, h2, m2, e2⟩ := sets_is (L := R1) (base := a) h1 (b := m_spec_l27Names_b2 base a b (R1, (base.length : Int))) (k := fun (x2 : (List gSetting) × Int) => LOOP (m_spec_l27Names_b3 base a b (R1, (base.length : Int)) x2) (fun (x3 : (List gSetting) × Int) => LOOP (m_spec_l27Names_b4 base a b (R1, (base.length : Int)) x2 x3) (fun (x4 : (List (List UInt8)) × Int) => x4.1) (((x3.1.length : Int) - 0 : Int).toNat + 1) (([] : List (List UInt8)), 0)) (((b.length : Int) - 0 : Int).toNat + 1) (x2.1, 0)) (fun rec x => rfl)
  simp only
  rw [e2]
  obtain ⟨R3, h3, m3, e3⟩ := sets_is (L := R2) (base := b) h2 (b := m_spec_l27Names_b3 base a b (R1, (base.length : Int)) (R2, (a.length : Int))) (k := fun (x3 : (List gSetting) × Int) => LOOP (m_spec_l27Names_b4 base a b (R1, (base.length : Int)) (R2, (a.length : Int)) x3) (fun (x4 : (List (List UInt8)) × Int) => x4.1) (((x3.1.length : Int) - 0 : Int).toNat + 1) (([] : List (List UInt8)), 0)) (fun rec x => rfl)
  simp only
  rw [e3]
  simp only
  rw [app_loop (x3 := R3) (g := fun q => q.Name) (acc := []) (fun rec x => rfl)]
  simp only [List.nil_append]
  refine ⟨h3, fun z => ?_⟩
  show z ∈ nms R3 ↔ _
  rw [m3 z, m2 z, m1 z]
  simp [nms, or_assoc]
theorem names_impl (base a b : List gSetting) : m_impl_namesOf ([base, a, b] : List (List gSetting)) = Lib.compact ((nms base ++ nms a ++ nms b).mergeSort fun x y => decide (x ≤ y)) := by
  have e0 : at' ([base, a, b] : List (List gSetting)) 0 = base := rfl
  have e1 : at' ([base, a, b] : List (List gSetting)) 1 = a := rfl
  have e2 : at' ([base, a, b] : List (List gSetting)) 2 = b := rfl
  have inner : ∀ (x1 : List Txt × Int) (rec1 k1 : (List Txt × Int) → List Txt), LOOP (m_impl_namesOf_b2 ([base, a, b] : List (List gSetting)) rec1 k1 x1) (fun (x2 : (List (List UInt8)) × Int) => rec1 (x2.1, x1.2 + 1)) ((((at' ([base, a, b] : List (List gSetting)) x1.2).length : Int) - 0 : Int).toNat + 1) (x1.1, 0) = rec1 (x1.1 ++ nms (at' ([base, a, b] : List (List gSetting)) x1.2), x1.2 + 1) := fun x1 rec1 k1 =>
    app_loop (x3 := at' ([base, a, b] : List (List gSetting)) x1.2) (g := fun q => q.Name) (acc := x1.1) (fun rec x => rfl)
  have hf : (((([base, a, b] : List (List gSetting)).length : Int) - 0 : Int).toNat + 1) = 4 := rfl
  simp only [m_impl_namesOf, hf]
  have step : ∀ (m : Nat) (x : List Txt × Int), x.2 < 3 → LOOP (m_impl_namesOf_b1 ([base, a, b] : List (List gSetting))) (fun (x1 : (List (List UInt8)) × Int) => m_slices_Compact_string (m_slices_Sort_string x1.1)) (m + 1) x = LOOP (m_impl_namesOf_b1 ([base, a, b] : List (List gSetting))) (fun (x1 : (List (List UInt8)) × Int) => m_slices_Compact_string (m_slices_Sort_string x1.1)) m (x.1 ++ nms (at' ([base, a, b] : List (List gSetting)) x.2), x.2 + 1) := fun m x hx => by
    have hl : x.2 < ((([base, a, b] : List (List gSetting)).length : Nat) : Int) := hx
    rw [LOOP, m_impl_namesOf_b1]
    simp only [hl, decide_true, Bool.cond_true]
    exact inner x _ _
  rw [step 3 _ (by simp), step 2 _ (by simp), step 1 _ (by simp)]
  simp only [Int.zero_add]
  rw [show (1 : Int) + 1 = 2 from rfl, e0, e1, e2]
  rfl
theorem names_eq (base a b : List gSetting) : m_impl_namesOf ([base, a, b] : List (List gSetting)) = m_spec_l27Names base a b := by
  have h := names_spec base a b
  rw [names_impl]
  refine rise_ext (compact_rise (sortS_up _)) h.1 (fun x => ?_)
  rw [compact_mem, h.2 x, (List.mergeSort_perm _ _).mem_iff]
  simp [List.mem_append, or_assoc]

/-! ## ConflictsOf: what stands at a name -/
theorem eql_iff {a b : Txt} : strB .eql a b = true ↔ a = b := by simp [strB]
def firstAt (list : List gSetting) (name : Txt) (j : Int) : Prop := (0 ≤ j ∧ j < list.length) ∧ (at' list j).Name = name ∧ ∀ q, 0 ≤ q → q < j → (at' list q).Name ≠ name
def noneAt (list : List gSetting) (name : Txt) : Prop := ∀ q, 0 ≤ q → q < (list.length : Int) → (at' list q).Name ≠ name
theorem at_is (list : List gSetting) (name : Txt) : (m_spec_l27At list name = -1 ∧ noneAt list name) ∨ firstAt list name (m_spec_l27At list name) := by
  simp only [m_spec_l27At]
  refine LOOP_post (fun (x : Int) => (0 ≤ x ∧ x ≤ list.length) ∧ ∀ q, 0 ≤ q → q < x → (at' list q).Name ≠ name) (fun x => ((list.length : Int) - x).toNat) (fun _ (r : Int) => (r = -1 ∧ noneAt list name) ∨ firstAt list name r) (fun rec x hI ih => ?_) _ _ ⟨⟨by omega, by omega⟩, fun q h1 h2 => by omega⟩ (by omega)
  obtain ⟨⟨h0, h1⟩, h2⟩ := hI
  simp only [m_spec_l27At_b1]
  by_cases hi : x < (list.length : Int)
  · simp only [hi, decide_true, Bool.cond_true]
    cases hq : strB .eql (at' list x).Name name with
    | true => exact .inr ⟨⟨h0, hi⟩, eql_iff.1 hq, h2⟩
    | false =>
      refine ih _ ⟨⟨by omega, by omega⟩, fun q g1 g2 => ?_⟩ (by omega)
      by_cases hqx : q = x
      · subst hqx; intro e; rw [eql_iff.2 e] at hq; simp at hq
      · exact h2 q g1 (by omega)
  · simp only [hi, decide_false, Bool.cond_false]
    exact .inl ⟨by first | rfl | trivial, fun q g1 g2 => h2 q g1 (by omega)⟩
theorem value_is (list : List gSetting) (name : Txt) : (m_impl_valueAt list name = (0, false) ∧ noneAt list name) ∨ ∃ j, firstAt list name j ∧ m_impl_valueAt list name = ((at' list j).Value, true) := by
  simp only [m_impl_valueAt]
  refine LOOP_post (fun (x : Int) => (0 ≤ x ∧ x ≤ list.length) ∧ ∀ q, 0 ≤ q → q < x → (at' list q).Name ≠ name) (fun x => ((list.length : Int) - x).toNat) (fun _ (r : Int × Bool) => (r = (0, false) ∧ noneAt list name) ∨ ∃ j, firstAt list name j ∧ r = ((at' list j).Value, true)) (fun rec x hI ih => ?_) _ _ ⟨⟨by omega, by omega⟩, fun q h1 h2 => by omega⟩ (by omega)
  obtain ⟨⟨h0, h1⟩, h2⟩ := hI
  simp only [m_impl_valueAt_b1]
  by_cases hi : x < (list.length : Int)
  · simp only [hi, decide_true, Bool.cond_true]
    cases hq : strB .eql (at' list x).Name name with
    | true => exact .inr ⟨x, ⟨⟨h0, hi⟩, eql_iff.1 hq, h2⟩, rfl⟩
    | false =>
      refine ih _ ⟨⟨by omega, by omega⟩, fun q g1 g2 => ?_⟩ (by omega)
      by_cases hqx : q = x
      · subst hqx; intro e; rw [eql_iff.2 e] at hq; simp at hq
      · exact h2 q g1 (by omega)
  · simp only [hi, decide_false, Bool.cond_false]
    exact .inl ⟨by first | rfl | trivial, fun q g1 g2 => h2 q g1 (by omega)⟩
/-- what both models find -/
theorem thing_is (list : List gSetting) (name : Txt) : (m_impl_thingAt list name = gthing.mk 0 false ∧ m_spec_l27Get list name = gSetting.mk [] 0) ∨ ∃ v, m_impl_thingAt list name = gthing.mk v true ∧ m_spec_l27Get list name = gSetting.mk name v := by
  rcases at_is list name with ⟨h1, h2⟩ | h1 <;> rcases value_is list name with ⟨h3, h4⟩ | ⟨j, h3, h4⟩
  · left; exact ⟨by simp only [m_impl_thingAt, h3], by simp only [m_spec_l27Get, h1]; rfl⟩
  · exact absurd h3.2.1 (h2 j h3.1.1 h3.1.2)
  · exact absurd h1.2.1 (h4 _ h1.1.1 h1.1.2)
  · right
    have hj : m_spec_l27At list name = j := by
      rcases Int.lt_trichotomy (m_spec_l27At list name) j with h | h | h
      · exact absurd h1.2.1 (h3.2.2 _ h1.1.1 h)
      · exact h
      · exact absurd h3.2.1 (h1.2.2 _ h3.1.1 h)
    refine ⟨(at' list j).Value, by simp only [m_impl_thingAt, h4], ?_⟩
    have hneg : ¬ j < 0 := by have := h3.1.1; omega
    simp only [m_spec_l27Get, hj, hneg, decide_false, Bool.cond_false]
    have hn := h3.2.1
    cases hq : at' list j with
    | mk nm vl => rw [hq] at hn; simp only at hn; rw [hn]
theorem same_is {l1 l2 : List gSetting} {name : Txt} (hn : name ≠ []) : (((m_impl_thingAt l1 name).value == (m_impl_thingAt l2 name).value) && (((m_impl_thingAt l1 name).there == (m_impl_thingAt l2 name).there) && true)) = ((strB .eql (m_spec_l27Get l1 name).Name (m_spec_l27Get l2 name).Name) && (((m_spec_l27Get l1 name).Value == (m_spec_l27Get l2 name).Value) && true)) := by
  have hs : ∀ a : Txt, strB .eql a a = true := fun a => eql_iff.2 rfl
  have h0 : strB .eql name [] = false := by cases h : strB .eql name [] with | false => rfl | true => exact absurd (eql_iff.1 h) hn
  have h0' : strB .eql [] name = false := by cases h : strB .eql [] name with | false => rfl | true => exact absurd (eql_iff.1 h).symm hn
  rcases thing_is l1 name with ⟨h1, h2⟩ | ⟨v1, h1, h2⟩ <;> rcases thing_is l2 name with ⟨h3, h4⟩ | ⟨v2, h3, h4⟩ <;> rw [h1, h2, h3, h4] <;> simp [hs, h0, h0']
theorem same_comm {l1 l2 : List gSetting} {name : Txt} : (((m_impl_thingAt l1 name).value == (m_impl_thingAt l2 name).value) && (((m_impl_thingAt l1 name).there == (m_impl_thingAt l2 name).there) && true)) = (((m_impl_thingAt l2 name).value == (m_impl_thingAt l1 name).value) && (((m_impl_thingAt l2 name).there == (m_impl_thingAt l1 name).there) && true)) := by
  rw [Bool.eq_iff_iff]; simp only [Bool.and_eq_true, beq_iff_eq, and_true]
  constructor <;> rintro ⟨h1, h2⟩ <;> exact ⟨h1.symm, h2.symm⟩
def del3 (base a b : List gSetting) (name : Txt) : Bool := m_impl_conflictsOf_1 name base a b
theorem conf_spec (base a b : List gSetting) (hn : ∀ y ∈ m_spec_l27Names base a b, y ≠ []) : m_spec_l27Conflicts base a b = (m_spec_l27Names base a b).filter (fun y => !del3 base a b y) := by
  simp only [m_spec_l27Conflicts]
  generalize hN : m_spec_l27Names base a b = N at hn
  refine LOOP_is (fun (x : List Txt × Int) => (0 ≤ x.2 ∧ x.2 ≤ N.length) ∧ x.1 = (N.take x.2.toNat).filter (fun y => !del3 base a b y)) (fun x => ((N.length : Int) - x.2).toNat) (fun _ => N.filter (fun y => !del3 base a b y)) (fun rec x hI ih => ?_) ⟨⟨by simp, by simp⟩, by simp⟩ (by simp)
  obtain ⟨s, i⟩ := x
  obtain ⟨⟨h0, h1⟩, hA⟩ := hI
  simp only at h0 h1 hA
  simp only [m_spec_l27Conflicts_b1, hN]
  by_cases hi : i < (N.length : Int)
  · have hlt : i.toNat < N.length := by omega
    have hat : at' N i = N[i.toNat] := by
      have := at_lt (xs := N) (j := i.toNat) hlt
      rwa [Int.toNat_of_nonneg h0] at this
    have hne : at' N i ≠ [] := by rw [hat]; exact hn _ (List.getElem_mem hlt)
    simp only [hi, decide_true, Bool.cond_true]
    rw [← same_is (l1 := base) (l2 := a) hne, ← same_is (l1 := base) (l2 := b) hne, ← same_is (l1 := a) (l2 := b) hne]
    have hd : ∀ c, (((!(((m_impl_thingAt base (at' N i)).value == (m_impl_thingAt a (at' N i)).value) && (((m_impl_thingAt base (at' N i)).there == (m_impl_thingAt a (at' N i)).there) && true))) && (!(((m_impl_thingAt base (at' N i)).value == (m_impl_thingAt b (at' N i)).value) && (((m_impl_thingAt base (at' N i)).there == (m_impl_thingAt b (at' N i)).there) && true)))) && (!(((m_impl_thingAt a (at' N i)).value == (m_impl_thingAt b (at' N i)).value) && (((m_impl_thingAt a (at' N i)).there == (m_impl_thingAt b (at' N i)).there) && true)))) = c → (!del3 base a b (at' N i)) = c := by
      intro c hc
      rw [← hc]
      simp only [del3, m_impl_conflictsOf_1]
      rw [same_comm (l1 := a) (l2 := base), same_comm (l1 := b) (l2 := base)]
      generalize (((m_impl_thingAt a (at' N i)).value == (m_impl_thingAt b (at' N i)).value) && (((m_impl_thingAt a (at' N i)).there == (m_impl_thingAt b (at' N i)).there) && true)) = p
      generalize (((m_impl_thingAt base (at' N i)).value == (m_impl_thingAt a (at' N i)).value) && (((m_impl_thingAt base (at' N i)).there == (m_impl_thingAt a (at' N i)).there) && true)) = q
      generalize (((m_impl_thingAt base (at' N i)).value == (m_impl_thingAt b (at' N i)).value) && (((m_impl_thingAt base (at' N i)).there == (m_impl_thingAt b (at' N i)).there) && true)) = t
      cases p <;> cases q <;> cases t <;> rfl
    rw [← hd _ rfl]
    have htk : N.take (i + 1).toNat = N.take i.toNat ++ [at' N i] := by rw [show (i + 1).toNat = i.toNat + 1 by omega, List.take_succ_eq_append_getElem hlt, hat]
    cases hq : del3 base a b (at' N i) with
    | true =>
      simp only [Bool.not_true, Bool.cond_false]
      refine ih _ ⟨⟨by simp only; omega, by simp only; omega⟩, ?_⟩ (by simp only; omega)
      simp only; rw [htk, List.filter_append, hA]; simp [hq]
    | false =>
      simp only [Bool.not_false, Bool.cond_true]
      refine ih _ ⟨⟨by simp only; omega, by simp only; omega⟩, ?_⟩ (by simp only; omega)
      simp only; rw [htk, List.filter_append, hA]; simp [hq]
  · have he : i = N.length := by omega
    subst he
    simp only [hi, decide_false, Bool.cond_false]
    rw [Int.toNat_natCast, List.take_length] at hA
    exact hA

theorem setting_eq (e : gSetting) : m_impl_Setting_valid e = m_spec_l27Setting e := by
  simp only [m_impl_Setting_valid, m_spec_l27Setting, name_eq]; rfl
theorem state_all (list : List gSetting) : m_spec_l27State list = true ↔ (∀ j : Nat, (0 : Int) ≤ j → j < list.length → ((!(m_spec_l27Setting (at' list j))) || ((decide ((0 : Int) < j)) && (strB .geq (at' list ((j : Int) - 1)).Name (at' list j).Name))) = false) ∧ list.length ≤ 24 := by
  have h2 := LOOP_all (b := m_spec_l27State_b1 list) (n := list.length) (fun rec k i _ => rfl) (k := fun _ => decide ((list.length : Int) ≤ 24)) (((list.length : Int) - 0 : Int).toNat + 1) 0 (by omega) (by omega) (by omega)
  simp only [m_spec_l27State]
  rw [h2]
  simp only [decide_eq_true_eq]
  constructor
  · rintro ⟨a, b⟩; exact ⟨a, by omega⟩
  · rintro ⟨a, b⟩; exact ⟨a, by omega⟩
theorem state_eq (list : List gSetting) : m_impl_ValidState list = m_spec_l27State list := by
  rw [Bool.eq_iff_iff, state_all]
  have h1 := LOOP_all (b := m_impl_ValidState_b1 list) (n := list.length) (fun rec k i _ => rfl) (k := fun _ => true) (((list.length : Int) - 0 : Int).toNat + 1) 0 (by omega) (by omega) (by omega)
  simp only [m_impl_ValidState]
  by_cases hl : 24 < (list.length : Int)
  · simp only [hl, decide_true, Bool.cond_true]
    constructor
    · intro h; exact absurd h (by simp)
    · rintro ⟨_, h⟩; omega
  · simp only [hl, decide_false, Bool.cond_false]
    rw [h1]
    simp only [setting_eq, strleq_geq, and_true]
    constructor
    · intro h; exact ⟨h, by omega⟩
    · rintro ⟨h, _⟩; exact h
def StIn (list : List gSetting) : Prop := list.length ≤ 24 ∧ ∀ y ∈ list, y.Name.length ≤ 10 ∧ 0 ≤ y.Value ∧ y.Value ≤ 1000
theorem state_in {list : List gSetting} (h : m_spec_l27State list = true) : StIn list := by
  have h1 := (state_all list).1 h
  refine ⟨h1.2, all_at.2 fun j hj => ?_⟩
  have h2 := h1.1 j (by omega) hj
  simp only [Bool.or_eq_false_iff, Bool.not_eq_false'] at h2
  have h3 := h2.1
  simp only [m_spec_l27Setting, Bool.and_eq_true] at h3
  have h4 := l00In_imp h3.2
  exact ⟨name_len h3.1, h4.1, h4.2⟩
theorem state_inI {list : List gSetting} (h : m_impl_ValidState list = true) : StIn list := state_in (by rw [← state_eq]; exact h)

theorem name_ne {s : List UInt8} (h : m_spec_l01Name s = true) : s ≠ [] := by
  rintro rfl
  simp only [m_spec_l01Name] at h
  simp [strB] at h
theorem state_names {list : List gSetting} (h : m_spec_l27State list = true) : ∀ y ∈ nms list, y ≠ [] := by
  intro y hy
  obtain ⟨e, he, rfl⟩ := List.mem_map.1 hy
  obtain ⟨j, hj, rfl⟩ := List.getElem_of_mem he
  have := ((state_all list).1 h).1 j (by omega) (by omega)
  simp only [Bool.or_eq_false_iff, Bool.not_eq_false', m_spec_l27Setting, Bool.and_eq_true] at this
  rw [at_lt hj] at this
  exact name_ne this.1.1

theorem set_le (L : List gSetting) (e : gSetting) : ((m_spec_l27Set L e).length : Int) ≤ L.length + 1 := by
  simp only [m_spec_l27Set]
  refine LOOP_post (fun (x : List gSetting × Bool × Int) => (0 ≤ x.2.2 ∧ x.2.2 ≤ L.length) ∧ (x.1.length : Int) ≤ x.2.2 + (if x.2.1 = true then 1 else 0)) (fun x => ((L.length : Int) - x.2.2).toNat) (fun _ (r : List gSetting) => (r.length : Int) ≤ L.length + 1) (fun rec x hI ih => ?_) _ _ ⟨⟨by simp, by simp⟩, by simp⟩ (by simp)
  obtain ⟨out, done, i⟩ := x
  obtain ⟨⟨h0, h1⟩, hA⟩ := hI
  simp only at h0 h1 hA
  simp only [m_spec_l27Set_b1, JN]
  by_cases hi : i < (L.length : Int)
  · simp only [hi, decide_true, Bool.cond_true]
    cases done with
    | true =>
      simp only [if_true] at hA
      simp only [Bool.not_true, Bool.false_and, Bool.cond_false]
      cases strB .neq (at' L i).Name e.Name with
      | true => exact ih _ ⟨⟨by simp only; omega, by simp only; omega⟩, by simp; omega⟩ (by simp only; omega)
      | false => exact ih _ ⟨⟨by simp only; omega, by simp only; omega⟩, by simp; omega⟩ (by simp only; omega)
    | false =>
      simp at hA
      cases strB .geq (at' L i).Name e.Name with
      | true =>
        simp only [Bool.not_false, Bool.true_and, Bool.cond_true]
        cases strB .neq (at' L i).Name e.Name with
        | true => exact ih _ ⟨⟨by simp only; omega, by simp only; omega⟩, by simp; omega⟩ (by simp only; omega)
        | false => exact ih _ ⟨⟨by simp only; omega, by simp only; omega⟩, by simp; omega⟩ (by simp only; omega)
      | false =>
        simp only [Bool.and_false, Bool.cond_false]
        cases strB .neq (at' L i).Name e.Name with
        | true => exact ih _ ⟨⟨by simp only; omega, by simp only; omega⟩, by simp; omega⟩ (by simp only; omega)
        | false => exact ih _ ⟨⟨by simp only; omega, by simp only; omega⟩, by simp; omega⟩ (by simp only; omega)
  · simp only [hi, decide_false, Bool.cond_false]
    cases done with
    | true => simp only [if_true] at hA; simp only [Bool.not_true, Bool.cond_false]; omega
    | false => simp at hA; simp only [Bool.not_false, Bool.cond_true, List.length_append, List.length_cons, List.length_nil]; omega
theorem namesI_len {base a b : List gSetting} (h1 : base.length ≤ 24) (h2 : a.length ≤ 24) (h3 : b.length ≤ 24) : (m_impl_namesOf ([base, a, b] : List (List gSetting))).length ≤ 72 := by
  rw [names_impl]
  unfold Lib.compact Lib.compactUpTo
  rw [List.length_map]
  refine Nat.le_trans (List.length_filter_le _ _) ?_
  rw [List.length_range, List.length_mergeSort]
  simp only [nms, List.length_append, List.length_map]; omega
theorem names_le {base a b : List gSetting} (h1 : base.length ≤ 24) (h2 : a.length ≤ 24) (h3 : b.length ≤ 24) : (m_spec_l27Names base a b).length ≤ 72 := by
  rw [← names_eq]; exact namesI_len h1 h2 h3
theorem at_rng {list : List gSetting} {name : Txt} (h : 0 ≤ m_spec_l27At list name) : 0 ≤ m_spec_l27At list name ∧ m_spec_l27At list name < list.length := by
  rcases at_is list name with ⟨h1, _⟩ | h1
  · omega
  · exact h1.1
theorem state_l24 {list : List gSetting} (h : m_spec_l27State list = true) : list.length ≤ 24 := (state_in h).1
theorem state_l24I {list : List gSetting} (h : m_impl_ValidState list = true) : list.length ≤ 24 := state_l24 (by rw [← state_eq]; exact h)
theorem idx_rng (s : List Txt) (del : Txt → Bool) : -1 ≤ m_slices_IndexFunc_string s del ∧ m_slices_IndexFunc_string s del < s.length := by
  rcases idx_is s del with ⟨h1, _⟩ | ⟨h1, _⟩ <;> omega
theorem sortS_len (l : List Txt) : (m_slices_Sort_string l).length = l.length := List.length_mergeSort l
theorem muts_len {s : S} {full : Bool} {M : List (Nat × Nat)} {l L m m' : Nat} (h : E.look M l = some L) (e : m' = m) : PassB s full M (.os l m') (.os L m) [] := by subst e; exact .muts h

/-! ## Marks on structures -/
theorem LOOP_markt {α : Type} [Inhabited α] {f : Int → α} {s : Int} {b : (List α × Int × Int → Int × List α) → (List α × Int × Int → Int × List α) → List α × Int × Int → Int × List α} {k : List α × Int × Int → Int × List α} (hs : 0 ≤ s) (k0 : Int) (h0 : 0 ≤ k0)
    (hb : ∀ rec xs kk i, 0 ≤ i → i < (xs.length : Int) → 0 ≤ kk → kk ≤ 9223372036854770000 → b rec k (xs, kk, i) = rec (put' xs i (f kk), kk + s, i + 1)) (he : ∀ rec xs kk i, ¬ i < (xs.length : Int) → b rec k (xs, kk, i) = k (xs, kk, i)) (hk : ∀ x, k x = (x.2.1, x.1)) :
    ∀ (fuel : Nat) (xs : List α) (i : Int), 0 ≤ i → i ≤ xs.length → k0 + s * xs.length ≤ 9223372036854770000 → ((xs.length : Int) - i).toNat < fuel → (∀ j : Int, 0 ≤ j → j < i → at' xs j = f (k0 + s * j)) →
      LOOP b k fuel (xs, k0 + s * i, i) = (k0 + s * xs.length, (irange 0 xs.length).map (fun j => f (k0 + s * j)))
  | 0, _, _, _, _, _, h, _ => by omega
  | m + 1, xs, i, h1, h2, h3, h4, h5 => by
    simp only [LOOP]
    have g1 : s * i ≤ s * xs.length := Int.mul_le_mul_of_nonneg_left h2 hs
    have g0 : 0 ≤ s * i := Int.mul_nonneg hs h1
    by_cases hi : i < (xs.length : Int)
    · rw [hb _ _ _ _ h1 hi (by omega) (by omega), show k0 + s * i + s = k0 + s * (i + 1) by rw [Int.mul_add]; omega]
      have hl : (put' xs i (f (k0 + s * i))).length = xs.length := put_len
      rw [LOOP_markt hs k0 h0 hb he hk m _ (i + 1) (by omega) (by omega) (by rw [hl]; omega) (by omega) ?_, hl]
      intro j hj1 hj2
      by_cases e : j = i
      · subst e; exact put_at ⟨hj1, hi⟩
      · rw [put_at_ne h1 hj1 (fun h => e h.symm)]; exact h5 j hj1 (by omega)
    · have : i = xs.length := by omega
      subst this
      rw [he _ _ _ _ hi, hk]
      exact Prod.ext rfl (list_eq_irange rfl h5)
theorem LOOP_heldt {α : Type} [Inhabited α] {f : Int → α} {s : Int} {L : List α} {b : (Int × Int → Int) → (Int × Int → Int) → Int × Int → Int} {k : Int × Int → Int} {n : Nat} (hs : 0 ≤ s) (k0 : Int) (h0 : 0 ≤ k0) (hn : k0 + s * n ≤ 9223372036854770000) (hL : L = (irange 0 n).map (fun j => f (k0 + s * j)))
    (hb : ∀ rec kk i, 0 ≤ i → i < (n : Int) → 0 ≤ kk → kk ≤ 9223372036854770000 → at' L i = f kk → b rec k (kk, i) = rec (kk + s, i + 1)) (he : ∀ rec kk i, ¬ i < (n : Int) → b rec k (kk, i) = k (kk, i)) (hk : ∀ x, k x = x.1) :
    ∀ (fuel : Nat) (i : Int), 0 ≤ i → i ≤ n → ((n : Int) - i).toNat < fuel → LOOP b k fuel (k0 + s * i, i) = k0 + s * n
  | 0, _, _, _, h => by omega
  | m + 1, i, h1, h2, h4 => by
    simp only [LOOP]
    have g1 : s * i ≤ s * n := Int.mul_le_mul_of_nonneg_left h2 hs
    have g0 : 0 ≤ s * i := Int.mul_nonneg hs h1
    by_cases hi : i < (n : Int)
    · rw [hb _ _ _ h1 hi (by omega) (by omega) (by rw [hL, at_irange0 h1 hi]), show k0 + s * i + s = k0 + s * (i + 1) by rw [Int.mul_add]; omega]
      exact LOOP_heldt hs k0 h0 hn hL hb he hk m (i + 1) (by omega) (by omega) (by omega)
    · have : i = n := by omega
      subst this
      rw [he _ _ _ hi, hk]

/-- names of valid states -/
theorem mnames {base a b : List gSetting} (h1 : m_spec_l27State base = true) (h2 : m_spec_l27State a = true) (h3 : m_spec_l27State b = true) : (∀ y ∈ m_spec_l27Names base a b, y ≠ []) ∧ (m_spec_l27Names base a b).length ≤ 72 := by
  have hm := (names_spec base a b).2
  refine ⟨fun y hy => ?_, names_le (state_in h1).1 (state_in h2).1 (state_in h3).1⟩
  rcases (hm y).1 hy with h | h | h
  · exact state_names h1 y h
  · exact state_names h2 y h
  · exact state_names h3 y h
theorem conf_eq {base a b : List gSetting} (h1 : m_spec_l27State base = true) (h2 : m_spec_l27State a = true) (h3 : m_spec_l27State b = true) : m_impl_conflictsOf base a b = m_spec_l27Conflicts base a b := by
  have hn := mnames h1 h2 h3
  simp only [m_impl_conflictsOf]
  rw [names_eq, del_is _ _ (by omega), conf_spec base a b hn.1]
  rfl
theorem neq_nil {n : Txt} (h : n ≠ []) : strB .neq n [] = true := by
  have : strB .eql n [] = false := by cases h' : strB .eql n [] with | false => rfl | true => exact absurd (eql_iff.1 h') h
  simpa [strB] using h

/-! ## Names and values of states: the program alone -/


/-! ## States as sets of settings: what a merge is -/
theorem names_mem (base a b : List gSetting) : Rise (m_impl_namesOf ([base, a, b] : List (List gSetting))) ∧ ∀ z, z ∈ m_impl_namesOf ([base, a, b] : List (List gSetting)) ↔ z ∈ nms base ∨ z ∈ nms a ∨ z ∈ nms b := by
  rw [names_impl]
  refine ⟨compact_rise (sortS_up _), fun x => ?_⟩
  rw [compact_mem, (List.mergeSort_perm _ _).mem_iff]
  simp [List.mem_append, or_assoc]
theorem names_swap (base a b : List gSetting) : m_impl_namesOf ([base, a, b] : List (List gSetting)) = m_impl_namesOf ([base, b, a] : List (List gSetting)) := by
  have h := names_mem base a b
  have h' := names_mem base b a
  refine rise_ext h.1 h'.1 fun x => ?_
  rw [h.2, h'.2]
  constructor <;> rintro (h | h | h) <;> simp [h]
theorem name_one {L : List gSetting} (hL : Rise (nms L)) {x y : gSetting} (hx : x ∈ L) (hy : y ∈ L) (e : x.Name = y.Name) : x = y := by
  obtain ⟨i, hi, rfl⟩ := List.getElem_of_mem hx
  obtain ⟨j, hj, rfl⟩ := List.getElem_of_mem hy
  have hget : ∀ j k (hj : j < L.length) (hk : k < L.length), j < k → L[j].Name < L[k].Name := fun j k hj hk hjk => by
    have := List.pairwise_iff_getElem.1 hL j k (by simpa [nms] using hj) (by simpa [nms] using hk) hjk
    simpa [nms] using this
  rcases Nat.lt_trichotomy i j with h | h | h
  · have := hget i j hi hj h; rw [e] at this; exact absurd this (List.lt_irrefl _)
  · subst h; rfl
  · have := hget j i hj hi h; rw [e] at this; exact absurd this (List.lt_irrefl _)
theorem state_ext {A B : List gSetting} (hA : Rise (nms A)) (hB : Rise (nms B)) (h : ∀ e, e ∈ A ↔ e ∈ B) : A = B := by
  have hn : nms A = nms B := rise_ext hA hB fun x => by
    simp only [nms, List.mem_map]
    constructor
    · rintro ⟨e, he, rfl⟩; exact ⟨e, (h e).1 he, rfl⟩
    · rintro ⟨e, he, rfl⟩; exact ⟨e, (h e).2 he, rfl⟩
  have hl : A.length = B.length := by have := congrArg List.length hn; simpa [nms] using this
  refine List.ext_getElem hl fun i h1 h2 => ?_
  have e1 : A[i].Name = B[i].Name := by
    have := congrArg (fun l => l[i]?) hn
    simp only [nms, List.getElem?_map, List.getElem?_eq_getElem h1, List.getElem?_eq_getElem h2, Option.map_some] at this
    exact Option.some.inj this
  exact name_one hB ((h _).1 (List.getElem_mem h1)) (List.getElem_mem h2) e1
theorem thing_cases (L : List gSetting) (n : Txt) : (m_impl_thingAt L n = gthing.mk 0 false ∧ ∀ e ∈ L, e.Name ≠ n) ∨ ∃ e ∈ L, e.Name = n ∧ m_impl_thingAt L n = gthing.mk e.Value true := by
  rcases value_is L n with ⟨h1, h2⟩ | ⟨j, h1, h2⟩
  · left
    refine ⟨by simp only [m_impl_thingAt, h1], fun e he => ?_⟩
    obtain ⟨i, hi, rfl⟩ := List.getElem_of_mem he
    have := h2 (i : Int) (by omega) (by omega)
    rwa [at_lt hi] at this
  · right
    exact ⟨at' L j, at_mem h1.1, h1.2.1, by simp only [m_impl_thingAt, h2]⟩
theorem thing_in {L : List gSetting} (hL : Rise (nms L)) {e : gSetting} (he : e ∈ L) : m_impl_thingAt L e.Name = gthing.mk e.Value true := by
  rcases thing_cases L e.Name with ⟨_, h⟩ | ⟨e', he', hn, h⟩
  · exact absurd rfl (h e he)
  · rw [h, name_one hL he' he hn]
theorem thing_mem {L : List gSetting} {n : Txt} (h : (m_impl_thingAt L n).there = true) : gSetting.mk n (m_impl_thingAt L n).value ∈ L := by
  rcases thing_cases L n with ⟨h1, _⟩ | ⟨e, he, hn, h1⟩
  · rw [h1] at h; simp at h
  · rw [h1]; subst hn; exact he
def sameT (x y : gthing) : Bool := (x.value == y.value) && ((x.there == y.there) && true)
theorem sameT_iff {x y : gthing} : sameT x y = true ↔ x = y := by
  cases x; cases y; simp [sameT]
def pick3 (base a b : List gSetting) (n : Txt) : gthing := bif sameT (m_impl_thingAt a n) (m_impl_thingAt base n) then m_impl_thingAt b n else m_impl_thingAt a n
def mrg (base a b : List gSetting) : List gSetting := ((m_impl_namesOf ([base, a, b] : List (List gSetting))).filter fun n => (pick3 base a b n).there).map fun n => gSetting.mk n (pick3 base a b n).value
theorem mrg_rise (base a b : List gSetting) : Rise (nms (mrg base a b)) := by
  have h : nms (mrg base a b) = (m_impl_namesOf ([base, a, b] : List (List gSetting))).filter fun n => (pick3 base a b n).there := by
    simp only [nms, mrg, List.map_map]
    have : ∀ l : List Txt, l.map ((fun x : gSetting => x.Name) ∘ fun n => gSetting.mk n (pick3 base a b n).value) = l := fun l => by
      induction l with
      | nil => rfl
      | cons x l ih => simp only [List.map_cons, Function.comp, ih]
    exact this _
  rw [h]
  exact List.Pairwise.filter _ (names_mem base a b).1
theorem pick3_or (base a b : List gSetting) (n : Txt) : pick3 base a b n = m_impl_thingAt a n ∨ pick3 base a b n = m_impl_thingAt b n := by
  unfold pick3
  cases sameT (m_impl_thingAt a n) (m_impl_thingAt base n)
  · exact .inl rfl
  · exact .inr rfl
theorem mrg_mem {base a b : List gSetting} {e : gSetting} : e ∈ mrg base a b ↔ (pick3 base a b e.Name).there = true ∧ e.Value = (pick3 base a b e.Name).value := by
  simp only [mrg, List.mem_map, List.mem_filter]
  constructor
  · rintro ⟨n, ⟨_, h⟩, rfl⟩; exact ⟨h, rfl⟩
  · rintro ⟨h1, h2⟩
    refine ⟨e.Name, ⟨?_, h1⟩, ?_⟩
    · rw [(names_mem base a b).2]
      rcases pick3_or base a b e.Name with h | h <;> rw [h] at h1
      · exact .inr (.inl (List.mem_map.2 ⟨_, thing_mem h1, rfl⟩))
      · exact .inr (.inr (List.mem_map.2 ⟨_, thing_mem h1, rfl⟩))
    · cases e; simp only at h2; rw [← h2]
theorem mrg_or {base a b : List gSetting} {e : gSetting} (h : e ∈ mrg base a b) : e ∈ a ∨ e ∈ b := by
  have h := mrg_mem.1 h
  have he : e = gSetting.mk e.Name e.Value := by cases e; rfl
  rcases pick3_or base a b e.Name with h' | h' <;> rw [h'] at h
  · left; rw [he, h.2]; exact thing_mem h.1
  · right; rw [he, h.2]; exact thing_mem h.1
theorem mrg_is {base a b c : List gSetting} (hc : Rise (nms c)) (h : ∀ n, pick3 base a b n = m_impl_thingAt c n) : mrg base a b = c := by
  refine state_ext (mrg_rise base a b) hc fun e => ?_
  rw [mrg_mem, h]
  constructor
  · rintro ⟨h1, h2⟩
    have he : e = gSetting.mk e.Name e.Value := by cases e; rfl
    rw [he, h2]; exact thing_mem h1
  · intro he
    rw [thing_in hc he]
    exact ⟨rfl, rfl⟩
theorem conf1_is (base a b : List gSetting) (n : Txt) : m_impl_conflictsOf_1 n base a b = ((sameT (m_impl_thingAt a n) (m_impl_thingAt b n) || sameT (m_impl_thingAt a n) (m_impl_thingAt base n)) || sameT (m_impl_thingAt b n) (m_impl_thingAt base n)) := rfl
theorem names_small {base a b : List gSetting} (h1 : base.length ≤ 24) (h2 : a.length ≤ 24) (h3 : b.length ≤ 24) : (m_impl_namesOf ([base, a, b] : List (List gSetting))).length ≤ 72 := namesI_len h1 h2 h3
theorem conf_is {base a b : List gSetting} (h1 : base.length ≤ 24) (h2 : a.length ≤ 24) (h3 : b.length ≤ 24) : m_impl_conflictsOf base a b = (m_impl_namesOf ([base, a, b] : List (List gSetting))).filter (fun n => !m_impl_conflictsOf_1 n base a b) := by
  simp only [m_impl_conflictsOf]
  rw [del_is _ _ (by have := namesI_len h1 h2 h3; omega)]
theorem conf_none {base a b : List gSetting} (h1 : base.length ≤ 24) (h2 : a.length ≤ 24) (h3 : b.length ≤ 24) (h : ∀ n, m_impl_conflictsOf_1 n base a b = true) : m_impl_conflictsOf base a b = [] := by
  rw [conf_is h1 h2 h3, List.filter_eq_nil_iff]
  intro n _
  rw [h n]; simp
theorem sameT_comm (x y : gthing) : sameT x y = sameT y x := by
  rw [Bool.eq_iff_iff, sameT_iff, sameT_iff]; exact eq_comm
theorem conf_swap {base a b : List gSetting} (h1 : base.length ≤ 24) (h2 : a.length ≤ 24) (h3 : b.length ≤ 24) : m_impl_conflictsOf base a b = m_impl_conflictsOf base b a := by
  rw [conf_is h1 h2 h3, conf_is h1 h3 h2, names_swap]
  congr 1
  funext n
  rw [conf1_is, conf1_is, sameT_comm (m_impl_thingAt b n) (m_impl_thingAt a n), Bool.or_assoc, Bool.or_assoc, Bool.or_comm (sameT (m_impl_thingAt a n) (m_impl_thingAt base n))]
theorem pick3_swap {base a b : List gSetting} {n : Txt} (h : m_impl_conflictsOf_1 n base a b = true) : pick3 base a b n = pick3 base b a n := by
  rw [conf1_is] at h
  simp only [Bool.or_eq_true, sameT_iff] at h
  unfold pick3
  cases e1 : sameT (m_impl_thingAt a n) (m_impl_thingAt base n) <;> cases e2 : sameT (m_impl_thingAt b n) (m_impl_thingAt base n) <;> simp only [Bool.cond_true, Bool.cond_false]
  · rcases h with (h | h) | h
    · exact h
    · rw [sameT_iff.2 h] at e1; simp at e1
    · rw [sameT_iff.2 h] at e2; simp at e2
  · rw [sameT_iff.1 e1, sameT_iff.1 e2]
theorem mrg_swap {base a b : List gSetting} (h1 : base.length ≤ 24) (h2 : a.length ≤ 24) (h3 : b.length ≤ 24) (h : m_impl_conflictsOf base a b = []) : mrg base a b = mrg base b a := by
  rw [conf_is h1 h2 h3, List.filter_eq_nil_iff] at h
  have hp : ∀ n ∈ m_impl_namesOf ([base, a, b] : List (List gSetting)), pick3 base a b n = pick3 base b a n := fun n hn => pick3_swap (by
    have := h n hn; simpa using this)
  simp only [mrg]
  rw [← names_swap base a b]
  have e1 : (m_impl_namesOf ([base, a, b] : List (List gSetting))).filter (fun n => (pick3 base a b n).there) = (m_impl_namesOf ([base, a, b] : List (List gSetting))).filter (fun n => (pick3 base b a n).there) := List.filter_congr fun n hn => by rw [hp n hn]
  rw [e1]
  refine List.map_congr_left fun n hn => ?_
  rw [hp n (List.mem_filter.1 hn).1]
theorem merge_loop (base a b : List gSetting) : LOOP (m_impl_MergeStates_b1 base a b) (fun (x1 : (List gSetting) × Int) => bif decide (24 < (x1.1.length : Int)) then (([] : List gSetting), 5) else (x1.1, 0)) ((((m_impl_namesOf ([base, a, b] : List (List gSetting))).length : Int) - 0 : Int).toNat + 1) (([] : List gSetting), 0) = bif decide (24 < ((mrg base a b).length : Int)) then (([] : List gSetting), 5) else (mrg base a b, 0) := by
  have hm : ∀ l : List Txt, ((l.filter fun n => (pick3 base a b n).there).map fun n => gSetting.mk n (pick3 base a b n).value) = ((l.filter fun n => (pick3 base a b n).there).map fun n => gSetting.mk n (pick3 base a b n).value) := fun l => rfl
  refine LOOP_is (fun (y : List gSetting × Int) => (0 ≤ y.2 ∧ y.2 ≤ (m_impl_namesOf ([base, a, b] : List (List gSetting))).length) ∧ y.1 = (((m_impl_namesOf ([base, a, b] : List (List gSetting))).take y.2.toNat).filter fun n => (pick3 base a b n).there).map fun n => gSetting.mk n (pick3 base a b n).value) (fun y => (((m_impl_namesOf ([base, a, b] : List (List gSetting))).length : Int) - y.2).toNat) (fun _ => bif decide (24 < ((mrg base a b).length : Int)) then (([] : List gSetting), 5) else (mrg base a b, 0)) (fun rec y hI ih => ?_) ⟨⟨by simp, by simp⟩, by simp⟩ (by simp)
  obtain ⟨s, i⟩ := y
  obtain ⟨⟨h0, h1⟩, h2⟩ := hI
  simp only at h0 h1 h2
  simp only [m_impl_MergeStates_b1, JN]
  by_cases hi : i < ((m_impl_namesOf ([base, a, b] : List (List gSetting))).length : Int)
  · have hlt : i.toNat < (m_impl_namesOf ([base, a, b] : List (List gSetting))).length := by omega
    have hat : at' (m_impl_namesOf ([base, a, b] : List (List gSetting))) i = (m_impl_namesOf ([base, a, b] : List (List gSetting)))[i.toNat] := by
      have := at_lt (xs := m_impl_namesOf ([base, a, b] : List (List gSetting))) (j := i.toNat) hlt
      rwa [Int.toNat_of_nonneg h0] at this
    have ht : (m_impl_namesOf ([base, a, b] : List (List gSetting))).take (i + 1).toNat = (m_impl_namesOf ([base, a, b] : List (List gSetting))).take i.toNat ++ [at' (m_impl_namesOf ([base, a, b] : List (List gSetting))) i] := by
      rw [show (i + 1).toNat = i.toNat + 1 by omega, List.take_succ_eq_append_getElem hlt, hat]
    simp only [hi, decide_true, Bool.cond_true]
    generalize at' (m_impl_namesOf ([base, a, b] : List (List gSetting))) i = nm at ht
    have hn1 : ∀ s' : List gSetting, s' = ((((m_impl_namesOf ([base, a, b] : List (List gSetting))).take (i + 1).toNat).filter fun n => (pick3 base a b n).there).map fun n => gSetting.mk n (pick3 base a b n).value) → rec (s', i + 1) = bif decide (24 < ((mrg base a b).length : Int)) then (([] : List gSetting), 5) else (mrg base a b, 0) := fun s' hs' =>
      ih _ ⟨⟨by simp only; omega, by simp only; omega⟩, hs'⟩ (by simp only; omega)
    have key : ∀ t : gthing, pick3 base a b nm = t → (bif t.there then rec (s ++ ([gSetting.mk nm t.value] : List gSetting), i + 1) else rec (s, i + 1)) = bif decide (24 < ((mrg base a b).length : Int)) then (([] : List gSetting), 5) else (mrg base a b, 0) := fun t ht' => by
      cases htt : t.there with
      | true =>
        simp only [Bool.cond_true]
        refine hn1 _ ?_
        rw [ht, List.filter_append, List.map_append, h2]
        simp [ht', htt]
      | false =>
        simp only [Bool.cond_false]
        refine hn1 _ ?_
        rw [ht, List.filter_append, List.map_append, h2]
        simp [ht', htt]
    have e : sameT (m_impl_thingAt a nm) (m_impl_thingAt base nm) = (((m_impl_thingAt a nm).value == (m_impl_thingAt base nm).value) && (((m_impl_thingAt a nm).there == (m_impl_thingAt base nm).there) && true)) := rfl
    rw [← e]
    cases hs : sameT (m_impl_thingAt a nm) (m_impl_thingAt base nm) with
    | true => simp only [Bool.cond_true]; exact key (m_impl_thingAt b nm) (by simp only [pick3, hs, Bool.cond_true])
    | false => simp only [Bool.cond_false]; exact key (m_impl_thingAt a nm) (by simp only [pick3, hs, Bool.cond_false])
  · have he : i = (m_impl_namesOf ([base, a, b] : List (List gSetting))).length := by omega
    subst he
    simp only [hi, decide_false, Bool.cond_false]
    rw [h2, Int.toNat_natCast, List.take_length]
    rfl
theorem merge_is {base a b : List gSetting} (h1 : m_impl_ValidState base = true) (h2 : m_impl_ValidState a = true) (h3 : m_impl_ValidState b = true) : m_impl_MergeStates base a b = bif decide (0 < ((m_impl_conflictsOf base a b).length : Int)) then (([] : List gSetting), 6) else bif decide (24 < ((mrg base a b).length : Int)) then (([] : List gSetting), 5) else (mrg base a b, 0) := by
  simp only [m_impl_MergeStates, h1, h2, h3, Bool.not_true, Bool.or_self, Bool.cond_false]
  rw [merge_loop]
theorem state_iff (list : List gSetting) : m_spec_l27State list = true ↔ (∀ e ∈ list, m_spec_l27Setting e = true) ∧ Rise (nms list) ∧ list.length ≤ 24 := by
  rw [state_all]
  constructor
  · rintro ⟨h, hl⟩
    have hs : ∀ j : Nat, j < list.length → m_spec_l27Setting (at' list j) = true ∧ (0 < j → (at' list ((j : Int) - 1)).Name < (at' list j).Name) := fun j hj => by
      have := h j (by omega) hj
      simp only [Bool.or_eq_false_iff, Bool.not_eq_false', Bool.and_eq_false_iff, decide_eq_false_iff_not, geq_eq, decide_eq_true_eq] at this
      refine ⟨this.1, fun h0 => ?_⟩
      rcases this.2 with h' | h'
      · omega
      · exact h'
    have hup : ∀ (d j : Nat), ∀ h : j + d + 1 < list.length, list[j].Name < list[j + d + 1].Name := fun d => by
      induction d with
      | zero =>
        intro j hj
        have := (hs (j + 1) hj).2 (by omega)
        rw [show (((j + 1 : Nat) : Int) - 1) = (j : Int) by omega, at_lt (by omega), at_lt hj] at this
        exact this
      | succ d ih =>
        intro j hj
        have h1 := ih j (by omega)
        have := (hs (j + (d + 1) + 1) hj).2 (by omega)
        rw [show (((j + (d + 1) + 1 : Nat) : Int) - 1) = ((j + d + 1 : Nat) : Int) by omega, at_lt (by omega), at_lt hj] at this
        exact lt_trans' h1 this
    refine ⟨fun e he => ?_, ?_, hl⟩
    · obtain ⟨i, hi, rfl⟩ := List.getElem_of_mem he
      have := (hs i hi).1
      rwa [at_lt hi] at this
    · refine List.pairwise_iff_getElem.2 fun i j hi hj hij => ?_
      have hi' : i < list.length := by simpa [nms] using hi
      have hj' : j < list.length := by simpa [nms] using hj
      simp only [nms, List.getElem_map]
      have := hup (j - i - 1) i (by omega)
      have e : i + (j - i - 1) + 1 = j := by omega
      simp only [e] at this
      exact this
  · rintro ⟨h1, h2, h3⟩
    refine ⟨fun j h0 hj => ?_, h3⟩
    simp only [Bool.or_eq_false_iff, Bool.not_eq_false', Bool.and_eq_false_iff, decide_eq_false_iff_not, geq_eq, decide_eq_true_eq]
    refine ⟨by rw [at_lt hj]; exact h1 _ (List.getElem_mem hj), ?_⟩
    by_cases hj0 : j = 0
    · left; omega
    · right
      have := List.pairwise_iff_getElem.1 h2 (j - 1) j (by simp [nms]; omega) (by simpa [nms] using hj) (by omega)
      simp only [nms, List.getElem_map] at this
      rw [show ((j : Int) - 1) = ((j - 1 : Nat) : Int) by omega, at_lt (by omega), at_lt hj]
      exact this

/-! ## Numbers within bounds -/
theorem allWithin_iff {list : List Int} {lo hi : Int} : m_impl_allWithin list lo hi = true ↔ ∀ y ∈ list, lo ≤ y ∧ y ≤ hi := by
  simp only [m_impl_allWithin, Bool.not_eq_true']
  rw [← Bool.not_eq_true, cf_int64]
  simp only [m_impl_allWithin_1, m_impl_within, Bool.not_eq_true', Bool.and_eq_false_iff, decide_eq_false_iff_not]
  constructor
  · intro h y hy
    refine Decidable.byContradiction fun hn => h ⟨y, hy, ?_⟩
    omega
  · rintro h ⟨y, hy, h2⟩
    have := h y hy
    omega

/-! ## Memos: both models judge alike -/
theorem memo_eq (s : List UInt8) : m_impl_memoValid s = m_spec_l27Memo s := by
  rw [Bool.eq_iff_iff]
  have h1 := LOOP_all (b := m_impl_bytesWithin_b1 s 32 126) (n := s.length) (fun rec k i _ => rfl) (k := fun _ => true) (((s.length : Int) - 0 : Int).toNat + 1) 0 (by omega) (by omega) (by omega)
  have h2 := LOOP_all (b := m_spec_l27Memo_b1 s) (n := s.length) (fun rec k i _ => rfl) (k := fun _ => decide ((s.length : Int) ≤ 20)) (((s.length : Int) - 0 : Int).toNat + 1) 0 (by omega) (by omega) (by omega)
  simp only [m_impl_memoValid, m_spec_l27Memo, m_impl_bytesWithin, Bool.and_eq_true]
  rw [h1, h2]
  constructor
  · rintro ⟨a, b, _⟩; exact ⟨b, a⟩
  · rintro ⟨b, a⟩; exact ⟨a, b, rfl⟩
theorem memo_len {s : List UInt8} (h : m_spec_l27Memo s = true) : s.length ≤ 20 := by
  have h2 := LOOP_all (b := m_spec_l27Memo_b1 s) (n := s.length) (fun rec k i _ => rfl) (k := fun _ => decide ((s.length : Int) ≤ 20)) (((s.length : Int) - 0 : Int).toNat + 1) 0 (by omega) (by omega) (by omega)
  have := (h2.1 h).2
  simp at this; omega
theorem memo_lenI {s : List UInt8} (h : m_impl_memoValid s = true) : s.length ≤ 20 := memo_len (by rw [← memo_eq]; exact h)

/-! ## Marks on rows whose elements hold rows -/
def markL {α : Type} (mk : α → Int → Int × α) : List α → Int → Int × List α
  | [], k => (k, [])
  | e :: r, k => ((markL mk r (mk e k).1).1, (mk e k).2 :: (markL mk r (mk e k).1).2)
def heldL {α : Type} (held : α → Int → Int) : List α → Int → Int
  | [], k => k
  | e :: r, k => bif decide (held e k < 0) then (-1) else heldL held r (held e k)
theorem drop_at {α : Type} [Inhabited α] {xs : List α} {i : Int} (h : 0 ≤ i ∧ i < xs.length) : xs.drop i.toNat = at' xs i :: xs.drop (i + 1).toNat := by
  have hl : i.toNat < xs.length := by omega
  rw [List.drop_eq_getElem_cons hl, show (i + 1).toNat = i.toNat + 1 by omega]
  simp [at', List.getD_eq_getElem?_getD, hl]
theorem take_set_succ {α : Type} {v : α} : ∀ {xs : List α} {n : Nat}, n < xs.length → (xs.set n v).take (n + 1) = xs.take n ++ [v]
  | [], _, h => by simp at h
  | x :: xs, 0, _ => by simp
  | x :: xs, n + 1, h => by
    rw [List.set_cons_succ, List.take_succ_cons, take_set_succ (xs := xs) (n := n) (by simpa using h)]
    simp
theorem LOOP_markN {α : Type} [Inhabited α] {mk : α → Int → Int × α} {b : (List α × Int × Int → Int × List α) → (List α × Int × Int → Int × List α) → List α × Int × Int → Int × List α} {k : List α × Int × Int → Int × List α}
    (hb : ∀ rec xs kk i, 0 ≤ i → i < (xs.length : Int) → b rec k (xs, kk, i) = rec (put' xs i (mk (at' xs i) kk).2, (mk (at' xs i) kk).1, i + 1)) (he : ∀ rec xs kk i, ¬ i < (xs.length : Int) → b rec k (xs, kk, i) = k (xs, kk, i)) (hk : ∀ x, k x = (x.2.1, x.1)) :
    ∀ (fuel : Nat) (xs : List α) (kk i : Int), 0 ≤ i → i ≤ xs.length → ((xs.length : Int) - i).toNat < fuel → LOOP b k fuel (xs, kk, i) = ((markL mk (xs.drop i.toNat) kk).1, xs.take i.toNat ++ (markL mk (xs.drop i.toNat) kk).2)
  | 0, _, _, _, _, _, h => by omega
  | m + 1, xs, kk, i, h1, h2, h4 => by
    simp only [LOOP]
    by_cases hi : i < (xs.length : Int)
    · rw [hb _ _ _ _ h1 hi]
      have hl : (put' xs i (mk (at' xs i) kk).2).length = xs.length := put_len
      rw [LOOP_markN hb he hk m _ _ (i + 1) (by omega) (by omega) (by omega), drop_at ⟨h1, hi⟩]
      have hn : (i + 1).toNat = i.toNat + 1 := by omega
      have hlt : i.toNat < xs.length := by omega
      have e1 : (put' xs i (mk (at' xs i) kk).2).drop (i + 1).toNat = xs.drop (i + 1).toNat := by
        rw [hn]; simp only [put']; rw [List.drop_set, if_pos (by omega)]
      have e2 : (put' xs i (mk (at' xs i) kk).2).take (i + 1).toNat = xs.take i.toNat ++ [(mk (at' xs i) kk).2] := by
        rw [hn]; exact take_set_succ hlt
      rw [e1, e2]
      simp only [markL, List.append_assoc, List.singleton_append]
    · have : i = xs.length := by omega
      subst this
      rw [he _ _ _ _ hi, hk]
      simp [markL]
theorem LOOP_heldN {α : Type} [Inhabited α] {held : α → Int → Int} {L : List α} {b : (Int × Int → Int) → (Int × Int → Int) → Int × Int → Int} {k : Int × Int → Int}
    (hb : ∀ rec kk i, 0 ≤ i → i < (L.length : Int) → b rec k (kk, i) = bif decide (held (at' L i) kk < 0) then (-1) else rec (held (at' L i) kk, i + 1)) (he : ∀ rec kk i, ¬ i < (L.length : Int) → b rec k (kk, i) = k (kk, i)) (hk : ∀ x, k x = x.1) :
    ∀ (fuel : Nat) (kk i : Int), 0 ≤ i → i ≤ L.length → ((L.length : Int) - i).toNat < fuel → LOOP b k fuel (kk, i) = heldL held (L.drop i.toNat) kk
  | 0, _, _, _, _, h => by omega
  | m + 1, kk, i, h1, h2, h4 => by
    simp only [LOOP]
    by_cases hi : i < (L.length : Int)
    · rw [hb _ _ _ h1 hi, drop_at ⟨h1, hi⟩]
      simp only [heldL]
      cases decide (held (at' L i) kk < 0) with
      | true => rfl
      | false => exact LOOP_heldN hb he hk m _ (i + 1) (by omega) (by omega) (by omega)
    · have : i = L.length := by omega
      subst this
      rw [he _ _ _ hi, hk]
      simp [heldL]
theorem held_markL {α : Type} {mk : α → Int → Int × α} {held : α → Int → Int} {sz : α → Nat} {B : Int} {Q : α → Prop} (h : ∀ e kk, Q e → 0 ≤ kk → kk + sz e ≤ B → (mk e kk).1 = kk + sz e ∧ held (mk e kk).2 kk = kk + sz e) :
    ∀ (l : List α) (kk : Int), (∀ e ∈ l, Q e) → 0 ≤ kk → kk + ((l.map sz).sum : Nat) ≤ B → (markL mk l kk).1 = kk + ((l.map sz).sum : Nat) ∧ heldL held (markL mk l kk).2 kk = kk + ((l.map sz).sum : Nat)
  | [], kk, _, _, _ => by simp [markL, heldL]
  | e :: r, kk, hQ, h0, hB => by
    simp only [List.map_cons, List.sum_cons, Int.natCast_add] at hB ⊢
    obtain ⟨h1, h2⟩ := h e kk (hQ e List.mem_cons_self) h0 (by omega)
    obtain ⟨i1, i2⟩ := held_markL h r (kk + sz e) (fun x hx => hQ x (List.mem_cons_of_mem _ hx)) (by omega) (by omega)
    simp only [markL, heldL, h1, h2]
    rw [i1, i2, decide_eq_false (by omega)]
    exact ⟨by omega, by simp only [Bool.cond_false]; omega⟩
theorem sum_le {α : Type} {sz : α → Nat} {c : Nat} : ∀ {l : List α}, (∀ e ∈ l, sz e ≤ c) → (l.map sz).sum ≤ l.length * c
  | [], _ => by simp
  | e :: r, h => by
    have := sum_le (l := r) fun x hx => h x (List.mem_cons_of_mem _ hx)
    have h1 := h e List.mem_cons_self
    simp only [List.map_cons, List.sum_cons, List.length_cons, Nat.succ_mul]
    omega

/-! ## FnMerges: drawn histories, lines and common ancestors -/
def HV (list : List gVersion) : Prop := list.length ≤ 32 ∧ ∀ j : Nat, j < list.length → (at' list (j : Int)).Number = (j : Int) + 1 ∧ (0 ≤ (at' list (j : Int)).Parent ∧ (at' list (j : Int)).Parent ≤ j) ∧ m_spec_l27Memo (at' list (j : Int)).Memo = true ∧ m_spec_l27State (at' list (j : Int)).State = true
theorem hist_iff (list : List gVersion) : m_spec_l27Ok list = true ↔ HV list := by
  have h := LOOP_all (b := m_spec_l27Ok_b1 list) (n := list.length) (fun rec k i _ => rfl) (k := fun _ => decide ((list.length : Int) ≤ 32)) (((list.length : Int) - 0 : Int).toNat + 1) 0 (by omega) (by omega) (by omega)
  simp only [m_spec_l27Ok]
  rw [h]
  simp only [Bool.or_eq_false_iff, bne_eq_false_iff_eq, Bool.not_eq_false', decide_eq_true_eq, m_spec_l00In, Bool.and_eq_true]
  constructor
  · rintro ⟨h1, h2⟩
    exact ⟨by omega, fun j hj => by have := h1 j (by omega) hj; exact ⟨this.1.1.1, this.1.1.2, this.1.2, this.2⟩⟩
  · rintro ⟨h1, h2⟩
    exact ⟨fun j _ hj => by have := h2 j hj; exact ⟨⟨⟨this.1, this.2.1⟩, this.2.2.1⟩, this.2.2.2⟩, by omega⟩
theorem histI_iff (list : List gVersion) : m_impl_ValidHistory list = true ↔ HV list := by
  have h := LOOP_all (b := m_impl_ValidHistory_b1 list) (n := list.length) (fun rec k i _ => rfl) (k := fun _ => true) (((list.length : Int) - 0 : Int).toNat + 1) 0 (by omega) (by omega) (by omega)
  simp only [m_impl_ValidHistory]
  by_cases hl : 32 < (list.length : Int)
  · simp only [hl, decide_true, Bool.cond_true]
    constructor
    · intro h; exact absurd h (by decide)
    · rintro ⟨h, _⟩; omega
  · simp only [hl, decide_false, Bool.cond_false]
    rw [h]
    simp only [Bool.or_eq_false_iff, bne_eq_false_iff_eq, Bool.not_eq_false', decide_eq_true_eq, m_impl_within, Bool.and_eq_true, memo_eq, state_eq]
    constructor
    · rintro ⟨h1, h2⟩
      exact ⟨by omega, fun j hj => by have := h1 j (by omega) hj; exact ⟨this.1.1.1, this.1.1.2, this.1.2, this.2⟩⟩
    · rintro ⟨h1, h2⟩
      exact ⟨fun j _ hj => by have := h2 j hj; exact ⟨⟨⟨this.1, this.2.1⟩, this.2.2.1⟩, this.2.2.2⟩, trivial⟩
theorem at_app_lt {α : Type} [Inhabited α] {xs : List α} {y : α} {j : Nat} (h : j < xs.length) : at' (xs ++ [y]) (j : Int) = at' xs (j : Int) := by
  rw [at_lt h, at_lt (by rw [List.length_append]; omega), List.getElem_append_left h]
theorem at_app_eq {α : Type} [Inhabited α] {xs : List α} {y : α} : at' (xs ++ [y]) (xs.length : Int) = y := by
  rw [at_lt (by rw [List.length_append, List.length_singleton]; omega)]; simp
theorem HV.snoc {list : List gVersion} {p : Int} {memo : List UInt8} {st : List gSetting} (h : HV list) (hl : list.length < 32) (hp : 0 ≤ p ∧ p ≤ list.length) (hm : m_spec_l27Memo memo = true) (hs : m_spec_l27State st = true) : HV (list ++ ([gVersion.mk ((list.length : Int) + 1) p memo st] : List gVersion)) := by
  refine ⟨by rw [List.length_append, List.length_singleton]; omega, fun j hj => ?_⟩
  rw [List.length_append, List.length_singleton] at hj
  by_cases hjl : j < list.length
  · rw [at_app_lt hjl]; exact h.2 j hjl
  · have : j = list.length := by omega
    subst this
    rw [at_app_eq]
    exact ⟨rfl, hp, hm, hs⟩
theorem HV.nil : HV [] := ⟨by simp, fun j hj => by simp at hj⟩
/-! ### Lines -/
def lineF (list : List gVersion) : Nat → Int → List Int
  | 0, _ => []
  | k + 1, n => if 0 < n then n :: lineF list k (at' list (n - 1)).Parent else []
theorem HV.par {list : List gVersion} (h : HV list) {n : Int} (hn : 0 < n ∧ n ≤ list.length) : 0 ≤ (at' list (n - 1)).Parent ∧ (at' list (n - 1)).Parent ≤ n - 1 := by
  have := (h.2 (n - 1).toNat (by omega)).2.1
  rw [show (((n - 1).toNat : Nat) : Int) = n - 1 by omega] at this
  exact this
theorem line_loop {list : List gVersion} (h : HV list) {m : Int} : ∀ (fuel : Nat) (n : Int) (acc : List Int), 0 ≤ n → n ≤ list.length → n.toNat < fuel → LOOP (m_impl_lineOf_b1 list m) (fun (x1 : Int × (List Int)) => x1.2) fuel (n, acc) = acc ++ lineF list fuel n
  | 0, _, _, _, _, hf => by omega
  | fuel + 1, n, acc, h0, h1, hf => by
    have hl := h.1
    rw [LOOP, m_impl_lineOf_b1, lineF]
    by_cases hn : 0 < n
    · simp only [hn, decide_true, Bool.cond_true, if_true]
      rw [wr64 (n := n - 1) (by omega)]
      have hp := h.par ⟨hn, h1⟩
      rw [line_loop h fuel _ _ hp.1 (by omega) (by omega)]
      simp
    · simp [hn]
theorem line_is {list : List gVersion} (h : HV list) {n : Int} (h0 : 0 ≤ n ∧ n ≤ list.length) : m_impl_lineOf list n = lineF list (n.toNat + 1) n := by
  simp only [m_impl_lineOf]
  rw [line_loop h _ _ _ h0.1 h0.2 (by omega), List.nil_append]
theorem line_mem {list : List gVersion} (h : HV list) : ∀ (k : Nat) (n : Int), 0 ≤ n → n ≤ list.length → ∀ x ∈ lineF list k n, 1 ≤ x ∧ x ≤ n
  | 0, _, _, _, x, hx => by simp [lineF] at hx
  | k + 1, n, h0, h1, x, hx => by
    rw [lineF] at hx
    by_cases hn : 0 < n
    · rw [if_pos hn] at hx
      have hp := h.par ⟨hn, h1⟩
      rcases List.mem_cons.1 hx with e | e
      · omega
      · have := line_mem h k _ hp.1 (by omega) x e; omega
    · rw [if_neg hn] at hx; simp at hx
theorem line_down {list : List gVersion} (h : HV list) : ∀ (k : Nat) (n : Int), 0 ≤ n → n ≤ list.length → (lineF list k n).Pairwise (fun x y => y < x)
  | 0, _, _, _ => List.Pairwise.nil
  | k + 1, n, h0, h1 => by
    rw [lineF]
    by_cases hn : 0 < n
    · rw [if_pos hn]
      have hp := h.par ⟨hn, h1⟩
      refine List.Pairwise.cons (fun x hx => ?_) (line_down h k _ hp.1 (by omega))
      have := line_mem h k _ hp.1 (by omega) x hx; omega
    · rw [if_neg hn]; exact List.Pairwise.nil
theorem has_iff (s : List Int) (v : Int) : m_slices_Contains_int64 s v = true ↔ v ∈ s := by
  have key : (m_slices_Index_int64 s v = -1 ∧ v ∉ s) ∨ (0 ≤ m_slices_Index_int64 s v ∧ v ∈ s) := by
    simp only [m_slices_Index_int64]
    refine LOOP_post (fun (x : Int) => (0 ≤ x ∧ x ≤ s.length) ∧ ∀ q, 0 ≤ q → q < x → at' s q ≠ v) (fun x => ((s.length : Int) - x).toNat) (fun _ (r : Int) => (r = -1 ∧ v ∉ s) ∨ (0 ≤ r ∧ v ∈ s)) (fun rec x hI ih => ?_) _ _ ⟨⟨by omega, by omega⟩, fun q h1 h2 => by omega⟩ (by omega)
    obtain ⟨⟨h0, h1⟩, h2⟩ := hI
    simp only [m_slices_Index_int64_b1]
    by_cases hi : x < (s.length : Int)
    · simp only [hi, decide_true, Bool.cond_true]
      cases hq : (v == at' s x) with
      | true => simp only [Bool.cond_true]; exact .inr ⟨h0, by have : v = at' s x := by simpa using hq
                                                               rw [this]; exact at_mem ⟨h0, hi⟩⟩
      | false =>
        simp only [Bool.cond_false]
        refine ih _ ⟨⟨by omega, by omega⟩, fun q g1 g2 => ?_⟩ (by omega)
        by_cases e : q = x
        · subst e; intro e2; rw [e2] at hq; simp at hq
        · exact h2 q g1 (by omega)
    · simp only [hi, decide_false, Bool.cond_false]
      refine .inl ⟨by first | rfl | trivial, fun hv => ?_⟩
      obtain ⟨j, hj, e⟩ := List.getElem_of_mem hv
      exact h2 (j : Int) (by omega) (by omega) (by rw [at_lt hj]; exact e)
  simp only [m_slices_Contains_int64, decide_eq_true_eq]
  rcases key with ⟨h1, h2⟩ | ⟨h1, h2⟩
  · rw [h1]; constructor
    · intro h; omega
    · intro h; exact absurd h h2
  · exact ⟨fun _ => h2, fun _ => h1⟩
/-- the greatest number of both lines, or 0 -/
def Com (A B : List Int) (r : Int) : Prop := (r = 0 ∧ ∀ x ∈ A, x ∉ B) ∨ (r ∈ A ∧ r ∈ B ∧ ∀ x ∈ A, x ∈ B → x ≤ r)
theorem Com.swap {A B : List Int} {r : Int} (h : Com A B r) : Com B A r := by
  rcases h with ⟨h1, h2⟩ | ⟨h1, h2, h3⟩
  · exact .inl ⟨h1, fun x hx hy => h2 x hy hx⟩
  · exact .inr ⟨h2, h1, fun x hx hy => h3 x hy hx⟩
theorem Com.one {A B : List Int} {r s : Int} (h : Com A B r) (h' : Com A B s) : r = s := by
  rcases h with ⟨h1, h2⟩ | ⟨h1, h2, h3⟩ <;> rcases h' with ⟨g1, g2⟩ | ⟨g1, g2, g3⟩
  · omega
  · exact absurd g2 (h2 _ g1)
  · exact absurd h2 (g2 _ h1)
  · have := h3 _ g1 g2; have := g3 _ h1 h2; omega
theorem com_is {list : List gVersion} (h : HV list) {a b : Int} (ha : 0 ≤ a ∧ a ≤ list.length) : Com (m_impl_lineOf list a) (m_impl_lineOf list b) (m_impl_commonAncestor list a b) := by
  have hd : (m_impl_lineOf list a).Pairwise (fun x y => y < x) := by rw [line_is h ha]; exact line_down h _ _ ha.1 ha.2
  simp only [m_impl_commonAncestor]
  refine LOOP_post (fun (x : Int) => (0 ≤ x ∧ x ≤ (m_impl_lineOf list a).length) ∧ ∀ q, 0 ≤ q → q < x → at' (m_impl_lineOf list a) q ∉ m_impl_lineOf list b) (fun x => (((m_impl_lineOf list a).length : Int) - x).toNat) (fun _ (r : Int) => Com (m_impl_lineOf list a) (m_impl_lineOf list b) r) (fun rec x hI ih => ?_) _ _ ⟨⟨by omega, by omega⟩, fun q h1 h2 => by omega⟩ (by omega)
  obtain ⟨⟨h0, h1⟩, h2⟩ := hI
  simp only [m_impl_commonAncestor_b1]
  by_cases hi : x < ((m_impl_lineOf list a).length : Int)
  · simp only [hi, decide_true, Bool.cond_true]
    cases hc : m_slices_Contains_int64 (m_impl_lineOf list b) (at' (m_impl_lineOf list a) x) with
    | true =>
      simp only [Bool.cond_true]
      refine .inr ⟨at_mem ⟨h0, hi⟩, (has_iff _ _).1 hc, fun y hy hyb => ?_⟩
      obtain ⟨j, hj, e⟩ := List.getElem_of_mem hy
      have hlt : x.toNat < (m_impl_lineOf list a).length := by omega
      have hat : at' (m_impl_lineOf list a) x = (m_impl_lineOf list a)[x.toNat] := by
        have := at_lt (xs := m_impl_lineOf list a) (j := x.toNat) hlt
        rwa [Int.toNat_of_nonneg h0] at this
      rcases Nat.lt_trichotomy j x.toNat with g | g | g
      · have := h2 (j : Int) (by omega) (by omega)
        rw [at_lt hj, e] at this
        exact absurd hyb this
      · subst g; rw [hat, e]; exact Int.le_refl _
      · have := List.pairwise_iff_getElem.1 hd x.toNat j hlt hj g
        rw [hat, ← e]; exact Int.le_of_lt this
    | false =>
      simp only [Bool.cond_false]
      refine ih _ ⟨⟨by omega, by omega⟩, fun q g1 g2 => ?_⟩ (by omega)
      by_cases e : q = x
      · subst e; intro hm; rw [(has_iff _ _).2 hm] at hc; simp at hc
      · exact h2 q g1 (by omega)
  · simp only [hi, decide_false, Bool.cond_false]
    refine .inl ⟨rfl, fun y hy hyb => ?_⟩
    obtain ⟨j, hj, e⟩ := List.getElem_of_mem hy
    have := h2 (j : Int) (by omega) (by omega)
    rw [at_lt hj, e] at this
    exact this hyb
theorem com_rng {list : List gVersion} (h : HV list) {a b : Int} (ha : 0 ≤ a ∧ a ≤ list.length) (hb : 0 ≤ b ∧ b ≤ list.length) : 0 ≤ m_impl_commonAncestor list a b ∧ m_impl_commonAncestor list a b ≤ a ∧ m_impl_commonAncestor list a b ≤ b := by
  rcases com_is h (b := b) ha with ⟨h1, _⟩ | ⟨h1, h2, _⟩
  · omega
  · rw [line_is h ha] at h1
    rw [line_is h hb] at h2
    have := line_mem h _ _ ha.1 ha.2 _ h1
    have := line_mem h _ _ hb.1 hb.2 _ h2
    omega
theorem com_swap {list : List gVersion} (h : HV list) {a b : Int} (ha : 0 ≤ a ∧ a ≤ list.length) (hb : 0 ≤ b ∧ b ≤ list.length) : m_impl_commonAncestor list a b = m_impl_commonAncestor list b a :=
  (com_is h ha).one (com_is h hb).swap
theorem vcode_is {list : List gVersion} (h : HV list) {a b : Int} (ha : 1 ≤ a ∧ a ≤ list.length) (hb : 1 ≤ b ∧ b ≤ list.length) : m_impl_versionsCode list ([a, b] : List Int) = 0 := by
  have h1 : m_impl_ValidHistory list = true := (histI_iff list).2 h
  have h2 : m_impl_allWithin ([a, b] : List Int) 1 (list.length : Int) = true := allWithin_iff.2 fun y hy => by
    simp only [List.mem_cons, List.not_mem_nil, or_false] at hy
    rcases hy with rfl | rfl <;> assumption
  simp only [m_impl_versionsCode, h1, h2, Bool.not_true, Bool.cond_false]
theorem vstate_ok {list : List gVersion} (h : HV list) {n : Int} (hn : 0 ≤ n ∧ n ≤ list.length) : m_spec_l27State (m_impl_versionState list n) = true := by
  have hl := h.1
  simp only [m_impl_versionState]
  cases e : (n == 0) with
  | true => simp only [Bool.cond_true]; exact (state_iff _).2 ⟨fun e he => absurd he List.not_mem_nil, List.Pairwise.nil, by simp⟩
  | false =>
    have : n ≠ 0 := by simpa using e
    simp only [Bool.cond_false]
    rw [wr64 (by omega)]
    have := (h.2 (n - 1).toNat (by omega)).2.2.2
    rw [show (((n - 1).toNat : Nat) : Int) = n - 1 by omega] at this
    exact this
theorem with_is {list : List gVersion} {p : Int} {memo : List UInt8} {st : List gSetting} (hl : list.length < 32) : m_impl_withVersion list p memo st = (list ++ ([gVersion.mk ((list.length : Int) + 1) p memo st] : List gVersion), 0) := by
  have e : ((list.length : Int) == 32) = false := by simp; omega
  simp only [m_impl_withVersion, e, Bool.cond_false]
  have ec : m_slices_Clone_impl_Version list ++ ([gVersion.mk ((list.length : Int) + 1) p memo st] : List gVersion) = list ++ ([gVersion.mk ((list.length : Int) + 1) p memo st] : List gVersion) := by simp [m_slices_Clone_impl_Version]
  rw [ec]
  have h := LOOP_fori (b := m_impl_withVersion_b1 list p memo st) (k := fun (x1 : (List gVersion) × Int) => (x1.1, (0 : Int))) (n := ((list ++ ([gVersion.mk ((list.length : Int) + 1) p memo st] : List gVersion)).length : Int)) (fun i xs => xs ++ [at' (list ++ ([gVersion.mk ((list.length : Int) + 1) p memo st] : List gVersion)) i]) (fun rec xs i h0 h1 => by
    simp only [m_impl_withVersion_b1, ec, h1, decide_true, Bool.cond_true, m_slices_Clone_impl_Setting, List.nil_append]) (fun rec xs => by simp only [m_impl_withVersion_b1, ec]; simp) ((((list ++ ([gVersion.mk ((list.length : Int) + 1) p memo st] : List gVersion)).length : Int) - 0 : Int).toNat + 1) 0 [] (by omega) (by omega) (by omega)
  rw [h]
  simp only [Prod.mk.injEq, and_true]
  rw [fori_map, List.nil_append]
  have e2 : (((list ++ ([gVersion.mk ((list.length : Int) + 1) p memo st] : List gVersion)).length : Int) - 0).toNat = (list ++ ([gVersion.mk ((list.length : Int) + 1) p memo st] : List gVersion)).length := by omega
  rw [e2]
  exact (list_irange _).symm

/-! ## Draws of states and histories: what the walks need -/
theorem line_step {list : List gVersion} (h : HV list) {n : Int} (h0 : 0 < n) (h1 : n ≤ list.length) : IntKind.wrap .i64 (n - 1) = n - 1 ∧ 0 ≤ (at' list (IntKind.wrap .i64 (n - 1))).Parent ∧ (at' list (IntKind.wrap .i64 (n - 1))).Parent ≤ n - 1 := by
  have hl := h.1
  have e : IntKind.wrap .i64 (n - 1) = n - 1 := wr64 (by omega)
  rw [e]
  exact ⟨rfl, h.par ⟨h0, h1⟩⟩
theorem vcode_imp {list : List gVersion} {a b : Int} (h : m_impl_versionsCode list ([a, b] : List Int) = 0) : HV list ∧ (0 ≤ a ∧ a ≤ list.length) ∧ (0 ≤ b ∧ b ≤ list.length) := by
  simp only [m_impl_versionsCode] at h
  cases h1 : m_impl_ValidHistory list with
  | false => rw [h1] at h; simp at h
  | true =>
    rw [h1] at h
    cases h2 : m_impl_allWithin ([a, b] : List Int) 1 (list.length : Int) with
    | false => rw [h2] at h; simp at h
    | true =>
      have h3 := allWithin_iff.1 h2
      have ha := h3 a (by simp)
      have hb := h3 b (by simp)
      exact ⟨(histI_iff list).1 h1, by omega, by omega⟩
theorem vcode_len {list : List gVersion} {a b : Int} (h : m_impl_versionsCode list ([a, b] : List Int) = 0) : list.length ≤ 32 := (vcode_imp h).1.1
theorem vcode_hv {list : List gVersion} {a b : Int} (h : m_impl_versionsCode list ([a, b] : List Int) = 0) : HV list := (vcode_imp h).1
theorem vcode_ab {list : List gVersion} {a b : Int} (h : m_impl_versionsCode list ([a, b] : List Int) = 0) : (0 ≤ a ∧ a ≤ list.length) ∧ (0 ≤ b ∧ b ≤ list.length) ∧ 0 ≤ m_impl_commonAncestor list a b ∧ m_impl_commonAncestor list a b ≤ a ∧ m_impl_commonAncestor list a b ≤ b :=
  ⟨(vcode_imp h).2.1, (vcode_imp h).2.2, com_rng (vcode_imp h).1 (vcode_imp h).2.1 (vcode_imp h).2.2⟩
theorem lineF_len {list : List gVersion} (h : HV list) : ∀ (k : Nat) (n : Int), 0 ≤ n → n ≤ list.length → ((lineF list k n).length : Int) ≤ n
  | 0, n, h0, _ => by simp [lineF]; exact h0
  | k + 1, n, h0, h1 => by
    rw [lineF]
    by_cases hn : 0 < n
    · rw [if_pos hn]
      have hp := h.par ⟨hn, h1⟩
      have := lineF_len h k _ hp.1 (by omega)
      simp only [List.length_cons]; omega
    · rw [if_neg hn]; simp only [List.length_nil]; omega
theorem line_len {list : List gVersion} (h : HV list) {n : Int} (hn : 0 ≤ n ∧ n ≤ list.length) : ((m_impl_lineOf list n).length : Int) ≤ 32 := by
  have := lineF_len h (n.toNat + 1) n hn.1 hn.2
  have hl := h.1
  rw [line_is h hn]; omega
theorem mergeI_len (base a b : List gSetting) : (m_impl_MergeStates base a b).1.length ≤ 24 := by
  simp only [m_impl_MergeStates]
  cases (((!(m_impl_ValidState base)) || (!(m_impl_ValidState a))) || (!(m_impl_ValidState b))) with
  | true => simp
  | false =>
    simp only [Bool.cond_false]
    cases decide (0 < ((m_impl_conflictsOf base a b).length : Int)) with
    | true => simp
    | false =>
      simp only [Bool.cond_false]
      rw [merge_loop]
      by_cases hl : 24 < ((mrg base a b).length : Int)
      · simp only [hl, decide_true, Bool.cond_true]; simp
      · simp only [hl, decide_false, Bool.cond_false]; omega
theorem mergeV_memo (list : List gVersion) (a b : Int) (memo : List UInt8) : ∀ v ∈ (m_impl_MergeVersions list a b memo).1, v.Memo.length ≤ 1048576 := by
  simp only [m_impl_MergeVersions]
  cases hc : (((m_impl_versionsCode list ([a, b] : List Int)) == 1) || (!(m_impl_memoValid memo))) with
  | true => simp
  | false =>
    simp only [Bool.cond_false]
    cases hd : ((m_impl_versionsCode list ([a, b] : List Int)) != 0) with
    | true => simp
    | false =>
      have hv := vcode_hv (by simpa using hd)
      simp only [Bool.or_eq_false_iff, Bool.not_eq_false'] at hc
      have hm := memo_lenI hc.2
      simp only [Bool.cond_false]
      cases ((m_impl_MergeStates (m_impl_versionState list (m_impl_commonAncestor list a b)) (m_impl_versionState list a) (m_impl_versionState list b)).2 != 0) with
      | true => simp
      | false =>
        simp only [Bool.cond_false]
        by_cases hl : list.length < 32
        · rw [with_is hl]
          intro v hv'
          rw [List.mem_append, List.mem_singleton] at hv'
          rcases hv' with h | h
          · obtain ⟨j, hj, rfl⟩ := List.getElem_of_mem h
            have := (hv.2 j hj).2.2.1
            rw [at_lt hj] at this
            have := memo_len this; omega
          · rw [h]; simp only; omega
        · have he : ((list.length : Int) == 32) = true := by have := hv.1; simp; omega
          simp only [m_impl_withVersion, he, Bool.cond_true]
          simp

/-! ## FnVersions -/
theorem vcode1 {list : List gVersion} (h : HV list) {a : Int} (ha : 1 ≤ a ∧ a ≤ list.length) : m_impl_versionsCode list ([a] : List Int) = 0 := by
  have h1 : m_impl_ValidHistory list = true := (histI_iff list).2 h
  have h2 : m_impl_allWithin ([a] : List Int) 1 (list.length : Int) = true := allWithin_iff.2 fun y hy => by
    simp only [List.mem_cons, List.not_mem_nil, or_false] at hy
    subst hy; exact ha
  simp only [m_impl_versionsCode, h1, h2, Bool.not_true, Bool.cond_false]
theorem vstate_at {list : List gVersion} {n : Int} (hn : 0 ≤ n ∧ n ≤ list.length) (hl : list.length ≤ 32) {v : gVersion} : m_impl_versionState (list ++ ([v] : List gVersion)) n = bif decide (0 < n) then (at' list (n - 1)).State else ([] : List gSetting) := by
  simp only [m_impl_versionState]
  by_cases h : n = 0
  · subst h; rfl
  · have e : (n == 0) = false := by simpa using h
    have e2 : (0 : Int) < n := by omega
    simp only [e, e2, decide_true, Bool.cond_false, Bool.cond_true]
    rw [wr64 (by omega)]
    have := at_app_lt (xs := list) (y := v) (j := (n - 1).toNat) (by omega)
    rw [show (((n - 1).toNat : Nat) : Int) = n - 1 by omega] at this
    rw [this]
/-! ### what the walks ask for -/
theorem histI_hv {list : List gVersion} (h : m_impl_ValidHistory list = true) : HV list := (histI_iff list).1 h
theorem histI_len {list : List gVersion} (h : m_impl_ValidHistory list = true) : list.length ≤ 32 := (histI_hv h).1
theorem within_iff {n l h : Int} (e : m_impl_within n l h = true) : l ≤ n ∧ n ≤ h := within_imp e
theorem vcode1_imp {list : List gVersion} {a : Int} (h : m_impl_versionsCode list ([a] : List Int) = 0) : HV list ∧ (1 ≤ a ∧ a ≤ list.length) := by
  simp only [m_impl_versionsCode] at h
  cases h1 : m_impl_ValidHistory list with
  | false => rw [h1] at h; simp at h
  | true =>
    rw [h1] at h
    cases h2 : m_impl_allWithin ([a] : List Int) 1 (list.length : Int) with
    | false => rw [h2] at h; simp at h
    | true => exact ⟨(histI_iff list).1 h1, allWithin_iff.1 h2 a (by simp)⟩
theorem vcode1_len {list : List gVersion} {a : Int} (h : m_impl_versionsCode list ([a] : List Int) = 0) : list.length ≤ 32 := (vcode1_imp h).1.1
theorem vcode1_hv {list : List gVersion} {a : Int} (h : m_impl_versionsCode list ([a] : List Int) = 0) : HV list := (vcode1_imp h).1
theorem vcode1_par {list : List gVersion} {a : Int} (h : m_impl_versionsCode list ([a] : List Int) = 0) : (1 ≤ a ∧ a ≤ list.length) ∧ list.length ≤ 32 ∧ IntKind.wrap .i64 (a - 1) = a - 1 ∧ 0 ≤ (at' list (a - 1)).Parent ∧ (at' list (a - 1)).Parent ≤ list.length := by
  obtain ⟨h1, h2⟩ := vcode1_imp h
  have h3 := h1.1
  have h4 := h1.par (n := a) ⟨by omega, h2.2⟩
  exact ⟨h2, h3, wr64 (by omega), h4.1, by omega⟩
theorem vstate24 {list : List gVersion} (h : HV list) {n : Int} (hn : 0 ≤ n ∧ n ≤ list.length) : (m_impl_versionState list n).length ≤ 24 := state_l24 (vstate_ok h hn)
theorem line_pos {list : List gVersion} (h : HV list) {n : Int} (hn : 1 ≤ n ∧ n ≤ list.length) : 1 ≤ (m_impl_lineOf list n).length := by
  rw [line_is h ⟨by omega, hn.2⟩, lineF, if_pos (by omega)]; simp
theorem vcodeG_hv {list : List gVersion} {ns : List Int} (h : m_impl_versionsCode list ns = 0) : HV list := by
  simp only [m_impl_versionsCode] at h
  cases h1 : m_impl_ValidHistory list with
  | false => rw [h1] at h; simp at h
  | true => exact (histI_iff list).1 h1
theorem vcodeG_len {list : List gVersion} {ns : List Int} (h : m_impl_versionsCode list ns = 0) : list.length ≤ 32 := (vcodeG_hv h).1
theorem at_memo {L : List gVersion} (h : ∀ v ∈ L, v.Memo.length ≤ 1048576) (i : Int) : (at' L i).Memo.length ≤ 1048576 := by
  unfold at'
  rw [List.getD_eq_getElem?_getD]
  cases h' : L[i.toNat]? with
  | none => exact (show (0 : Nat) ≤ 1048576 by omega)
  | some v => exact h v (List.mem_of_getElem? h')

end Go.Proofs.Ytdkkcemlnjlebaa
