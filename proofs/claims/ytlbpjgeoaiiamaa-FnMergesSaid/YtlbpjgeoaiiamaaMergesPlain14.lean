/-
  PLAIN LAWS about the models: no program in sight. Conditions: as each theorem states them.
-/
import Derived.Test.YtlbpjgeoaiiamaaMergesPlain13
set_option linter.unusedVariables false
set_option linter.unusedSimpArgs false
set_option linter.unusedSectionVars false
set_option linter.unnecessarySimpa false
namespace Go.Proofs.Ytlbpjgeoaiiamaa
open Go Go.RowKit Go.Proofs Go.Proofs.Ytlbpjgeoaiiamaa.E
/-! ## Drawn states -/
def six : List Txt := [[97], [98], [99], [100], [101], [102]]
theorem six_rise : Rise six := by decide
theorem six_name : ∀ n ∈ six, m_spec_l01Name n = true := by
  intro n hn
  simp only [six, List.mem_cons, List.not_mem_nil, or_false] at hn
  rcases hn with rfl | rfl | rfl | rfl | rfl | rfl <;> rfl
theorem six_lt {i j : Nat} (hi : i < 6) (hj : j < i) : at' six (j : Int) < at' six (i : Int) := by
  have := List.pairwise_iff_getElem.1 six_rise j i (by simp [six]; omega) (by simp [six]; omega) hj
  rw [at_lt (by simp [six]; omega), at_lt (by simp [six]; omega)]
  exact this
theorem six_at {i : Int} (h : 0 ≤ i ∧ i < 6) : at' six i ∈ six := at_mem ⟨h.1, by simp [six]; omega⟩
theorem five_at {i : Int} (h : 0 ≤ i ∧ i < 5) : at' ([([97] : List UInt8), ([98] : List UInt8), ([99] : List UInt8), ([100] : List UInt8), ([101] : List UInt8)] : List (List UInt8)) i = at' six i := by
  have : i = 0 ∨ i = 1 ∨ i = 2 ∨ i = 3 ∨ i = 4 := by omega
  rcases this with rfl | rfl | rfl | rfl | rfl <;> rfl
def DS (L : List gSetting) : Prop := Rise (nms L) ∧ ∀ e ∈ L, e.Name ∈ six ∧ 0 ≤ e.Value ∧ e.Value ≤ 1000
theorem DS.nil : DS [] := ⟨List.Pairwise.nil, fun e he => absurd he List.not_mem_nil⟩
theorem DS.len {L : List gSetting} (h : DS L) : L.length ≤ 6 := by
  have e : nms L = six.filter (fun n => decide (n ∈ nms L)) := by
    refine rise_ext h.1 (List.Pairwise.filter _ six_rise) fun x => ?_
    rw [List.mem_filter]
    constructor
    · intro hx
      obtain ⟨q, hq, rfl⟩ := List.mem_map.1 hx
      exact ⟨(h.2 q hq).1, by simpa using hx⟩
    · rintro ⟨_, hx⟩; simpa using hx
  have h1 : L.length = (nms L).length := by simp [nms]
  have h2 : (six.filter (fun n => decide (n ∈ nms L))).length ≤ six.length := List.length_filter_le _ _
  have h3 : six.length = 6 := rfl
  rw [h1, e]; omega
theorem DS.setting {L : List gSetting} (h : DS L) : ∀ e ∈ L, m_spec_l27Setting e = true := fun e he => by
  have := h.2 e he
  simp only [m_spec_l27Setting, six_name _ this.1, m_spec_l00In, Bool.true_and, Bool.and_eq_true, decide_eq_true_eq]
  exact this.2
theorem DS.valid {L : List gSetting} (h : DS L) : m_spec_l27State L = true := (state_iff L).2 ⟨h.setting, h.1, by have := h.len; omega⟩
theorem DS.validI {L : List gSetting} (h : DS L) : m_impl_ValidState L = true := by rw [state_eq]; exact h.valid
theorem DS.snoc {L : List gSetting} {i v : Int} (h : DS L) (hi : 0 ≤ i ∧ i < 6) (hu : ∀ e ∈ L, ∃ j : Nat, (j : Int) < i ∧ e.Name = at' six (j : Int)) (hv : 0 ≤ v ∧ v ≤ 1000) : DS (L ++ ([gSetting.mk (at' six i) v] : List gSetting)) := by
  refine ⟨?_, fun e he => ?_⟩
  · simp only [nms, List.map_append, List.map_cons, List.map_nil, Rise]
    rw [List.pairwise_append]
    refine ⟨h.1, List.pairwise_singleton _ _, fun z hz y hy => ?_⟩
    rw [List.mem_singleton] at hy
    obtain ⟨q, hq, rfl⟩ := List.mem_map.1 hz
    obtain ⟨j, hj, e⟩ := hu q hq
    rw [hy, e, show i = ((i.toNat : Nat) : Int) by omega]
    exact six_lt (by omega) (by omega)
  · rw [List.mem_append, List.mem_singleton] at he
    rcases he with he | he
    · exact h.2 e he
    · rw [he]; exact ⟨six_at hi, hv⟩
theorem draw_state {s : gl00Src} {n : Int} (h : Lim s n) : DS (m_spec_l27DrawState s).1 ∧ Lim (m_spec_l27DrawState s).2 (n + 20) := by
  simp only [m_spec_l27DrawState]
  refine LOOP_post (fun (x : (List Int) × Int × Int × (List gSetting) × Int) => (0 ≤ x.2.2.2.2 ∧ x.2.2.2.2 ≤ 5) ∧ LimA x.1 x.2.1 (n + 4 * x.2.2.2.2) ∧ DS x.2.2.2.1 ∧ ∀ e ∈ x.2.2.2.1, ∃ j : Nat, (j : Int) < x.2.2.2.2 ∧ e.Name = at' six (j : Int)) (fun x => (5 - x.2.2.2.2).toNat)
    (fun _ (r : (List gSetting) × gl00Src) => DS r.1 ∧ Lim r.2 (n + 20)) (fun rec x hI ih => ?_) _ _ ⟨⟨by simp, by simp⟩, by simpa using h.out (by omega), DS.nil, fun e he => absurd he List.not_mem_nil⟩ (by simp)
  obtain ⟨c, a, sd, L, i⟩ := x
  obtain ⟨⟨h0, h1⟩, hl, hd, hu⟩ := hI
  simp only at h0 h1 hl hd hu
  simp only [m_spec_l27DrawState_b1]
  by_cases hi : i < 5
  · simp only [hi, decide_true, Bool.cond_true]
    have hs : Lim (gl00Src.mk c a sd) (n + 4 * i) := Lim.mk hl
    have ho := hs.one (k := 2)
    cases (m_spec_l00Src_one (gl00Src.mk c a sd) 2).1 with
    | true =>
      simp only [Bool.cond_true]
      have hp := ho.pick (k := 1001)
      have hv := ho.num (k := 1001)
      refine ih _ ⟨⟨by simp only; omega, by simp only; omega⟩, hp.out (by simp only; omega), ?_, ?_⟩ (by simp only; omega)
      · simp only
        rw [five_at (by omega)]
        exact hd.snoc (by omega) hu (by have := hv.2 (by omega); omega)
      · simp only
        intro e he
        rw [List.mem_append, List.mem_singleton] at he
        rcases he with he | he
        · obtain ⟨j, hj, e2⟩ := hu e he
          exact ⟨j, by omega, e2⟩
        · refine ⟨i.toNat, by omega, ?_⟩
          rw [he, show ((i.toNat : Nat) : Int) = i by omega]
          exact five_at (by omega)
    | false =>
      simp only [Bool.cond_false]
      exact ih _ ⟨⟨by simp only; omega, by simp only; omega⟩, ho.out (by simp only; omega), hd, fun e he => by
        obtain ⟨j, hj, e2⟩ := hu e he
        exact ⟨j, by simp only; omega, e2⟩⟩ (by simp only; omega)
  · simp only [hi, decide_false, Bool.cond_false]
    exact ⟨hd, Lim.mk (hl.mono (by omega))⟩
theorem set_el (L : List gSetting) (e : gSetting) : ∀ x ∈ m_spec_l27Set L e, x = e ∨ x ∈ L := by
  simp only [m_spec_l27Set]
  refine LOOP_post (fun (x : List gSetting × Bool × Int) => (0 ≤ x.2.2 ∧ x.2.2 ≤ L.length) ∧ ∀ y ∈ x.1, y = e ∨ y ∈ L) (fun x => ((L.length : Int) - x.2.2).toNat) (fun _ (r : List gSetting) => ∀ y ∈ r, y = e ∨ y ∈ L) (fun rec x hI ih => ?_) _ _ ⟨⟨by simp, by simp⟩, fun y hy => absurd hy List.not_mem_nil⟩ (by simp)
  obtain ⟨out, done, i⟩ := x
  obtain ⟨⟨h0, h1⟩, hA⟩ := hI
  simp only at h0 h1 hA
  have hs : ∀ (l : List gSetting) (q : gSetting), (∀ y ∈ l, y = e ∨ y ∈ L) → (q = e ∨ q ∈ L) → ∀ y ∈ l ++ ([q] : List gSetting), y = e ∨ y ∈ L := fun l q h1 h2 y hy => by
    rw [List.mem_append, List.mem_singleton] at hy
    rcases hy with hy | hy
    · exact h1 y hy
    · rw [hy]; exact h2
  simp only [m_spec_l27Set_b1, JN]
  by_cases hi : i < (L.length : Int)
  · simp only [hi, decide_true, Bool.cond_true]
    have hat : at' L i ∈ L := at_mem ⟨h0, hi⟩
    cases (!done && strB .geq (at' L i).Name e.Name) <;> cases (strB .neq (at' L i).Name e.Name) <;> simp only [Bool.cond_true, Bool.cond_false]
    · exact ih _ ⟨⟨by simp only; omega, by simp only; omega⟩, hA⟩ (by simp only; omega)
    · exact ih _ ⟨⟨by simp only; omega, by simp only; omega⟩, hs _ _ hA (.inr hat)⟩ (by simp only; omega)
    · exact ih _ ⟨⟨by simp only; omega, by simp only; omega⟩, hs _ _ hA (.inl rfl)⟩ (by simp only; omega)
    · exact ih _ ⟨⟨by simp only; omega, by simp only; omega⟩, hs _ _ (hs _ _ hA (.inl rfl)) (.inr hat)⟩ (by simp only; omega)
  · simp only [hi, decide_false, Bool.cond_false]
    cases done with
    | true => exact hA
    | false => exact hs _ _ hA (.inl rfl)
theorem DS.set {L : List gSetting} {n : Txt} {v : Int} (h : DS L) (hn : n ∈ six) (hv : 0 ≤ v ∧ v ≤ 1000) : DS (m_spec_l27Set L (gSetting.mk n v)) := by
  refine ⟨(set_is h.1 _).1, fun e he => ?_⟩
  rcases set_el _ _ e he with he | he
  · rw [he]; exact ⟨hn, hv⟩
  · exact h.2 e he
theorem DS.drop {L : List gSetting} {k : Int} (h : DS L) (hk : 0 ≤ k ∧ k < L.length) : DS ((([] : List gSetting) ++ (pre' L k)) ++ (cut' L (IntKind.wrap .i64 (k + 1)) (L.length : Int))) := by
  have hl := h.len
  have hs : List.Sublist ((([] : List gSetting) ++ (pre' L k)) ++ (cut' L (IntKind.wrap .i64 (k + 1)) (L.length : Int))) L := by
    rw [wr64 (by omega), List.nil_append]
    unfold pre' cut'
    have e : (((L.length : Int).toNat) - (k + 1).toNat) = L.length - (k + 1).toNat := by omega
    have h1 : List.Sublist (L.take k.toNat ++ L.drop (k + 1).toNat) (L.take k.toNat ++ L.drop k.toNat) := List.Sublist.append (List.Sublist.refl _) (by
      rw [show (k + 1).toNat = k.toNat + 1 by omega, ← List.drop_drop]
      exact List.drop_sublist _ _)
    rw [List.take_append_drop] at h1
    refine List.Sublist.trans (List.Sublist.append (List.Sublist.refl _) ?_) h1
    first | exact List.take_sublist _ _ | exact List.Sublist.refl _ | (rw [Int.toNat_natCast, List.take_length]; exact List.Sublist.refl _) | skip
  exact ⟨List.Pairwise.sublist (hs.map _) h.1, fun e he => h.2 e (hs.subset he)⟩
theorem at27_rng {list : List gSetting} {name : Txt} (h : 0 ≤ m_spec_l27At list name) : 0 ≤ m_spec_l27At list name ∧ m_spec_l27At list name < list.length := at_rng h
theorem changed_state {s : gl00Src} {n : Int} {L : List gSetting} (h : Lim s n) (hL : DS L) : DS (m_spec_l27Changed s L).1 ∧ Lim (m_spec_l27Changed s L).2 (n + 20) := by
  simp only [m_spec_l27Changed]
  have hp0 := h.pick (k := 4)
  have hn0 := h.num (k := 4)
  have hn1 := hn0.2 (by omega)
  refine LOOP_post (fun (x : (List Int) × Int × Int × (List gSetting) × Int) => (0 ≤ x.2.2.2.2 ∧ x.2.2.2.2 ≤ 3) ∧ LimA x.1 x.2.1 (n + 20 - 6 * x.2.2.2.2) ∧ DS x.2.2.2.1) (fun x => x.2.2.2.2.toNat)
    (fun _ (r : (List gSetting) × gl00Src) => DS r.1 ∧ Lim r.2 (n + 20)) (fun rec x hI ih => ?_) _ _ ⟨⟨hn0.1, by simp only; omega⟩, hp0.out (by simp only; omega), by simpa using hL⟩ (by simp only; omega)
  obtain ⟨c, a, sd, l, i⟩ := x
  obtain ⟨⟨h0, h1⟩, hl, hd⟩ := hI
  simp only at h0 h1 hl hd
  simp only [m_spec_l27Changed_b1]
  by_cases hi : 0 < i
  · simp only [hi, decide_true, Bool.cond_true]
    have hs : Lim (gl00Src.mk c a sd) (n + 20 - 6 * i) := Lim.mk hl
    have hp := hs.pick (k := 6)
    have hv := hs.num (k := 6)
    have hnm := six_at ⟨hv.1, hv.2 (by omega)⟩
    have e6 : ([([97] : List UInt8), ([98] : List UInt8), ([99] : List UInt8), ([100] : List UInt8), ([101] : List UInt8), ([102] : List UInt8)] : List (List UInt8)) = six := rfl
    rw [e6]
    generalize at' six (m_spec_l00Src_pick (gl00Src.mk c a sd) 6).1 = nm at hnm
    have ho : Lim (bif (decide (0 ≤ (m_spec_l27At l nm))) then (m_spec_l00Src_one (m_spec_l00Src_pick (gl00Src.mk c a sd) 6).2 2).2 else (m_spec_l00Src_pick (gl00Src.mk c a sd) 6).2) (n + 20 - 6 * i + 2 + 2) := hp.bif1
    cases hc : (decide (0 ≤ (m_spec_l27At l nm))) && (m_spec_l00Src_one (m_spec_l00Src_pick (gl00Src.mk c a sd) 6).2 2).1 with
    | true =>
      simp only [Bool.cond_true]
      simp only [Bool.and_eq_true, decide_eq_true_eq] at hc
      exact ih _ ⟨⟨by simp only; omega, by simp only; omega⟩, ho.out (by simp only; omega), hd.drop (at_rng hc.1)⟩ (by simp only; omega)
    | false =>
      simp only [Bool.cond_false]
      have hq := ho.pick (k := 1001)
      have hw := ho.num (k := 1001)
      exact ih _ ⟨⟨by simp only; omega, by simp only; omega⟩, hq.out (by simp only; omega), hd.set hnm (by have := hw.2 (by omega); omega)⟩ (by simp only; omega)
  · simp only [hi, decide_false, Bool.cond_false]
    exact ⟨hd, Lim.mk (hl.mono (by omega))⟩

end Go.Proofs.Ytlbpjgeoaiiamaa
