/-
  PLAIN LAWS about the models: no program in sight. Conditions: as each theorem states them.
-/
import Derived.Test.YtlbpjgeoaiiamaaMergesPlain12
set_option linter.unusedVariables false
set_option linter.unusedSimpArgs false
set_option linter.unusedSectionVars false
set_option linter.unnecessarySimpa false
namespace Go.Proofs.Ytlbpjgeoaiiamaa
open Go Go.RowKit Go.Proofs Go.Proofs.Ytlbpjgeoaiiamaa.E
/-! ## States as sets of settings: what a merge is -/
theorem names_mem (base a b : List gSetting) : Rise (m_impl_namesOf ([base, a, b] : List (List gSetting))) ∧ ∀ z, z ∈ m_impl_namesOf ([base, a, b] : List (List gSetting)) ↔ z ∈ nms base ∨ z ∈ nms a ∨ z ∈ nms b := by
  rw [names_impl]
  refine ⟨compact_rise (sortS_up _), fun x => ?_⟩
  rw [compact_mem, (List.mergeSort_perm _ _).mem_iff]
  simp [List.mem_append, or_assoc]
theorem names_swap (base a b : List gSetting) : m_impl_namesOf ([base, a, b] : List (List gSetting)) = m_impl_namesOf ([base, b, a] : List (List gSetting)) := by
  have h := names_mem base a b
  have h' := names_mem base b a
  refine rise_ext h.1 h'.1 fun x => ?_
  rw [h.2, h'.2]
  constructor <;> rintro (h | h | h) <;> simp [h]
theorem name_one {L : List gSetting} (hL : Rise (nms L)) {x y : gSetting} (hx : x ∈ L) (hy : y ∈ L) (e : x.Name = y.Name) : x = y := by
  obtain ⟨i, hi, rfl⟩ := List.getElem_of_mem hx
  obtain ⟨j, hj, rfl⟩ := List.getElem_of_mem hy
  have hget : ∀ j k (hj : j < L.length) (hk : k < L.length), j < k → L[j].Name < L[k].Name := fun j k hj hk hjk => by
    have := List.pairwise_iff_getElem.1 hL j k (by simpa [nms] using hj) (by simpa [nms] using hk) hjk
    simpa [nms] using this
  rcases Nat.lt_trichotomy i j with h | h | h
  · have := hget i j hi hj h; rw [e] at this; exact absurd this (List.lt_irrefl _)
  · subst h; rfl
  · have := hget j i hj hi h; rw [e] at this; exact absurd this (List.lt_irrefl _)
theorem state_ext {A B : List gSetting} (hA : Rise (nms A)) (hB : Rise (nms B)) (h : ∀ e, e ∈ A ↔ e ∈ B) : A = B := by
  have hn : nms A = nms B := rise_ext hA hB fun x => by
    simp only [nms, List.mem_map]
    constructor
    · rintro ⟨e, he, rfl⟩; exact ⟨e, (h e).1 he, rfl⟩
    · rintro ⟨e, he, rfl⟩; exact ⟨e, (h e).2 he, rfl⟩
  have hl : A.length = B.length := by have := congrArg List.length hn; simpa [nms] using this
  refine List.ext_getElem hl fun i h1 h2 => ?_
  have e1 : A[i].Name = B[i].Name := by
    have := congrArg (fun l => l[i]?) hn
    simp only [nms, List.getElem?_map, List.getElem?_eq_getElem h1, List.getElem?_eq_getElem h2, Option.map_some] at this
    exact Option.some.inj this
  exact name_one hB ((h _).1 (List.getElem_mem h1)) (List.getElem_mem h2) e1
theorem thing_cases (L : List gSetting) (n : Txt) : (m_impl_thingAt L n = gthing.mk 0 false ∧ ∀ e ∈ L, e.Name ≠ n) ∨ ∃ e ∈ L, e.Name = n ∧ m_impl_thingAt L n = gthing.mk e.Value true := by
  rcases value_is L n with ⟨h1, h2⟩ | ⟨j, h1, h2⟩
  · left
    refine ⟨by simp only [m_impl_thingAt, h1], fun e he => ?_⟩
    obtain ⟨i, hi, rfl⟩ := List.getElem_of_mem he
    have := h2 (i : Int) (by omega) (by omega)
    rwa [at_lt hi] at this
  · right
    exact ⟨at' L j, at_mem h1.1, h1.2.1, by simp only [m_impl_thingAt, h2]⟩
theorem thing_in {L : List gSetting} (hL : Rise (nms L)) {e : gSetting} (he : e ∈ L) : m_impl_thingAt L e.Name = gthing.mk e.Value true := by
  rcases thing_cases L e.Name with ⟨_, h⟩ | ⟨e', he', hn, h⟩
  · exact absurd rfl (h e he)
  · rw [h, name_one hL he' he hn]
theorem thing_mem {L : List gSetting} {n : Txt} (h : (m_impl_thingAt L n).there = true) : gSetting.mk n (m_impl_thingAt L n).value ∈ L := by
  rcases thing_cases L n with ⟨h1, _⟩ | ⟨e, he, hn, h1⟩
  · rw [h1] at h; simp at h
  · rw [h1]; subst hn; exact he
def sameT (x y : gthing) : Bool := (x.value == y.value) && ((x.there == y.there) && true)
theorem sameT_iff {x y : gthing} : sameT x y = true ↔ x = y := by
  cases x; cases y; simp [sameT]
def pick3 (base a b : List gSetting) (n : Txt) : gthing := bif sameT (m_impl_thingAt a n) (m_impl_thingAt base n) then m_impl_thingAt b n else m_impl_thingAt a n
def mrg (base a b : List gSetting) : List gSetting := ((m_impl_namesOf ([base, a, b] : List (List gSetting))).filter fun n => (pick3 base a b n).there).map fun n => gSetting.mk n (pick3 base a b n).value
theorem mrg_rise (base a b : List gSetting) : Rise (nms (mrg base a b)) := by
  have h : nms (mrg base a b) = (m_impl_namesOf ([base, a, b] : List (List gSetting))).filter fun n => (pick3 base a b n).there := by
    simp only [nms, mrg, List.map_map]
    have : ∀ l : List Txt, l.map ((fun x : gSetting => x.Name) ∘ fun n => gSetting.mk n (pick3 base a b n).value) = l := fun l => by
      induction l with
      | nil => rfl
      | cons x l ih => simp only [List.map_cons, Function.comp, ih]
    exact this _
  rw [h]
  exact List.Pairwise.filter _ (names_mem base a b).1
theorem pick3_or (base a b : List gSetting) (n : Txt) : pick3 base a b n = m_impl_thingAt a n ∨ pick3 base a b n = m_impl_thingAt b n := by
  unfold pick3
  cases sameT (m_impl_thingAt a n) (m_impl_thingAt base n)
  · exact .inl rfl
  · exact .inr rfl
theorem mrg_mem {base a b : List gSetting} {e : gSetting} : e ∈ mrg base a b ↔ (pick3 base a b e.Name).there = true ∧ e.Value = (pick3 base a b e.Name).value := by
  simp only [mrg, List.mem_map, List.mem_filter]
  constructor
  · rintro ⟨n, ⟨_, h⟩, rfl⟩; exact ⟨h, rfl⟩
  · rintro ⟨h1, h2⟩
    refine ⟨e.Name, ⟨?_, h1⟩, ?_⟩
    · rw [(names_mem base a b).2]
      rcases pick3_or base a b e.Name with h | h <;> rw [h] at h1
      · exact .inr (.inl (List.mem_map.2 ⟨_, thing_mem h1, rfl⟩))
      · exact .inr (.inr (List.mem_map.2 ⟨_, thing_mem h1, rfl⟩))
    · cases e; simp only at h2; rw [← h2]
theorem mrg_or {base a b : List gSetting} {e : gSetting} (h : e ∈ mrg base a b) : e ∈ a ∨ e ∈ b := by
  have h := mrg_mem.1 h
  have he : e = gSetting.mk e.Name e.Value := by cases e; rfl
  rcases pick3_or base a b e.Name with h' | h' <;> rw [h'] at h
  · left; rw [he, h.2]; exact thing_mem h.1
  · right; rw [he, h.2]; exact thing_mem h.1
theorem mrg_is {base a b c : List gSetting} (hc : Rise (nms c)) (h : ∀ n, pick3 base a b n = m_impl_thingAt c n) : mrg base a b = c := by
  refine state_ext (mrg_rise base a b) hc fun e => ?_
  rw [mrg_mem, h]
  constructor
  · rintro ⟨h1, h2⟩
    have he : e = gSetting.mk e.Name e.Value := by cases e; rfl
    rw [he, h2]; exact thing_mem h1
  · intro he
    rw [thing_in hc he]
    exact ⟨rfl, rfl⟩
theorem conf1_is (base a b : List gSetting) (n : Txt) : m_impl_conflictsOf_1 n base a b = ((sameT (m_impl_thingAt a n) (m_impl_thingAt b n) || sameT (m_impl_thingAt a n) (m_impl_thingAt base n)) || sameT (m_impl_thingAt b n) (m_impl_thingAt base n)) := rfl
theorem names_small {base a b : List gSetting} (h1 : base.length ≤ 24) (h2 : a.length ≤ 24) (h3 : b.length ≤ 24) : (m_impl_namesOf ([base, a, b] : List (List gSetting))).length ≤ 72 := namesI_len h1 h2 h3
theorem conf_is {base a b : List gSetting} (h1 : base.length ≤ 24) (h2 : a.length ≤ 24) (h3 : b.length ≤ 24) : m_impl_conflictsOf base a b = (m_impl_namesOf ([base, a, b] : List (List gSetting))).filter (fun n => !m_impl_conflictsOf_1 n base a b) := by
  simp only [m_impl_conflictsOf]
  rw [del_is _ _ (by have := namesI_len h1 h2 h3; omega)]
theorem conf_none {base a b : List gSetting} (h1 : base.length ≤ 24) (h2 : a.length ≤ 24) (h3 : b.length ≤ 24) (h : ∀ n, m_impl_conflictsOf_1 n base a b = true) : m_impl_conflictsOf base a b = [] := by
  rw [conf_is h1 h2 h3, List.filter_eq_nil_iff]
  intro n _
  rw [h n]; simp
theorem sameT_comm (x y : gthing) : sameT x y = sameT y x := by
  rw [Bool.eq_iff_iff, sameT_iff, sameT_iff]; exact eq_comm
theorem conf_swap {base a b : List gSetting} (h1 : base.length ≤ 24) (h2 : a.length ≤ 24) (h3 : b.length ≤ 24) : m_impl_conflictsOf base a b = m_impl_conflictsOf base b a := by
  rw [conf_is h1 h2 h3, conf_is h1 h3 h2, names_swap]
  congr 1
  funext n
  rw [conf1_is, conf1_is, sameT_comm (m_impl_thingAt b n) (m_impl_thingAt a n), Bool.or_assoc, Bool.or_assoc, Bool.or_comm (sameT (m_impl_thingAt a n) (m_impl_thingAt base n))]
theorem pick3_swap {base a b : List gSetting} {n : Txt} (h : m_impl_conflictsOf_1 n base a b = true) : pick3 base a b n = pick3 base b a n := by
  rw [conf1_is] at h
  simp only [Bool.or_eq_true, sameT_iff] at h
  unfold pick3
  cases e1 : sameT (m_impl_thingAt a n) (m_impl_thingAt base n) <;> cases e2 : sameT (m_impl_thingAt b n) (m_impl_thingAt base n) <;> simp only [Bool.cond_true, Bool.cond_false]
  · rcases h with (h | h) | h
    · exact h
    · rw [sameT_iff.2 h] at e1; simp at e1
    · rw [sameT_iff.2 h] at e2; simp at e2
  · rw [sameT_iff.1 e1, sameT_iff.1 e2]
theorem mrg_swap {base a b : List gSetting} (h1 : base.length ≤ 24) (h2 : a.length ≤ 24) (h3 : b.length ≤ 24) (h : m_impl_conflictsOf base a b = []) : mrg base a b = mrg base b a := by
  rw [conf_is h1 h2 h3, List.filter_eq_nil_iff] at h
  have hp : ∀ n ∈ m_impl_namesOf ([base, a, b] : List (List gSetting)), pick3 base a b n = pick3 base b a n := fun n hn => pick3_swap (by
    have := h n hn; simpa using this)
  simp only [mrg]
  rw [← names_swap base a b]
  have e1 : (m_impl_namesOf ([base, a, b] : List (List gSetting))).filter (fun n => (pick3 base a b n).there) = (m_impl_namesOf ([base, a, b] : List (List gSetting))).filter (fun n => (pick3 base b a n).there) := List.filter_congr fun n hn => by rw [hp n hn]
  rw [e1]
  refine List.map_congr_left fun n hn => ?_
  rw [hp n (List.mem_filter.1 hn).1]
theorem merge_loop (base a b : List gSetting) : LOOP (m_impl_MergeStates_b1 base a b) (fun (x1 : (List gSetting) × Int) => bif decide (24 < (x1.1.length : Int)) then (([] : List gSetting), 5) else (x1.1, 0)) ((((m_impl_namesOf ([base, a, b] : List (List gSetting))).length : Int) - 0 : Int).toNat + 1) (([] : List gSetting), 0) = bif decide (24 < ((mrg base a b).length : Int)) then (([] : List gSetting), 5) else (mrg base a b, 0) := by
  have hm : ∀ l : List Txt, ((l.filter fun n => (pick3 base a b n).there).map fun n => gSetting.mk n (pick3 base a b n).value) = ((l.filter fun n => (pick3 base a b n).there).map fun n => gSetting.mk n (pick3 base a b n).value) := fun l => rfl
  refine LOOP_is (fun (y : List gSetting × Int) => (0 ≤ y.2 ∧ y.2 ≤ (m_impl_namesOf ([base, a, b] : List (List gSetting))).length) ∧ y.1 = (((m_impl_namesOf ([base, a, b] : List (List gSetting))).take y.2.toNat).filter fun n => (pick3 base a b n).there).map fun n => gSetting.mk n (pick3 base a b n).value) (fun y => (((m_impl_namesOf ([base, a, b] : List (List gSetting))).length : Int) - y.2).toNat) (fun _ => bif decide (24 < ((mrg base a b).length : Int)) then (([] : List gSetting), 5) else (mrg base a b, 0)) (fun rec y hI ih => ?_) ⟨⟨by simp, by simp⟩, by simp⟩ (by simp)
  obtain ⟨s, i⟩ := y
  obtain ⟨⟨h0, h1⟩, h2⟩ := hI
  simp only at h0 h1 h2
  simp only [m_impl_MergeStates_b1, JN]
  by_cases hi : i < ((m_impl_namesOf ([base, a, b] : List (List gSetting))).length : Int)
  · have hlt : i.toNat < (m_impl_namesOf ([base, a, b] : List (List gSetting))).length := by omega
    have hat : at' (m_impl_namesOf ([base, a, b] : List (List gSetting))) i = (m_impl_namesOf ([base, a, b] : List (List gSetting)))[i.toNat] := by
      have := at_lt (xs := m_impl_namesOf ([base, a, b] : List (List gSetting))) (j := i.toNat) hlt
      rwa [Int.toNat_of_nonneg h0] at this
    have ht : (m_impl_namesOf ([base, a, b] : List (List gSetting))).take (i + 1).toNat = (m_impl_namesOf ([base, a, b] : List (List gSetting))).take i.toNat ++ [at' (m_impl_namesOf ([base, a, b] : List (List gSetting))) i] := by
      rw [show (i + 1).toNat = i.toNat + 1 by omega, List.take_succ_eq_append_getElem hlt, hat]
    simp only [hi, decide_true, Bool.cond_true]
    generalize at' (m_impl_namesOf ([base, a, b] : List (List gSetting))) i = nm at ht
    have hn1 : ∀ s' : List gSetting, s' = ((((m_impl_namesOf ([base, a, b] : List (List gSetting))).take (i + 1).toNat).filter fun n => (pick3 base a b n).there).map fun n => gSetting.mk n (pick3 base a b n).value) → rec (s', i + 1) = bif decide (24 < ((mrg base a b).length : Int)) then (([] : List gSetting), 5) else (mrg base a b, 0) := fun s' hs' =>
      ih _ ⟨⟨by simp only; omega, by simp only; omega⟩, hs'⟩ (by simp only; omega)
    have key : ∀ t : gthing, pick3 base a b nm = t → (bif t.there then rec (s ++ ([gSetting.mk nm t.value] : List gSetting), i + 1) else rec (s, i + 1)) = bif decide (24 < ((mrg base a b).length : Int)) then (([] : List gSetting), 5) else (mrg base a b, 0) := fun t ht' => by
      cases htt : t.there with
      | true =>
        simp only [Bool.cond_true]
        refine hn1 _ ?_
        rw [ht, List.filter_append, List.map_append, h2]
        simp [ht', htt]
      | false =>
        simp only [Bool.cond_false]
        refine hn1 _ ?_
        rw [ht, List.filter_append, List.map_append, h2]
        simp [ht', htt]
    have e : sameT (m_impl_thingAt a nm) (m_impl_thingAt base nm) = (((m_impl_thingAt a nm).value == (m_impl_thingAt base nm).value) && (((m_impl_thingAt a nm).there == (m_impl_thingAt base nm).there) && true)) := rfl
    rw [← e]
    cases hs : sameT (m_impl_thingAt a nm) (m_impl_thingAt base nm) with
    | true => simp only [Bool.cond_true]; exact key (m_impl_thingAt b nm) (by simp only [pick3, hs, Bool.cond_true])
    | false => simp only [Bool.cond_false]; exact key (m_impl_thingAt a nm) (by simp only [pick3, hs, Bool.cond_false])
  · have he : i = (m_impl_namesOf ([base, a, b] : List (List gSetting))).length := by omega
    subst he
    simp only [hi, decide_false, Bool.cond_false]
    rw [h2, Int.toNat_natCast, List.take_length]
    rfl
theorem merge_is {base a b : List gSetting} (h1 : m_impl_ValidState base = true) (h2 : m_impl_ValidState a = true) (h3 : m_impl_ValidState b = true) : m_impl_MergeStates base a b = bif decide (0 < ((m_impl_conflictsOf base a b).length : Int)) then (([] : List gSetting), 6) else bif decide (24 < ((mrg base a b).length : Int)) then (([] : List gSetting), 5) else (mrg base a b, 0) := by
  simp only [m_impl_MergeStates, h1, h2, h3, Bool.not_true, Bool.or_self, Bool.cond_false]
  rw [merge_loop]
theorem state_iff (list : List gSetting) : m_spec_l27State list = true ↔ (∀ e ∈ list, m_spec_l27Setting e = true) ∧ Rise (nms list) ∧ list.length ≤ 24 := by
  rw [state_all]
  constructor
  · rintro ⟨h, hl⟩
    have hs : ∀ j : Nat, j < list.length → m_spec_l27Setting (at' list j) = true ∧ (0 < j → (at' list ((j : Int) - 1)).Name < (at' list j).Name) := fun j hj => by
      have := h j (by omega) hj
      simp only [Bool.or_eq_false_iff, Bool.not_eq_false', Bool.and_eq_false_iff, decide_eq_false_iff_not, geq_eq, decide_eq_true_eq] at this
      refine ⟨this.1, fun h0 => ?_⟩
      rcases this.2 with h' | h'
      · omega
      · exact h'
    have hup : ∀ (d j : Nat), ∀ h : j + d + 1 < list.length, list[j].Name < list[j + d + 1].Name := fun d => by
      induction d with
      | zero =>
        intro j hj
        have := (hs (j + 1) hj).2 (by omega)
        rw [show (((j + 1 : Nat) : Int) - 1) = (j : Int) by omega, at_lt (by omega), at_lt hj] at this
        exact this
      | succ d ih =>
        intro j hj
        have h1 := ih j (by omega)
        have := (hs (j + (d + 1) + 1) hj).2 (by omega)
        rw [show (((j + (d + 1) + 1 : Nat) : Int) - 1) = ((j + d + 1 : Nat) : Int) by omega, at_lt (by omega), at_lt hj] at this
        exact lt_trans' h1 this
    refine ⟨fun e he => ?_, ?_, hl⟩
    · obtain ⟨i, hi, rfl⟩ := List.getElem_of_mem he
      have := (hs i hi).1
      rwa [at_lt hi] at this
    · refine List.pairwise_iff_getElem.2 fun i j hi hj hij => ?_
      have hi' : i < list.length := by simpa [nms] using hi
      have hj' : j < list.length := by simpa [nms] using hj
      simp only [nms, List.getElem_map]
      have := hup (j - i - 1) i (by omega)
      have e : i + (j - i - 1) + 1 = j := by omega
      simp only [e] at this
      exact this
  · rintro ⟨h1, h2, h3⟩
    refine ⟨fun j h0 hj => ?_, h3⟩
    simp only [Bool.or_eq_false_iff, Bool.not_eq_false', Bool.and_eq_false_iff, decide_eq_false_iff_not, geq_eq, decide_eq_true_eq]
    refine ⟨by rw [at_lt hj]; exact h1 _ (List.getElem_mem hj), ?_⟩
    by_cases hj0 : j = 0
    · left; omega
    · right
      have := List.pairwise_iff_getElem.1 h2 (j - 1) j (by simp [nms]; omega) (by simpa [nms] using hj) (by omega)
      simp only [nms, List.getElem_map] at this
      rw [show ((j : Int) - 1) = ((j - 1 : Nat) : Int) by omega, at_lt (by omega), at_lt hj]
      exact this
theorem same_refl (a : List gSetting) : m_spec_l27Same a a = true := by
  have h := LOOP_all (b := m_spec_l27Same_b1 a a) (n := a.length) (fun rec k i _ => rfl) (k := fun _ => true) (((a.length : Int) - 0 : Int).toNat + 1) 0 (by omega) (by omega) (by omega)
  simp only [m_spec_l27Same, bne_self_eq_false, Bool.cond_false]
  rw [h]
  refine ⟨fun j _ _ => ?_, rfl⟩
  simp [strB]

end Go.Proofs.Ytlbpjgeoaiiamaa
