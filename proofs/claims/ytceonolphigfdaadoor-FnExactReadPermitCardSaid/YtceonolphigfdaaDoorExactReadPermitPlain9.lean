/-
  PLAIN LAWS about the models: no program in sight. Conditions: as each theorem states them.
-/
import Derived.Test.YtceonolphigfdaaDoorExactReadPermitPlain8
set_option linter.unusedVariables false
set_option linter.unusedSimpArgs false
set_option linter.unusedSectionVars false
set_option linter.unnecessarySimpa false
namespace Go.Proofs.YtceonolphigfdaaDoor
open Go Go.RowKit Go.Proofs Go.Proofs.YtceonolphigfdaaDoor.E
/-! ## Lists of numbers are read alike -/
/-- a loop that reads each piece, or fails -/
theorem read_loop {L : List (List UInt8)} {f : List UInt8 → Int} {bad : List UInt8 → Bool} {b : ((List Int × Int) → (List Int × Bool)) → ((List Int × Int) → (List Int × Bool)) → (List Int × Int) → (List Int × Bool)} {k : (List Int × Int) → (List Int × Bool)}
    (hb : ∀ rec x, b rec k x = bif decide (x.2 < (L.length : Int)) then bif bad (at' L x.2) then (([] : List Int), false) else rec (x.1 ++ ([f (at' L x.2)] : List Int), x.2 + 1) else k (x.1, x.2)) :
    LOOP b k (((L.length : Int) - 0 : Int).toNat + 1) (([] : List Int), 0) = bif L.all (fun p => !bad p) then k (L.map f, (L.length : Int)) else ([], false) := by
  refine LOOP_is (fun (x : List Int × Int) => 0 ≤ x.2 ∧ x.2 ≤ L.length ∧ x.1 = (L.take x.2.toNat).map f ∧ (L.take x.2.toNat).all (fun p => !bad p) = true) (fun x => ((L.length : Int) - x.2).toNat) (fun _ => bif L.all (fun p => !bad p) then k (L.map f, (L.length : Int)) else ([], false)) (fun rec x hI ih => ?_) ⟨by simp, by simp, by simp, by simp⟩ (by simp)
  obtain ⟨o, i⟩ := x
  obtain ⟨h1, h2, h3, h4⟩ := hI
  simp only at h1 h2 h3 h4
  rw [hb]
  simp only
  by_cases hi : i < (L.length : Int)
  · have hlt : i.toNat < L.length := by omega
    have hat : at' L i = L[i.toNat] := by simp [at', List.getD_eq_getElem?_getD, List.getElem?_eq_getElem hlt]
    have e1 : (i + 1).toNat = i.toNat + 1 := by omega
    simp only [hi, decide_true, Bool.cond_true]
    cases hbd : bad (at' L i) with
    | true =>
      have : L.all (fun p => !bad p) = false := by
        rw [← Bool.not_eq_true, List.all_eq_true]
        intro h; have := h _ (List.getElem_mem hlt); rw [← hat, hbd] at this; simp at this
      rw [this]; rfl
    | false =>
      simp only [Bool.cond_false]
      refine ih _ ⟨by simp only; omega, by simp only; omega, ?_, ?_⟩ (by simp only; omega)
      · simp only; rw [e1, List.take_succ_eq_append_getElem hlt, List.map_append, ← h3, hat]; rfl
      · simp only; rw [e1, List.take_succ_eq_append_getElem hlt, List.all_append, h4, ← hat]; simp [hbd]
  · simp only [hi, decide_false, Bool.cond_false]
    have e : i = (L.length : Int) := by omega
    subst e
    simp only [Int.toNat_natCast, List.take_length] at h3 h4
    rw [h3, h4]; rfl
/-- what a number of a text is -/
def num (p : List UInt8) : Int := (m_spec_l01Number p).1
theorem num_ok {p : List UInt8} (hs : p.length ≤ 1000000000) (h : (m_spec_l01Number p).2 = true) : Lib.itoa (num p) = p ∧ (num p).natAbs < 1000000000000000000 := by
  rcases number_is p hs with ⟨n, hn, e⟩ | ⟨_, e⟩
  · have : num p = n := by simp [num, e]
    rw [this]; exact ⟨hn.1.symm, hn.2⟩
  · rw [e] at h; simp at h
theorem itoa_ne (n : Int) : Lib.itoa n ≠ [] := by
  unfold Lib.itoa; split
  · simp
  · exact decDigits_ne _
theorem nums_join {L : List (List UInt8)} (hL : ∀ p ∈ L, p.length ≤ 1000000000) (h : L.all (fun p => !!(m_spec_l01Number p).2) = true) : (L.map num).map Lib.itoa = L := by
  rw [List.map_map]
  have : L.map (Lib.itoa ∘ num) = L.map id := List.map_congr_left fun p hp => by
    have := List.all_eq_true.1 h p hp
    exact (num_ok (hL p hp) (by simpa using this)).1
  rw [this, List.map_id]
theorem listText_bad {list : List Int} (h : ¬ ∀ y ∈ list, -1000000000000 ≤ y ∧ y ≤ 1000000000000) : m_impl_ListText list = [] := by
  by_cases hl : 64 < (list.length : Int)
  · simp [m_impl_ListText, hl]
  have hne : list ≠ [] := fun e => h (by rw [e]; simp)
  have hz : ((list.length : Int) == 0) = false := by simp; exact hne
  simp only [m_impl_ListText, hl, hz, decide_false, Bool.cond_false]
  refine LOOP_is (fun (x : List (List UInt8) × Int) => 0 ≤ x.2 ∧ x.2 ≤ list.length ∧ ∀ y ∈ list.take x.2.toNat, -1000000000000 ≤ y ∧ y ≤ 1000000000000) (fun x => ((list.length : Int) - x.2).toNat) (fun _ => []) (fun rec x hI ih => ?_) ⟨by simp, by simp, by simp⟩ (by simp)
  obtain ⟨o, i⟩ := x
  obtain ⟨h1, h2, h3⟩ := hI
  simp only at h1 h2 h3
  simp only [m_impl_ListText_b1]
  by_cases hi : i < (list.length : Int)
  · have hlt : i.toNat < list.length := by omega
    have hat : at' list i = list[i.toNat] := by simp [at', List.getD_eq_getElem?_getD, List.getElem?_eq_getElem hlt]
    simp only [hi, decide_true, Bool.cond_true]
    cases hw : m_impl_within (at' list i) (-1000000000000) 1000000000000 with
    | false => rfl
    | true =>
      simp only [Bool.not_true, Bool.cond_false]
      have hr := within_imp hw
      refine ih _ ⟨by simp only; omega, by simp only; omega, ?_⟩ (by simp only; omega)
      have e1 : (i + 1).toNat = i.toNat + 1 := by omega
      intro y hy
      simp only [e1, List.take_succ_eq_append_getElem hlt, List.mem_append, List.mem_singleton] at hy
      rcases hy with hy | rfl
      · exact h3 y hy
      · rw [← hat]; exact hr
  · exfalso
    refine h fun y hy => h3 y ?_
    rw [List.take_of_length_le (by omega)]; exact hy
theorem all_within (L : List (List UInt8)) : L.all (fun p => !((!(m_spec_l01Number p).2) || (!(m_spec_l00In (m_spec_l01Number p).1 (-1000000000000) 1000000000000)))) = true ↔ L.all (fun p => !!(m_spec_l01Number p).2) = true ∧ ∀ y ∈ L.map num, -1000000000000 ≤ y ∧ y ≤ 1000000000000 := by
  simp only [List.all_eq_true, List.mem_map]
  constructor
  · intro h
    refine ⟨fun p hp => ?_, ?_⟩
    · have := h p hp; simp only [Bool.not_or, Bool.not_not, Bool.and_eq_true] at this ⊢; exact this.1
    · rintro y ⟨p, hp, rfl⟩
      have := h p hp; simp only [Bool.not_or, Bool.not_not, Bool.and_eq_true] at this
      exact l00In_imp this.2
  · rintro ⟨h1, h2⟩ p hp
    have := h1 p hp
    have h3 := h2 (num p) ⟨p, hp, rfl⟩
    simp only [Bool.not_or, Bool.not_not, Bool.and_eq_true] at this ⊢
    exact ⟨this, by simp only [m_spec_l00In, Bool.and_eq_true, decide_eq_true_eq]; exact h3⟩
theorem spl44 (s : List UInt8) : m_spec_l01Split s 44 = spl 44 s := split_eq s 44
theorem join_ne {L : List (List UInt8)} {sep : List UInt8} (h : L ≠ []) (h2 : ∀ p ∈ L, p ≠ []) : Lib.join L sep ≠ [] := by
  cases L with
  | nil => exact absurd rfl h
  | cons x r => rw [Lib.join_cons]; have := h2 x (by simp); simp [this]
theorem nums_ne {L : List (List UInt8)} (hL : ∀ p ∈ L, p.length ≤ 1000000000) (h : L.all (fun p => !!(m_spec_l01Number p).2) = true) : ∀ p ∈ L, p ≠ [] := by
  intro p hp
  have := List.all_eq_true.1 h p hp
  rw [← (num_ok (p := p) (hL p hp) (by simpa using this)).1]; exact itoa_ne _
theorem impl_loop (s : List UInt8) (hs : s.length ≤ 1048576) : LOOP (m_impl_ReadList_b1 s) (fun (x1 : (List Int) × Int) => bif strB .neq (m_impl_ListText x1.1) s then (([] : List Int), false) else (x1.1, true)) ((((m_strings_SplitN s ([44] : List UInt8) 65).length : Int) - 0 : Int).toNat + 1) (([] : List Int), 0) =
    bif (m_strings_SplitN s ([44] : List UInt8) 65).all (fun p => !!(m_spec_l01Number p).2) then (bif strB .neq (m_impl_ListText ((m_strings_SplitN s ([44] : List UInt8) 65).map num)) s then (([] : List Int), false) else ((m_strings_SplitN s ([44] : List UInt8) 65).map num, true)) else ([], false) := by
  have hL : ∀ p ∈ m_strings_SplitN s ([44] : List UInt8) 65, p.length ≤ 1000000000 := fun p hp => by
    have := splitK_mem _ s p hp; omega
  have hI := read_loop (L := m_strings_SplitN s ([44] : List UInt8) 65) (f := fun p => (m_impl_ReadDecimal p).1) (bad := fun p => !(m_impl_ReadDecimal p).2) (b := m_impl_ReadList_b1 s) (k := fun (x1 : (List Int) × Int) => bif strB .neq (m_impl_ListText x1.1) s then (([] : List Int), false) else (x1.1, true)) (fun rec x => rfl)
  have e1 : (m_strings_SplitN s ([44] : List UInt8) 65).map (fun p => (m_impl_ReadDecimal p).1) = (m_strings_SplitN s ([44] : List UInt8) 65).map num := List.map_congr_left fun p hp => by rw [decimal_read p (hL p hp)]; rfl
  have e2 : (m_strings_SplitN s ([44] : List UInt8) 65).all (fun p => !!(m_impl_ReadDecimal p).2) = (m_strings_SplitN s ([44] : List UInt8) 65).all (fun p => !!(m_spec_l01Number p).2) := by
    rw [Bool.eq_iff_iff, List.all_eq_true, List.all_eq_true]
    exact ⟨fun h p hp => by rw [← decimal_read p (hL p hp)]; exact h p hp, fun h p hp => by rw [decimal_read p (hL p hp)]; exact h p hp⟩
  rw [hI, e1, e2]
theorem readList_eq (s : List UInt8) (hs : s.length ≤ 1048576) : m_impl_ReadList s = m_spec_ReadList s := by
  simp only [m_impl_ReadList, m_spec_ReadList]
  cases hd : strB .eql s ([45] : List UInt8) with
  | true => rfl
  | false =>
    simp only [Bool.cond_false, spl44]
    have hI := impl_loop s hs
    rw [hI]
    have hps := spl_ne 44 s
    have hL : ∀ p ∈ spl 44 s, p.length ≤ 1000000000 := fun p hp => by have := spl_mem s p hp; omega
    have hjs : Lib.join (spl 44 s) [44] = s := spl_join 44 s
    by_cases h64 : 64 < ((spl 44 s).length : Int)
    · simp only [h64, decide_true, Bool.cond_true]
      cases hall : (m_strings_SplitN s ([44] : List UInt8) 65).all (fun p => !!(m_spec_l01Number p).2) with
      | false => rfl
      | true =>
        simp only [Bool.cond_true]
        have hlen : 64 < (((m_strings_SplitN s ([44] : List UInt8) 65).map num).length : Int) := by
          rw [List.length_map]
          by_cases h65 : (spl 44 s).length ≤ 65
          · have : m_strings_SplitN s ([44] : List UInt8) 65 = spl 44 s := splitN_spl (c := 44) (n := 65) (by omega) s h65
            rw [this]; omega
          · have : (m_strings_SplitN s ([44] : List UInt8) 65).length = 65 := splitN_len (c := 44) (n := 65) (by omega) s (by omega)
            omega
        have ht : m_impl_ListText ((m_strings_SplitN s ([44] : List UInt8) 65).map num) = [] := by simp only [m_impl_ListText, hlen, decide_true, Bool.cond_true]
        have hs : s ≠ [] := by intro e; rw [e] at h64; simp [spl] at h64
        have : strB .neq ([] : List UInt8) s = true := by
          cases s with | nil => exact absurd rfl hs | cons x t => rfl
        rw [ht, this]; rfl
    · simp only [h64, decide_false, Bool.cond_false]
      have hsp : m_strings_SplitN s ([44] : List UInt8) 65 = spl 44 s := splitN_spl (c := 44) (n := 65) (by omega) s (by omega)
      have hS := read_loop (L := spl 44 s) (f := num) (bad := fun p => (!(m_spec_l01Number p).2) || (!(m_spec_l00In (m_spec_l01Number p).1 (-1000000000000) 1000000000000))) (b := m_spec_ReadList_b1 s) (k := fun (x1 : (List Int) × Int) => (x1.1, true)) (fun rec x => by simp only [m_spec_ReadList_b1, spl44]; rfl)
      rw [hS, hsp]
      cases hall : (spl 44 s).all (fun p => !!(m_spec_l01Number p).2) with
      | false =>
        have : (spl 44 s).all (fun p => !((!(m_spec_l01Number p).2) || (!(m_spec_l00In (m_spec_l01Number p).1 (-1000000000000) 1000000000000)))) = false := by
          rw [← Bool.not_eq_true, all_within, hall]; simp
        rw [this]; rfl
      | true =>
        simp only [Bool.cond_true]
        by_cases hw : ∀ y ∈ (spl 44 s).map num, -1000000000000 ≤ y ∧ y ≤ 1000000000000
        · have : (spl 44 s).all (fun p => !((!(m_spec_l01Number p).2) || (!(m_spec_l00In (m_spec_l01Number p).1 (-1000000000000) 1000000000000)))) = true := (all_within _).2 ⟨hall, hw⟩
          rw [this, listText_eq (by rw [List.length_map]; omega) hw (by simpa using hps), nums_join hL hall, hjs, strB_neq_self]; rfl
        · have : (spl 44 s).all (fun p => !((!(m_spec_l01Number p).2) || (!(m_spec_l00In (m_spec_l01Number p).1 (-1000000000000) 1000000000000)))) = false := by
            rw [← Bool.not_eq_true, all_within]; exact fun h => hw h.2
          have hs : s ≠ [] := by rw [← hjs]; exact join_ne hps (nums_ne hL hall)
          have h2 : strB .neq ([] : List UInt8) s = true := by
            cases s with | nil => exact absurd rfl hs | cons x t => rfl
          rw [this, listText_bad hw, h2]; rfl
/-- what was read, written again -/
theorem readList_text {s : List UInt8} (hs : s.length ≤ 1048576) (h : (m_spec_ReadList s).2 = true) (hne : (m_spec_ReadList s).1 ≠ []) : m_impl_ListText (m_spec_ReadList s).1 = s := by
  rw [← readList_eq s hs] at h hne ⊢
  simp only [m_impl_ReadList] at h hne ⊢
  cases hd : strB .eql s ([45] : List UInt8) with
  | true => rw [hd] at hne; simp at hne
  | false =>
    rw [hd] at h hne
    simp only [Bool.cond_false] at h hne ⊢
    have hI := impl_loop s hs
    rw [hI] at h hne ⊢
    cases hall : (m_strings_SplitN s ([44] : List UInt8) 65).all (fun p => !!(m_spec_l01Number p).2) with
    | false => rw [hall] at h; simp at h
    | true =>
      rw [hall] at h hne
      simp only [Bool.cond_true] at h hne ⊢
      cases ht : strB .neq (m_impl_ListText ((m_strings_SplitN s ([44] : List UInt8) 65).map num)) s with
      | true => rw [ht] at h; simp at h
      | false =>
        simp only [Bool.cond_false]
        simp only [strB, Bool.not_eq_false', beq_iff_eq] at ht; exact ht
theorem readList_ne {s : List UInt8} (h : (m_spec_ReadList s).2 = true) : s ≠ [] := by
  rintro rfl
  have : m_spec_ReadList [] = ([], false) := by
    simp only [m_spec_ReadList]
    have hd : strB .eql ([] : List UInt8) ([45] : List UInt8) = false := rfl
    simp only [hd, Bool.cond_false, spl44]
    have hS := read_loop (L := spl 44 []) (f := num) (bad := fun p => (!(m_spec_l01Number p).2) || (!(m_spec_l00In (m_spec_l01Number p).1 (-1000000000000) 1000000000000))) (b := m_spec_ReadList_b1 []) (k := fun (x1 : (List Int) × Int) => (x1.1, true)) (fun rec x => by simp only [m_spec_ReadList_b1, spl44]; rfl)
    have hl : ¬ 64 < ((spl 44 []).length : Int) := by simp [spl]
    simp only [hl, decide_false, Bool.cond_false]
    rw [hS]
    have hn : (m_spec_l01Number []).2 = false := rfl
    simp [spl, hn]
  rw [this] at h; simp at h
theorem join_no {c : UInt8} {L : List (List UInt8)} {sep : List UInt8} (h1 : c ∉ sep) (h2 : ∀ p ∈ L, c ∉ p) : c ∉ Lib.join L sep := by
  cases L with
  | nil => simp [Lib.join_nil]
  | cons x r =>
    rw [Lib.join_cons, Lib.joinTail]
    simp only [List.mem_append, List.mem_flatten, List.mem_map]
    rintro (h | ⟨q, ⟨p, hp, rfl⟩, hq⟩)
    · exact h2 x (by simp) h
    · rcases List.mem_append.1 hq with h | h
      · exact h1 h
      · exact h2 p (by simp [hp]) h
theorem itoa_no {n : Int} : (32 : UInt8) ∉ Lib.itoa n := by
  have hd : ∀ u, (32 : UInt8) ∉ Lib.decDigits u := fun u h => by
    have := (decDigits_dig u _ h).1; exact absurd this (by decide)
  unfold Lib.itoa
  split
  · intro h; rcases List.mem_cons.1 h with h | h
    · exact absurd h (by decide)
    · exact hd _ h
  · exact hd _
theorem readList_no {s : List UInt8} (hs : s.length ≤ 1048576) (h : (m_spec_ReadList s).2 = true) : (32 : UInt8) ∉ s := by
  by_cases hd : s = [45]
  · rw [hd]; decide
  by_cases hne : (m_spec_ReadList s).1 = []
  · -- read as no number: only the text of no number is
    exfalso
    rw [← readList_eq s hs] at h hne
    simp only [m_impl_ReadList] at h hne
    have hdf : strB .eql s ([45] : List UInt8) = false := by simp only [strB]; rw [beq_eq_false_iff_ne]; exact hd
    rw [hdf] at h hne
    simp only [Bool.cond_false] at h hne
    have hI := impl_loop s hs
    rw [hI] at h hne
    cases hall : (m_strings_SplitN s ([44] : List UInt8) 65).all (fun p => !!(m_spec_l01Number p).2) with
    | false => rw [hall] at h; simp at h
    | true =>
      rw [hall] at h hne
      simp only [Bool.cond_true] at h hne
      cases ht : strB .neq (m_impl_ListText ((m_strings_SplitN s ([44] : List UInt8) 65).map num)) s with
      | true => rw [ht] at h; simp at h
      | false =>
        rw [ht] at hne
        simp only [Bool.cond_false, List.map_eq_nil_iff] at hne
        have h1 : 0 < (m_strings_SplitN s ([44] : List UInt8) 65).length := by
          by_cases h65 : (spl 44 s).length ≤ 65
          · have e : m_strings_SplitN s ([44] : List UInt8) 65 = spl 44 s := splitN_spl (c := 44) (n := 65) (by omega) s h65
            rw [e]; exact List.length_pos_iff.2 (spl_ne 44 s)
          · have e : (m_strings_SplitN s ([44] : List UInt8) 65).length = 65 := splitN_len (c := 44) (n := 65) (by omega) s (by omega)
            omega
        rw [hne] at h1; simp at h1
  · have ht := readList_text hs h hne
    rw [← ht]
    by_cases hw : ∀ y ∈ (m_spec_ReadList s).1, -1000000000000 ≤ y ∧ y ≤ 1000000000000
    · by_cases hl : (m_spec_ReadList s).1.length ≤ 64
      · rw [listText_eq hl hw hne]
        exact join_no (by decide) (fun p hp => by obtain ⟨n, _, rfl⟩ := List.mem_map.1 hp; exact itoa_no)
      · have : m_impl_ListText (m_spec_ReadList s).1 = [] := by
          have h6 : 64 < ((m_spec_ReadList s).1.length : Int) := by omega
          simp [m_impl_ListText, h6]
        rw [this]; simp
    · rw [listText_bad hw]; simp
theorem neq_nil {s : List UInt8} (h : s ≠ []) : strB .neq ([] : List UInt8) s = true := by
  cases s with | nil => exact absurd rfl h | cons x t => rfl
theorem three_at {l : List Int} (h : (l.length : Int) = 3) : l = [at' l 0, at' l 1, at' l 2] := by
  match l, h with
  | [a, b, c], _ => rfl
  | [], h => simp at h
  | [_], h => simp at h
  | [_, _], h => simp at h
  | _ :: _ :: _ :: _ :: _, h => simp at h; omega
theorem two_at {l : List Int} (h : (l.length : Int) = 2) : l = [at' l 0, at' l 1] := by
  match l, h with
  | [a, b], _ => rfl
  | [], h => simp at h
  | [_], h => simp at h
  | _ :: _ :: _ :: _, h => simp at h; omega
/-! ## What the walks ask -/
theorem parse_rng (s : List UInt8) : -9223372036854775808 ≤ (m_strconv_ParseInt s 10 64).1 ∧ (m_strconv_ParseInt s 10 64).1 ≤ 9223372036854775807 := by
  have hp : (2 : Nat) ^ (64 - 1) = 9223372036854775808 := by decide
  unfold m_strconv_ParseInt
  cases h : Lib.parseIntB 64 s with
  | «syntax» => exact ⟨by show (-9223372036854775808 : Int) ≤ 0; omega, by show (0 : Int) ≤ 9223372036854775807; omega⟩
  | range =>
    show _ ≤ Lib.intSat 64 s ∧ Lib.intSat 64 s ≤ _
    unfold Lib.intSat
    rw [hp]
    split <;> omega
  | ok v =>
    show _ ≤ v ∧ v ≤ _
    cases s with
    | nil => simp [Lib.parseIntB] at h
    | cons c r =>
      simp only [Lib.parseIntB, hp] at h
      split at h
      · simp at h
      · simp at h
      · rename_i u _
        split at h
        · simp at h
        · rename_i h1
          split at h
          · simp at h
          · rename_i h2
            injection h with h
            by_cases hc : c.toNat = 45
            · simp only [hc, if_true] at h
              simp only [hc, true_and] at h2
              omega
            · simp only [hc, if_false] at h
              simp only [hc, not_false_eq_true, true_and] at h1
              omega
theorem split_memA {s : List UInt8} (hs : s.length ≤ 1048576) {i : Int} (hi : 0 ≤ i ∧ i < (m_spec_l01Split s 44).length) : (at' (m_spec_l01Split s 44) i).length ≤ 1048576 := by
  have := at_all (i := i) (xs := m_spec_l01Split s 44) (Q := fun p => p.length ≤ s.length) (by rw [spl44]; exact spl_mem s) hi
  exact Nat.le_trans this hs
theorem splitN_memA {s : List UInt8} (hs : s.length ≤ 1048576) {i : Int} (hi : 0 ≤ i ∧ i < (m_strings_SplitN s ([44] : List UInt8) 65).length) : (at' (m_strings_SplitN s ([44] : List UInt8) 65) i).length ≤ 1048576 := by
  have := at_all (i := i) (xs := m_strings_SplitN s ([44] : List UInt8) 65) (Q := fun p => p.length ≤ s.length) (fun p hp => splitK_mem _ s p hp) hi
  exact Nat.le_trans this hs
theorem splitN_le (s : List UInt8) : (m_strings_SplitN s ([44] : List UInt8) 65).length ≤ 65 := by
  by_cases h65 : (spl 44 s).length ≤ 65
  · have e : m_strings_SplitN s ([44] : List UInt8) 65 = spl 44 s := splitN_spl (c := 44) (n := 65) (by omega) s h65
    rw [e]; exact h65
  · have e : (m_strings_SplitN s ([44] : List UInt8) 65).length = 65 := splitN_len (c := 44) (n := 65) (by omega) s (by omega)
    omega

end Go.Proofs.YtceonolphigfdaaDoor
