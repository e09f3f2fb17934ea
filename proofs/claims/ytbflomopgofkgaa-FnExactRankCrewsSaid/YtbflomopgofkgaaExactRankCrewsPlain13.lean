/-
  PLAIN LAWS about the models: no program in sight. Conditions: as each theorem states them.
-/
import Derived.Test.YtbflomopgofkgaaExactRankCrewsPlain12
set_option linter.unusedVariables false
set_option linter.unusedSimpArgs false
set_option linter.unusedSectionVars false
set_option linter.unnecessarySimpa false
namespace Go.Proofs.Ytbflomopgofkgaa
open Go Go.RowKit Go.Proofs Go.Proofs.Ytbflomopgofkgaa.E
/-! ## RankCrews: the crews by their medians -/
theorem stable_spec {key : Txt → Int} {cmp : Txt → Txt → Int} (hc : ∀ x y, cmp x y < 0 ↔ key x < key y) {xs : List Txt} (hn : xs.length ≤ 32) :
    Seg (m_slices_SortStableFunc_string xs cmp) xs 0 xs.length ∧ ((∀ i j, 0 ≤ i → i < j → j < (xs.length : Int) → at' xs i < at' xs j) → Srt key (m_slices_SortStableFunc_string xs cmp) 0 xs.length) := by
  have w40 : IntKind.wrap .i64 (2 * 20) = 40 := wr64 (by omega)
  have w40' : IntKind.wrap .i64 (20 * 2) = 40 := wr64 (by omega)
  simp only [m_slices_SortStableFunc_string, m_slices_stableCmpFunc_string]
  refine LOOP_post (b := m_slices_stableCmpFunc_string_b1 xs xs.length cmp) (fun x => (x.1 = xs ∧ x.2.1 = 0 ∧ x.2.2 = 20) ∨ (20 ≤ (xs.length : Int) ∧ x.2.1 = 20 ∧ x.2.2 = 40 ∧ x.1 = m_slices_insertionSortCmpFunc_string xs 0 20 cmp)) (fun x => ((xs.length : Int) - x.2.1).toNat) (fun _ r => Seg r xs 0 xs.length ∧ ((∀ i j, 0 ≤ i → i < j → j < (xs.length : Int) → at' xs i < at' xs j) → Srt key r 0 xs.length)) ?_ _ _ (.inl ⟨rfl, rfl, rfl⟩) (by dsimp only; omega)
  rintro rec ⟨ys, a, b⟩ hI ih
  dsimp only at hI
  simp only [m_slices_stableCmpFunc_string_b1]
  by_cases hb : b ≤ (xs.length : Int)
  · simp only [hb, decide_true, Bool.cond_true]
    rcases hI with ⟨rfl, rfl, rfl⟩ | ⟨_, _, h, _⟩
    · exact ih _ (.inr ⟨hb, rfl, rfl, rfl⟩) (by dsimp only; omega)
    · omega
  · simp only [hb, decide_false, Bool.cond_false]
    have hD : Seg (m_slices_insertionSortCmpFunc_string ys a xs.length cmp) xs 0 xs.length ∧ ((∀ i j, 0 ≤ i → i < j → j < (xs.length : Int) → at' xs i < at' xs j) → ((xs.length : Int) ≤ 20 → Srt key (m_slices_insertionSortCmpFunc_string ys a xs.length cmp) 0 xs.length) ∧ (20 < (xs.length : Int) → Srt key (m_slices_insertionSortCmpFunc_string ys a xs.length cmp) 0 20 ∧ Srt key (m_slices_insertionSortCmpFunc_string ys a xs.length cmp) 20 xs.length ∧ Nms (m_slices_insertionSortCmpFunc_string ys a xs.length cmp) 0 20 xs.length)) := by
      rcases hI with ⟨rfl, rfl, rfl⟩ | ⟨h20, rfl, rfl, rfl⟩
      · have h := ins_spec (xs := ys) (a := 0) (b := ys.length) (cmp := cmp) hc (by omega)
        exact ⟨h.1, fun hN => ⟨fun _ => h.2 hN, fun h => by omega⟩⟩
      · have h := ins_spec (xs := xs) (a := 0) (b := 20) (cmp := cmp) hc (by omega)
        have hl := h.1.len
        have g := ins_spec (xs := m_slices_insertionSortCmpFunc_string xs 0 20 cmp) (a := 20) (b := xs.length) (cmp := cmp) hc (by omega)
        refine ⟨(g.1.wide (by omega) (by omega) (by omega)).trans (h.1.wide (by omega) (by omega) (by omega)), fun hN => ?_⟩
        have h1 := h.2 (fun i j h1 h2 h3 => hN i j h1 h2 (by omega))
        have g1 := g.2 (fun i j h1 h2 h3 => by rw [h.1.out i (by omega) (by omega), h.1.out j (by omega) (by omega)]; exact hN i j (by omega) h2 (by omega))
        have hs1 : Srt key (m_slices_insertionSortCmpFunc_string (m_slices_insertionSortCmpFunc_string xs 0 20 cmp) 20 xs.length cmp) 0 20 := h1.congr fun p h1 h2 => g.1.out p h1 (by omega)
        have hnm : Nms (m_slices_insertionSortCmpFunc_string (m_slices_insertionSortCmpFunc_string xs 0 20 cmp) 20 xs.length cmp) 0 20 xs.length := fun i j e1 e2 e3 e4 => by
          rw [g.1.out i (by omega) (by omega)]
          obtain ⟨q, hq, e⟩ := g.1.sub j e3 e4
          obtain ⟨p, hp, e'⟩ := h.1.sub i e1 e2
          rw [e, e', h.1.out q (by omega) (by omega)]
          exact hN p q (by omega) (by omega) (by omega)
        refine ⟨fun h => ?_, fun _ => ⟨hs1, g1, hnm⟩⟩
        have : (xs.length : Int) = 20 := by omega
        rw [this] at hs1 ⊢; exact hs1
    generalize m_slices_insertionSortCmpFunc_string ys a xs.length cmp = D at hD
    have hl := hD.1.len
    refine LOOP_post (b := m_slices_stableCmpFunc_string_b2 xs xs.length cmp (ys, a, b)) (fun x => (x.1 = D ∧ x.2 = 20) ∨ (20 < (xs.length : Int) ∧ x.2 = 40 ∧ x.1 = m_slices_symMergeCmpFunc_string D 0 20 xs.length cmp)) (fun x => ((xs.length : Int) - x.2).toNat) (fun _ r => Seg r xs 0 xs.length ∧ ((∀ i j, 0 ≤ i → i < j → j < (xs.length : Int) → at' xs i < at' xs j) → Srt key r 0 xs.length)) ?_ _ _ (.inl ⟨rfl, rfl⟩) (by dsimp only; omega)
    rintro rec2 ⟨zs, s⟩ hI2 ih2
    dsimp only at hI2
    simp only [m_slices_stableCmpFunc_string_b2]
    by_cases hs : s < (xs.length : Int)
    · simp only [hs, decide_true, Bool.cond_true]
      rcases hI2 with ⟨rfl, rfl⟩ | ⟨_, h, _⟩
      · simp only [w40, w40']
        refine LOOP_post (b := m_slices_stableCmpFunc_string_b3 xs xs.length cmp (ys, a, b) rec2 (fun x2 => x2.1) (zs, 20)) (fun x => x = (zs, 0, 40)) (fun _ => 0) (fun _ r => Seg r xs 0 xs.length ∧ ((∀ i j, 0 ≤ i → i < j → j < (xs.length : Int) → at' xs i < at' xs j) → Srt key r 0 xs.length)) ?_ _ _ rfl (by omega)
        rintro rec3 _ rfl ih3
        have h40 : ¬ (40 : Int) ≤ (xs.length : Int) := by omega
        simp only [m_slices_stableCmpFunc_string_b3, h40, decide_false, Bool.cond_false]
        simp only [show (0 : Int) + 20 = 20 by rfl, hs, decide_true, Bool.cond_true]
        exact ih2 _ (.inr ⟨hs, rfl, rfl⟩) (by dsimp only; omega)
      · omega
    · simp only [hs, decide_false, Bool.cond_false]
      rcases hI2 with ⟨rfl, rfl⟩ | ⟨h20, rfl, rfl⟩
      · exact ⟨hD.1, fun hN => (hD.2 hN).1 (by omega)⟩
      · have h := sym_spec hc ((((xs.length : Int) - 0 : Int)).toNat + 1) D 0 20 xs.length (by omega) (by omega)
        exact ⟨Seg.trans (h.1) hD.1, fun hN => h.2 ((hD.2 hN).2 h20)⟩
theorem LT.irrefl {key : Txt → Int} {x : Txt} (h : LT key x x) : False := by
  rcases h with h | h
  · omega
  · exact List.lt_irrefl _ h.2
theorem LT.trans {key : Txt → Int} {x y z : Txt} (h : LT key x y) (g : LT key y z) : LT key x z := by
  rcases h with h | h
  · have := g.le; exact .inl (by omega)
  · rcases g with g | g
    · exact .inl (by omega)
    · exact .inr ⟨by omega, List.lt_trans h.2 g.2⟩
theorem lt_ext {key : Txt → Int} {s t : List Txt} (hs : s.Pairwise (LT key)) (ht : t.Pairwise (LT key)) (h : ∀ x, x ∈ s ↔ x ∈ t) : s = t := by
  have nd : ∀ {l : List Txt}, l.Pairwise (LT key) → l.Nodup := fun hl => hl.imp (fun hab e => by subst e; exact hab.irrefl)
  have hp : s.Perm t := (List.perm_ext_iff_of_nodup (nd hs) (nd ht)).2 h
  exact List.Perm.eq_of_pairwise (le := LT key) (fun a b _ _ h1 h2 => (h1.trans h2).irrefl.elim) hs ht hp
theorem ins_lt {key : Txt → Int} {s : List Txt} {c : Txt} {n : Nat} (h : s.Pairwise (LT key)) (hn : ∀ y ∈ s, y < c) (h1 : n = 0 ∨ ∃ hq : n - 1 < s.length, key s[n - 1] ≤ key c) (h2 : ∀ j (hj : j < s.length), n ≤ j → key c < key s[j]) : (s.take n ++ [c] ++ s.drop n).Pairwise (LT key) := by
  have hsplit : (s.take n ++ s.drop n).Pairwise (LT key) := by rw [List.take_append_drop]; exact h
  rw [List.pairwise_append] at hsplit
  obtain ⟨ha, hb, hab⟩ := hsplit
  have hlo : ∀ y ∈ s.take n, LT key y c := fun y hy => by
    refine LT.of ?_ (hn y (List.mem_of_mem_take hy))
    obtain ⟨j, hj, rfl⟩ := List.getElem_of_mem hy
    rw [List.length_take] at hj
    rw [List.getElem_take]
    rcases h1 with h1 | ⟨hq, h1⟩
    · omega
    · by_cases e : j = n - 1
      · subst e; exact h1
      · have := (List.pairwise_iff_getElem.1 h j (n - 1) (by omega) hq (by omega)).le; omega
  have hhi : ∀ y ∈ s.drop n, LT key c y := fun y hy => by
    obtain ⟨j, hj, rfl⟩ := List.getElem_of_mem hy
    rw [List.length_drop] at hj
    rw [List.getElem_drop]
    exact .inl (h2 _ _ (by omega))
  rw [List.pairwise_append, List.pairwise_append]
  refine ⟨⟨ha, List.pairwise_singleton _ _, fun y hy z hz => ?_⟩, hb, fun y hy z hz => ?_⟩
  · rw [List.mem_singleton] at hz; subst hz; exact hlo y hy
  · rw [List.mem_append, List.mem_singleton] at hy
    rcases hy with hy | rfl
    · exact hab y hy z hz
    · exact hhi z hz
theorem rank_spec (list : List gDrill) : (LOOP (m_spec_RankCrews_b1 list) (fun (x1 : (List (List UInt8)) × Int) => (x1.1, (0 : Int))) ((((m_spec_l28Crews list).length : Int) - 0 : Int).toNat + 1) (([] : List (List UInt8)), 0)).2 = 0 ∧ (LOOP (m_spec_RankCrews_b1 list) (fun (x1 : (List (List UInt8)) × Int) => (x1.1, (0 : Int))) ((((m_spec_l28Crews list).length : Int) - 0 : Int).toNat + 1) (([] : List (List UInt8)), 0)).1.Pairwise (LT (m_spec_l28Median list)) ∧ ∀ x, x ∈ (LOOP (m_spec_RankCrews_b1 list) (fun (x1 : (List (List UInt8)) × Int) => (x1.1, (0 : Int))) ((((m_spec_l28Crews list).length : Int) - 0 : Int).toNat + 1) (([] : List (List UInt8)), 0)).1 ↔ x ∈ m_spec_l28Crews list := by
  have hC := (crews_spec list).1
  refine LOOP_post (b := m_spec_RankCrews_b1 list) (fun x => (0 ≤ x.2 ∧ x.2 ≤ (m_spec_l28Crews list).length) ∧ x.1.Pairwise (LT (m_spec_l28Median list)) ∧ ∀ z, z ∈ x.1 ↔ z ∈ (m_spec_l28Crews list).take x.2.toNat) (fun x => (((m_spec_l28Crews list).length : Int) - x.2).toNat) (fun _ r => r.2 = 0 ∧ r.1.Pairwise (LT (m_spec_l28Median list)) ∧ ∀ x, x ∈ r.1 ↔ x ∈ m_spec_l28Crews list) ?_ _ _ ⟨⟨by dsimp only; omega, by dsimp only; omega⟩, List.Pairwise.nil, by simp⟩ (by dsimp only; omega)
  rintro rec ⟨out, i⟩ ⟨⟨h0, h1⟩, hP, hM⟩ ih
  dsimp only at h0 h1 hP hM
  simp only [m_spec_RankCrews_b1]
  by_cases hi : i < ((m_spec_l28Crews list).length : Int)
  · simp only [hi, decide_true, Bool.cond_true]
    have hlt : i.toNat < (m_spec_l28Crews list).length := by omega
    have hat : at' (m_spec_l28Crews list) i = (m_spec_l28Crews list)[i.toNat] := by
      have := at_lt (xs := m_spec_l28Crews list) (j := i.toNat) hlt
      rwa [Int.toNat_of_nonneg h0] at this
    refine LOOP_post (b := m_spec_RankCrews_b2 list rec (fun x1 => (x1.1, (0 : Int))) (out, i)) (fun x2 => (0 ≤ x2 ∧ x2 ≤ out.length) ∧ ∀ j (hj : j < out.length), x2.toNat ≤ j → m_spec_l28Median list (at' (m_spec_l28Crews list) i) < m_spec_l28Median list out[j]) (fun x => x.toNat) (fun _ r => r.2 = 0 ∧ r.1.Pairwise (LT (m_spec_l28Median list)) ∧ ∀ x, x ∈ r.1 ↔ x ∈ m_spec_l28Crews list) ?_ _ _ ⟨⟨by omega, by omega⟩, fun j hj h => by omega⟩ (by omega)
    rintro rec2 x2 ⟨⟨g0, g1⟩, g2⟩ ih2
    simp only [m_spec_RankCrews_b2]
    cases hcnd : ((decide (0 < x2)) && (decide ((m_spec_l28Median list (at' (m_spec_l28Crews list) i)) < (m_spec_l28Median list (at' out (x2 - 1)))))) with
    | true =>
      simp only [Bool.and_eq_true, decide_eq_true_eq] at hcnd
      simp only [Bool.cond_true]
      refine ih2 _ ⟨⟨by omega, by omega⟩, fun j hj hj2 => ?_⟩ (by omega)
      by_cases hje : x2.toNat ≤ j
      · exact g2 j hj hje
      · have hs : at' out (x2 - 1) = out[j] := by
          have := at_lt (xs := out) (j := j) hj
          rw [← this]; congr 1; omega
        rw [← hs]; exact hcnd.2
    | false =>
      simp only [Bool.cond_false]
      have e1 : pre' out x2 = out.take x2.toNat := rfl
      have e2 : cut' out x2 (out.length : Int) = out.drop x2.toNat := by
        unfold cut'; rw [List.take_of_length_le (by rw [List.length_drop]; omega)]
      rw [List.nil_append, e1, e2]
      have hn : ∀ y ∈ out, y < at' (m_spec_l28Crews list) i := fun y hy => by
        have := (hM y).1 hy
        obtain ⟨j, hj, rfl⟩ := List.getElem_of_mem this
        rw [List.length_take] at hj
        rw [List.getElem_take, hat]
        exact List.pairwise_iff_getElem.1 hC j i.toNat (by omega) hlt (by omega)
      refine ih _ ⟨⟨by dsimp only; omega, by dsimp only; omega⟩, ins_lt hP hn ?_ g2, fun z => ?_⟩ (by dsimp only; omega)
      · by_cases hz : x2.toNat = 0
        · exact .inl hz
        · refine .inr ⟨by omega, ?_⟩
          have hs : at' out (x2 - 1) = out[x2.toNat - 1]'(by omega) := by
            have := at_lt (xs := out) (j := x2.toNat - 1) (by omega)
            rw [← this]; congr 1; omega
          rw [← hs]
          have h3 : 0 < x2 := by omega
          simp only [h3, decide_true, Bool.true_and, decide_eq_false_iff_not] at hcnd
          omega
      · dsimp only
        have et : (i + 1).toNat = i.toNat + 1 := by omega
        rw [et, List.take_succ_eq_append_getElem hlt, ← hat]
        refine Iff.trans ?_ (List.mem_append.trans (or_congr (hM z).symm Iff.rfl)).symm
        have hs : out = out.take x2.toNat ++ out.drop x2.toNat := (List.take_append_drop _ _).symm
        constructor
        · intro h
          rw [List.mem_append, List.mem_append] at h
          rcases h with (h | h) | h
          · exact .inl (List.mem_of_mem_take h)
          · exact .inr h
          · exact .inl (List.mem_of_mem_drop h)
        · intro h
          rw [List.mem_append, List.mem_append]
          rcases h with h | h
          · rw [hs, List.mem_append] at h
            rcases h with h | h
            · exact .inl (.inl h)
            · exact .inr h
          · exact .inl (.inr h)
  · simp only [hi, decide_false, Bool.cond_false]
    have he : i = (m_spec_l28Crews list).length := by omega
    subst he
    rw [Int.toNat_natCast, List.take_length] at hM
    exact ⟨trivial, hP, hM⟩
theorem sel_ne {p : Int → Bool} {g : Int → Int} : ∀ (m : Nat) (i j : Int), i ≤ j → j < i + m → p j = true → sel p g m i ≠ [] := by
  intro m
  induction m with
  | zero => intro i j h1 h2; omega
  | succ m ih =>
    intro i j h1 h2 h3 he
    rw [sel] at he
    rw [List.append_eq_nil_iff] at he
    by_cases e : j = i
    · subst e; rw [if_pos h3] at he; simp at he
    · exact ih (i + 1) j (by omega) (by omega) h3 he.2
theorem crew_at {list : List gDrill} {crew : Txt} (h : crew ∈ crewsIn list) : ∃ j : Int, 0 ≤ j ∧ j < list.length ∧ strB .eql (at' list j).Crew crew = true := by
  obtain ⟨x, hx, rfl⟩ := List.mem_map.1 h
  obtain ⟨j, hj, rfl⟩ := List.getElem_of_mem hx
  refine ⟨(j : Int), by omega, by omega, ?_⟩
  rw [at_lt hj]; simp [strB]
theorem med_eq {list : List gDrill} (hok : m_spec_l28Ok list = true) {crew : Txt} (h : crew ∈ crewsIn list) : m_impl_medianSeconds list crew = m_spec_l28Median list crew := by
  have hne : ∀ y ∈ ofCrew list crew (fun j => (at' list j).Seconds), y ≠ -1 := by
    intro y hy
    obtain ⟨j, h1, h2, rfl⟩ := sel_mem _ _ y hy
    have := one_sec (at_all (Q := fun x => m_spec_l28One x = true) (drillsOk_imp hok).2 (i := j) ⟨h1, by omega⟩)
    omega
  obtain ⟨j, h1, h2, h3⟩ := crew_at h
  have hz : (((ofCrew list crew fun j => (at' list j).Seconds).length : Int) == 0) = false := by
    have := sel_ne (p := fun j => strB .eql (at' list j).Crew crew) (g := fun j => (at' list j).Seconds) list.length 0 j h1 (by omega) h3
    rw [beq_eq_false_iff_ne]
    intro e
    exact this (List.length_eq_zero_iff.1 (by unfold ofCrew at e; omega))
  have hm := middle_is _ hne
  rw [hz, Bool.cond_false] at hm
  rw [med_impl, med_spec, hm]
theorem rank_cmp (list : List gDrill) (x y : Txt) : m_impl_RankCrews_1 x y list < 0 ↔ m_impl_medianSeconds list x < m_impl_medianSeconds list y := by
  simp only [m_impl_RankCrews_1, cmpI_eq]
  split
  · exact ⟨fun _ => by assumption, fun _ => by omega⟩
  · split
    · exact ⟨fun h => by omega, fun h => by omega⟩
    · exact ⟨fun h => by omega, fun h => by omega⟩
theorem rise_at {l : List Txt} (h : Rise l) : ∀ i j : Int, 0 ≤ i → i < j → j < (l.length : Int) → at' l i < at' l j := fun i j h1 h2 h3 => by
  have e1 := at_lt (xs := l) (j := i.toNat) (by omega)
  have e2 := at_lt (xs := l) (j := j.toNat) (by omega)
  rw [Int.toNat_of_nonneg (by omega)] at e1 e2
  rw [e1, e2]
  exact List.pairwise_iff_getElem.1 h i.toNat j.toNat (by omega) (by omega) (by omega)
theorem RankCrews_eq (list : List gDrill) : m_impl_RankCrews list = m_spec_RankCrews list := by
  simp only [m_impl_RankCrews, m_spec_RankCrews, drills_eq]
  cases hok : m_spec_l28Ok list with
  | false => rfl
  | true =>
    simp only [Bool.not_true, Bool.cond_false]
    have hC := crews_spec list
    have hlen : (m_spec_l28Crews list).length ≤ 32 := by
      have h1 := crewsOf_len list
      have h2 := (drillsOk_imp hok).1
      rw [crewsOf_eq] at h1; omega
    have hs := rank_spec list
    have hr := stable_spec (key := m_impl_medianSeconds list) (cmp := fun (a0 : List UInt8) (a1 : List UInt8) => m_impl_RankCrews_1 a0 a1 list) (fun x y => rank_cmp list x y) (xs := m_spec_l28Crews list) hlen
    rw [crewsOf_eq]
    have hsrt := hr.2 (rise_at hC.1)
    have hl : (m_slices_SortStableFunc_string (m_spec_l28Crews list) (fun (a0 : List UInt8) (a1 : List UInt8) => m_impl_RankCrews_1 a0 a1 list)).length = (m_spec_l28Crews list).length := hr.1.len
    have hmem : ∀ x, x ∈ m_slices_SortStableFunc_string (m_spec_l28Crews list) (fun (a0 : List UInt8) (a1 : List UInt8) => m_impl_RankCrews_1 a0 a1 list) ↔ x ∈ m_spec_l28Crews list := fun x => by
      refine ⟨hr.1.mem (by omega) (by omega) x, fun hx => ?_⟩
      obtain ⟨j, hj, rfl⟩ := List.getElem_of_mem hx
      obtain ⟨p, hp, e⟩ := hr.1.sup (j : Int) (by omega) (by omega)
      rw [← at_lt hj, ← e]
      exact at_mem ⟨by omega, by omega⟩
    refine Prod.ext ?_ hs.1.symm
    refine lt_ext (key := m_spec_l28Median list) ?_ hs.2.1 (fun x => (hmem x).trans (hs.2.2 x).symm)
    rw [List.pairwise_iff_getElem]
    intro i j hi hj hij
    replace hi : i < (m_slices_SortStableFunc_string (m_spec_l28Crews list) (fun (a0 : List UInt8) (a1 : List UInt8) => m_impl_RankCrews_1 a0 a1 list)).length := hi
    replace hj : j < (m_slices_SortStableFunc_string (m_spec_l28Crews list) (fun (a0 : List UInt8) (a1 : List UInt8) => m_impl_RankCrews_1 a0 a1 list)).length := hj
    have h := hsrt (i : Int) (j : Int) (by omega) (by omega) (by omega)
    rw [at_lt hi, at_lt hj] at h
    have m1 := med_eq hok ((hC.2 _).1 ((hmem _).1 (List.getElem_mem hi)))
    have m2 := med_eq hok ((hC.2 _).1 ((hmem _).1 (List.getElem_mem hj)))
    unfold LT at h ⊢
    rw [m1, m2] at h; exact h
theorem rank_len (list : List gDrill) : (m_spec_RankCrews list).1.length ≤ 1000 := by
  rw [← RankCrews_eq]
  simp only [m_impl_RankCrews, drills_eq]
  cases hok : m_spec_l28Ok list with
  | false => simp
  | true =>
    have h1 := crewsOf_len list
    have h2 := (drillsOk_imp hok).1
    have hr := stable_spec (key := m_impl_medianSeconds list) (cmp := fun (a0 : List UInt8) (a1 : List UInt8) => m_impl_RankCrews_1 a0 a1 list) (fun x y => rank_cmp list x y) (xs := m_impl_crewsOf list) (by omega)
    have : (m_slices_SortStableFunc_string (m_impl_crewsOf list) (fun (a0 : List UInt8) (a1 : List UInt8) => m_impl_RankCrews_1 a0 a1 list)).length = (m_impl_crewsOf list).length := hr.1.len
    simp only [Bool.not_true, Bool.cond_false]
    omega

end Go.Proofs.Ytbflomopgofkgaa
