/-
  PLAIN LAWS about the models: no program in sight. Conditions: as each theorem states them.
-/
import Derived.Test.YtibbfdojcdkopaaExactAssignCrewsPlain14
set_option linter.unusedVariables false
set_option linter.unusedSimpArgs false
set_option linter.unusedSectionVars false
set_option linter.unnecessarySimpa false
namespace Go.Proofs.Ytibbfdojcdkopaa
open Go Go.RowKit Go.Proofs Go.Proofs.Ytibbfdojcdkopaa.E
/-! ## AssignCrews: both give the same search its crews and refuges -/
theorem pnode_best {B : Int} {st : Pst} {bound : Int} {k : Pst → Pst} {n : Nat} (h : st.best.length ≤ n) (hk : ∀ s, s.best.length ≤ n → (k s).best.length ≤ n) : (pnode B st bound k).best.length ≤ n := by
  unfold pnode
  split
  · exact h
  · split
    · exact h
    · split
      · exact h
      · exact hk _ h
theorem fold_best {B : Int} {left : List Int} {m rest sum : Int} {k : List Int → Int → Pst → Pst} {n : Nat} (hk : ∀ l r s, s.best.length ≤ n → (k l r s).best.length ≤ n) : ∀ (L : List Int) (st : Pst), st.best.length ≤ n → (L.foldl (pstep B left m rest sum k) st).best.length ≤ n
  | [], _, h => h
  | r :: L, st, h => by
    rw [List.foldl_cons]
    refine fold_best hk L _ ?_
    unfold pstep
    split
    · exact h
    · exact pnode_best h (hk _ _)
theorem psrch_best {sizes : List Int} {reach : List (List Int)} {B : Int} : ∀ (f : Nat) (left places : List Int) (sum : Int) (st : Pst), st.best.length ≤ sizes.length → (psrch sizes reach B f left places sum st).best.length ≤ sizes.length
  | 0, _, _, _, _, h => h
  | f + 1, left, places, sum, st, h => by
    rw [psrch]
    split
    · rename_i e; exact Nat.le_of_eq e
    · exact pnode_best (fold_best (fun l r s hs => psrch_best f _ _ _ s hs) _ _ h) (fun s hs => psrch_best f _ _ _ s hs)
theorem l20Sizes_eq (sizes : List Int) : m_spec_l20Sizes sizes = m_impl_allWithin sizes 1 200 := by
  rw [Bool.eq_iff_iff, allWithin_iff]
  simp only [m_spec_l20Sizes]
  have := LOOP_all (b := m_spec_l20Sizes_b1 sizes) (n := sizes.length) (bad := fun i => !(m_spec_l00In (at' sizes i) 1 200)) (fun rec k i _ => by simp only [m_spec_l20Sizes_b1]) (k := fun _ => true) (((sizes.length : Int) - 0 : Int).toNat + 1) 0 (by omega) (by omega) (by omega)
  rw [this]
  constructor
  · rintro ⟨h, _⟩
    refine all_at.2 fun j hj => ?_
    have := h j (by omega) hj
    simp only [Bool.not_eq_false'] at this
    exact l00In_imp this
  · intro h
    refine ⟨fun j _ hj => ?_, rfl⟩
    have := at_all h (i := (j : Int)) ⟨by omega, by omega⟩
    simp only [m_spec_l00In, Bool.not_eq_false', Bool.and_eq_true, decide_eq_true_eq]; exact this
def LE (t : List Int) (list : List gRefuge) (j : Int) : Bool := decide (0 ≤ at' t (at' list j).Junction)
theorem one20_pl {x : gRefuge} (h : m_spec_l20One x = true) : 1 ≤ x.Places ∧ x.Places ≤ 200 := by
  simp only [m_spec_l20One, m_spec_l00In, Bool.and_eq_true, decide_eq_true_eq] at h; omega
theorem l20Ok_pl {m : gMine} {list : List gRefuge} (h : m_spec_l20Ok m list = true) : ∀ x ∈ list, 1 ≤ x.Places ∧ x.Places ≤ 200 := by
  simp only [m_spec_l20Ok] at h
  cases ho : m_spec_l04Ok m with
  | false => simp [ho] at h
  | true =>
    by_cases hl : (8 : Int) < list.length
    · simp [ho, hl] at h
    · simp only [ho, hl, Bool.not_true, Bool.false_or, decide_false, Bool.cond_false] at h
      have h1 := (valid_iff (fun t => m_spec_l20One t && !decide (m.Junctions ≤ t.Junction)) (fun t => t.Id) (fun rec k i _ => by simp only [m_spec_l20Ok_b1, Bool.not_and, Bool.not_not])).1 h
      refine all_at.2 fun j hj => ?_
      have h2 := (h1.1 j (by omega)).1
      simp only [Bool.and_eq_true] at h2
      exact one20_pl h2.1
theorem l20Ok_mine {m : gMine} {list : List gRefuge} (h : m_spec_l20Ok m list = true) : m_spec_l04Ok m = true := by
  simp only [m_spec_l20Ok] at h
  cases ho : m_spec_l04Ok m with
  | false => simp [ho] at h
  | true => rfl
/-- rows of a list, one for each place -/
def rowsOf (n : Nat) (row : Int → List Int) : List (List Int) := (List.range n).map fun (j : Nat) => row (j : Int)
theorem rows_loop {ρ : Type} {n : Nat} {row : Int → List Int} {b : ((List (List Int) × Int) → ρ) → ((List (List Int) × Int) → ρ) → (List (List Int) × Int) → ρ} {k : (List (List Int) × Int) → ρ}
    (hb : ∀ rec x, 0 ≤ x.2 → b rec k x = bif decide (x.2 < (n : Int)) then rec (x.1 ++ ([row x.2] : List (List Int)), x.2 + 1) else k (x.1, x.2)) :
    LOOP b k (((n : Int) - 0 : Int).toNat + 1) (([] : List (List Int)), 0) = k (rowsOf n row, (n : Int)) := by
  refine LOOP_is (b := b) (k := k) (fun x => (0 ≤ x.2 ∧ x.2 ≤ n) ∧ x.1 = rowsOf x.2.toNat row) (fun x => ((n : Int) - x.2).toNat) (fun _ => k (rowsOf n row, (n : Int))) (fun rec x hI ih => ?_) ⟨⟨by simp, by simp⟩, by simp [rowsOf]⟩ (by simp)
  obtain ⟨s, i⟩ := x
  obtain ⟨⟨h0, h1⟩, h2⟩ := hI
  dsimp only at h0 h1 h2
  rw [hb rec _ h0]
  by_cases hi : i < (n : Int)
  · simp only [hi, decide_true, Bool.cond_true]
    refine ih _ ⟨⟨by dsimp only; omega, by dsimp only; omega⟩, ?_⟩ (by dsimp only; omega)
    dsimp only
    rw [h2, show (i + 1).toNat = i.toNat + 1 by omega]
    unfold rowsOf
    rw [List.range_succ, List.map_append]
    simp only [List.map_cons, List.map_nil, Int.toNat_of_nonneg h0]
  · have : i = n := by omega
    subst this
    simp only [hi, decide_false, Bool.cond_false]
    rw [h2, Int.toNat_natCast]
theorem rows_congr {n : Nat} {f g : Int → List Int} (h : ∀ i : Int, 0 ≤ i → i < n → f i = g i) : rowsOf n f = rowsOf n g := by
  unfold rowsOf
  refine List.map_congr_left fun j hj => ?_
  rw [List.mem_range] at hj
  exact h j (by omega) (by omega)
def rchOf (m : gMine) (arr : List Int) (blocked : Int) (crews : List gCrew) (start : Int) (list : List gRefuge) : List (List Int) := rowsOf crews.length fun i => sel (LE (m_spec_l19Times m arr blocked (at' crews i) start) list) (fun j => j) list.length 0
def freeOf (list : List gRefuge) : List Int := sel (fun _ => true) (fun j => (at' list j).Places) list.length 0
theorem freeOf_len (list : List gRefuge) : (freeOf list).length = list.length := by
  unfold freeOf; rw [sel_all, List.length_map, List.length_range]
theorem PI.start {m : gMine} {arr : List Int} {blocked : Int} {crews : List gCrew} {sizes : List Int} {start : Int} {list : List gRefuge} (h1 : m_spec_l20Ok m list = true) (h2 : crews.length ≤ 8) (h3 : sizes.length = crews.length) (h4 : ∀ y ∈ sizes, 1 ≤ y ∧ y ≤ 200) : PI sizes (rchOf m arr blocked crews start list) (freeOf list) [] 0 := by
  refine ⟨h4, by omega, by unfold rchOf rowsOf; rw [List.length_map, List.length_range, h3], fun l hl r hr => ?_, fun y hy => ?_, by simp, by simp⟩
  · unfold rchOf rowsOf at hl
    obtain ⟨i, _, rfl⟩ := List.mem_map.1 hl
    obtain ⟨j, g1, g2, rfl⟩ := sel_mem _ _ r hr
    rw [freeOf_len]; omega
  · obtain ⟨j, g1, g2, rfl⟩ := sel_mem _ _ y hy
    have := at_all (l20Ok_pl h1) (i := j) ⟨g1, by omega⟩
    omega
theorem rest_loop {m : gMine} {arr : List Int} {blocked : Int} {crews : List gCrew} {sizes : List Int} {start : Int} {list : List gRefuge} {budget : Int} {k : List Int × Int → List Int × Int × Int} {V : List Int × Int × Int} (hl : sizes.length ≤ 8) (hz : ∀ y ∈ sizes, 1 ≤ y ∧ y ≤ 200) (hk : ∀ rest i, RestOk sizes rest → k (rest, i) = V) :
    LOOP (m_spec_AssignCrews_b1 m arr blocked crews sizes start list budget) k ((sizes.length : Int).toNat + 1) (List.replicate ((sizes.length : Int) + 1 : Int).toNat (0 : Int), (sizes.length : Int) - 1) = V := by
  refine LOOP_is (b := m_spec_AssignCrews_b1 m arr blocked crews sizes start list budget) (k := k) (fun x => (-1 ≤ x.2 ∧ x.2 < sizes.length) ∧ x.1.length = sizes.length + 1 ∧ ∀ q : Nat, x.2 < (q : Int) → q ≤ sizes.length → at' x.1 (q : Int) = rstf sizes q) (fun x => (x.2 + 1).toNat) (fun _ => V) (fun rec x hI ih => ?_) ⟨⟨by dsimp only; omega, by dsimp only; omega⟩, by simp, fun q h1 h2 => ?_⟩ (by dsimp only; omega)
  · obtain ⟨rest, i⟩ := x
    obtain ⟨⟨h0, h1⟩, h2, h3⟩ := hI
    dsimp only at h0 h1 h2 h3
    simp only [m_spec_AssignCrews_b1]
    by_cases hi : 0 ≤ i
    · simp only [hi, decide_true, Bool.cond_true]
      have hn := h3 (i.toNat + 1) (by omega) (by omega)
      have hn' : at' rest (i + 1) = rstf sizes (i.toNat + 1) := by rw [← hn]; congr 1; omega
      have hs := rstf_succ (sizes := sizes) (k := i.toNat) (by omega)
      have hs' : at' sizes ((i.toNat : Nat) : Int) = at' sizes i := by congr 1; omega
      have hv := at_all hz (i := i) ⟨hi, h1⟩
      have hr := sum_rng (sizes.drop (i.toNat + 1)) (fun y hy => hz y (List.mem_of_mem_drop hy))
      rw [List.length_drop] at hr
      have hr' : 0 ≤ rstf sizes (i.toNat + 1) ∧ rstf sizes (i.toNat + 1) ≤ 1600 := by unfold rstf; omega
      rw [hn', wr64 (by omega)]
      refine ih _ ⟨⟨by dsimp only; omega, by dsimp only; omega⟩, by dsimp only; rw [put_len]; exact h2, fun q g1 g2 => ?_⟩ (by dsimp only; omega)
      dsimp only at g1 ⊢
      by_cases hq : (q : Int) = i
      · rw [hq, put_at ⟨hi, by omega⟩]
        have : q = i.toNat := by omega
        subst this
        rw [hs, hs']; omega
      · rw [put_at_ne hi (by omega) (fun e => hq e.symm)]
        exact h3 q (by omega) g2
    · simp only [hi, decide_false, Bool.cond_false]
      exact hk _ _ ⟨h2, fun q hq => h3 q (by omega) hq⟩
  · dsimp only at h1 ⊢
    have : q = sizes.length := by omega
    subst this
    unfold rstf at' 
    simp
theorem AssignCrews_both (m : gMine) (arr : List Int) (blocked : Int) (crews : List gCrew) (sizes : List Int) (start : Int) (list : List gRefuge) (budget : Int) : m_impl_AssignCrews m arr blocked crews sizes start list budget = m_spec_AssignCrews m arr blocked crews sizes start list budget ∧ (m_impl_AssignCrews m arr blocked crews sizes start list budget).1.length ≤ 1000 := by
  have hbv : m_impl_budgetValid budget = m_spec_l00In budget 1 20000 := rfl
  have hN := escapeN m arr blocked crews start
  simp only [m_impl_AssignCrews, m_spec_AssignCrews, refuges_eq, l20Sizes_eq, hbv]
  cases h2 : m_spec_l20Ok m list with
  | false => simp
  | true =>
    have h1 := l20Ok_mine h2
    cases h3 : m_spec_l19List m crews with
    | false => simp [hN, h1, h3]
    | true =>
      cases h4 : m_spec_l00In blocked (-1) ((m.Airways.length : Int) - 1) with
      | false => simp [hN, h1, h3, h4]
      | true =>
        cases h5 : m_spec_l17Time start with
        | false => simp [hN, h1, h3, h4, h5]
        | true =>
          cases h6 : m_spec_l00In budget 1 20000 with
          | false => cases h7 : m_spec_l19Arrivals m arr <;> simp [hN, h1, h3, h4, h5, h6, h7]
          | true =>
            cases h7 : m_spec_l19Arrivals m arr with
            | false => simp [hN, h1, h3, h4, h5, h6, h7]
            | true =>
              have hE : m_impl_escapeOf m arr blocked crews start [] = (gescape.mk m arr blocked, 0) := by rw [hN]; simp [h1, h3, h4, h5, h7]
              have e1 : (((m_impl_escapeOf m arr blocked crews start []).2 == 1) : Bool) = false := by rw [hE]; rfl
              have e2 : (((m_impl_escapeOf m arr blocked crews start []).2 == 2) : Bool) = false := by rw [hE]; rfl
              have e3 : (((m_impl_escapeOf m arr blocked crews start []).2 != 0) : Bool) = false := by rw [hE]; rfl
              simp only [e1, e2, e3, Bool.not_true, Bool.or_self, Bool.false_or, Bool.cond_false]
              cases h8 : ((sizes.length : Int) != (crews.length : Int)) with
              | true => simp
              | false =>
                cases h9 : m_impl_allWithin sizes 1 200 with
                | false => simp
                | true =>
                  simp only [Bool.not_true, Bool.or_self, Bool.cond_false]
                  have hz := allWithin_iff.1 h9
                  have hcr := l19List_imp h3
                  have hm := l04Ok_imp h1
                  have hs := l17Time_imp h5
                  have hB := l00In_imp h6
                  have hlen : sizes.length = crews.length := by
                    rw [bne_eq_false_iff_eq] at h8; omega
                  have hc8 := hcr.1
                  have hP := PI.start (arr := arr) (blocked := blocked) (start := start) h2 hc8 hlen hz
                  have hg := hP.rng 0
                  -- the program's side
                  have hI : ∀ rows left, rows = rchOf m arr blocked crews start list → left = freeOf list → (bif decide ((m_impl_placeSearch_visit (gplaceSearch.mk sizes rows left budget ([] : List Int) ([] : List Int) (-1)) 0).budget < 0) then (([] : List Int), (0 : Int), (5 : Int)) else ((m_impl_placeSearch_visit (gplaceSearch.mk sizes rows left budget ([] : List Int) ([] : List Int) (-1)) 0).best, (m_impl_placeSearch_visit (gplaceSearch.mk sizes rows left budget ([] : List Int) ([] : List Int) (-1)) 0).most, 0))
                      = (bif (psrch sizes (rchOf m arr blocked crews start list) budget (((sizes.length : Int) - (([] : List Int).length : Int)).toNat + 1) (freeOf list) [] 0 ⟨[], -1, 0, false⟩).full then (([] : List Int), (0 : Int), (5 : Int)) else ((psrch sizes (rchOf m arr blocked crews start list) budget (((sizes.length : Int) - (([] : List Int).length : Int)).toNat + 1) (freeOf list) [] 0 ⟨[], -1, 0, false⟩).best, (psrch sizes (rchOf m arr blocked crews start list) budget (((sizes.length : Int) - (([] : List Int).length : Int)).toNat + 1) (freeOf list) [] 0 ⟨[], -1, 0, false⟩).most, 0)) := by
                    rintro _ _ rfl rfl
                    rw [m_impl_placeSearch_visit, visI_is budget hB.2 _ _ _ 0 false hP ⟨by omega, by omega⟩ (by simp [bud]) (by dsimp only; simp only [List.length_nil]; omega) (by dsimp only; simp only [List.length_nil]; omega)]
                    dsimp only [implOut]
                    have hok := psrch_ok (sizes := sizes) (reach := rchOf m arr blocked crews start list) (B := budget) (((sizes.length : Int) - (([] : List Int).length : Int)).toNat + 1) (freeOf list) [] 0 ⟨[], -1, 0, false⟩ ⟨by dsimp only; omega, by dsimp only; omega⟩
                    generalize psrch sizes (rchOf m arr blocked crews start list) budget (((sizes.length : Int) - (([] : List Int).length : Int)).toNat + 1) (freeOf list) [] 0 ⟨[], -1, 0, false⟩ = r at hok
                    obtain ⟨be, mo, nd, fu⟩ := r
                    have hok' : 0 ≤ nd ∧ nd ≤ budget := hok
                    cases fu with
                    | true => simp [bud]
                    | false =>
                      have : ¬ (budget - nd < 0) := by omega
                      simp [bud, this]
                  have hS : ∀ rows left rest, rows = rchOf m arr blocked crews start list → left = freeOf list → RestOk sizes rest → (bif (m_spec_l20Search_run (gl20Search.mk sizes rows left rest ([] : List Int) ([] : List Int) (-1) 0 budget false) 0).full then (([] : List Int), (0 : Int), (5 : Int)) else ((m_spec_l20Search_run (gl20Search.mk sizes rows left rest ([] : List Int) ([] : List Int) (-1) 0 budget false) 0).best, (m_spec_l20Search_run (gl20Search.mk sizes rows left rest ([] : List Int) ([] : List Int) (-1) 0 budget false) 0).most, 0))
                      = (bif (psrch sizes (rchOf m arr blocked crews start list) budget (((sizes.length : Int) - (([] : List Int).length : Int)).toNat + 1) (freeOf list) [] 0 ⟨[], -1, 0, false⟩).full then (([] : List Int), (0 : Int), (5 : Int)) else ((psrch sizes (rchOf m arr blocked crews start list) budget (((sizes.length : Int) - (([] : List Int).length : Int)).toNat + 1) (freeOf list) [] 0 ⟨[], -1, 0, false⟩).best, (psrch sizes (rchOf m arr blocked crews start list) budget (((sizes.length : Int) - (([] : List Int).length : Int)).toNat + 1) (freeOf list) [] 0 ⟨[], -1, 0, false⟩).most, 0)) := by
                    rintro _ _ rest rfl rfl hR
                    rw [m_spec_l20Search_run, runS_is _ _ _ hP hR ⟨by dsimp only; omega, by dsimp only; omega, hB.2⟩ (by dsimp only; simp only [List.length_nil]; omega) (by dsimp only; simp only [List.length_nil]; omega)]
                    rfl
                  rw [rest_loop (by omega) hz (V := (bif (psrch sizes (rchOf m arr blocked crews start list) budget (((sizes.length : Int) - (([] : List Int).length : Int)).toNat + 1) (freeOf list) [] 0 ⟨[], -1, 0, false⟩).full then (([] : List Int), (0 : Int), (5 : Int)) else ((psrch sizes (rchOf m arr blocked crews start list) budget (((sizes.length : Int) - (([] : List Int).length : Int)).toNat + 1) (freeOf list) [] 0 ⟨[], -1, 0, false⟩).best, (psrch sizes (rchOf m arr blocked crews start list) budget (((sizes.length : Int) - (([] : List Int).length : Int)).toNat + 1) (freeOf list) [] 0 ⟨[], -1, 0, false⟩).most, 0))) (fun rest i hR => by
                    rw [rows_loop (n := crews.length) (row := fun i => sel (LE (m_spec_l19Times m arr blocked (at' crews i) start) list) (fun j => j) list.length 0) (fun rec x h0 => by
                      simp only [m_spec_AssignCrews_b2]
                      rw [filt_loop (n := list.length) (p := LE (m_spec_l19Times m arr blocked (at' crews x.2) start) list) (g := fun j => j) (fun rec x => by simp only [m_spec_AssignCrews_b3, LE])])]
                    rw [filt_loop (n := list.length) (p := fun _ => true) (g := fun j => (at' list j).Places) (fun rec x => by simp only [m_spec_AssignCrews_b4, Bool.cond_true])]
                    exact hS _ _ _ rfl rfl hR)]
                  rw [filt_loop (n := list.length) (p := fun _ => true) (g := fun j => (at' list j).Places) (fun rec x => by simp only [m_impl_AssignCrews_b1, Bool.cond_true])]
                  rw [rows_loop (n := crews.length) (row := fun i => sel (LE (m_impl_escape_times (gescape.mk m arr blocked) (at' crews i) start) list) (fun j => j) list.length 0) (fun rec x h0 => by
                      simp only [m_impl_AssignCrews_b2, m_impl_AssignCrews_b3, hE]
                      rw [filt_loop (n := list.length) (p := LE (m_impl_escape_times (gescape.mk m arr blocked) (at' crews x.2) start) list) (g := fun j => j) (fun rec x => by simp only [m_impl_AssignCrews_b3, LE, hE])])]
                  have hrow : (rowsOf crews.length fun i => sel (LE (m_impl_escape_times (gescape.mk m arr blocked) (at' crews i) start) list) (fun j => j) list.length 0) = rchOf m arr blocked crews start list := by
                    dsimp only [rchOf]
                    refine rows_congr fun i h0 h1 => ?_
                    rw [times_eq hm (at_all hcr.2 ⟨h0, h1⟩) hs]
                  refine ⟨hI _ _ hrow rfl, ?_⟩
                  refine Eq.mpr (congrArg (fun (r : List Int × Int × Int) => r.1.length ≤ 1000) (hI _ _ hrow rfl)) ?_
                  have hb := psrch_best (sizes := sizes) (reach := rchOf m arr blocked crews start list) (B := budget) (((sizes.length : Int) - (([] : List Int).length : Int)).toNat + 1) (freeOf list) [] 0 ⟨[], -1, 0, false⟩ (by simp)
                  cases (psrch sizes (rchOf m arr blocked crews start list) budget (((sizes.length : Int) - (([] : List Int).length : Int)).toNat + 1) (freeOf list) [] 0 ⟨[], -1, 0, false⟩).full with
                  | true => simp
                  | false => simp only [Bool.cond_false]; omega
theorem AssignCrews_eq (m : gMine) (arr : List Int) (blocked : Int) (crews : List gCrew) (sizes : List Int) (start : Int) (list : List gRefuge) (budget : Int) : m_impl_AssignCrews m arr blocked crews sizes start list budget = m_spec_AssignCrews m arr blocked crews sizes start list budget := (AssignCrews_both m arr blocked crews sizes start list budget).1
theorem AssignCrews_len (m : gMine) (arr : List Int) (blocked : Int) (crews : List gCrew) (sizes : List Int) (start : Int) (list : List gRefuge) (budget : Int) : (m_spec_AssignCrews m arr blocked crews sizes start list budget).1.length ≤ 1048576 := by
  have h := AssignCrews_both m arr blocked crews sizes start list budget
  rw [← h.1]; exact Nat.le_trans h.2 (by omega)

end Go.Proofs.Ytibbfdojcdkopaa
