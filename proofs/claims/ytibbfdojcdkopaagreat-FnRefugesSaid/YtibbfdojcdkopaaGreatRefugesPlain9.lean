/-
  PLAIN LAWS about the models: no program in sight. Conditions: as each theorem states them.
-/
import Derived.Test.YtibbfdojcdkopaaGreatRefugesPlain8
set_option linter.unusedVariables false
set_option linter.unusedSimpArgs false
set_option linter.unusedSectionVars false
set_option linter.unnecessarySimpa false
namespace Go.Proofs.YtibbfdojcdkopaaGreat
open Go Go.RowKit Go.Proofs Go.Proofs.YtibbfdojcdkopaaGreat.E

/-! ## AssignCrews: both give the same search its crews and refuges -/
def LE (t : List Int) (list : List AI) (j : Int) : Bool := decide (0 ≤ at' t (at' list j).Junction)
/-- rows of a list, one for each place -/
def rowsOf (n : Nat) (row : Int → List Int) : List (List Int) := (List.range n).map fun (j : Nat) => row (j : Int)
theorem rows_loop {ρ : Type} {n : Nat} {row : Int → List Int} {b : ((List (List Int) × Int) → ρ) → ((List (List Int) × Int) → ρ) → (List (List Int) × Int) → ρ} {k : (List (List Int) × Int) → ρ}
    (hb : ∀ rec x, 0 ≤ x.2 → b rec k x = bif decide (x.2 < (n : Int)) then rec (x.1 ++ ([row x.2] : List (List Int)), x.2 + 1) else k (x.1, x.2)) :
    LOOP b k (((n : Int) - 0 : Int).toNat + 1) (([] : List (List Int)), 0) = k (rowsOf n row, (n : Int)) := by
  refine LOOP_is (b := b) (k := k) (fun x => (0 ≤ x.2 ∧ x.2 ≤ n) ∧ x.1 = rowsOf x.2.toNat row) (fun x => ((n : Int) - x.2).toNat) (fun _ => k (rowsOf n row, (n : Int))) (fun rec x hI ih => ?_) ⟨⟨by simp, by simp⟩, by simp [rowsOf]⟩ (by simp)
  obtain ⟨s, i⟩ := x
  obtain ⟨⟨h0, h1⟩, h2⟩ := hI
  dsimp only at h0 h1 h2
  rw [hb rec _ h0]
  by_cases hi : i < (n : Int)
  · simp only [hi, decide_true, Bool.cond_true]
    refine ih _ ⟨⟨by dsimp only; omega, by dsimp only; omega⟩, ?_⟩ (by dsimp only; omega)
    dsimp only
    rw [h2, show (i + 1).toNat = i.toNat + 1 by omega]
    unfold rowsOf
    rw [List.range_succ, List.map_append]
    simp only [List.map_cons, List.map_nil, Int.toNat_of_nonneg h0]
  · have : i = n := by omega
    subst this
    simp only [hi, decide_false, Bool.cond_false]
    rw [h2, Int.toNat_natCast]
theorem rows_congr {n : Nat} {f g : Int → List Int} (h : ∀ i : Int, 0 ≤ i → i < n → f i = g i) : rowsOf n f = rowsOf n g := by
  unfold rowsOf
  refine List.map_congr_left fun j hj => ?_
  rw [List.mem_range] at hj
  exact h j (by omega) (by omega)
def rchOf (m : AH) (arr : List Int) (blocked : Int) (crews : List Bi) (start : Int) (list : List AI) : List (List Int) := rowsOf crews.length fun i => sel (LE (Bw m arr blocked (at' crews i) start) list) (fun j => j) list.length 0
def freeOf (list : List AI) : List Int := sel (fun _ => true) (fun j => (at' list j).Places) list.length 0
theorem freeOf_len (list : List AI) : (freeOf list).length = list.length := by
  unfold freeOf; rw [sel_all, List.length_map, List.length_range]

/-! ## What the walks of AssignCrews ask -/
theorem post_impl_placeSearch_visit (fuel : Nat) : ∀ (s : Ar) (sum : Int), PI s.sizes s.reached s.free s.places sum → (-1 ≤ s.budget ∧ s.budget ≤ 20000) → s.most < sum + rstf s.sizes s.places.length → s.sizes.length - s.places.length < fuel →
    (m_impl_placeSearch_visit_n fuel s sum).reached = s.reached ∧ (m_impl_placeSearch_visit_n fuel s sum).free = s.free ∧ (m_impl_placeSearch_visit_n fuel s sum).places = s.places ∧ -1 ≤ (m_impl_placeSearch_visit_n fuel s sum).budget ∧ (m_impl_placeSearch_visit_n fuel s sum).budget ≤ 20000 := by
  intro s sum h1 h2 h4 h5
  by_cases hb : s.budget = -1
  · rw [visI_is 20000 (by omega) fuel s sum 0 true h1 ⟨by omega, by omega⟩ (by rw [hb]; rfl) h4 h5]
    have hok := psrch_ok (sizes := s.sizes) (reach := s.reached) (B := 20000) fuel s.free s.places sum ⟨s.best, s.most, 0, true⟩ ⟨by dsimp only; omega, by dsimp only; omega⟩
    refine ⟨rfl, rfl, rfl, ?_⟩
    dsimp only [implOut, bud]
    unfold Pst.ok at hok
    split <;> omega
  · rw [visI_is s.budget (by omega) fuel s sum 0 false h1 ⟨by omega, by omega⟩ (by simp [bud]) h4 h5]
    have hok := psrch_ok (sizes := s.sizes) (reach := s.reached) (B := s.budget) fuel s.free s.places sum ⟨s.best, s.most, 0, false⟩ ⟨by dsimp only; omega, by dsimp only; omega⟩
    refine ⟨rfl, rfl, rfl, ?_⟩
    dsimp only [implOut, bud]
    unfold Pst.ok at hok
    split <;> omega
def HS (self_ : Ar → Int → Ar) (fuel : Nat) : Prop := ∀ (s : Ar) (sum : Int), PI s.sizes s.reached s.free s.places sum → (-1 ≤ s.budget ∧ s.budget ≤ 20000) → s.most < sum + rstf s.sizes s.places.length → s.sizes.length - s.places.length < fuel → (self_ s sum).reached = s.reached ∧ (self_ s sum).free = s.free ∧ (self_ s sum).places = s.places ∧ -1 ≤ (self_ s sum).budget ∧ (self_ s sum).budget ≤ 20000
theorem node_keep {self_ : Ar → Int → Ar} {fuel : Nat} (hself : HS self_ fuel) {s : Ar} {place persons : Int} (h1 : PI s.sizes s.reached s.free (s.places ++ ([place] : List Int)) persons) (h2 : -1 ≤ s.budget ∧ s.budget ≤ 20000) (h3 : s.most < persons + rstf s.sizes (s.places.length + 1)) (h4 : s.sizes.length - (s.places.length + 1) < fuel) :
    (Aq self_ s place persons).reached = s.reached ∧ (Aq self_ s place persons).free = s.free ∧ (Aq self_ s place persons).places = s.places ∧ -1 ≤ (Aq self_ s place persons).budget ∧ (Aq self_ s place persons).budget ≤ 20000 := by
  have hw : IntKind.wrap .i64 (s.budget - 1) = s.budget - 1 := wr64 (by omega)
  have hpl := h1.pl
  have hsl := h1.sl
  have hla : (s.places ++ ([place] : List Int)).length = s.places.length + 1 := by simp
  simp only [Aq, hw]
  by_cases c1 : s.budget < 0
  · simp only [c1, decide_true, Bool.cond_true]; exact ⟨trivial, trivial, trivial, h2⟩
  · simp only [c1, decide_false, Bool.cond_false]
    by_cases c2 : s.budget - 1 < 0
    · simp only [c2, decide_true, Bool.cond_true]; exact ⟨trivial, trivial, trivial, by omega, by omega⟩
    · simp only [c2, decide_false, Bool.cond_false]
      have hq := hself (Ar.mk s.sizes s.reached s.free (s.budget - 1) (s.places ++ ([place] : List Int)) s.best s.most) persons h1 ⟨by dsimp only; omega, by dsimp only; omega⟩ (by dsimp only; rw [hla]; exact h3) (by dsimp only; rw [hla]; exact h4)
      dsimp only at hq
      refine ⟨hq.1, hq.2.1, ?_, hq.2.2.2⟩
      rw [hq.2.2.1]
      exact app_cutW (by omega)
theorem visit_step {s : Ar} {persons : Int} {fuel : Nat} {self_ : Ar → Int → Ar} (hself : HS self_ fuel) (hp : PI s.sizes s.reached s.free s.places persons) (hlt : s.places.length < s.sizes.length) (hf : s.sizes.length - s.places.length < fuel + 1)
    {re : List (List Int)} {fr pl be : List Int} {bu mo i : Int} (e1 : re = s.reached) (e2 : fr = s.free) (e3 : pl = s.places) (hb : -1 ≤ bu ∧ bu ≤ 20000) (hi : 0 ≤ i ∧ i < ((at' s.reached (s.places.length : Int)).length : Int)) (hn : at' s.sizes (s.places.length : Int) ≤ at' fr (at' (at' s.reached (s.places.length : Int)) i))
    (hm : mo < IntKind.wrap .i64 (IntKind.wrap .i64 (persons + at' s.sizes (s.places.length : Int)) + Ck (cut' s.sizes ((s.places.length : Int) + 1) (s.sizes.length : Int)))) :
    PI s.sizes re (put' fr (at' (at' s.reached (s.places.length : Int)) i) (IntKind.wrap .i64 (at' fr (at' (at' s.reached (s.places.length : Int)) i) - at' s.sizes (s.places.length : Int)))) (pl ++ ([at' (at' s.reached (s.places.length : Int)) i] : List Int)) (IntKind.wrap .i64 (persons + at' s.sizes (s.places.length : Int))) ∧
    mo < IntKind.wrap .i64 (persons + at' s.sizes (s.places.length : Int)) + rstf s.sizes (pl.length + 1) ∧ s.sizes.length - (pl.length + 1) < fuel ∧
    ((Aq self_ (Ar.mk s.sizes re (put' fr (at' (at' s.reached (s.places.length : Int)) i) (IntKind.wrap .i64 (at' fr (at' (at' s.reached (s.places.length : Int)) i) - at' s.sizes (s.places.length : Int)))) bu pl be mo) (at' (at' s.reached (s.places.length : Int)) i) (IntKind.wrap .i64 (persons + at' s.sizes (s.places.length : Int)))).reached = s.reached ∧
     (Aq self_ (Ar.mk s.sizes re (put' fr (at' (at' s.reached (s.places.length : Int)) i) (IntKind.wrap .i64 (at' fr (at' (at' s.reached (s.places.length : Int)) i) - at' s.sizes (s.places.length : Int)))) bu pl be mo) (at' (at' s.reached (s.places.length : Int)) i) (IntKind.wrap .i64 (persons + at' s.sizes (s.places.length : Int)))).places = s.places ∧
     (-1 ≤ (Aq self_ (Ar.mk s.sizes re (put' fr (at' (at' s.reached (s.places.length : Int)) i) (IntKind.wrap .i64 (at' fr (at' (at' s.reached (s.places.length : Int)) i) - at' s.sizes (s.places.length : Int)))) bu pl be mo) (at' (at' s.reached (s.places.length : Int)) i) (IntKind.wrap .i64 (persons + at' s.sizes (s.places.length : Int)))).budget ∧
      (Aq self_ (Ar.mk s.sizes re (put' fr (at' (at' s.reached (s.places.length : Int)) i) (IntKind.wrap .i64 (at' fr (at' (at' s.reached (s.places.length : Int)) i) - at' s.sizes (s.places.length : Int)))) bu pl be mo) (at' (at' s.reached (s.places.length : Int)) i) (IntKind.wrap .i64 (persons + at' s.sizes (s.places.length : Int)))).budget ≤ 20000) ∧
     (0 ≤ at' (at' s.reached (s.places.length : Int)) i ∧ at' (at' s.reached (s.places.length : Int)) i < (Aq self_ (Ar.mk s.sizes re (put' fr (at' (at' s.reached (s.places.length : Int)) i) (IntKind.wrap .i64 (at' fr (at' (at' s.reached (s.places.length : Int)) i) - at' s.sizes (s.places.length : Int)))) bu pl be mo) (at' (at' s.reached (s.places.length : Int)) i) (IntKind.wrap .i64 (persons + at' s.sizes (s.places.length : Int)))).free.length) ∧
     put' (Aq self_ (Ar.mk s.sizes re (put' fr (at' (at' s.reached (s.places.length : Int)) i) (IntKind.wrap .i64 (at' fr (at' (at' s.reached (s.places.length : Int)) i) - at' s.sizes (s.places.length : Int)))) bu pl be mo) (at' (at' s.reached (s.places.length : Int)) i) (IntKind.wrap .i64 (persons + at' s.sizes (s.places.length : Int)))).free (at' (at' s.reached (s.places.length : Int)) i) (IntKind.wrap .i64 (at' (Aq self_ (Ar.mk s.sizes re (put' fr (at' (at' s.reached (s.places.length : Int)) i) (IntKind.wrap .i64 (at' fr (at' (at' s.reached (s.places.length : Int)) i) - at' s.sizes (s.places.length : Int)))) bu pl be mo) (at' (at' s.reached (s.places.length : Int)) i) (IntKind.wrap .i64 (persons + at' s.sizes (s.places.length : Int)))).free (at' (at' s.reached (s.places.length : Int)) i) + at' s.sizes (s.places.length : Int))) = s.free) := by
  subst e1 e2 e3
  have hmem := at_mem (xs := at' s.reached (s.places.length : Int)) hi
  have hat := hp.at_ hlt hmem
  have hsm := hp.sm
  have hsl := hp.sl
  have hg := hp.rng (s.places.length + 1)
  have w1 : IntKind.wrap .i64 (persons + at' s.sizes (s.places.length : Int)) = persons + at' s.sizes (s.places.length : Int) := wr64 (by omega)
  have w2 : IntKind.wrap .i64 (at' s.free (at' (at' s.reached (s.places.length : Int)) i) - at' s.sizes (s.places.length : Int)) = at' s.free (at' (at' s.reached (s.places.length : Int)) i) - at' s.sizes (s.places.length : Int) := wr64 (by omega)
  rw [behind_is hp, w1, wr64 (by omega)] at hm
  have hN := hp.next hlt hmem hn
  rw [w1, w2]
  have hk := node_keep hself (s := Ar.mk s.sizes s.reached (put' s.free (at' (at' s.reached (s.places.length : Int)) i) (at' s.free (at' (at' s.reached (s.places.length : Int)) i) - at' s.sizes (s.places.length : Int))) bu s.places be mo) hN hb (by dsimp only; omega) (by dsimp only; omega)
  dsimp only at hk
  refine ⟨hN, by omega, by omega, hk.1, hk.2.2.1, hk.2.2.2, ⟨hat.1.1, by rw [hk.2.1, put_len]; exact hat.1.2⟩, ?_⟩
  rw [hk.2.1, put_at hat.1, wr64 (by omega)]
  exact put_back hat.1 (by omega)
theorem visit_last {s : Ar} {persons : Int} {fuel : Nat} (hp : PI s.sizes s.reached s.free s.places persons) (hlt : s.places.length < s.sizes.length) (hf : s.sizes.length - s.places.length < fuel + 1)
    {re : List (List Int)} {fr pl : List Int} {mo : Int} (e1 : re = s.reached) (e2 : fr = s.free) (e3 : pl = s.places) (hm : mo < IntKind.wrap .i64 (persons + Ck (cut' s.sizes ((s.places.length : Int) + 1) (s.sizes.length : Int)))) :
    PI s.sizes re fr (pl ++ ([-1] : List Int)) persons ∧ mo < persons + rstf s.sizes (pl.length + 1) ∧ s.sizes.length - (pl.length + 1) < fuel := by
  subst e1 e2 e3
  have hsm := hp.sm
  have hsl := hp.sl
  have hg := hp.rng (s.places.length + 1)
  rw [behind_is hp, wr64 (by omega)] at hm
  exact ⟨hp.skip hlt, hm, by omega⟩
theorem PI.of {sizes : List Int} {rows : List (List Int)} {left : List Int} {n : Nat} (h1 : ∀ y ∈ sizes, 1 ≤ y ∧ y ≤ 200) (h2 : sizes.length ≤ 8) (h3 : rows.length = sizes.length) (h4 : ∀ l ∈ rows, ∀ r ∈ l, 0 ≤ r ∧ r < (n : Int)) (h5 : left.length = n) (h6 : ∀ y ∈ left, 0 ≤ y ∧ y ≤ 200) : PI sizes rows left [] 0 :=
  ⟨h1, h2, h3, fun l hl r hr => by have := h4 l hl r hr; omega, h6, by simp, by simp⟩
theorem PI.pos {sizes : List Int} {rows : List (List Int)} {left : List Int} (h : PI sizes rows left [] 0) : (-1 : Int) < 0 + rstf sizes (K_6.length) := by
  have := h.rng K_6.length
  omega
theorem app_all {α : Type} {xs : List α} {v : α} {Q : α → Prop} (h : ∀ y ∈ xs, Q y) (hv : Q v) : ∀ y ∈ xs ++ [v], Q y := by
  intro y hy
  rw [List.mem_append, List.mem_singleton] at hy
  rcases hy with hy | rfl
  · exact h y hy
  · exact hv
theorem asgI_idx {m : AH} {arr : List Int} {blocked : Int} {crews : List Bi} {start : Int} {list : List AI} (h : (AA m arr blocked crews start []).2 = 0) (hr : Bk m list = true) {i j : Int} (hi : 0 ≤ i ∧ i < crews.length) (hj : 0 ≤ j ∧ j < list.length) :
    0 ≤ (at' list j).Junction ∧ (at' list j).Junction < ((Bm (AA m arr blocked crews start []).1 (at' crews i) start).length : Int) := by
  have g := escapeN_imp h
  have hc : CrewIn m (at' crews i) := at_all g.2.2.1.2 hi
  rw [g.1, times_eq g.2.1 hc g.2.2.2.1]
  have h1 := (times_SmB (arr := arr) (blocked := blocked) g.2.1 hc g.2.2.2.1).1
  have h2 := at_all (ValidRefuges_imp hr).2 hj
  omega
theorem bud_in {b : Int} (h : Co b = true) : 1 ≤ b ∧ b ≤ 20000 := by
  have : A0 b 1 20000 = true := h
  exact l00In_imp this

end Go.Proofs.YtibbfdojcdkopaaGreat
