/-
  PLAIN LAWS about the models: no program in sight. Conditions: as each theorem states them.
-/
import Derived.Test.YtibbfdojcdkopaaExactAssignCrewsPlain16
set_option linter.unusedVariables false
set_option linter.unusedSimpArgs false
set_option linter.unusedSectionVars false
set_option linter.unnecessarySimpa false
namespace Go.Proofs.Ytibbfdojcdkopaa
open Go Go.RowKit Go.Proofs Go.Proofs.Ytibbfdojcdkopaa.E
/-! ## What the walks of AssignCrews ask -/
theorem post_spec_l20Search_run (fuel : Nat) : ∀ (x : gl20Search) (sum : Int), PI x.sizes x.reach x.left x.places sum → RestOk x.sizes x.rest → (0 ≤ x.nodes ∧ x.nodes ≤ x.budget ∧ x.budget ≤ 20000) → x.most < sum + rstf x.sizes x.places.length → x.sizes.length - x.places.length < fuel →
    (m_spec_l20Search_run_n fuel x sum).reach = x.reach ∧ (m_spec_l20Search_run_n fuel x sum).left = x.left ∧ (m_spec_l20Search_run_n fuel x sum).rest = x.rest ∧ (m_spec_l20Search_run_n fuel x sum).places = x.places ∧ 0 ≤ (m_spec_l20Search_run_n fuel x sum).nodes ∧ (m_spec_l20Search_run_n fuel x sum).nodes ≤ x.budget := by
  intro x sum h1 h2 h3 h4 h5
  rw [runS_is fuel x sum h1 h2 h3 h4 h5]
  have hok := psrch_ok (sizes := x.sizes) (reach := x.reach) (B := x.budget) fuel x.left x.places sum ⟨x.best, x.most, x.nodes, x.full⟩ ⟨h3.1, h3.2.1⟩
  exact ⟨rfl, rfl, rfl, rfl, hok.1, hok.2⟩
theorem post_impl_placeSearch_visit (fuel : Nat) : ∀ (s : gplaceSearch) (sum : Int), PI s.sizes s.reached s.free s.places sum → (-1 ≤ s.budget ∧ s.budget ≤ 20000) → s.most < sum + rstf s.sizes s.places.length → s.sizes.length - s.places.length < fuel →
    (m_impl_placeSearch_visit_n fuel s sum).reached = s.reached ∧ (m_impl_placeSearch_visit_n fuel s sum).free = s.free ∧ (m_impl_placeSearch_visit_n fuel s sum).places = s.places ∧ -1 ≤ (m_impl_placeSearch_visit_n fuel s sum).budget ∧ (m_impl_placeSearch_visit_n fuel s sum).budget ≤ 20000 := by
  intro s sum h1 h2 h4 h5
  by_cases hb : s.budget = -1
  · rw [visI_is 20000 (by omega) fuel s sum 0 true h1 ⟨by omega, by omega⟩ (by rw [hb]; rfl) h4 h5]
    have hok := psrch_ok (sizes := s.sizes) (reach := s.reached) (B := 20000) fuel s.free s.places sum ⟨s.best, s.most, 0, true⟩ ⟨by dsimp only; omega, by dsimp only; omega⟩
    refine ⟨rfl, rfl, rfl, ?_⟩
    dsimp only [implOut, bud]
    unfold Pst.ok at hok
    split <;> omega
  · rw [visI_is s.budget (by omega) fuel s sum 0 false h1 ⟨by omega, by omega⟩ (by simp [bud]) h4 h5]
    have hok := psrch_ok (sizes := s.sizes) (reach := s.reached) (B := s.budget) fuel s.free s.places sum ⟨s.best, s.most, 0, false⟩ ⟨by dsimp only; omega, by dsimp only; omega⟩
    refine ⟨rfl, rfl, rfl, ?_⟩
    dsimp only [implOut, bud]
    unfold Pst.ok at hok
    split <;> omega
def HS (self_ : gplaceSearch → Int → gplaceSearch) (fuel : Nat) : Prop := ∀ (s : gplaceSearch) (sum : Int), PI s.sizes s.reached s.free s.places sum → (-1 ≤ s.budget ∧ s.budget ≤ 20000) → s.most < sum + rstf s.sizes s.places.length → s.sizes.length - s.places.length < fuel → (self_ s sum).reached = s.reached ∧ (self_ s sum).free = s.free ∧ (self_ s sum).places = s.places ∧ -1 ≤ (self_ s sum).budget ∧ (self_ s sum).budget ≤ 20000
theorem node_keep {self_ : gplaceSearch → Int → gplaceSearch} {fuel : Nat} (hself : HS self_ fuel) {s : gplaceSearch} {place persons : Int} (h1 : PI s.sizes s.reached s.free (s.places ++ ([place] : List Int)) persons) (h2 : -1 ≤ s.budget ∧ s.budget ≤ 20000) (h3 : s.most < persons + rstf s.sizes (s.places.length + 1)) (h4 : s.sizes.length - (s.places.length + 1) < fuel) :
    (m_impl_placeSearch_node self_ s place persons).reached = s.reached ∧ (m_impl_placeSearch_node self_ s place persons).free = s.free ∧ (m_impl_placeSearch_node self_ s place persons).places = s.places ∧ -1 ≤ (m_impl_placeSearch_node self_ s place persons).budget ∧ (m_impl_placeSearch_node self_ s place persons).budget ≤ 20000 := by
  have hw : IntKind.wrap .i64 (s.budget - 1) = s.budget - 1 := wr64 (by omega)
  have hpl := h1.pl
  have hsl := h1.sl
  have hla : (s.places ++ ([place] : List Int)).length = s.places.length + 1 := by simp
  simp only [m_impl_placeSearch_node, hw]
  by_cases c1 : s.budget < 0
  · simp only [c1, decide_true, Bool.cond_true]; exact ⟨trivial, trivial, trivial, h2⟩
  · simp only [c1, decide_false, Bool.cond_false]
    by_cases c2 : s.budget - 1 < 0
    · simp only [c2, decide_true, Bool.cond_true]; exact ⟨trivial, trivial, trivial, by omega, by omega⟩
    · simp only [c2, decide_false, Bool.cond_false]
      have hq := hself (gplaceSearch.mk s.sizes s.reached s.free (s.budget - 1) (s.places ++ ([place] : List Int)) s.best s.most) persons h1 ⟨by dsimp only; omega, by dsimp only; omega⟩ (by dsimp only; rw [hla]; exact h3) (by dsimp only; rw [hla]; exact h4)
      dsimp only at hq
      refine ⟨hq.1, hq.2.1, ?_, hq.2.2.2⟩
      rw [hq.2.2.1]
      exact app_cutW (by omega)
theorem visit_step {s : gplaceSearch} {persons : Int} {fuel : Nat} {self_ : gplaceSearch → Int → gplaceSearch} (hself : HS self_ fuel) (hp : PI s.sizes s.reached s.free s.places persons) (hlt : s.places.length < s.sizes.length) (hf : s.sizes.length - s.places.length < fuel + 1)
    {re : List (List Int)} {fr pl be : List Int} {bu mo i : Int} (e1 : re = s.reached) (e2 : fr = s.free) (e3 : pl = s.places) (hb : -1 ≤ bu ∧ bu ≤ 20000) (hi : 0 ≤ i ∧ i < ((at' s.reached (s.places.length : Int)).length : Int)) (hn : at' s.sizes (s.places.length : Int) ≤ at' fr (at' (at' s.reached (s.places.length : Int)) i))
    (hm : mo < IntKind.wrap .i64 (IntKind.wrap .i64 (persons + at' s.sizes (s.places.length : Int)) + m_impl_sumOf (cut' s.sizes ((s.places.length : Int) + 1) (s.sizes.length : Int)))) :
    PI s.sizes re (put' fr (at' (at' s.reached (s.places.length : Int)) i) (IntKind.wrap .i64 (at' fr (at' (at' s.reached (s.places.length : Int)) i) - at' s.sizes (s.places.length : Int)))) (pl ++ ([at' (at' s.reached (s.places.length : Int)) i] : List Int)) (IntKind.wrap .i64 (persons + at' s.sizes (s.places.length : Int))) ∧
    mo < IntKind.wrap .i64 (persons + at' s.sizes (s.places.length : Int)) + rstf s.sizes (pl.length + 1) ∧ s.sizes.length - (pl.length + 1) < fuel ∧
    ((m_impl_placeSearch_node self_ (gplaceSearch.mk s.sizes re (put' fr (at' (at' s.reached (s.places.length : Int)) i) (IntKind.wrap .i64 (at' fr (at' (at' s.reached (s.places.length : Int)) i) - at' s.sizes (s.places.length : Int)))) bu pl be mo) (at' (at' s.reached (s.places.length : Int)) i) (IntKind.wrap .i64 (persons + at' s.sizes (s.places.length : Int)))).reached = s.reached ∧
     (m_impl_placeSearch_node self_ (gplaceSearch.mk s.sizes re (put' fr (at' (at' s.reached (s.places.length : Int)) i) (IntKind.wrap .i64 (at' fr (at' (at' s.reached (s.places.length : Int)) i) - at' s.sizes (s.places.length : Int)))) bu pl be mo) (at' (at' s.reached (s.places.length : Int)) i) (IntKind.wrap .i64 (persons + at' s.sizes (s.places.length : Int)))).places = s.places ∧
     (-1 ≤ (m_impl_placeSearch_node self_ (gplaceSearch.mk s.sizes re (put' fr (at' (at' s.reached (s.places.length : Int)) i) (IntKind.wrap .i64 (at' fr (at' (at' s.reached (s.places.length : Int)) i) - at' s.sizes (s.places.length : Int)))) bu pl be mo) (at' (at' s.reached (s.places.length : Int)) i) (IntKind.wrap .i64 (persons + at' s.sizes (s.places.length : Int)))).budget ∧
      (m_impl_placeSearch_node self_ (gplaceSearch.mk s.sizes re (put' fr (at' (at' s.reached (s.places.length : Int)) i) (IntKind.wrap .i64 (at' fr (at' (at' s.reached (s.places.length : Int)) i) - at' s.sizes (s.places.length : Int)))) bu pl be mo) (at' (at' s.reached (s.places.length : Int)) i) (IntKind.wrap .i64 (persons + at' s.sizes (s.places.length : Int)))).budget ≤ 20000) ∧
     (0 ≤ at' (at' s.reached (s.places.length : Int)) i ∧ at' (at' s.reached (s.places.length : Int)) i < (m_impl_placeSearch_node self_ (gplaceSearch.mk s.sizes re (put' fr (at' (at' s.reached (s.places.length : Int)) i) (IntKind.wrap .i64 (at' fr (at' (at' s.reached (s.places.length : Int)) i) - at' s.sizes (s.places.length : Int)))) bu pl be mo) (at' (at' s.reached (s.places.length : Int)) i) (IntKind.wrap .i64 (persons + at' s.sizes (s.places.length : Int)))).free.length) ∧
     put' (m_impl_placeSearch_node self_ (gplaceSearch.mk s.sizes re (put' fr (at' (at' s.reached (s.places.length : Int)) i) (IntKind.wrap .i64 (at' fr (at' (at' s.reached (s.places.length : Int)) i) - at' s.sizes (s.places.length : Int)))) bu pl be mo) (at' (at' s.reached (s.places.length : Int)) i) (IntKind.wrap .i64 (persons + at' s.sizes (s.places.length : Int)))).free (at' (at' s.reached (s.places.length : Int)) i) (IntKind.wrap .i64 (at' (m_impl_placeSearch_node self_ (gplaceSearch.mk s.sizes re (put' fr (at' (at' s.reached (s.places.length : Int)) i) (IntKind.wrap .i64 (at' fr (at' (at' s.reached (s.places.length : Int)) i) - at' s.sizes (s.places.length : Int)))) bu pl be mo) (at' (at' s.reached (s.places.length : Int)) i) (IntKind.wrap .i64 (persons + at' s.sizes (s.places.length : Int)))).free (at' (at' s.reached (s.places.length : Int)) i) + at' s.sizes (s.places.length : Int))) = s.free) := by
  subst e1 e2 e3
  have hmem := at_mem (xs := at' s.reached (s.places.length : Int)) hi
  have hat := hp.at_ hlt hmem
  have hsm := hp.sm
  have hsl := hp.sl
  have hg := hp.rng (s.places.length + 1)
  have w1 : IntKind.wrap .i64 (persons + at' s.sizes (s.places.length : Int)) = persons + at' s.sizes (s.places.length : Int) := wr64 (by omega)
  have w2 : IntKind.wrap .i64 (at' s.free (at' (at' s.reached (s.places.length : Int)) i) - at' s.sizes (s.places.length : Int)) = at' s.free (at' (at' s.reached (s.places.length : Int)) i) - at' s.sizes (s.places.length : Int) := wr64 (by omega)
  rw [behind_is hp, w1, wr64 (by omega)] at hm
  have hN := hp.next hlt hmem hn
  rw [w1, w2]
  have hk := node_keep hself (s := gplaceSearch.mk s.sizes s.reached (put' s.free (at' (at' s.reached (s.places.length : Int)) i) (at' s.free (at' (at' s.reached (s.places.length : Int)) i) - at' s.sizes (s.places.length : Int))) bu s.places be mo) hN hb (by dsimp only; omega) (by dsimp only; omega)
  dsimp only at hk
  refine ⟨hN, by omega, by omega, hk.1, hk.2.2.1, hk.2.2.2, ⟨hat.1.1, by rw [hk.2.1, put_len]; exact hat.1.2⟩, ?_⟩
  rw [hk.2.1, put_at hat.1, wr64 (by omega)]
  exact put_back hat.1 (by omega)
theorem visit_last {s : gplaceSearch} {persons : Int} {fuel : Nat} (hp : PI s.sizes s.reached s.free s.places persons) (hlt : s.places.length < s.sizes.length) (hf : s.sizes.length - s.places.length < fuel + 1)
    {re : List (List Int)} {fr pl : List Int} {mo : Int} (e1 : re = s.reached) (e2 : fr = s.free) (e3 : pl = s.places) (hm : mo < IntKind.wrap .i64 (persons + m_impl_sumOf (cut' s.sizes ((s.places.length : Int) + 1) (s.sizes.length : Int)))) :
    PI s.sizes re fr (pl ++ ([-1] : List Int)) persons ∧ mo < persons + rstf s.sizes (pl.length + 1) ∧ s.sizes.length - (pl.length + 1) < fuel := by
  subst e1 e2 e3
  have hsm := hp.sm
  have hsl := hp.sl
  have hg := hp.rng (s.places.length + 1)
  rw [behind_is hp, wr64 (by omega)] at hm
  exact ⟨hp.skip hlt, hm, by omega⟩
theorem PI.of {sizes : List Int} {rows : List (List Int)} {left : List Int} {n : Nat} (h1 : ∀ y ∈ sizes, 1 ≤ y ∧ y ≤ 200) (h2 : sizes.length ≤ 8) (h3 : rows.length = sizes.length) (h4 : ∀ l ∈ rows, ∀ r ∈ l, 0 ≤ r ∧ r < (n : Int)) (h5 : left.length = n) (h6 : ∀ y ∈ left, 0 ≤ y ∧ y ≤ 200) : PI sizes rows left [] 0 :=
  ⟨h1, h2, h3, fun l hl r hr => by have := h4 l hl r hr; omega, h6, by simp, by simp⟩
theorem PI.pos {sizes : List Int} {rows : List (List Int)} {left : List Int} (h : PI sizes rows left [] 0) : (-1 : Int) < 0 + rstf sizes (([] : List Int).length) := by
  have := h.rng ([] : List Int).length
  omega
theorem app_all {α : Type} {xs : List α} {v : α} {Q : α → Prop} (h : ∀ y ∈ xs, Q y) (hv : Q v) : ∀ y ∈ xs ++ [v], Q y := by
  intro y hy
  rw [List.mem_append, List.mem_singleton] at hy
  rcases hy with hy | rfl
  · exact h y hy
  · exact hv
theorem places_in {m : gMine} {list : List gRefuge} (h : m_spec_l20Ok m list = true) {i : Int} (hi : 0 ≤ i ∧ i < list.length) : 0 ≤ (at' list i).Places ∧ (at' list i).Places ≤ 200 := by
  have := at_all (l20Ok_pl h) hi
  omega
theorem places_inI {m : gMine} {list : List gRefuge} (h : m_impl_ValidRefuges m list = true) {i : Int} (hi : 0 ≤ i ∧ i < list.length) : 0 ≤ (at' list i).Places ∧ (at' list i).Places ≤ 200 := places_in (by rw [← refuges_eq]; exact h) hi
theorem asgS_idx {m : gMine} {arr : List Int} {blocked : Int} {crews : List gCrew} {start : Int} {list : List gRefuge} (hr : m_spec_l20Ok m list = true) (hc : m_spec_l19List m crews = true) (hs : m_spec_l17Time start = true) {i j : Int} (hi : 0 ≤ i ∧ i < crews.length) (hj : 0 ≤ j ∧ j < list.length) :
    0 ≤ (at' list j).Junction ∧ (at' list j).Junction < ((m_spec_l19Times m arr blocked (at' crews i) start).length : Int) := by
  have hm := l04Ok_imp (l20Ok_mine hr)
  have h1 := (times_SmB (arr := arr) (blocked := blocked) hm (at_all (l19List_imp hc).2 hi) (l17Time_imp hs)).1
  have h2 := at_all (l20Ok_imp hr).2 hj
  omega
theorem asgI_idx {m : gMine} {arr : List Int} {blocked : Int} {crews : List gCrew} {start : Int} {list : List gRefuge} (h : (m_impl_escapeOf m arr blocked crews start []).2 = 0) (hr : m_impl_ValidRefuges m list = true) {i j : Int} (hi : 0 ≤ i ∧ i < crews.length) (hj : 0 ≤ j ∧ j < list.length) :
    0 ≤ (at' list j).Junction ∧ (at' list j).Junction < ((m_impl_escape_times (m_impl_escapeOf m arr blocked crews start []).1 (at' crews i) start).length : Int) := by
  have g := escapeN_imp h
  have hc : CrewIn m (at' crews i) := at_all g.2.2.1.2 hi
  rw [g.1, times_eq g.2.1 hc g.2.2.2.1]
  have h1 := (times_SmB (arr := arr) (blocked := blocked) g.2.1 hc g.2.2.2.1).1
  have h2 := at_all (ValidRefuges_imp hr).2 hj
  omega
def RestTo (sizes rest : List Int) (i : Int) : Prop := rest.length = sizes.length + 1 ∧ ∀ q : Nat, i < (q : Int) → q ≤ sizes.length → at' rest (q : Int) = rstf sizes q
theorem RestTo.init (sizes : List Int) : RestTo sizes (List.replicate ((sizes.length : Int) + 1 : Int).toNat (0 : Int)) ((sizes.length : Int) - 1) := by
  refine ⟨by simp, fun q h1 h2 => ?_⟩
  have : q = sizes.length := by omega
  subst this
  unfold rstf at'
  simp
theorem RestTo.next {sizes rest : List Int} {i : Int} (h : RestTo sizes rest i) (hi : 0 ≤ i ∧ i < sizes.length) (hl : sizes.length ≤ 8) (hz : ∀ y ∈ sizes, 1 ≤ y ∧ y ≤ 200) : RestTo sizes (put' rest i (IntKind.wrap .i64 (at' rest (i + 1) + at' sizes i))) (i - 1) := by
  have hn := h.2 (i.toNat + 1) (by omega) (by omega)
  have hn' : at' rest (i + 1) = rstf sizes (i.toNat + 1) := by rw [← hn]; congr 1; omega
  have hs := rstf_succ (sizes := sizes) (k := i.toNat) (by omega)
  have hs' : at' sizes ((i.toNat : Nat) : Int) = at' sizes i := by congr 1; omega
  have hv := at_all hz (i := i) hi
  have hr := sum_rng (sizes.drop (i.toNat + 1)) (fun y hy => hz y (List.mem_of_mem_drop hy))
  rw [List.length_drop] at hr
  have hr' : 0 ≤ rstf sizes (i.toNat + 1) ∧ rstf sizes (i.toNat + 1) ≤ 1600 := by unfold rstf; omega
  have hlen := h.1
  refine ⟨by rw [put_len]; exact h.1, fun q g1 g2 => ?_⟩
  rw [hn', wr64 (by omega)]
  by_cases hq : (q : Int) = i
  · rw [hq, put_at ⟨hi.1, by omega⟩]
    have : q = i.toNat := by omega
    subst this
    rw [hs, hs']; omega
  · rw [put_at_ne hi.1 (by omega) (fun e => hq e.symm)]
    exact h.2 q (by omega) g2
theorem RestTo.ok {sizes rest : List Int} {i : Int} (h : RestTo sizes rest i) (hi : i < 0) : RestOk sizes rest := ⟨h.1, fun k hk => h.2 k (by omega) hk⟩
theorem sizes_in {sizes : List Int} (h : m_spec_l20Sizes sizes = true) : ∀ y ∈ sizes, 1 ≤ y ∧ y ≤ 200 := allWithin_iff.1 (by rw [← l20Sizes_eq]; exact h)
theorem bud_in {b : Int} (h : m_impl_budgetValid b = true) : 1 ≤ b ∧ b ≤ 20000 := by
  have : m_spec_l00In b 1 20000 = true := h
  exact l00In_imp this
theorem guardS {A : Bool} {X : gl20Search} {bound : Int} {a : List Int} {b : List (List Int)} {c d e f : List Int} {g hh : Int} (h : 0 ≤ X.nodes ∧ X.nodes ≤ X.budget ∧ X.budget ≤ 20000) : 0 ≤ (bif !A then (gl20Search.mk a b c d e f g (m_spec_l20Search_node X bound).2.nodes hh (m_spec_l20Search_node X bound).2.full) else X).nodes ∧ (bif !A then (gl20Search.mk a b c d e f g (m_spec_l20Search_node X bound).2.nodes hh (m_spec_l20Search_node X bound).2.full) else X).nodes ≤ X.budget := by
  cases A with
  | true => simp only [Bool.not_true, Bool.cond_false]; omega
  | false =>
    simp only [Bool.not_false, Bool.cond_true]
    rw [nodeS_is X bound (by omega)]
    split
    · dsimp only; omega
    · split
      · dsimp only; omega
      · split
        · dsimp only; omega
        · dsimp only; omega
theorem guardN {X : gl20Search} {bound : Int} (h : 0 ≤ X.nodes ∧ X.nodes ≤ X.budget ∧ X.budget ≤ 20000) : (0 ≤ (m_spec_l20Search_node X bound).2.nodes ∧ (m_spec_l20Search_node X bound).2.nodes ≤ X.budget) ∧ ((m_spec_l20Search_node X bound).1 = true → X.most < bound) := by
  rw [nodeS_is X bound (by omega)]
  split
  · exact ⟨by dsimp only; omega, fun h => by simp at h⟩
  · split
    · exact ⟨by dsimp only; omega, fun h => by simp at h⟩
    · split
      · exact ⟨by dsimp only; omega, fun h => by simp at h⟩
      · exact ⟨by dsimp only; omega, fun _ => by omega⟩
theorem guardT {x : gl20Search} {sum : Int} (hp : PI x.sizes x.reach x.left x.places sum) (hr : RestOk x.sizes x.rest) (hlt : x.places.length < x.sizes.length) {X : gl20Search} {le rs : List Int} {r : Int} (hX : 0 ≤ X.nodes ∧ X.nodes ≤ X.budget ∧ X.budget ≤ 20000) (e3 : rs = x.rest)
    (h : ((decide (at' le r < at' x.sizes (x.places.length : Int))) || (!(m_spec_l20Search_node X (IntKind.wrap .i64 (sum + at' rs (x.places.length : Int)))).1)) = false) : at' x.sizes (x.places.length : Int) ≤ at' le r ∧ X.most < sum + at' x.sizes (x.places.length : Int) + rstf x.sizes (x.places.length + 1) := by
  subst e3
  have hr0 := hr.val x.places.length (by omega)
  have hs1 := rstf_succ hlt
  have hg := hp.rng (x.places.length + 1)
  have hsm := hp.sm
  have hsl := hp.sl
  have hv := at_all hp.sz (i := (x.places.length : Int)) ⟨by omega, by omega⟩
  rw [Bool.or_eq_false_iff, decide_eq_false_iff_not, Bool.not_eq_false'] at h
  have h2 := (guardN hX).2 h.2
  rw [hr0, hs1, wr64 (by omega)] at h2
  omega
theorem guardL {x : gl20Search} {sum : Int} (hp : PI x.sizes x.reach x.left x.places sum) (hr : RestOk x.sizes x.rest) (hlt : x.places.length < x.sizes.length) {X : gl20Search} {rs : List Int} (hX : 0 ≤ X.nodes ∧ X.nodes ≤ X.budget ∧ X.budget ≤ 20000) (e3 : rs = x.rest)
    (h : (m_spec_l20Search_node X (IntKind.wrap .i64 (sum + at' rs ((x.places.length : Int) + 1)))).1 = true) : X.most < sum + rstf x.sizes (x.places.length + 1) := by
  subst e3
  have hr1 := hr.val (x.places.length + 1) (by omega)
  have hr1' : at' x.rest ((x.places.length : Int) + 1) = rstf x.sizes (x.places.length + 1) := by rw [← hr1]; congr 1
  have hg := hp.rng (x.places.length + 1)
  have hsm := hp.sm
  have hsl := hp.sl
  have h2 := (guardN hX).2 h
  rw [hr1', wr64 (by omega)] at h2
  exact h2
theorem stepS {x : gl20Search} {sum : Int} (hp : PI x.sizes x.reach x.left x.places sum) (hlt : x.places.length < x.sizes.length) {re : List (List Int)} {le pl : List Int} {mo r i : Int} (e1 : re = x.reach) (e2 : le = x.left) (e4 : pl = x.places) (hi : 0 ≤ i ∧ i < ((at' x.reach (x.places.length : Int)).length : Int)) (er : r = at' (at' re (x.places.length : Int)) i)
    (hg : at' x.sizes (x.places.length : Int) ≤ at' le r ∧ mo < sum + at' x.sizes (x.places.length : Int) + rstf x.sizes (x.places.length + 1)) :
    PI x.sizes re (put' le r (IntKind.wrap .i64 (at' le r - at' x.sizes (x.places.length : Int)))) (pl ++ ([r] : List Int)) (IntKind.wrap .i64 (sum + at' x.sizes (x.places.length : Int))) ∧ mo < IntKind.wrap .i64 (sum + at' x.sizes (x.places.length : Int)) + rstf x.sizes (pl ++ ([r] : List Int)).length ∧ (0 ≤ r ∧ r < le.length) := by
  subst e1 e2 e4 er
  have hmem := at_mem (xs := at' x.reach (x.places.length : Int)) hi
  have hat := hp.at_ hlt hmem
  have hsm := hp.sm
  have hsl := hp.sl
  have w1 : IntKind.wrap .i64 (sum + at' x.sizes (x.places.length : Int)) = sum + at' x.sizes (x.places.length : Int) := wr64 (by omega)
  have w2 : IntKind.wrap .i64 (at' x.left (at' (at' x.reach (x.places.length : Int)) i) - at' x.sizes (x.places.length : Int)) = at' x.left (at' (at' x.reach (x.places.length : Int)) i) - at' x.sizes (x.places.length : Int) := wr64 (by omega)
  rw [w1, w2]
  exact ⟨hp.next hlt hmem hg.1, by simp only [List.length_append, List.length_cons, List.length_nil, Nat.zero_add]; omega, hat.1⟩
theorem backS {x : gl20Search} {sum : Int} (hp : PI x.sizes x.reach x.left x.places sum) (hlt : x.places.length < x.sizes.length) {le l2 : List Int} {r : Int} (e2 : le = x.left) (hr : 0 ≤ r ∧ r < le.length) (hv : l2 = put' le r (IntKind.wrap .i64 (at' le r - at' x.sizes (x.places.length : Int)))) :
    put' l2 r (IntKind.wrap .i64 (at' l2 r + at' x.sizes (x.places.length : Int))) = x.left ∧ r < l2.length := by
  subst hv e2
  have h1 := at_all hp.sz (i := (x.places.length : Int)) ⟨by omega, by omega⟩
  have h2 := at_all hp.lf hr
  rw [put_at hr, wr64 (n := at' x.left r - at' x.sizes (x.places.length : Int)) (by omega), wr64 (by omega)]
  exact ⟨put_back hr (by omega), by rw [put_len]; exact hr.2⟩
theorem cutS {pl p2 : List Int} {x : List Int} {y : Int} (e : p2 = pl ++ ([y] : List Int)) (e4 : pl = x) : pre' p2 (x.length : Int) = x ∧ (x.length : Int) ≤ p2.length := by
  subst e e4
  exact ⟨app_pre, by simp; omega⟩

end Go.Proofs.Ytibbfdojcdkopaa
