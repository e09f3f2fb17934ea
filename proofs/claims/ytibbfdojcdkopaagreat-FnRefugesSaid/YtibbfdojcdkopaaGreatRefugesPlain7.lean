/-
  PLAIN LAWS about the models: no program in sight. Conditions: as each theorem states them.
-/
import Derived.Test.YtibbfdojcdkopaaGreatRefugesPlain6
set_option linter.unusedVariables false
set_option linter.unusedSimpArgs false
set_option linter.unusedSectionVars false
set_option linter.unnecessarySimpa false
namespace Go.Proofs.YtibbfdojcdkopaaGreat
open Go Go.RowKit Go.Proofs Go.Proofs.YtibbfdojcdkopaaGreat.E

/-! ## Loops that pick some places of a list -/
def sel (p : Int → Bool) (g : Int → Int) : Nat → Int → List Int
  | 0, _ => []
  | m + 1, i => (if p i then [g i] else []) ++ sel p g m (i + 1)
theorem filt_loop {ρ : Type} {n : Nat} {p : Int → Bool} {g : Int → Int} {b : ((List Int × Int) → ρ) → ((List Int × Int) → ρ) → (List Int × Int) → ρ} {k : (List Int × Int) → ρ}
    (hb : ∀ rec x, b rec k x = bif decide (x.2 < (n : Int)) then bif p x.2 then rec (x.1 ++ ([g x.2] : List Int), x.2 + 1) else rec (x.1, x.2 + 1) else k (x.1, x.2)) :
    LOOP b k (((n : Int) - 0 : Int).toNat + 1) (K_6, 0) = k (sel p g n 0, (n : Int)) := by
  have := LOOP_is (b := b) (k := k) (fun x : List Int × Int => 0 ≤ x.2 ∧ x.2 ≤ n) (fun x => ((n : Int) - x.2).toNat) (fun x => k (x.1 ++ sel p g ((n : Int) - x.2).toNat x.2, (n : Int))) (fun rec x hI ih => ?_) (f := ((n : Int) - 0 : Int).toNat + 1) (x := (K_6, (0 : Int))) ⟨by simp, by simp⟩ (by simp)
  · rw [this]; simp
  · obtain ⟨l, i⟩ := x
    obtain ⟨h0, h1⟩ := hI
    simp only at h0 h1
    rw [hb]
    simp only
    by_cases hi : i < (n : Int)
    · have e : ((n : Int) - i).toNat = ((n : Int) - (i + 1)).toNat + 1 := by omega
      simp only [hi, decide_true, Bool.cond_true]
      cases hp : p i with
      | true =>
        simp only [Bool.cond_true]
        rw [ih _ ⟨by simp only; omega, by simp only; omega⟩ (by simp only; omega)]
        simp only; rw [e, sel, if_pos hp, List.append_assoc]
      | false =>
        simp only [Bool.cond_false]
        rw [ih _ ⟨by simp only; omega, by simp only; omega⟩ (by simp only; omega)]
        simp only; rw [e, sel, if_neg (by simp [hp]), List.nil_append]
    · have : i = n := by omega
      subst this
      simp [sel]
theorem sel_all {g : Int → Int} : ∀ (m : Nat) (i : Int), sel (fun _ => true) g m i = (List.range m).map fun (j : Nat) => g (i + (j : Int))
  | 0, _ => rfl
  | m + 1, i => by
    rw [sel, sel_all m (i + 1), List.range_succ_eq_map]
    simp only [if_true, List.map_cons, List.map_map, List.singleton_append]
    congr 1
    · simp
    · apply List.map_congr_left; intro j _; simp only [Function.comp]; congr 1; omega
theorem sel_mem {p : Int → Bool} {g : Int → Int} : ∀ (m : Nat) (i : Int), ∀ y ∈ sel p g m i, ∃ j, i ≤ j ∧ j < i + m ∧ y = g j
  | 0, _, y, h => by simp [sel] at h
  | m + 1, i, y, h => by
    rw [sel, List.mem_append] at h
    rcases h with h | h
    · by_cases hp : p i = true
      · rw [if_pos hp] at h; exact ⟨i, by omega, by omega, by simpa using h⟩
      · rw [if_neg hp] at h; simp at h
    · obtain ⟨j, h1, h2, h3⟩ := sel_mem m (i + 1) y h
      exact ⟨j, by omega, by omega, h3⟩
/-! ## AssignCrews: one search behind both -/
structure Pst where
  best : List Int
  most : Int
  nodes : Int
  full : Bool
def pnode (B : Int) (st : Pst) (bound : Int) (k : Pst → Pst) : Pst :=
  if bound ≤ st.most then st else if st.full = true then st else if st.nodes = B then ⟨st.best, st.most, st.nodes, true⟩ else k ⟨st.best, st.most, st.nodes + 1, false⟩
def rstf (sizes : List Int) (k : Nat) : Int := (sizes.drop k).sum
def pstep (B : Int) (left : List Int) (n rest sum : Int) (k : List Int → Int → Pst → Pst) (st : Pst) (r : Int) : Pst :=
  if at' left r < n then st else pnode B st (sum + n + rest) (k (put' left r (at' left r - n)) r)
def psrch (sizes : List Int) (reach : List (List Int)) (B : Int) : Nat → List Int → List Int → Int → Pst → Pst
  | 0, _, _, _, st => st
  | f + 1, left, places, sum, st =>
    if places.length = sizes.length then ⟨places, sum, st.nodes, st.full⟩
    else pnode B ((at' reach (places.length : Int)).foldl (pstep B left (at' sizes (places.length : Int)) (rstf sizes (places.length + 1)) sum fun left' r => psrch sizes reach B f left' (places ++ [r]) (sum + at' sizes (places.length : Int))) st) (sum + rstf sizes (places.length + 1)) (psrch sizes reach B f left (places ++ [-1]) sum)
structure PI (sizes : List Int) (reach : List (List Int)) (left places : List Int) (sum : Int) : Prop where
  sz : ∀ y ∈ sizes, 1 ≤ y ∧ y ≤ 200
  sl : sizes.length ≤ 8
  rl : reach.length = sizes.length
  rr : ∀ l ∈ reach, ∀ r ∈ l, 0 ≤ r ∧ r < left.length
  lf : ∀ y ∈ left, 0 ≤ y ∧ y ≤ 200
  pl : places.length ≤ sizes.length
  sm : 0 ≤ sum ∧ sum ≤ 200 * places.length
theorem PI.at_ {sizes : List Int} {reach : List (List Int)} {left places : List Int} {sum : Int} (h : PI sizes reach left places sum) (hlt : places.length < sizes.length) {r : Int} (hr : r ∈ at' reach (places.length : Int)) : (0 ≤ r ∧ r < left.length) ∧ (1 ≤ at' sizes (places.length : Int) ∧ at' sizes (places.length : Int) ≤ 200) ∧ 0 ≤ at' left r ∧ at' left r ≤ 200 := by
  have h1 := h.rr _ (at_mem (xs := reach) (i := (places.length : Int)) ⟨by omega, by have := h.rl; omega⟩) r hr
  exact ⟨h1, at_all h.sz ⟨by omega, by omega⟩, at_all h.lf h1⟩
theorem PI.next {sizes : List Int} {reach : List (List Int)} {left places : List Int} {sum : Int} (h : PI sizes reach left places sum) (hlt : places.length < sizes.length) {r : Int} (hr : r ∈ at' reach (places.length : Int)) (hn : at' sizes (places.length : Int) ≤ at' left r) :
    PI sizes reach (put' left r (at' left r - at' sizes (places.length : Int))) (places ++ [r]) (sum + at' sizes (places.length : Int)) := by
  have h1 := h.at_ hlt hr
  have h2 := h.sm
  refine ⟨h.sz, h.sl, h.rl, fun l hl r hr => by rw [put_len]; exact h.rr l hl r hr, fun y hy => ?_, by simp only [List.length_append, List.length_cons, List.length_nil]; omega, by simp only [List.length_append, List.length_cons, List.length_nil]; omega⟩
  rcases List.mem_or_eq_of_mem_set hy with hy | hy
  · exact h.lf y hy
  · omega
theorem PI.skip {sizes : List Int} {reach : List (List Int)} {left places : List Int} {sum : Int} (h : PI sizes reach left places sum) (hlt : places.length < sizes.length) : PI sizes reach left (places ++ [-1]) sum := by
  have h2 := h.sm
  exact ⟨h.sz, h.sl, h.rl, h.rr, h.lf, by simp only [List.length_append, List.length_cons, List.length_nil]; omega, by simp only [List.length_append, List.length_cons, List.length_nil]; omega⟩
theorem rstf_succ {sizes : List Int} {k : Nat} (h : k < sizes.length) : rstf sizes k = at' sizes (k : Int) + rstf sizes (k + 1) := by
  unfold rstf
  rw [List.drop_eq_getElem_cons h, List.sum_cons, at_lt h]
theorem sum_rng : ∀ l : List Int, (∀ y ∈ l, 1 ≤ y ∧ y ≤ 200) → (l.length : Int) ≤ l.sum ∧ l.sum ≤ 200 * (l.length : Int)
  | [], _ => by simp
  | x :: l, h => by
    have h1 := sum_rng l (fun y hy => h y (List.mem_cons_of_mem _ hy))
    have h2 := h x (List.mem_cons_self ..)
    rw [List.sum_cons, List.length_cons]
    omega
theorem PI.rng {sizes : List Int} {reach : List (List Int)} {left places : List Int} {sum : Int} (h : PI sizes reach left places sum) (k : Nat) : 0 ≤ rstf sizes k ∧ rstf sizes k ≤ 1600 := by
  have h1 := sum_rng (sizes.drop k) (fun y hy => h.sz y (List.mem_of_mem_drop hy))
  have h2 := h.sl
  rw [List.length_drop] at h1
  unfold rstf
  omega
/-- nodes stay within the budget -/
def Pst.ok (B : Int) (st : Pst) : Prop := 0 ≤ st.nodes ∧ st.nodes ≤ B
theorem pnode_ok {B : Int} {st : Pst} {bound : Int} {k : Pst → Pst} (h : st.ok B) (hk : ∀ s, s.ok B → (k s).ok B) : (pnode B st bound k).ok B := by
  unfold pnode
  unfold Pst.ok at h
  split
  · exact h
  · split
    · exact h
    · split
      · exact h
      · exact hk _ ⟨by dsimp only; omega, by dsimp only; omega⟩
theorem fold_ok {B : Int} {left : List Int} {n rest sum : Int} {k : List Int → Int → Pst → Pst} (hk : ∀ l r s, s.ok B → (k l r s).ok B) : ∀ (L : List Int) (st : Pst), st.ok B → (L.foldl (pstep B left n rest sum k) st).ok B
  | [], _, h => h
  | r :: L, st, h => by
    rw [List.foldl_cons]
    refine fold_ok hk L _ ?_
    unfold pstep
    split
    · exact h
    · exact pnode_ok h (hk _ _)
theorem psrch_ok {sizes : List Int} {reach : List (List Int)} {B : Int} : ∀ (f : Nat) (left places : List Int) (sum : Int) (st : Pst), st.ok B → (psrch sizes reach B f left places sum st).ok B
  | 0, _, _, _, _, h => h
  | f + 1, left, places, sum, st, h => by
    rw [psrch]
    split
    · exact h
    · exact pnode_ok (fold_ok (fun l r s hs => psrch_ok f _ _ _ s hs) _ _ h) (fun s hs => psrch_ok f _ _ _ s hs)
theorem fold_take {B : Int} {left : List Int} {n rest sum : Int} {k : List Int → Int → Pst → Pst} {L : List Int} {st : Pst} {i : Int} (h : 0 ≤ i ∧ i < L.length) : (L.take (i + 1).toNat).foldl (pstep B left n rest sum k) st = pstep B left n rest sum k ((L.take i.toNat).foldl (pstep B left n rest sum k) st) (at' L i) := by
  have hlt : i.toNat < L.length := by omega
  have et : (i + 1).toNat = i.toNat + 1 := by omega
  have hat : at' L i = L[i.toNat] := by
    have := at_lt (xs := L) (j := i.toNat) hlt
    rwa [Int.toNat_of_nonneg h.1] at this
  rw [et, List.take_succ_eq_append_getElem hlt, List.foldl_append, hat]; rfl
theorem put_back {left : List Int} {r n v : Int} (h : 0 ≤ r ∧ r < left.length) (hv : v = at' left r) : put' (put' left r n) r v = left := by
  rw [put_put, hv]
  have e : at' left r = left[r.toNat]'(by omega) := by
    have := at_lt (xs := left) (j := r.toNat) (by omega)
    rwa [Int.toNat_of_nonneg h.1] at this
  rw [e]; unfold put'; exact List.set_getElem_self _
/-! ### The reference's search -/

/-! ### The program's search -/
theorem sumOf_is {l : List Int} (h : ∀ y ∈ l, 1 ≤ y ∧ y ≤ 200) (hl : l.length ≤ 1000) : Ck l = l.sum := by
  simp only [Ck]
  refine LOOP_is (b := DC l) (fun (x : Int × Int) => (0 ≤ x.2 ∧ x.2 ≤ l.length) ∧ x.1 = (l.take x.2.toNat).sum) (fun x => ((l.length : Int) - x.2).toNat) (fun _ => l.sum) (fun rec x hI ih => ?_) ⟨⟨by simp, by simp⟩, by simp⟩ (by simp)
  obtain ⟨s, i⟩ := x
  obtain ⟨⟨h0, h1⟩, h2⟩ := hI
  dsimp only at h0 h1 h2
  simp only [DC]
  by_cases hi : i < (l.length : Int)
  · have hlt : i.toNat < l.length := by omega
    have hat : at' l i = l[i.toNat] := by
      have := at_lt (xs := l) (j := i.toNat) hlt
      rwa [Int.toNat_of_nonneg h0] at this
    have et : (i + 1).toNat = i.toNat + 1 := by omega
    have hr := sum_rng (l.take i.toNat) (fun y hy => h y (List.mem_of_mem_take hy))
    have hv := at_all h ⟨h0, hi⟩
    rw [List.length_take] at hr
    simp only [hi, decide_true, Bool.cond_true]
    refine ih _ ⟨⟨by dsimp only; omega, by dsimp only; omega⟩, ?_⟩ (by dsimp only; omega)
    dsimp only
    rw [et, List.take_succ_eq_append_getElem hlt, List.sum_append, List.sum_cons, List.sum_nil, ← hat, h2, wr64 (by omega)]; omega
  · have : i = l.length := by omega
    subst this
    simp only [hi, decide_false, Bool.cond_false]
    rw [h2, Int.toNat_natCast, List.take_length]
theorem behind_is {sizes : List Int} {reach : List (List Int)} {left places : List Int} {sum : Int} (h : PI sizes reach left places sum) : Ck (cut' sizes ((places.length : Int) + 1) (sizes.length : Int)) = rstf sizes (places.length + 1) := by
  have e : cut' sizes ((places.length : Int) + 1) (sizes.length : Int) = sizes.drop (places.length + 1) := by
    unfold cut'
    rw [show ((places.length : Int) + 1).toNat = places.length + 1 by omega, Int.toNat_natCast, List.take_of_length_le (by rw [List.length_drop]; omega)]
  have hsl := h.sl
  rw [e, sumOf_is (fun y hy => h.sz y (List.mem_of_mem_drop hy)) (by rw [List.length_drop]; omega)]; rfl
theorem app_cutW {xs : List Int} {y : Int} (h : (xs.length : Int) ≤ 1000000) : pre' (xs ++ ([y] : List Int)) (IntKind.wrap .i64 (((xs ++ ([y] : List Int)).length : Int) - 1)) = xs := by
  rw [List.length_append, List.length_cons, List.length_nil, wr64 (by omega)]
  unfold pre'
  rw [show (((xs.length + (0 + 1) : Nat) : Int) - 1).toNat = xs.length by omega, List.take_left']
  rfl
def bud (B : Int) (st : Pst) : Int := if st.full = true then -1 else B - st.nodes
def implOut (s : Ar) (B : Int) (r : Pst) : Ar := Ar.mk s.sizes s.reached s.free (bud B r) s.places r.best r.most
theorem nodeI_is {self_ : Ar → Int → Ar} {sizes : List Int} {reach : List (List Int)} {left places : List Int} {sum p B : Int} {st : Pst} {k : Pst → Pst} (hpl : (places.length : Int) ≤ 1000000) (hst : st.ok B) (hB : B ≤ 20000)
    (hself : st.full = false → st.nodes < B → self_ (Ar.mk sizes reach left (B - (st.nodes + 1)) (places ++ ([p] : List Int)) st.best st.most) sum = Ar.mk sizes reach left (bud B (k ⟨st.best, st.most, st.nodes + 1, false⟩)) (places ++ ([p] : List Int)) (k ⟨st.best, st.most, st.nodes + 1, false⟩).best (k ⟨st.best, st.most, st.nodes + 1, false⟩).most) {bound : Int} (hb : st.most < bound) :
    Aq self_ (Ar.mk sizes reach left (bud B st) places st.best st.most) p sum = Ar.mk sizes reach left (bud B (pnode B st bound k)) places (pnode B st bound k).best (pnode B st bound k).most := by
  obtain ⟨be, mo, nd, fu⟩ := st
  dsimp only at *
  have hst' : 0 ≤ nd ∧ nd ≤ B := hst
  have hbn : ¬ bound ≤ mo := by omega
  simp only [Aq, pnode, if_neg hbn]
  cases fu with
  | true => simp [bud]
  | false =>
    by_cases hn : nd = B
    · subst hn
      have e1 : bud nd ⟨be, mo, nd, false⟩ = 0 := by simp [bud]
      have e2 : IntKind.wrap .i64 (-1) = -1 := wr64 (by omega)
      simp [e1, e2, bud]
    · have e1 : bud B ⟨be, mo, nd, false⟩ = B - nd := by simp [bud]
      have e2 : IntKind.wrap .i64 (B - nd - 1) = B - (nd + 1) := by rw [wr64 (by omega)]; omega
      have e3 : ¬ (B - nd < 0) := by omega
      have e4 : ¬ (B - (nd + 1) < 0) := by omega
      simp only [e1, e2, e3, e4, decide_false, Bool.cond_false, if_neg hn, Bool.false_eq_true, if_false]
      rw [hself rfl (by omega)]
      dsimp only
      rw [app_cutW hpl]
theorem visI_is (B : Int) (hB : B ≤ 20000) : ∀ (fuel : Nat) (s : Ar) (sum : Int) (nodes : Int) (full : Bool), PI s.sizes s.reached s.free s.places sum → (0 ≤ nodes ∧ nodes ≤ B) → s.budget = bud B ⟨s.best, s.most, nodes, full⟩ → s.most < sum + rstf s.sizes s.places.length → s.sizes.length - s.places.length < fuel →
    m_impl_placeSearch_visit_n fuel s sum = implOut s B (psrch s.sizes s.reached B fuel s.free s.places sum ⟨s.best, s.most, nodes, full⟩) := by
  intro fuel
  induction fuel with
  | zero => intro s sum _ _ _ _ _ _ h; omega
  | succ fuel IH =>
    rintro ⟨sizes, reach, left, budget, places, best, most⟩ sum nodes full hP hN hbu hb hf
    dsimp only at hP hbu hb hf
    subst hbu
    simp only [m_impl_placeSearch_visit_n, m_impl_placeSearch_visit_body, psrch, implOut]
    have hpl := hP.pl
    have hsl := hP.sl
    have hsm := hP.sm
    by_cases he : places.length = sizes.length
    · have e1 : ((places.length : Int) == (sizes.length : Int)) = true := by simp [he]
      simp only [e1, Bool.cond_true, if_pos he, BT, List.nil_append, bud]
    · have e1 : ((places.length : Int) == (sizes.length : Int)) = false := by rw [beq_eq_false_iff_ne]; omega
      have hlt : places.length < sizes.length := by omega
      have hs1 := rstf_succ hlt
      have hg1 := hP.rng (places.length + 1)
      simp only [e1, Bool.cond_false, if_neg he]
      refine LOOP_is (b := B6 (m_impl_placeSearch_visit_n fuel) ⟨sizes, reach, left, bud B ⟨best, most, nodes, full⟩, places, best, most⟩ sum)
        (fun x => (0 ≤ x.2.2.2.2.2.2 ∧ x.2.2.2.2.2.2 ≤ (at' reach (places.length : Int)).length) ∧ x.1 = reach ∧ x.2.1 = left ∧ x.2.2.2.1 = places ∧ ∃ nd fu, x.2.2.1 = bud B ⟨x.2.2.2.2.1, x.2.2.2.2.2.1, nd, fu⟩ ∧ (⟨x.2.2.2.2.1, x.2.2.2.2.2.1, nd, fu⟩ : Pst) = ((at' reach (places.length : Int)).take x.2.2.2.2.2.2.toNat).foldl (pstep B left (at' sizes (places.length : Int)) (rstf sizes (places.length + 1)) sum fun left' r => psrch sizes reach B fuel left' (places ++ [r]) (sum + at' sizes (places.length : Int))) ⟨best, most, nodes, full⟩)
        (fun x => (((at' reach (places.length : Int)).length : Int) - x.2.2.2.2.2.2).toNat) (fun _ => Ar.mk sizes reach left
          (bud B (pnode B ((at' reach (places.length : Int)).foldl (pstep B left (at' sizes (places.length : Int)) (rstf sizes (places.length + 1)) sum fun left' r => psrch sizes reach B fuel left' (places ++ [r]) (sum + at' sizes (places.length : Int))) ⟨best, most, nodes, full⟩) (sum + rstf sizes (places.length + 1)) (psrch sizes reach B fuel left (places ++ [-1]) sum))) places
          (pnode B ((at' reach (places.length : Int)).foldl (pstep B left (at' sizes (places.length : Int)) (rstf sizes (places.length + 1)) sum fun left' r => psrch sizes reach B fuel left' (places ++ [r]) (sum + at' sizes (places.length : Int))) ⟨best, most, nodes, full⟩) (sum + rstf sizes (places.length + 1)) (psrch sizes reach B fuel left (places ++ [-1]) sum)).best
          (pnode B ((at' reach (places.length : Int)).foldl (pstep B left (at' sizes (places.length : Int)) (rstf sizes (places.length + 1)) sum fun left' r => psrch sizes reach B fuel left' (places ++ [r]) (sum + at' sizes (places.length : Int))) ⟨best, most, nodes, full⟩) (sum + rstf sizes (places.length + 1)) (psrch sizes reach B fuel left (places ++ [-1]) sum)).most)
        ?_ ⟨⟨by dsimp only; omega, by dsimp only; omega⟩, rfl, rfl, rfl, nodes, full, rfl, rfl⟩ (by dsimp only; omega)
      rintro rec ⟨re, le, bu, pl, be, mo, i⟩ ⟨⟨i0, i1⟩, d1, d2, d3, nd, fu, d4, hst⟩ ih
      dsimp only at i0 i1 hst ih d1 d2 d3 d4
      subst d1 d2 d3 d4
      have hok : Pst.ok B ⟨be, mo, nd, fu⟩ := by
        rw [hst]; exact fold_ok (fun l r s hs => psrch_ok _ _ _ _ s hs) _ _ ⟨hN.1, hN.2⟩
      have hnd : 0 ≤ nd ∧ nd ≤ B := hok
      have hbh := behind_is hP
      simp only [B6]
      by_cases hi : i < ((at' re (pl.length : Int)).length : Int)
      · have hmem := at_mem (xs := at' re (pl.length : Int)) (i := i) ⟨i0, hi⟩
        have hat := hP.at_ hlt hmem
        have hft := fold_take (B := B) (left := le) (n := at' sizes (pl.length : Int)) (rest := rstf sizes (pl.length + 1)) (sum := sum) (k := fun left' r => psrch sizes re B fuel left' (pl ++ [r]) (sum + at' sizes (pl.length : Int))) (L := at' re (pl.length : Int)) (st := ⟨best, most, nodes, full⟩) ⟨i0, hi⟩
        rw [← hst] at hft
        have w3 : IntKind.wrap .i64 (sum + at' sizes (pl.length : Int)) = sum + at' sizes (pl.length : Int) := wr64 (by omega)
        have w1 : IntKind.wrap .i64 (sum + at' sizes (pl.length : Int) + rstf sizes (pl.length + 1)) = sum + at' sizes (pl.length : Int) + rstf sizes (pl.length + 1) := wr64 (by omega)
        simp only [hi, decide_true, Bool.cond_true, hbh, w3, w1]
        by_cases hn : at' le (at' (at' re (pl.length : Int)) i) < at' sizes (pl.length : Int)
        · have : decide (at' sizes (pl.length : Int) ≤ at' le (at' (at' re (pl.length : Int)) i)) = false := by simp; omega
          simp only [this, Bool.false_and, Bool.cond_false]
          refine ih _ ⟨⟨by dsimp only; omega, by dsimp only; omega⟩, rfl, rfl, rfl, nd, fu, rfl, ?_⟩ (by dsimp only; omega)
          dsimp only
          rw [hft]; simp only [pstep, if_pos hn]
        · have : decide (at' sizes (pl.length : Int) ≤ at' le (at' (at' re (pl.length : Int)) i)) = true := by simp; omega
          simp only [this, Bool.true_and]
          simp only [pstep, if_neg hn] at hft
          by_cases c1 : mo < sum + at' sizes (pl.length : Int) + rstf sizes (pl.length + 1)
          · have w2 : IntKind.wrap .i64 (at' le (at' (at' re (pl.length : Int)) i) - at' sizes (pl.length : Int)) = at' le (at' (at' re (pl.length : Int)) i) - at' sizes (pl.length : Int) := wr64 (by omega)
            simp only [c1, decide_true, Bool.cond_true, w2]
            rw [nodeI_is (st := ⟨be, mo, nd, fu⟩) (k := psrch sizes re B fuel (put' le (at' (at' re (pl.length : Int)) i) (at' le (at' (at' re (pl.length : Int)) i) - at' sizes (pl.length : Int))) (pl ++ [at' (at' re (pl.length : Int)) i]) (sum + at' sizes (pl.length : Int))) (by omega) hok hB (fun h1 h2 => by
              dsimp only at h1 h2 ⊢
              exact IH _ _ (nd + 1) false (hP.next hlt hmem (by omega)) ⟨by omega, by omega⟩ (by simp [bud]) (by simp only [List.length_append, List.length_cons, List.length_nil, Nat.zero_add]; omega) (by simp only [List.length_append, List.length_cons, List.length_nil, Nat.zero_add]; omega)) c1]
            dsimp only
            rw [← hft]
            have w4 : IntKind.wrap .i64 (at' (put' le (at' (at' re (pl.length : Int)) i) (at' le (at' (at' re (pl.length : Int)) i) - at' sizes (pl.length : Int))) (at' (at' re (pl.length : Int)) i) + at' sizes (pl.length : Int)) = at' le (at' (at' re (pl.length : Int)) i) := by
              rw [put_at hat.1, wr64 (by omega)]; omega
            rw [w4, put_back hat.1 rfl]
            exact ih _ ⟨⟨by dsimp only; omega, by dsimp only; omega⟩, rfl, rfl, rfl, _, _, rfl, rfl⟩ (by dsimp only; omega)
          · simp only [c1, decide_false, Bool.cond_false]
            refine ih _ ⟨⟨by dsimp only; omega, by dsimp only; omega⟩, rfl, rfl, rfl, nd, fu, rfl, ?_⟩ (by dsimp only; omega)
            dsimp only
            rw [hft, pnode, if_pos (by dsimp only; omega)]
      · have hie : i = ((at' re (pl.length : Int)).length : Int) := by omega
        simp only [hi, decide_false, Bool.cond_false, hbh]
        subst hie
        rw [Int.toNat_natCast, List.take_length] at hst
        rw [← hst]
        have w1 : IntKind.wrap .i64 (sum + rstf sizes (pl.length + 1)) = sum + rstf sizes (pl.length + 1) := wr64 (by omega)
        rw [w1]
        by_cases c1 : mo < sum + rstf sizes (pl.length + 1)
        · simp only [c1, decide_true, Bool.cond_true]
          rw [nodeI_is (st := ⟨be, mo, nd, fu⟩) (k := psrch sizes re B fuel le (pl ++ [-1]) sum) (by omega) hok hB (fun h1 h2 => by
              dsimp only at h1 h2 ⊢
              exact IH _ _ (nd + 1) false (hP.skip hlt) ⟨by omega, by omega⟩ (by simp [bud]) (by simp only [List.length_append, List.length_cons, List.length_nil, Nat.zero_add]; omega) (by simp only [List.length_append, List.length_cons, List.length_nil, Nat.zero_add]; omega)) c1]
        · simp only [c1, decide_false, Bool.cond_false]
          rw [pnode, if_pos (by dsimp only; omega)]

end Go.Proofs.YtibbfdojcdkopaaGreat
