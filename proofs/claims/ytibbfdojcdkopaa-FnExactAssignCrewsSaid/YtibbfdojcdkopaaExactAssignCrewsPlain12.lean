/-
  PLAIN LAWS about the models: no program in sight. Conditions: as each theorem states them.
-/
import Derived.Test.YtibbfdojcdkopaaExactAssignCrewsPlain11
set_option linter.unusedVariables false
set_option linter.unusedSimpArgs false
set_option linter.unusedSectionVars false
set_option linter.unnecessarySimpa false
namespace Go.Proofs.Ytibbfdojcdkopaa
open Go Go.RowKit Go.Proofs Go.Proofs.Ytibbfdojcdkopaa.E
/-! ## AssignCrews: one search behind both -/
structure Pst where
  best : List Int
  most : Int
  nodes : Int
  full : Bool
def pnode (B : Int) (st : Pst) (bound : Int) (k : Pst → Pst) : Pst :=
  if bound ≤ st.most then st else if st.full = true then st else if st.nodes = B then ⟨st.best, st.most, st.nodes, true⟩ else k ⟨st.best, st.most, st.nodes + 1, false⟩
def rstf (sizes : List Int) (k : Nat) : Int := (sizes.drop k).sum
def pstep (B : Int) (left : List Int) (n rest sum : Int) (k : List Int → Int → Pst → Pst) (st : Pst) (r : Int) : Pst :=
  if at' left r < n then st else pnode B st (sum + n + rest) (k (put' left r (at' left r - n)) r)
def psrch (sizes : List Int) (reach : List (List Int)) (B : Int) : Nat → List Int → List Int → Int → Pst → Pst
  | 0, _, _, _, st => st
  | f + 1, left, places, sum, st =>
    if places.length = sizes.length then ⟨places, sum, st.nodes, st.full⟩
    else pnode B ((at' reach (places.length : Int)).foldl (pstep B left (at' sizes (places.length : Int)) (rstf sizes (places.length + 1)) sum fun left' r => psrch sizes reach B f left' (places ++ [r]) (sum + at' sizes (places.length : Int))) st) (sum + rstf sizes (places.length + 1)) (psrch sizes reach B f left (places ++ [-1]) sum)
structure PI (sizes : List Int) (reach : List (List Int)) (left places : List Int) (sum : Int) : Prop where
  sz : ∀ y ∈ sizes, 1 ≤ y ∧ y ≤ 200
  sl : sizes.length ≤ 8
  rl : reach.length = sizes.length
  rr : ∀ l ∈ reach, ∀ r ∈ l, 0 ≤ r ∧ r < left.length
  lf : ∀ y ∈ left, 0 ≤ y ∧ y ≤ 200
  pl : places.length ≤ sizes.length
  sm : 0 ≤ sum ∧ sum ≤ 200 * places.length
theorem PI.at_ {sizes : List Int} {reach : List (List Int)} {left places : List Int} {sum : Int} (h : PI sizes reach left places sum) (hlt : places.length < sizes.length) {r : Int} (hr : r ∈ at' reach (places.length : Int)) : (0 ≤ r ∧ r < left.length) ∧ (1 ≤ at' sizes (places.length : Int) ∧ at' sizes (places.length : Int) ≤ 200) ∧ 0 ≤ at' left r ∧ at' left r ≤ 200 := by
  have h1 := h.rr _ (at_mem (xs := reach) (i := (places.length : Int)) ⟨by omega, by have := h.rl; omega⟩) r hr
  exact ⟨h1, at_all h.sz ⟨by omega, by omega⟩, at_all h.lf h1⟩
theorem PI.next {sizes : List Int} {reach : List (List Int)} {left places : List Int} {sum : Int} (h : PI sizes reach left places sum) (hlt : places.length < sizes.length) {r : Int} (hr : r ∈ at' reach (places.length : Int)) (hn : at' sizes (places.length : Int) ≤ at' left r) :
    PI sizes reach (put' left r (at' left r - at' sizes (places.length : Int))) (places ++ [r]) (sum + at' sizes (places.length : Int)) := by
  have h1 := h.at_ hlt hr
  have h2 := h.sm
  refine ⟨h.sz, h.sl, h.rl, fun l hl r hr => by rw [put_len]; exact h.rr l hl r hr, fun y hy => ?_, by simp only [List.length_append, List.length_cons, List.length_nil]; omega, by simp only [List.length_append, List.length_cons, List.length_nil]; omega⟩
  rcases List.mem_or_eq_of_mem_set hy with hy | hy
  · exact h.lf y hy
  · omega
theorem PI.skip {sizes : List Int} {reach : List (List Int)} {left places : List Int} {sum : Int} (h : PI sizes reach left places sum) (hlt : places.length < sizes.length) : PI sizes reach left (places ++ [-1]) sum := by
  have h2 := h.sm
  exact ⟨h.sz, h.sl, h.rl, h.rr, h.lf, by simp only [List.length_append, List.length_cons, List.length_nil]; omega, by simp only [List.length_append, List.length_cons, List.length_nil]; omega⟩
theorem rstf_succ {sizes : List Int} {k : Nat} (h : k < sizes.length) : rstf sizes k = at' sizes (k : Int) + rstf sizes (k + 1) := by
  unfold rstf
  rw [List.drop_eq_getElem_cons h, List.sum_cons, at_lt h]
theorem sum_rng : ∀ l : List Int, (∀ y ∈ l, 1 ≤ y ∧ y ≤ 200) → (l.length : Int) ≤ l.sum ∧ l.sum ≤ 200 * (l.length : Int)
  | [], _ => by simp
  | x :: l, h => by
    have h1 := sum_rng l (fun y hy => h y (List.mem_cons_of_mem _ hy))
    have h2 := h x (List.mem_cons_self ..)
    rw [List.sum_cons, List.length_cons]
    omega
theorem PI.rng {sizes : List Int} {reach : List (List Int)} {left places : List Int} {sum : Int} (h : PI sizes reach left places sum) (k : Nat) : 0 ≤ rstf sizes k ∧ rstf sizes k ≤ 1600 := by
  have h1 := sum_rng (sizes.drop k) (fun y hy => h.sz y (List.mem_of_mem_drop hy))
  have h2 := h.sl
  rw [List.length_drop] at h1
  unfold rstf
  omega
/-- nodes stay within the budget -/
def Pst.ok (B : Int) (st : Pst) : Prop := 0 ≤ st.nodes ∧ st.nodes ≤ B
theorem pnode_ok {B : Int} {st : Pst} {bound : Int} {k : Pst → Pst} (h : st.ok B) (hk : ∀ s, s.ok B → (k s).ok B) : (pnode B st bound k).ok B := by
  unfold pnode
  unfold Pst.ok at h
  split
  · exact h
  · split
    · exact h
    · split
      · exact h
      · exact hk _ ⟨by dsimp only; omega, by dsimp only; omega⟩
theorem fold_ok {B : Int} {left : List Int} {n rest sum : Int} {k : List Int → Int → Pst → Pst} (hk : ∀ l r s, s.ok B → (k l r s).ok B) : ∀ (L : List Int) (st : Pst), st.ok B → (L.foldl (pstep B left n rest sum k) st).ok B
  | [], _, h => h
  | r :: L, st, h => by
    rw [List.foldl_cons]
    refine fold_ok hk L _ ?_
    unfold pstep
    split
    · exact h
    · exact pnode_ok h (hk _ _)
theorem psrch_ok {sizes : List Int} {reach : List (List Int)} {B : Int} : ∀ (f : Nat) (left places : List Int) (sum : Int) (st : Pst), st.ok B → (psrch sizes reach B f left places sum st).ok B
  | 0, _, _, _, _, h => h
  | f + 1, left, places, sum, st, h => by
    rw [psrch]
    split
    · exact h
    · exact pnode_ok (fold_ok (fun l r s hs => psrch_ok f _ _ _ s hs) _ _ h) (fun s hs => psrch_ok f _ _ _ s hs)
theorem fold_take {B : Int} {left : List Int} {n rest sum : Int} {k : List Int → Int → Pst → Pst} {L : List Int} {st : Pst} {i : Int} (h : 0 ≤ i ∧ i < L.length) : (L.take (i + 1).toNat).foldl (pstep B left n rest sum k) st = pstep B left n rest sum k ((L.take i.toNat).foldl (pstep B left n rest sum k) st) (at' L i) := by
  have hlt : i.toNat < L.length := by omega
  have et : (i + 1).toNat = i.toNat + 1 := by omega
  have hat : at' L i = L[i.toNat] := by
    have := at_lt (xs := L) (j := i.toNat) hlt
    rwa [Int.toNat_of_nonneg h.1] at this
  rw [et, List.take_succ_eq_append_getElem hlt, List.foldl_append, hat]; rfl
theorem put_back {left : List Int} {r n v : Int} (h : 0 ≤ r ∧ r < left.length) (hv : v = at' left r) : put' (put' left r n) r v = left := by
  rw [put_put, hv]
  have e : at' left r = left[r.toNat]'(by omega) := by
    have := at_lt (xs := left) (j := r.toNat) (by omega)
    rwa [Int.toNat_of_nonneg h.1] at this
  rw [e]; unfold put'; exact List.set_getElem_self _
theorem app_pre {xs : List Int} {y : Int} : pre' (xs ++ ([y] : List Int)) (xs.length : Int) = xs := by
  unfold pre'
  rw [Int.toNat_natCast, List.take_left']
  rfl
/-! ### The reference's search -/
theorem nodeS_is (x : gl20Search) (bound : Int) (h : 0 ≤ x.nodes ∧ x.nodes ≤ 20000) : m_spec_l20Search_node x bound = if bound ≤ x.most then (false, x) else if x.full = true then (false, x) else if x.nodes = x.budget then (false, gl20Search.mk x.sizes x.reach x.left x.rest x.places x.best x.most x.nodes x.budget true) else (true, gl20Search.mk x.sizes x.reach x.left x.rest x.places x.best x.most (x.nodes + 1) x.budget false) := by
  simp only [m_spec_l20Search_node, JN, wr64 (n := x.nodes + 1) (by omega)]
  by_cases h1 : bound ≤ x.most
  · simp [h1]
  · simp only [h1, decide_false, Bool.cond_false, if_false]
    obtain ⟨a, b, c, d, e, f, g, nd, bu, fu⟩ := x
    by_cases h2 : nd = bu
    · subst h2
      cases fu <;> simp
    · have : (nd == bu) = false := by simpa using h2
      cases fu <;> simp [this, h2]

end Go.Proofs.Ytibbfdojcdkopaa
