/-
  PLAIN LAWS about the models: no program in sight. Conditions: as each theorem states them.
-/
import Derived.Test.YtchjibndocnnhaaExactMostPermitsPlain5
set_option linter.unusedVariables false
set_option linter.unusedSimpArgs false
set_option linter.unusedSectionVars false
set_option linter.unnecessarySimpa false
namespace Go.Proofs.Ytchjibndocnnhaa
open Go Go.RowKit Go.Proofs Go.Proofs.Ytchjibndocnnhaa.E
/-! ## MostPermits: both searches go the same way -/
theorem app_cut {xs : List Int} {y : Int} (h : (xs.length : Int) ≤ 1000000) : pre' (xs ++ ([y] : List Int)) (IntKind.wrap .i64 (((xs ++ ([y] : List Int)).length : Int) - 1)) = xs := by
  rw [List.length_append, List.length_cons, List.length_nil, wr64 (by omega)]
  unfold pre'
  rw [show (((xs.length + (0 + 1) : Nat) : Int) - 1).toNat = xs.length by omega, List.take_left']
  rfl
theorem budget_imp {budget : Int} (h : m_impl_budgetValid budget = true) : 1 ≤ budget ∧ budget ≤ 20000 := within_imp h
/-- does a permit clash with one of those that are taken -/
def clashB (m : gMine) (list : List gPermit) (set : List Int) (k : Int) : Bool := set.any fun y => m_spec_l26Clash m (at' list y) (at' list k)
theorem run_free {self : gl26Search → Int → gl26Search} {x : gl26Search} {k : Int} {kk : Bool × Int → gl26Search} :
    LOOP (m_spec_l26Search_run_b1 self x k) kk (((x.set.length : Int) - 0 : Int).toNat + 1) (true, 0) = kk (!clashB x.m_ x.list x.set k, (x.set.length : Int)) := by
  refine LOOP_is (fun (y : Bool × Int) => (0 ≤ y.2 ∧ y.2 ≤ x.set.length) ∧ y.1 = !clashB x.m_ x.list (x.set.take y.2.toNat) k) (fun y => ((x.set.length : Int) - y.2).toNat) (fun _ => kk (!clashB x.m_ x.list x.set k, (x.set.length : Int))) (fun rec y hI ih => ?_) ⟨⟨by simp, by simp⟩, by simp [clashB]⟩ (by simp)
  obtain ⟨b, i⟩ := y
  obtain ⟨⟨h0, h1⟩, h2⟩ := hI
  simp only at h0 h1 h2
  simp only [m_spec_l26Search_run_b1]
  by_cases hi : i < (x.set.length : Int)
  · simp only [hi, decide_true, Bool.cond_true]
    have hlt : i.toNat < x.set.length := by omega
    refine ih _ ⟨⟨by simp only; omega, by simp only; omega⟩, ?_⟩ (by simp only; omega)
    simp only
    rw [show (i + 1).toNat = i.toNat + 1 by omega, List.take_succ_eq_append_getElem hlt, h2]
    have hat : at' x.set i = x.set[i.toNat] := by
      have := at_lt (xs := x.set) (j := i.toNat) hlt
      rwa [Int.toNat_of_nonneg h0] at this
    rw [hat]
    simp only [clashB, List.any_append, List.any_cons, List.any_nil, Bool.or_false, Bool.not_or]
  · have he : i = x.set.length := by omega
    subst he
    simp only [hi, decide_false, Bool.cond_false]
    rw [h2, Int.toNat_natCast, List.take_length]
def nodeG (b : Bool) (x : gl26Search) (bound : Int) : Bool × Int × Bool :=
  (b && (m_spec_l26Search_node x bound).1, (bif b then (gl26Search.mk x.m_ x.list x.set x.best x.most (m_spec_l26Search_node x bound).2.nodes x.budget (m_spec_l26Search_node x bound).2.full) else x).nodes, (bif b then (gl26Search.mk x.m_ x.list x.set x.best x.most (m_spec_l26Search_node x bound).2.nodes x.budget (m_spec_l26Search_node x bound).2.full) else x).full)
def p3 (self : gl26Search → Int → gl26Search) (x : gl26Search) (k : Int) (set best : List Int) (most : Int) (n : Bool × gl26Search) : gl26Search :=
  bif n.1 then
    gl26Search.mk x.m_ x.list (self (gl26Search.mk x.m_ x.list set best most n.2.nodes x.budget n.2.full) (IntKind.wrap .i64 (k + 1))).set (self (gl26Search.mk x.m_ x.list set best most n.2.nodes x.budget n.2.full) (IntKind.wrap .i64 (k + 1))).best (self (gl26Search.mk x.m_ x.list set best most n.2.nodes x.budget n.2.full) (IntKind.wrap .i64 (k + 1))).most (self (gl26Search.mk x.m_ x.list set best most n.2.nodes x.budget n.2.full) (IntKind.wrap .i64 (k + 1))).nodes x.budget (self (gl26Search.mk x.m_ x.list set best most n.2.nodes x.budget n.2.full) (IntKind.wrap .i64 (k + 1))).full
  else gl26Search.mk x.m_ x.list set best most n.2.nodes x.budget n.2.full
def p2 (self : gl26Search → Int → gl26Search) (x : gl26Search) (k : Int) (set best : List Int) (most nodes : Int) (full : Bool) : gl26Search :=
  p3 self x k set best most (m_spec_l26Search_node (gl26Search.mk x.m_ x.list set best most nodes x.budget full) (IntKind.wrap .i64 ((IntKind.wrap .i64 ((IntKind.wrap .i64 ((set.length : Int) + (x.list.length : Int))) - k)) - 1)))
def p1S (self : gl26Search → Int → gl26Search) (x : gl26Search) (k : Int) (S : gl26Search) : gl26Search := p2 self x k (pre' S.set (IntKind.wrap .i64 ((S.set.length : Int) - 1))) S.best S.most S.nodes S.full
def p1 (self : gl26Search → Int → gl26Search) (x : gl26Search) (k : Int) (r : Bool × Int × Bool) : gl26Search :=
  bif r.1 then p1S self x k (self (gl26Search.mk x.m_ x.list (x.set ++ ([k] : List Int)) x.best x.most r.2.1 x.budget r.2.2) (IntKind.wrap .i64 (k + 1)))
  else p2 self x k x.set x.best x.most r.2.1 r.2.2
theorem run_step (self : gl26Search → Int → gl26Search) (x : gl26Search) (k : Int) (hk : (k == (x.list.length : Int)) = false) :
    m_spec_l26Search_run_body self x k = p1 self x k (nodeG (!clashB x.m_ x.list x.set k) x (IntKind.wrap .i64 ((IntKind.wrap .i64 ((x.set.length : Int) + (x.list.length : Int))) - k))) := by
  simp only [m_spec_l26Search_run_body, hk, Bool.cond_false]
  rw [run_free]
  simp only [JN, p1]
  show _ = bif (!clashB x.m_ x.list x.set k && (m_spec_l26Search_node x (IntKind.wrap .i64 ((IntKind.wrap .i64 ((x.set.length : Int) + (x.list.length : Int))) - k))).1) then _ else _
  cases (!clashB x.m_ x.list x.set k && (m_spec_l26Search_node x (IntKind.wrap .i64 ((IntKind.wrap .i64 ((x.set.length : Int) + (x.list.length : Int))) - k))).1) <;> rfl
theorem post_spec_l26Search_run : ∀ (fuel : Nat) (x : gl26Search) (k : Int), (x.set.length : Int) ≤ k → 0 ≤ k → x.list.length ≤ 1000 → k ≤ x.list.length → ((x.list.length : Int) - k).toNat < fuel → (m_spec_l26Search_run_n fuel x k).set = x.set
  | 0, _, _, _, _, _, _, h => by omega
  | fuel + 1, x, k, h1, h2, h3, h4, h5 => by
    rw [m_spec_l26Search_run_n]
    cases hk : (k == (x.list.length : Int)) with
    | true =>
      simp only [m_spec_l26Search_run_body, hk, Bool.cond_true]
      cases decide (x.most < (x.set.length : Int)) <;> rfl
    | false =>
      have hk' : k ≠ x.list.length := by simpa using hk
      have e1 : IntKind.wrap .i64 (k + 1) = k + 1 := wr64 (by omega)
      rw [run_step _ _ _ hk]
      have fin : ∀ (best : List Int) (most : Int) (n : Bool × gl26Search), (p3 (m_spec_l26Search_run_n fuel) x k x.set best most n).set = x.set := fun best most n => by
        simp only [p3, e1]
        cases n.1 with
        | true =>
          simp only [Bool.cond_true]
          exact post_spec_l26Search_run fuel (gl26Search.mk x.m_ x.list x.set best most n.2.nodes x.budget n.2.full) (k + 1) (by simp only; omega) (by omega) h3 (by simp only; omega) (by simp only; omega)
        | false => rfl
      generalize nodeG (!clashB x.m_ x.list x.set k) x (IntKind.wrap .i64 ((IntKind.wrap .i64 ((x.set.length : Int) + (x.list.length : Int))) - k)) = r
      simp only [p1, e1]
      cases r.1 with
      | true =>
        simp only [Bool.cond_true, p1S]
        rw [post_spec_l26Search_run fuel (gl26Search.mk x.m_ x.list (x.set ++ ([k] : List Int)) x.best x.most r.2.1 x.budget r.2.2) (k + 1) (by simp only [List.length_append, List.length_cons, List.length_nil]; omega) (by omega) h3 (by simp only; omega) (by simp only; omega)]
        simp only
        rw [app_cut (by omega)]
        exact fin _ _ _
      | false => exact fin _ _ _
/-! ### the program's search -/
def q2 (self : gpermitSearch → Int → gpermitSearch) (s : gpermitSearch) (k : Int) (budget : Int) (some_ best : List Int) (most left : Int) : gpermitSearch :=
  bif (decide (0 ≤ budget)) && (decide (most < (IntKind.wrap .i64 ((IntKind.wrap .i64 ((some_.length : Int) + left)) - 1)))) then
    bif decide (0 ≤ (IntKind.wrap .i64 (budget - 1))) then gpermitSearch.mk s.mine s.list (self (gpermitSearch.mk s.mine s.list (IntKind.wrap .i64 (budget - 1)) some_ best most) (IntKind.wrap .i64 (k + 1))).budget (self (gpermitSearch.mk s.mine s.list (IntKind.wrap .i64 (budget - 1)) some_ best most) (IntKind.wrap .i64 (k + 1))).some_ (self (gpermitSearch.mk s.mine s.list (IntKind.wrap .i64 (budget - 1)) some_ best most) (IntKind.wrap .i64 (k + 1))).best (self (gpermitSearch.mk s.mine s.list (IntKind.wrap .i64 (budget - 1)) some_ best most) (IntKind.wrap .i64 (k + 1))).most
    else gpermitSearch.mk s.mine s.list (IntKind.wrap .i64 (budget - 1)) some_ best most
  else gpermitSearch.mk s.mine s.list budget some_ best most
def q1S (self : gpermitSearch → Int → gpermitSearch) (s : gpermitSearch) (k left : Int) (S : gpermitSearch) : gpermitSearch := q2 self s k S.budget (pre' S.some_ (IntKind.wrap .i64 ((S.some_.length : Int) - 1))) S.best S.most left
def q1 (self : gpermitSearch → Int → gpermitSearch) (s : gpermitSearch) (k left : Int) (cl : Bool) : gpermitSearch :=
  bif (!cl) && (decide (s.most < (IntKind.wrap .i64 ((s.some_.length : Int) + left)))) then
    bif decide ((IntKind.wrap .i64 (s.budget - 1)) < 0) then gpermitSearch.mk s.mine s.list (IntKind.wrap .i64 (s.budget - 1)) s.some_ s.best s.most
    else q1S self s k left (self (gpermitSearch.mk s.mine s.list (IntKind.wrap .i64 (s.budget - 1)) (s.some_ ++ ([k] : List Int)) s.best s.most) (IntKind.wrap .i64 (k + 1)))
  else q2 self s k s.budget s.some_ s.best s.most left
def clashI (s : gpermitSearch) (k : Int) : Bool := m_slices_ContainsFunc_int64 s.some_ (fun (a0 : Int) => m_impl_permitSearch_visit_1 a0 s k)
theorem visit_step (self : gpermitSearch → Int → gpermitSearch) (s : gpermitSearch) (k : Int) (hk : (k == (s.list.length : Int)) = false) :
    m_impl_permitSearch_visit_body self s k = q1 self s k (IntKind.wrap .i64 ((s.list.length : Int) - k)) (clashI s k) := by
  simp only [m_impl_permitSearch_visit_body, hk, Bool.cond_false, JN, q1, clashI]
  rfl
theorem post_impl_permitSearch_visit : ∀ (fuel : Nat) (s : gpermitSearch) (k : Int), (s.some_.length : Int) ≤ k → 0 ≤ k → s.list.length ≤ 1000 → k ≤ s.list.length → ((s.list.length : Int) - k).toNat < fuel → (m_impl_permitSearch_visit_n fuel s k).some_ = s.some_
  | 0, _, _, _, _, _, _, h => by omega
  | fuel + 1, s, k, h1, h2, h3, h4, h5 => by
    rw [m_impl_permitSearch_visit_n]
    cases hk : (k == (s.list.length : Int)) with
    | true =>
      simp only [m_impl_permitSearch_visit_body, hk, Bool.cond_true]
    | false =>
      have hk' : k ≠ s.list.length := by simpa using hk
      have e1 : IntKind.wrap .i64 (k + 1) = k + 1 := wr64 (by omega)
      rw [visit_step _ _ _ hk]
      have fin : ∀ (budget : Int) (best : List Int) (most left : Int), (q2 (m_impl_permitSearch_visit_n fuel) s k budget s.some_ best most left).some_ = s.some_ := fun budget best most left => by
        simp only [q2, e1]
        cases (decide (0 ≤ budget)) && (decide (most < (IntKind.wrap .i64 ((IntKind.wrap .i64 ((s.some_.length : Int) + left)) - 1)))) with
        | true =>
          simp only [Bool.cond_true]
          cases decide (0 ≤ (IntKind.wrap .i64 (budget - 1))) with
          | true =>
            simp only [Bool.cond_true]
            exact post_impl_permitSearch_visit fuel (gpermitSearch.mk s.mine s.list (IntKind.wrap .i64 (budget - 1)) s.some_ best most) (k + 1) (by simp only; omega) (by omega) h3 (by simp only; omega) (by simp only; omega)
          | false => rfl
        | false => rfl
      simp only [q1, e1]
      cases (!clashI s k) && (decide (s.most < (IntKind.wrap .i64 ((s.some_.length : Int) + (IntKind.wrap .i64 ((s.list.length : Int) - k)))))) with
      | true =>
        simp only [Bool.cond_true]
        cases decide ((IntKind.wrap .i64 (s.budget - 1)) < 0) with
        | true => rfl
        | false =>
          simp only [Bool.cond_false, q1S]
          rw [post_impl_permitSearch_visit fuel (gpermitSearch.mk s.mine s.list (IntKind.wrap .i64 (s.budget - 1)) (s.some_ ++ ([k] : List Int)) s.best s.most) (k + 1) (by simp only [List.length_append, List.length_cons, List.length_nil]; omega) (by omega) h3 (by simp only; omega) (by simp only; omega)]
          simp only
          rw [app_cut (by omega)]
          exact fin _ _ _ _
      | false => exact fin _ _ _ _
/-! ### both go the same way -/
structure PR (s : gpermitSearch) (x : gl26Search) (k : Int) : Prop where
  m : s.mine = x.m_
  l : s.list = x.list
  so : s.some_ = x.set
  be : s.best = x.best
  mo : s.most = x.most
  b : 0 ≤ s.budget ∧ s.budget = x.budget - x.nodes ∧ 0 ≤ x.nodes ∧ x.budget ≤ 20000
  f : x.full = false
  n : x.list.length ≤ 16
  kr : 0 ≤ k ∧ k ≤ x.list.length ∧ (x.set.length : Int) ≤ k
  r : ∀ y ∈ x.set, 0 ≤ y ∧ y < x.list.length
  p : PmIn x.m_.Airways.length x.list
  v : x.most < (x.set.length : Int) + (x.list.length - k)
  w : -1 ≤ x.most
/-- what a visit ends with: both have the same, or both have gone over the budget -/
def PE (x : gl26Search) (s' : gpermitSearch) (x' : gl26Search) : Prop :=
  (s'.best = x'.best ∧ s'.most = x'.most ∧ x.most ≤ x'.most ∧ 0 ≤ s'.budget ∧ s'.budget = x.budget - x'.nodes ∧ 0 ≤ x'.nodes ∧ x'.full = false) ∨ (s'.budget < 0 ∧ x'.full = true)
theorem node_le {x : gl26Search} {bound : Int} (h : bound ≤ x.most) : m_spec_l26Search_node x bound = (false, x) := by
  simp only [m_spec_l26Search_node, h, decide_true, Bool.cond_true]
theorem node_eq {x : gl26Search} {bound : Int} (h : x.most < bound) (hb : x.nodes = x.budget) : m_spec_l26Search_node x bound = (false, gl26Search.mk x.m_ x.list x.set x.best x.most x.nodes x.budget true) := by
  have h' : ¬ bound ≤ x.most := by omega
  simp only [m_spec_l26Search_node, h', decide_false, Bool.cond_false, JN, hb, beq_self_eq_true, Bool.cond_true]
theorem node_ne {x : gl26Search} {bound : Int} (h : x.most < bound) (hb : x.nodes ≠ x.budget) (hf : x.full = false) (hn : 0 ≤ x.nodes ∧ x.nodes ≤ 1000000) : m_spec_l26Search_node x bound = (true, gl26Search.mk x.m_ x.list x.set x.best x.most (x.nodes + 1) x.budget false) := by
  have h' : ¬ bound ≤ x.most := by omega
  have hb' : (x.nodes == x.budget) = false := by simpa using hb
  simp only [m_spec_l26Search_node, h', decide_false, Bool.cond_false, JN, hb', hf]
  rw [wr64 (by omega)]
theorem node_full {x : gl26Search} {bound : Int} (hf : x.full = true) : (m_spec_l26Search_node x bound).1 = false ∧ (m_spec_l26Search_node x bound).2.full = true := by
  simp only [m_spec_l26Search_node, JN]
  cases decide (bound ≤ x.most) with
  | true => exact ⟨rfl, hf⟩
  | false =>
    simp only [Bool.cond_false]
    cases x.nodes == x.budget with
    | true => simp
    | false => simp [hf]
theorem p2_full {self : gl26Search → Int → gl26Search} {x : gl26Search} {k : Int} {set best : List Int} {most nodes : Int} : (p2 self x k set best most nodes true).full = true := by
  have h := node_full (x := gl26Search.mk x.m_ x.list set best most nodes x.budget true) (bound := (IntKind.wrap .i64 ((IntKind.wrap .i64 ((IntKind.wrap .i64 ((set.length : Int) + (x.list.length : Int))) - k)) - 1))) rfl
  simp only [p2, p3, h.1, Bool.cond_false, h.2]
theorem clash_same {s : gpermitSearch} {x : gl26Search} {k : Int} (hR : PR s x k) (hk : k < x.list.length) : clashI s k = clashB x.m_ x.list x.set k := by
  rw [Bool.eq_iff_iff]
  simp only [clashI, cf_int64, clashB, List.any_eq_true, m_impl_permitSearch_visit_1, hR.so, hR.l, hR.m]
  have e : ∀ y ∈ x.set, m_impl_Mine_clash x.m_ (at' x.list y) (at' x.list k) = m_spec_l26Clash x.m_ (at' x.list y) (at' x.list k) := fun y hy => by
    have h1 := at_all hR.p (hR.r y hy)
    have h2 := at_all hR.p (i := k) ⟨hR.kr.1, hk⟩
    rw [clash_eq h1.2.2.2.2.2 h2.2.2.2.2.2, clash_sym]
  constructor
  · rintro ⟨y, hy, h⟩; exact ⟨y, hy, by rw [← e y hy]; exact h⟩
  · rintro ⟨y, hy, h⟩; exact ⟨y, hy, by rw [e y hy]; exact h⟩
theorem run_rel : ∀ (fuel : Nat) (s : gpermitSearch) (x : gl26Search) (k : Int), PR s x k → ((x.list.length : Int) - k).toNat < fuel → PE x (m_impl_permitSearch_visit_n fuel s k) (m_spec_l26Search_run_n fuel x k)
  | 0, _, _, _, _, h => by omega
  | fuel + 1, s, x, k, hR, hfu => by
    have hb := hR.b
    have hn := hR.n
    have hk := hR.kr
    have hv := hR.v
    have hw := hR.w
    rw [m_impl_permitSearch_visit_n, m_spec_l26Search_run_n]
    cases hkl : (k == (x.list.length : Int)) with
    | true =>
      have hke : k = x.list.length := by simpa using hkl
      have hkl' : (k == (s.list.length : Int)) = true := by rw [hR.l]; exact hkl
      have hm : x.most < (x.set.length : Int) := by omega
      simp only [m_impl_permitSearch_visit_body, hkl', m_spec_l26Search_run_body, hkl, Bool.cond_true, hm, decide_true]
      refine .inl ⟨?_, ?_, ?_, hb.1, hb.2.1, hb.2.2.1, hR.f⟩
      · simp only [m_slices_Clone_int64, m_spec_l00Own, hR.so]
      · simp only [hR.so]
      · simp only; omega
    | false =>
      have hke : k ≠ x.list.length := by simpa using hkl
      have hkl' : (k == (s.list.length : Int)) = false := by rw [hR.l]; exact hkl
      have hlt : k < x.list.length := by omega
      have e1 : IntKind.wrap .i64 (k + 1) = k + 1 := wr64 (by omega)
      rw [visit_step _ _ _ hkl', run_step _ _ _ hkl, clash_same hR hlt]
      have el : IntKind.wrap .i64 ((s.list.length : Int) - k) = x.list.length - k := by rw [hR.l]; exact wr64 (by omega)
      rw [el]
      -- the second way on
      have two : ∀ (budget : Int) (best : List Int) (most nodes : Int), 0 ≤ budget → budget = x.budget - nodes → 0 ≤ nodes → x.most ≤ most →
          PE x (q2 (m_impl_permitSearch_visit_n fuel) s k budget x.set best most (x.list.length - k)) (p2 (m_spec_l26Search_run_n fuel) x k x.set best most nodes false) := fun budget best most nodes g1 g2 g3 g4 => by
        have ebd : IntKind.wrap .i64 ((IntKind.wrap .i64 ((x.set.length : Int) + (x.list.length - k))) - 1) = x.set.length + (x.list.length - k) - 1 := by
          rw [wr64 (n := (x.set.length : Int) + (x.list.length - k)) (by omega), wr64 (by omega)]
        have ebd2 : IntKind.wrap .i64 ((IntKind.wrap .i64 ((IntKind.wrap .i64 ((x.set.length : Int) + (x.list.length : Int))) - k)) - 1) = x.set.length + (x.list.length - k) - 1 := by
          rw [wr64 (n := (x.set.length : Int) + (x.list.length : Int)) (by omega), wr64 (n := (x.set.length : Int) + (x.list.length : Int) - k) (by omega), wr64 (by omega)]; omega
        have ebu : IntKind.wrap .i64 (budget - 1) = budget - 1 := wr64 (by omega)
        simp only [q2, p2, ebd, ebd2, ebu, e1, g1, decide_true, Bool.true_and]
        by_cases hm : most < x.set.length + (x.list.length - k) - 1
        · simp only [hm, decide_true, Bool.cond_true]
          by_cases hbn : nodes = x.budget
          · have : ¬ 0 ≤ budget - 1 := by omega
            simp only [this, decide_false, Bool.cond_false]
            rw [node_eq (by exact hm) (by exact hbn)]
            refine .inr ⟨by simp only; omega, ?_⟩
            simp only [p3, Bool.cond_false]
          · have : 0 ≤ budget - 1 := by omega
            simp only [this, decide_true, Bool.cond_true]
            rw [node_ne (by exact hm) (by exact hbn) rfl (by simp only; omega)]
            simp only [p3, Bool.cond_true, e1]
            have hrec := run_rel fuel (gpermitSearch.mk s.mine s.list (budget - 1) x.set best most) (gl26Search.mk x.m_ x.list x.set best most (nodes + 1) x.budget false) (k + 1)
              ⟨hR.m, hR.l, rfl, rfl, rfl, by simp only; omega, rfl, hn, by simp only; omega, hR.r, hR.p, by simp only; omega, by simp only; omega⟩ (by simp only; omega)
            rcases hrec with ⟨a1, a2, a3, a4, a5, a6, a7⟩ | ⟨a1, a2⟩
            · exact .inl ⟨a1, a2, by simp only at a3 ⊢; omega, a4, a5, a6, a7⟩
            · exact .inr ⟨a1, a2⟩
        · simp only [hm, decide_false, Bool.cond_false]
          rw [node_le (by simp only; omega)]
          exact .inl ⟨rfl, rfl, g4, g1, g2, g3, rfl⟩
      have ebs : IntKind.wrap .i64 ((s.some_.length : Int) + ((x.list.length : Int) - k)) = x.set.length + (x.list.length - k) := by rw [hR.so]; exact wr64 (by omega)
      have ebx : IntKind.wrap .i64 ((IntKind.wrap .i64 ((x.set.length : Int) + (x.list.length : Int))) - k) = x.set.length + (x.list.length - k) := by
        rw [wr64 (n := (x.set.length : Int) + (x.list.length : Int)) (by omega), wr64 (by omega)]; omega
      have ebu : IntKind.wrap .i64 (s.budget - 1) = s.budget - 1 := wr64 (by omega)
      simp only [q1, ebs, ebu, e1]
      rw [ebx]
      cases hc : clashB x.m_ x.list x.set k with
      | true =>
        simp only [Bool.not_true, Bool.false_and, Bool.cond_false, nodeG, p1]
        rw [hR.so, hR.be, hR.mo, hR.f]
        exact two _ _ _ _ hb.1 hb.2.1 hb.2.2.1 (Int.le_refl _)
      | false =>
        have hm : s.most < x.set.length + (x.list.length - k) := by rw [hR.mo]; exact hv
        simp only [Bool.not_false, Bool.true_and, hm, decide_true, Bool.cond_true, nodeG]
        by_cases hbn : x.nodes = x.budget
        · have : s.budget - 1 < 0 := by omega
          simp only [this, decide_true, Bool.cond_true]
          rw [node_eq (by exact hv) hbn]
          simp only [p1, Bool.cond_false]
          exact .inr ⟨by simp only; omega, p2_full⟩
        · have : ¬ s.budget - 1 < 0 := by omega
          simp only [this, decide_false, Bool.cond_false]
          rw [node_ne (by exact hv) hbn hR.f (by omega)]
          simp only [p1, Bool.cond_true, e1, q1S, p1S]
          have hpi := post_impl_permitSearch_visit fuel (gpermitSearch.mk s.mine s.list (s.budget - 1) (s.some_ ++ ([k] : List Int)) s.best s.most) (k + 1) (by simp only [List.length_append, List.length_cons, List.length_nil, hR.so]; omega) (by omega) (by simp only [hR.l]; omega) (by simp only [hR.l]; omega) (by simp only [hR.l]; omega)
          have hpx := post_spec_l26Search_run fuel (gl26Search.mk x.m_ x.list (x.set ++ ([k] : List Int)) x.best x.most (x.nodes + 1) x.budget false) (k + 1) (by simp only [List.length_append, List.length_cons, List.length_nil]; omega) (by omega) (by simp only; omega) (by simp only; omega) (by simp only; omega)
          have hrec := run_rel fuel (gpermitSearch.mk s.mine s.list (s.budget - 1) (s.some_ ++ ([k] : List Int)) s.best s.most) (gl26Search.mk x.m_ x.list (x.set ++ ([k] : List Int)) x.best x.most (x.nodes + 1) x.budget false) (k + 1)
            ⟨hR.m, hR.l, by simp only [hR.so], hR.be, hR.mo, by simp only; omega, rfl, hn, by simp only [List.length_append, List.length_cons, List.length_nil]; omega, fun y hy => by
              simp only [List.mem_append, List.mem_singleton] at hy
              rcases hy with hy | hy
              · exact hR.r y hy
              · rw [hy]; exact ⟨hk.1, hlt⟩, hR.p, by simp only [List.length_append, List.length_cons, List.length_nil]; omega, hw⟩ (by simp only; omega)
          generalize m_impl_permitSearch_visit_n fuel (gpermitSearch.mk s.mine s.list (s.budget - 1) (s.some_ ++ ([k] : List Int)) s.best s.most) (k + 1) = s' at hpi hrec ⊢
          generalize m_spec_l26Search_run_n fuel (gl26Search.mk x.m_ x.list (x.set ++ ([k] : List Int)) x.best x.most (x.nodes + 1) x.budget false) (k + 1) = x' at hpx hrec ⊢
          simp only at hpi hpx
          rw [hpi, hpx, hR.so, app_cut (by omega)]
          rcases hrec with ⟨a1, a2, a3, a4, a5, a6, a7⟩ | ⟨a1, a2⟩
          · simp only at a3 a5
            rw [a1, a2, a7]
            exact two _ _ _ _ a4 a5 a6 a3
          · have : ¬ 0 ≤ s'.budget := by omega
            simp only [q2, this, decide_false, Bool.false_and, Bool.cond_false]
            rw [a2]
            exact .inr ⟨a1, p2_full⟩
theorem MostPermits_eq (m : gMine) (list : List gPermit) (budget : Int) : m_impl_MostPermits m list budget = m_spec_MostPermits m list budget := by
  simp only [m_impl_MostPermits, m_spec_MostPermits, permits_eq, m_impl_budgetValid]
  cases h1 : m_spec_l26Ok m list with
  | false => rfl
  | true =>
    simp only [Bool.not_true, Bool.cond_false]
    rw [show m_impl_within budget 1 20000 = m_spec_l00In budget 1 20000 from rfl]
    cases hb : m_spec_l00In budget 1 20000 with
    | false => rfl
    | true =>
      simp only [Bool.not_true, Bool.cond_false]
      have hbb := l00In_imp hb
      have hl := l26Ok_len h1
      have hR := run_rel (((list.length : Int) - 0).toNat + 1) (gpermitSearch.mk m list budget [] [] (-1)) (gl26Search.mk m list [] [] (-1) 0 budget false) 0 ⟨rfl, rfl, rfl, rfl, rfl, by simp only; omega, rfl, hl, by simp, fun y hy => absurd hy List.not_mem_nil, l26Ok_imp h1, by simp only [List.length_nil]; omega, by simp⟩ (by simp only; omega)
      show (bif decide ((m_impl_permitSearch_visit_n (((list.length : Int) - 0).toNat + 1) (gpermitSearch.mk m list budget [] [] (-1)) 0).budget < 0) then _ else ((m_impl_permitSearch_visit_n (((list.length : Int) - 0).toNat + 1) (gpermitSearch.mk m list budget [] [] (-1)) 0).best, _)) = (bif (m_spec_l26Search_run_n (((list.length : Int) - 0).toNat + 1) (gl26Search.mk m list [] [] (-1) 0 budget false) 0).full then _ else ((m_spec_l26Search_run_n (((list.length : Int) - 0).toNat + 1) (gl26Search.mk m list [] [] (-1) 0 budget false) 0).best, _))
      rcases hR with ⟨a1, a2, a3, a4, a5, a6, a7⟩ | ⟨a1, a2⟩
      · have : ¬ (m_impl_permitSearch_visit_n (((list.length : Int) - 0).toNat + 1) (gpermitSearch.mk m list budget [] [] (-1)) 0).budget < 0 := by omega
        simp only [this, decide_false, Bool.cond_false, a7]
        rw [a1]
      · simp only [a1, a2, decide_true, Bool.cond_true]
theorem run_best : ∀ (fuel : Nat) (x : gl26Search) (k : Int), (x.set.length : Int) ≤ k → 0 ≤ k → x.list.length ≤ 1000 → k ≤ x.list.length → x.best.length ≤ 1000 → ((x.list.length : Int) - k).toNat < fuel → (m_spec_l26Search_run_n fuel x k).best.length ≤ 1000
  | 0, _, _, _, _, _, _, _, h => by omega
  | fuel + 1, x, k, h1, h2, h3, h4, h6, h5 => by
    rw [m_spec_l26Search_run_n]
    cases hk : (k == (x.list.length : Int)) with
    | true =>
      simp only [m_spec_l26Search_run_body, hk, Bool.cond_true]
      cases decide (x.most < (x.set.length : Int)) with
      | true => simp only [Bool.cond_true, m_spec_l00Own, List.nil_append]; omega
      | false => exact h6
    | false =>
      have hk' : k ≠ x.list.length := by simpa using hk
      have e1 : IntKind.wrap .i64 (k + 1) = k + 1 := wr64 (by omega)
      rw [run_step _ _ _ hk]
      have fin : ∀ (best : List Int) (most : Int) (n : Bool × gl26Search), best.length ≤ 1000 → (p3 (m_spec_l26Search_run_n fuel) x k x.set best most n).best.length ≤ 1000 := fun best most n hb => by
        simp only [p3, e1]
        cases n.1 with
        | true =>
          simp only [Bool.cond_true]
          exact run_best fuel (gl26Search.mk x.m_ x.list x.set best most n.2.nodes x.budget n.2.full) (k + 1) (by simp only; omega) (by omega) h3 (by simp only; omega) hb (by simp only; omega)
        | false => exact hb
      generalize nodeG (!clashB x.m_ x.list x.set k) x (IntKind.wrap .i64 ((IntKind.wrap .i64 ((x.set.length : Int) + (x.list.length : Int))) - k)) = r
      simp only [p1, e1]
      cases r.1 with
      | true =>
        simp only [Bool.cond_true, p1S]
        have hq := run_best fuel (gl26Search.mk x.m_ x.list (x.set ++ ([k] : List Int)) x.best x.most r.2.1 x.budget r.2.2) (k + 1) (by simp only [List.length_append, List.length_cons, List.length_nil]; omega) (by omega) h3 (by simp only; omega) h6 (by simp only; omega)
        rw [post_spec_l26Search_run fuel (gl26Search.mk x.m_ x.list (x.set ++ ([k] : List Int)) x.best x.most r.2.1 x.budget r.2.2) (k + 1) (by simp only [List.length_append, List.length_cons, List.length_nil]; omega) (by omega) h3 (by simp only; omega) (by simp only; omega)]
        simp only
        rw [app_cut (by omega)]
        exact fin _ _ _ hq
      | false => exact fin _ _ _ h6
theorem MostPermits_best {m : gMine} {list : List gPermit} {budget : Int} (hl : list.length ≤ 1000) : (m_spec_l26Search_run (gl26Search.mk m list [] [] (-1) 0 budget false) 0).best.length ≤ 1000 :=
  run_best (((list.length : Int) - 0).toNat + 1) (gl26Search.mk m list [] [] (-1) 0 budget false) 0 (by simp) (by omega) (by simp only; omega) (by simp only; omega) (by simp) (by simp only; omega)
theorem MostPermits_len (m : gMine) (list : List gPermit) (budget : Int) : (m_spec_MostPermits m list budget).1.length ≤ 1048576 := by
  simp only [m_spec_MostPermits]
  cases h1 : m_spec_l26Ok m list with
  | false => simp
  | true =>
    simp only [Bool.not_true, Bool.cond_false]
    cases m_spec_l00In budget 1 20000 with
    | false => simp
    | true =>
      simp only [Bool.not_true, Bool.cond_false]
      cases (m_spec_l26Search_run (gl26Search.mk m list [] [] (-1) 0 budget false) 0).full with
      | true => simp
      | false =>
        have := l26Ok_len h1
        exact Nat.le_trans (MostPermits_best (by omega)) (by omega)
theorem at_rngK {n : Nat} {list : List gPermit} {k : Int} (h : PmIn n list) (hk : 0 ≤ k ∧ k < list.length) : 0 ≤ (at' list k).Airway ∧ (at' list k).Airway < n := by
  have := at_all h hk; omega
theorem at_rngP {n : Nat} {list : List gPermit} {set : List Int} {i : Int} (h : PmIn n list) (hs : ∀ y ∈ set, 0 ≤ y ∧ y < list.length) (hi : 0 ≤ i ∧ i < set.length) : 0 ≤ (at' list (at' set i)).Airway ∧ (at' list (at' set i)).Airway < n :=
  at_rngK h (at_all hs hi)

end Go.Proofs.Ytchjibndocnnhaa
