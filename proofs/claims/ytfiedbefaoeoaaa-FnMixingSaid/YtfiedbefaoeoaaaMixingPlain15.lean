/-
  PLAIN LAWS about the models: no program in sight. Conditions: as each theorem states them.
-/
import Derived.Test.YtfiedbefaoeoaaaMixingPlain14
set_option linter.unusedVariables false
set_option linter.unusedSimpArgs false
set_option linter.unusedSectionVars false
set_option linter.unnecessarySimpa false
namespace Go.Proofs.Ytfiedbefaoeoaaa
open Go Go.RowKit Go.Proofs Go.Proofs.Ytfiedbefaoeoaaa.E
/-! ## Sources, their gas -/
def SrcOk (list : List gSource) : Prop := list.length ≤ 8 ∧ ∀ x ∈ list, 0 ≤ x.Rate ∧ x.Rate ≤ 10000000
/-- the gas that enters an airway -/
def gasL : List gSource → Int → Int
  | [], _ => 0
  | x :: xs, k => (if x.Airway = k then x.Rate else 0) + gasL xs k
theorem gasL_app (a b : List gSource) (k : Int) : gasL (a ++ b) k = gasL a k + gasL b k := by
  induction a with
  | nil => simp [gasL]
  | cons x xs ih => simp only [List.cons_append, gasL, ih]; omega
theorem gasL_rng : ∀ {list : List gSource} (_ : ∀ x ∈ list, 0 ≤ x.Rate ∧ x.Rate ≤ 10000000) (k : Int), 0 ≤ gasL list k ∧ gasL list k ≤ 10000000 * list.length
  | [], _, _ => by simp [gasL]
  | x :: xs, h, k => by
    have h1 := gasL_rng (list := xs) (fun y hy => h y (List.mem_cons_of_mem _ hy)) k
    have h2 := h x List.mem_cons_self
    simp only [gasL, List.length_cons]
    split <;> omega
theorem gasOf_is {list : List gSource} (h : SrcOk list) (k : Int) : m_impl_gasOf list k = gasL list k := by
  have key := LOOP_foriI (b := m_impl_gasOf_b1 list k) (k := fun x => x.1) (n := (list.length : Int)) (fun i s => s = gasL (list.take i.toNat) k) (fun i s => s + (if (at' list i).Airway = k then (at' list i).Rate else 0)) (fun rec s i h0 h1 hs => by
    have hr := at_all h.2 (i := i) ⟨h0, h1⟩
    have hg := gasL_rng (list := list.take i.toNat) (fun y hy => h.2 y (List.mem_of_mem_take hy)) k
    have hl2 := h.1
    have hl : (list.take i.toNat).length ≤ 8 := Nat.le_trans (List.length_take_le _ _) (by omega)
    simp only [m_impl_gasOf_b1, h1, decide_true, Bool.cond_true]
    by_cases e : (at' list i).Airway = k
    · have e2 : ((at' list i).Airway == k) = true := by simpa using e
      rw [e2, if_pos e, wr64 (n := s + (at' list i).Rate) (by omega)]; rfl
    · have e2 : ((at' list i).Airway == k) = false := by simpa using e
      rw [e2, if_neg e, Int.add_zero]; rfl) (fun s i h0 h1 hs => by
    have hl : i.toNat < list.length := by omega
    rw [show (i + 1).toNat = i.toNat + 1 by omega, List.take_add_one, List.getElem?_eq_getElem hl, Option.toList_some, gasL_app, hs]
    have e : at' list i = list[i.toNat] := by simp [at', List.getD_eq_getElem?_getD, hl]
    simp only [gasL, e, Int.add_zero]) (fun rec s hs => by simp [m_impl_gasOf_b1]) (((list.length : Int) - 0 : Int).toNat + 1) 0 0 (by omega) (by omega) (by omega) (by simp [gasL])
  simp only [m_impl_gasOf]
  rw [key]
  have := fori_inv (st := fun i s => s + (if (at' list i).Airway = k then (at' list i).Rate else 0)) (I := fun i s => s = gasL (list.take i.toNat) k) (m := ((list.length : Int) - 0 : Int).toNat) (i := 0) (s := 0) (by simp [gasL]) (fun i s h0 h1 hs => by
    have hl : i.toNat < list.length := by omega
    rw [show (i + 1).toNat = i.toNat + 1 by omega, List.take_add_one, List.getElem?_eq_getElem hl, Option.toList_some, gasL_app, hs]
    have e : at' list i = list[i.toNat] := by simp [at', List.getD_eq_getElem?_getD, hl]
    simp only [gasL, e, Int.add_zero])
  simp only at this ⊢
  rw [this, List.take_of_length_le (by omega)]
/-! ## The mix of flows -/
def mixSt (fs ss : List Int) (i : Int) (s : Int × Int) : Int × Int := (IntKind.wrap .i64 (s.1 + (IntKind.wrap .i64 ((at' fs i) * (at' ss i)))), IntKind.wrap .i64 (s.2 + (at' fs i)))
theorem mix_is (fs ss : List Int) : m_impl_mixShares fs ss = bif (fori (mixSt fs ss) fs.length 0 (0, 0)).2 == 0 then 0 else m_impl_divUp (fori (mixSt fs ss) fs.length 0 (0, 0)).1 (fori (mixSt fs ss) fs.length 0 (0, 0)).2 := by
  have key := LOOP_fori2 (b := m_impl_mixShares_b1 fs ss) (k := fun (x1 : Int × Int × Int) => bif x1.2.1 == 0 then 0 else m_impl_divUp x1.1 x1.2.1) (n := (fs.length : Int)) (mixSt fs ss) (fun rec s t i h0 h1 => by simp only [m_impl_mixShares_b1, h1, decide_true, Bool.cond_true, mixSt]) (fun rec s t => by simp [m_impl_mixShares_b1]) (((fs.length : Int) - 0 : Int).toNat + 1) 0 0 0 (by omega) (by omega) (by omega)
  simp only [m_impl_mixShares]
  rw [key, show ((fs.length : Int) - 0).toNat = fs.length by omega]
def FlOk (fs : List Int) : Prop := fs.length ≤ 64 ∧ ∀ y ∈ fs, 1 ≤ y ∧ y ≤ 100000
/-- shares between two bounds -/
def ShIn (lo hi : Int) (ss : List Int) : Prop := ∀ y ∈ ss, lo ≤ y ∧ y ≤ hi
def Part (lo hi : Int) (i : Int) (s : Int × Int) : Prop := (i ≤ s.2 ∧ s.2 ≤ 100000 * i) ∧ lo * s.2 ≤ s.1 ∧ s.1 ≤ hi * s.2
theorem part_rng {lo hi i : Int} {s : Int × Int} (hlo : 0 ≤ lo) (hhi : hi ≤ 1000000) (h0 : 0 ≤ i) (hi64 : i ≤ 64) (h : Part lo hi i s) : 0 ≤ s.1 ∧ s.1 ≤ 6400000000000 := by
  obtain ⟨⟨h1, h2⟩, h3, h4⟩ := h
  have a1 : 0 ≤ lo * s.2 := Int.mul_nonneg hlo (by omega)
  have a2 : hi * s.2 ≤ 1000000 * s.2 := Int.mul_le_mul_of_nonneg_right hhi (by omega)
  omega
theorem prod_rng {lo hi f s : Int} (hf : 1 ≤ f ∧ f ≤ 100000) (hs : lo ≤ s ∧ s ≤ hi) : lo * f ≤ f * s ∧ f * s ≤ hi * f := by
  rw [Int.mul_comm lo f, Int.mul_comm hi f]
  exact ⟨Int.mul_le_mul_of_nonneg_left hs.1 (by omega), Int.mul_le_mul_of_nonneg_left hs.2 (by omega)⟩
theorem prod_bnd {f s : Int} (hf : 1 ≤ f ∧ f ≤ 100000) (hs : 0 ≤ s ∧ s ≤ 1000000) : 0 ≤ f * s ∧ f * s ≤ 100000000000 := by
  refine ⟨Int.mul_nonneg (by omega) hs.1, ?_⟩
  have a1 : f * s ≤ f * 1000000 := Int.mul_le_mul_of_nonneg_left hs.2 (by omega)
  omega
theorem part_step {lo hi i : Int} {fs ss : List Int} {s : Int × Int} (hlo : 0 ≤ lo) (hhi : hi ≤ 1000000) (hf : FlOk fs) (hs : ShIn lo hi ss) (hl : fs.length = ss.length) (h0 : 0 ≤ i) (h1 : i < fs.length) (h : Part lo hi i s) : mixSt fs ss i s = (s.1 + at' fs i * at' ss i, s.2 + at' fs i) ∧ Part lo hi (i + 1) (mixSt fs ss i s) := by
  have hl64 := hf.1
  have a1 := at_all hf.2 (i := i) ⟨h0, h1⟩
  have a2 := at_all hs (i := i) ⟨h0, by omega⟩
  have a3 := prod_rng a1 a2
  have a4 := prod_bnd a1 (s := at' ss i) (by omega)
  have a5 := part_rng hlo hhi h0 (by omega) h
  obtain ⟨⟨h2, h3⟩, h4, h5⟩ := h
  have e : mixSt fs ss i s = (s.1 + at' fs i * at' ss i, s.2 + at' fs i) := by
    simp only [mixSt]
    generalize at' fs i * at' ss i = p at a4 ⊢
    rw [wr64 (n := p) (by omega), wr64 (n := s.1 + p) (by omega), wr64 (n := s.2 + at' fs i) (by omega)]
  refine ⟨e, ?_⟩
  rw [e]
  refine ⟨by simp only; omega, ?_, ?_⟩
  · simp only; rw [Int.mul_add]; omega
  · simp only; rw [Int.mul_add]; omega
theorem mix_part {lo hi : Int} {fs ss : List Int} (hlo : 0 ≤ lo) (hhi : hi ≤ 1000000) (hf : FlOk fs) (hs : ShIn lo hi ss) (hl : fs.length = ss.length) : Part lo hi fs.length (fori (mixSt fs ss) fs.length 0 (0, 0)) := by
  have := fori_inv (st := mixSt fs ss) (I := Part lo hi) (m := fs.length) (i := 0) (s := (0, 0)) ⟨by simp, by simp, by simp⟩ (fun j s h1 h2 h => (part_step hlo hhi hf hs hl h1 (by omega) h).2)
  rwa [Int.zero_add] at this
theorem part_div {lo hi n : Int} {s : Int × Int} (hlo : 0 ≤ lo) (hhi : hi ≤ 1000000) (hn : 1 ≤ n ∧ n ≤ 64) (h : Part lo hi n s) : (s.2 == 0) = false ∧ m_impl_divUp s.1 s.2 = upQ s.1 s.2 ∧ lo ≤ upQ s.1 s.2 ∧ upQ s.1 s.2 ≤ hi := by
  have h0 := part_rng hlo hhi (by omega) hn.2 h
  obtain ⟨⟨h1, h2⟩, h3, h4⟩ := h
  refine ⟨by simp; omega, up_is (by omega) (by omega), ?_, (up_iff (by omega)).2 h4⟩
  refine Decidable.byContradiction fun hc => ?_
  have h5 : upQ s.1 s.2 ≤ lo - 1 := by omega
  rw [up_iff (by omega), Int.sub_mul] at h5
  omega
theorem mix_rng {lo hi : Int} {fs ss : List Int} (hlo : 0 ≤ lo) (hle : 0 ≤ hi) (hhi : hi ≤ 1000000) (hf : FlOk fs) (hs : ShIn lo hi ss) (hl : fs.length = ss.length) : 0 ≤ m_impl_mixShares fs ss ∧ m_impl_mixShares fs ss ≤ hi ∧ (0 < fs.length → lo ≤ m_impl_mixShares fs ss) := by
  have hP := mix_part hlo hhi hf hs hl
  rw [mix_is]
  by_cases h0 : fs.length = 0
  · rw [h0]; simp only [fori, beq_self_eq_true, Bool.cond_true]; omega
  · have h64 := hf.1
    obtain ⟨e1, e2, e3, e4⟩ := part_div hlo hhi (by omega) hP
    rw [e1, e2]; simp only [Bool.cond_false]; omega
theorem up_mono_l {a b q : Int} (hq : 1 ≤ q) (h : a ≤ b) : upQ a q ≤ upQ b q := by
  rw [up_iff hq]; have := up_low (a := b) hq; omega
theorem mix_mono {fs ss ts : List Int} (hf : FlOk fs) (hs : ShIn 0 1000000 ss) (ht : ShIn 0 1000000 ts) (hl : fs.length = ss.length) (hl2 : fs.length = ts.length) (hle : ∀ j : Int, 0 ≤ j → j < fs.length → at' ss j ≤ at' ts j) : m_impl_mixShares fs ss ≤ m_impl_mixShares fs ts := by
  have hP := mix_part (lo := 0) (by omega) (by omega) hf hs hl
  have hQ := mix_part (lo := 0) (by omega) (by omega) hf ht hl2
  have hR := fori_rel (st := mixSt fs ss) (st' := mixSt fs ts) (R := fun i s t => (Part 0 1000000 i s ∧ Part 0 1000000 i t) ∧ s.2 = t.2 ∧ s.1 ≤ t.1) (m := fs.length) (i := 0) (s := (0, 0)) (t := (0, 0)) ⟨⟨⟨by simp, by simp, by simp⟩, ⟨by simp, by simp, by simp⟩⟩, rfl, by simp⟩ (fun j s t h1 h2 ⟨⟨h3, h4⟩, h5, h6⟩ => by
    have g1 := part_step (by omega) (by omega) hf hs hl h1 (by omega) h3
    have g2 := part_step (by omega) (by omega) hf ht hl2 h1 (by omega) h4
    refine ⟨⟨g1.2, g2.2⟩, ?_⟩
    rw [g1.1, g2.1]
    have a1 := at_all hf.2 (i := j) ⟨h1, by omega⟩
    have a2 : at' fs j * at' ss j ≤ at' fs j * at' ts j := Int.mul_le_mul_of_nonneg_left (hle j h1 (by omega)) (by omega)
    simp only; omega)
  rw [mix_is, mix_is]
  by_cases h0 : fs.length = 0
  · rw [h0]; simp [fori]
  · have h64 := hf.1
    obtain ⟨e1, e2, e3, e4⟩ := part_div (by omega) (by omega) (by omega) hP
    obtain ⟨f1, f2, f3, f4⟩ := part_div (by omega) (by omega) (by omega) hQ
    rw [e1, e2, f1, f2]; simp only [Bool.cond_false]
    obtain ⟨_, r1, r2⟩ := hR
    have := hQ.1
    rw [r1]
    exact up_mono_l (by omega) r2
/-! ## The shares at the ends of the airways -/
def endOf (m : gMine) (flows : List Int) (list : List gSource) (js : List Int) (i : Int) : Int :=
  bif (at' flows i) != 0 then (if 1000000 < (IntKind.wrap .i64 ((at' js (m_impl_Airway_ways (at' m.Airways i) (at' flows i)).1) + (m_impl_shareOf (m_impl_gasOf list i) (m_impl_abs (at' flows i))))) then 1000000 else (IntKind.wrap .i64 ((at' js (m_impl_Airway_ways (at' m.Airways i) (at' flows i)).1) + (m_impl_shareOf (m_impl_gasOf list i) (m_impl_abs (at' flows i)))))) else bif decide (0 < (m_impl_gasOf list i)) then 1000000 else 0
theorem endShares_is (m : gMine) (flows : List Int) (list : List gSource) (js : List Int) : m_impl_Mine_endShares m flows list js = (irange 0 m.Airways.length).map (endOf m flows list js) := by
  have h := LOOP_fori (b := m_impl_Mine_endShares_b1 m flows list js) (k := fun x => x.1) (n := (m.Airways.length : Int)) (fun i xs => xs ++ [endOf m flows list js i]) (fun rec xs i h0 h1 => by
    simp only [m_impl_Mine_endShares_b1, h1, decide_true, Bool.cond_true, endOf]
    cases at' flows i != 0 with
    | true => rfl
    | false => cases decide (0 < m_impl_gasOf list i) <;> rfl) (fun rec xs => by simp [m_impl_Mine_endShares_b1]) (((m.Airways.length : Int) - 0 : Int).toNat + 1) 0 [] (by omega) (by omega) (by omega)
  simp only [m_impl_Mine_endShares]
  rw [h, fori_map]
  simp
theorem end_at (m : gMine) (flows : List Int) (list : List gSource) (js : List Int) {i : Int} (hi : 0 ≤ i ∧ i < m.Airways.length) : at' (m_impl_Mine_endShares m flows list js) i = endOf m flows list js i := by
  rw [endShares_is, at_irange0 hi.1 hi.2]
/-- shares of the junctions -/
def JuIn (m : gMine) (js : List Int) : Prop := ∀ j, 0 ≤ j → j < m.Junctions → 0 ≤ at' js j ∧ at' js j ≤ 1000000
theorem shareOf_is {r q : Int} (hr : 0 ≤ r ∧ r ≤ 1000000000) (hq : 1 ≤ q ∧ q ≤ 1000000) : m_impl_shareOf r q = (if 1000000 < upQ (100 * r) q then 1000000 else upQ (100 * r) q) ∧ 0 ≤ upQ (100 * r) q := ⟨share_isW hr hq, up_nonneg (by omega) (by omega)⟩
theorem end_is {m : gMine} {flows : List Int} {list : List gSource} {js : List Int} {i : Int} (hm : MineIn m) (hf : FlowsIn m flows) (hs : SrcOk list) (hj : JuIn m js) (hi : 0 ≤ i ∧ i < m.Airways.length) : (at' flows i = 0 ∧ endOf m flows list js i = if 0 < gasL list i then 1000000 else 0) ∨ (at' flows i ≠ 0 ∧ (0 ≤ (m_impl_Airway_ways (at' m.Airways i) (at' flows i)).1 ∧ (m_impl_Airway_ways (at' m.Airways i) (at' flows i)).1 < m.Junctions) ∧ (1 ≤ m_impl_abs (at' flows i) ∧ m_impl_abs (at' flows i) ≤ 100000) ∧ endOf m flows list js i = (if 1000000 < at' js (m_impl_Airway_ways (at' m.Airways i) (at' flows i)).1 + (if 1000000 < upQ (100 * gasL list i) (m_impl_abs (at' flows i)) then 1000000 else upQ (100 * gasL list i) (m_impl_abs (at' flows i))) then 1000000 else at' js (m_impl_Airway_ways (at' m.Airways i) (at' flows i)).1 + (if 1000000 < upQ (100 * gasL list i) (m_impl_abs (at' flows i)) then 1000000 else upQ (100 * gasL list i) (m_impl_abs (at' flows i))))) := by
  have hg := gasL_rng hs.2 i
  have hl := hs.1
  by_cases hz : at' flows i = 0
  · left
    refine ⟨hz, ?_⟩
    have e : (at' flows i != 0) = false := by simpa using hz
    simp only [endOf, e, Bool.cond_false, gasOf_is hs]
    by_cases h : 0 < gasL list i <;> simp [h]
  · right
    have e : (at' flows i != 0) = true := by simpa using hz
    have hq := hf.at hi
    have hw := ways_in (at' flows i) (hm.at hi)
    have hab := abs_val hq
    have ha : 1 ≤ m_impl_abs (at' flows i) ∧ m_impl_abs (at' flows i) ≤ 100000 := by rw [hab]; split <;> omega
    have hsh := shareOf_is (r := gasL list i) (q := m_impl_abs (at' flows i)) (by omega) (by omega)
    have hjj := hj _ hw.1 hw.2.1
    refine ⟨hz, ⟨hw.1, hw.2.1⟩, ha, ?_⟩
    simp only [endOf, e, Bool.cond_true, gasOf_is hs]
    rw [hsh.1]
    have hb : (if 1000000 < upQ (100 * gasL list i) (m_impl_abs (at' flows i)) then 1000000 else upQ (100 * gasL list i) (m_impl_abs (at' flows i))) ≤ 1000000 ∧ 0 ≤ (if 1000000 < upQ (100 * gasL list i) (m_impl_abs (at' flows i)) then 1000000 else upQ (100 * gasL list i) (m_impl_abs (at' flows i))) := by
      have := hsh.2
      split <;> omega
    generalize (if 1000000 < upQ (100 * gasL list i) (m_impl_abs (at' flows i)) then 1000000 else upQ (100 * gasL list i) (m_impl_abs (at' flows i))) = u at hb ⊢
    rw [wr64 (n := at' js (m_impl_Airway_ways (at' m.Airways i) (at' flows i)).1 + u) (by omega)]
theorem end_rng {m : gMine} {flows : List Int} {list : List gSource} {js : List Int} {i : Int} (hm : MineIn m) (hf : FlowsIn m flows) (hs : SrcOk list) (hj : JuIn m js) (hi : 0 ≤ i ∧ i < m.Airways.length) : 0 ≤ endOf m flows list js i ∧ endOf m flows list js i ≤ 1000000 := by
  rcases end_is hm hf hs hj hi with ⟨_, h⟩ | ⟨_, hw, ha, h⟩
  · rw [h]; split <;> omega
  · have hg := gasL_rng hs.2 i
    have hu := up_nonneg (a := 100 * gasL list i) (q := m_impl_abs (at' flows i)) (by omega) (by omega)
    have := hj _ hw.1 hw.2
    rw [h]
    split <;> split <;> omega
theorem end_mono {m : gMine} {flows : List Int} {list list2 : List gSource} {js js2 : List Int} {i : Int} (hm : MineIn m) (hf : FlowsIn m flows) (hs : SrcOk list) (hs2 : SrcOk list2) (hj : JuIn m js) (hj2 : JuIn m js2) (hg : ∀ k, gasL list k ≤ gasL list2 k) (hjj : ∀ j, 0 ≤ j → j < m.Junctions → at' js j ≤ at' js2 j) (hi : 0 ≤ i ∧ i < m.Airways.length) : endOf m flows list js i ≤ endOf m flows list2 js2 i := by
  have hgi := hg i
  rcases end_is hm hf hs hj hi with ⟨z1, h1⟩ | ⟨z1, hw, ha, h1⟩
  · rcases end_is hm hf hs2 hj2 hi with ⟨z2, h2⟩ | ⟨z2, hw2, ha2, h2⟩
    · rw [h1, h2]; split <;> split <;> omega
    · exact absurd z1 z2
  · rcases end_is hm hf hs2 hj2 hi with ⟨z2, h2⟩ | ⟨z2, hw2, ha2, h2⟩
    · exact absurd z2 z1
    · rw [h1, h2]
      have hu := up_mono_l (a := 100 * gasL list i) (b := 100 * gasL list2 i) (q := m_impl_abs (at' flows i)) (by omega) (by omega)
      have := hjj _ hw.1 hw.2
      have := hj _ hw.1 hw.2
      have := hj2 _ hw.1 hw.2
      generalize upQ (100 * gasL list i) (m_impl_abs (at' flows i)) = u at hu ⊢
      generalize upQ (100 * gasL list2 i) (m_impl_abs (at' flows i)) = v at hu ⊢
      split <;> split <;> split <;> split <;> omega
theorem ends_in {m : gMine} {flows : List Int} {list : List gSource} {js : List Int} (hm : MineIn m) (hf : FlowsIn m flows) (hs : SrcOk list) (hj : JuIn m js) : ShIn 0 1000000 (m_impl_Mine_endShares m flows list js) := by
  intro y hy
  rw [endShares_is] at hy
  obtain ⟨i, hi, rfl⟩ := List.mem_map.1 hy
  rw [mem_irange] at hi
  exact end_rng hm hf hs hj (by omega)
/-! ## The shares of the junctions, round by round -/
def collSt (m : gMine) (flows E : List Int) (j : Int) (q : Int) (s : List Int × List Int) : List Int × List Int :=
  bif ((at' flows q) != 0) && ((m_impl_Airway_ways (at' m.Airways q) (at' flows q)).2 == j) then (s.1 ++ [m_impl_abs (at' flows q)], s.2 ++ [at' E q]) else s
def coll (m : gMine) (flows E : List Int) (j : Int) : List Int × List Int := fori (collSt m flows E j) m.Airways.length 0 ([], [])
def roundOf (m : gMine) (flows : List Int) (list : List gSource) (xs : List Int) : List Int := (irange 0 m.Junctions.toNat).map (fun j => m_impl_mixShares (coll m flows (m_impl_Mine_endShares m flows list xs) j).1 (coll m flows (m_impl_Mine_endShares m flows list xs) j).2)
theorem shares_is {m : gMine} (hm : MineIn m) (flows : List Int) (list : List gSource) : m_impl_Mine_junctionShares m flows list = fori (fun _ xs => roundOf m flows list xs) m.Junctions.toNat 0 (List.replicate m.Junctions.toNat 0) := by
  have hJ := hm.1
  have h := LOOP_fori (b := m_impl_Mine_junctionShares_b1 m flows list) (k := fun x => x.1) (n := m.Junctions) (fun _ xs => roundOf m flows list xs) (fun rec xs i h0 h1 => by
    have h2 := LOOP_fori (b := m_impl_Mine_junctionShares_b2 m flows list rec (fun x => x.1) (xs, i)) (k := fun (x2 : (List Int) × Int) => rec (x2.1, i + 1)) (n := m.Junctions) (fun j ys => put' ys j (m_impl_mixShares (coll m flows (m_impl_Mine_endShares m flows list xs) j).1 (coll m flows (m_impl_Mine_endShares m flows list xs) j).2)) (fun rec2 ys j g0 g1 => by
      have h3 := LOOP_fori2 (b := m_impl_Mine_junctionShares_b3 m flows list rec (fun x => x.1) (xs, i) rec2 (fun (x2 : (List Int) × Int) => rec (x2.1, i + 1)) (ys, j)) (k := fun (x3 : (List Int) × (List Int) × Int) => rec2 (put' ys j (m_impl_mixShares x3.1 x3.2.1), j + 1)) (n := (m.Airways.length : Int)) (collSt m flows (m_impl_Mine_endShares m flows list xs) j) (fun rec3 s t q q0 q1 => by
        simp only [m_impl_Mine_junctionShares_b3, q1, decide_true, Bool.cond_true, collSt]
        cases ((at' flows q) != 0) && ((m_impl_Airway_ways (at' m.Airways q) (at' flows q)).2 == j) <;> rfl) (fun rec3 s t => by simp [m_impl_Mine_junctionShares_b3]) (((m.Airways.length : Int) - 0 : Int).toNat + 1) 0 [] [] (by omega) (by omega) (by omega)
      simp only [m_impl_Mine_junctionShares_b2]
      rw [show decide (j < ((List.replicate (m.Junctions : Int).toNat (0 : Int)).length : Int)) = true by simp; omega]
      simp only [Bool.cond_true]
      rw [h3, show ((m.Airways.length : Int) - 0).toNat = m.Airways.length by omega]; rfl) (fun rec2 ys => by
      simp only [m_impl_Mine_junctionShares_b2]
      rw [show decide (m.Junctions < ((List.replicate (m.Junctions : Int).toNat (0 : Int)).length : Int)) = false by simp; omega]; rfl) ((((List.replicate (m.Junctions : Int).toNat (0 : Int)).length : Int) - 0 : Int).toNat + 1) 0 (List.replicate (m.Junctions : Int).toNat (0 : Int)) (by omega) (by omega) (by simp; omega)
    simp only [m_impl_Mine_junctionShares_b1, h1, decide_true, Bool.cond_true]
    rw [h2, show (m.Junctions - 0).toNat = m.Junctions.toNat by omega, fori_put (by simp)]; rfl) (fun rec xs => by simp [m_impl_Mine_junctionShares_b1]) ((m.Junctions - 0 : Int).toNat + 1) 0 (List.replicate m.Junctions.toNat 0) (by omega) (by omega) (by omega)
  simp only [m_impl_Mine_junctionShares]
  rw [h, show (m.Junctions - 0).toNat = m.Junctions.toNat by omega]
theorem coll_ok {m : gMine} {flows E : List Int} {j : Int} (hm : MineIn m) (hf : FlowsIn m flows) (hE : ShIn 0 1000000 E) (hl : E.length = m.Airways.length) : FlOk (coll m flows E j).1 ∧ ShIn 0 1000000 (coll m flows E j).2 ∧ (coll m flows E j).1.length = (coll m flows E j).2.length := by
  have hA := hm.2.1
  have := fori_inv (st := collSt m flows E j) (I := fun q s => ((s.1.length : Int) ≤ q ∧ s.1.length = s.2.length) ∧ (∀ y ∈ s.1, 1 ≤ y ∧ y ≤ 100000) ∧ ShIn 0 1000000 s.2) (m := m.Airways.length) (i := 0) (s := ([], [])) ⟨by simp, fun y hy => by simp at hy, fun y hy => by simp at hy⟩ (fun q s h0 h1 ⟨⟨h2, h3⟩, h4, h5⟩ => by
    simp only [collSt]
    by_cases hz : at' flows q = 0
    · have e : (at' flows q != 0) = false := by simpa using hz
      rw [e]; simp only [Bool.false_and, Bool.cond_false]
      exact ⟨⟨by omega, h3⟩, h4, h5⟩
    · cases ((at' flows q) != 0) && ((m_impl_Airway_ways (at' m.Airways q) (at' flows q)).2 == j) with
      | false => exact ⟨⟨by simp only [Bool.cond_false]; omega, h3⟩, h4, h5⟩
      | true =>
        have hq := hf.at (i := q) ⟨h0, by omega⟩
        have hab := abs_val hq
        have he := at_all hE (i := q) ⟨h0, by omega⟩
        refine ⟨by simp only [Bool.cond_true, List.length_append, List.length_cons, List.length_nil]; omega, fun y hy => ?_, fun y hy => ?_⟩
        · rcases List.mem_append.1 hy with h | h
          · exact h4 y h
          · rw [List.mem_singleton.1 h, hab]; split <;> omega
        · rcases List.mem_append.1 hy with h | h
          · exact h5 y h
          · rw [List.mem_singleton.1 h]; exact he)
  obtain ⟨⟨h1, h2⟩, h3, h4⟩ := this
  exact ⟨⟨by simp only [coll]; omega, h3⟩, h4, h2⟩
theorem coll_mono {m : gMine} {flows E F : List Int} {j : Int} (hEF : ∀ q : Int, 0 ≤ q → q < m.Airways.length → at' E q ≤ at' F q) : (coll m flows E j).1 = (coll m flows F j).1 ∧ ∀ i : Nat, i < (coll m flows E j).1.length → at' (coll m flows E j).2 (i : Int) ≤ at' (coll m flows F j).2 (i : Int) := by
  have := fori_rel (st := collSt m flows E j) (st' := collSt m flows F j) (R := fun _ s t => (s.1 = t.1 ∧ s.1.length = s.2.length ∧ t.1.length = t.2.length) ∧ ∀ i : Nat, i < s.1.length → at' s.2 (i : Int) ≤ at' t.2 (i : Int)) (m := m.Airways.length) (i := 0) (s := ([], [])) (t := ([], [])) ⟨⟨rfl, rfl, rfl⟩, fun i hi => by simp at hi⟩ (fun q s t h0 h1 ⟨⟨h2, h3, h4⟩, h5⟩ => by
    simp only [collSt]
    cases ((at' flows q) != 0) && ((m_impl_Airway_ways (at' m.Airways q) (at' flows q)).2 == j) with
    | false => exact ⟨⟨h2, h3, h4⟩, h5⟩
    | true =>
      refine ⟨⟨by simp only [Bool.cond_true, h2], by simp [h3], by simp [h4]⟩, fun i hi => ?_⟩
      simp only [Bool.cond_true, List.length_append, List.length_cons, List.length_nil] at hi ⊢
      have h2l : s.1.length = t.1.length := by rw [h2]
      by_cases e : i = s.2.length
      · subst e
        rw [at_app_last, show (s.2.length : Int) = (t.2.length : Int) by omega, at_app_last]
        exact hEF q h0 (by omega)
      · rw [at_app (by omega), at_app (by omega)]
        exact h5 i (by omega))
  exact ⟨this.1.1, this.2⟩
theorem round_at (m : gMine) (flows : List Int) (list : List gSource) (xs : List Int) {j : Int} (hj : 0 ≤ j ∧ j < m.Junctions) : at' (roundOf m flows list xs) j = m_impl_mixShares (coll m flows (m_impl_Mine_endShares m flows list xs) j).1 (coll m flows (m_impl_Mine_endShares m flows list xs) j).2 := by
  simp only [roundOf]
  rw [at_irange0 hj.1 (by omega)]
theorem round_in {m : gMine} {flows : List Int} {list : List gSource} {xs : List Int} (hm : MineIn m) (hf : FlowsIn m flows) (hs : SrcOk list) (hj : JuIn m xs) : JuIn m (roundOf m flows list xs) := by
  intro j h0 h1
  rw [round_at m flows list xs ⟨h0, h1⟩]
  obtain ⟨c1, c2, c3⟩ := coll_ok (j := j) hm hf (ends_in hm hf hs hj) (endShares_len hf)
  have := mix_rng (lo := 0) (by omega) (by omega) (by omega) c1 c2 c3
  omega
theorem round_mono {m : gMine} {flows : List Int} {list list2 : List gSource} {xs ys : List Int} (hm : MineIn m) (hf : FlowsIn m flows) (hs : SrcOk list) (hs2 : SrcOk list2) (hx : JuIn m xs) (hy : JuIn m ys) (hg : ∀ k, gasL list k ≤ gasL list2 k) (hxy : ∀ j, 0 ≤ j → j < m.Junctions → at' xs j ≤ at' ys j) : ∀ j, 0 ≤ j → j < m.Junctions → at' (roundOf m flows list xs) j ≤ at' (roundOf m flows list2 ys) j := by
  intro j h0 h1
  rw [round_at m flows list xs ⟨h0, h1⟩, round_at m flows list2 ys ⟨h0, h1⟩]
  obtain ⟨c1, c2, c3⟩ := coll_ok (j := j) hm hf (ends_in hm hf hs hx) (endShares_len hf)
  obtain ⟨d1, d2, d3⟩ := coll_ok (j := j) hm hf (ends_in hm hf hs2 hy) (endShares_len hf)
  obtain ⟨e1, e2⟩ := coll_mono (m := m) (flows := flows) (E := m_impl_Mine_endShares m flows list xs) (F := m_impl_Mine_endShares m flows list2 ys) (j := j) (fun q q0 q1 => by
    rw [end_at _ _ _ _ ⟨q0, q1⟩, end_at _ _ _ _ ⟨q0, q1⟩]
    exact end_mono hm hf hs hs2 hx hy hg hxy ⟨q0, q1⟩)
  rw [← e1] at d1 d3 ⊢
  exact mix_mono c1 c2 d2 c3 d3 (fun i i0 i1 => by
    have := e2 i.toNat (by omega)
    rwa [show ((i.toNat : Nat) : Int) = i by omega] at this)
theorem zero_in (m : gMine) : JuIn m (List.replicate m.Junctions.toNat 0) := fun j _ _ => by rw [rep_at]; omega
theorem shares_in {m : gMine} {flows : List Int} {list : List gSource} (hm : MineIn m) (hf : FlowsIn m flows) (hs : SrcOk list) : JuIn m (m_impl_Mine_junctionShares m flows list) := by
  rw [shares_is hm]
  exact fori_inv (I := fun _ xs => JuIn m xs) (zero_in m) (fun _ s _ _ h => round_in hm hf hs h)
theorem shares_mono {m : gMine} {flows : List Int} {list list2 : List gSource} (hm : MineIn m) (hf : FlowsIn m flows) (hs : SrcOk list) (hs2 : SrcOk list2) (hg : ∀ k, gasL list k ≤ gasL list2 k) : ∀ j, 0 ≤ j → j < m.Junctions → at' (m_impl_Mine_junctionShares m flows list) j ≤ at' (m_impl_Mine_junctionShares m flows list2) j := by
  rw [shares_is hm, shares_is hm]
  exact (fori_rel (R := fun _ xs ys => (JuIn m xs ∧ JuIn m ys) ∧ ∀ j, 0 ≤ j → j < m.Junctions → at' xs j ≤ at' ys j) ⟨⟨zero_in m, zero_in m⟩, fun j _ _ => Int.le_refl _⟩ (fun _ s t _ _ ⟨⟨h1, h2⟩, h3⟩ => ⟨⟨round_in hm hf hs h1, round_in hm hf hs2 h2⟩, round_mono hm hf hs hs2 h1 h2 hg h3⟩)).2

end Go.Proofs.Ytfiedbefaoeoaaa
