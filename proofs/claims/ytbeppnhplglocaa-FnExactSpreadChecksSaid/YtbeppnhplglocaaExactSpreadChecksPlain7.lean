/-
  PLAIN LAWS about the models: no program in sight. Conditions: as each theorem states them.
-/
import Derived.Test.YtbeppnhplglocaaExactSpreadChecksPlain6
set_option linter.unusedVariables false
set_option linter.unusedSimpArgs false
set_option linter.unusedSectionVars false
set_option linter.unnecessarySimpa false
namespace Go.Proofs.Ytbeppnhplglocaa
open Go Go.RowKit Go.Proofs Go.Proofs.Ytbeppnhplglocaa.E
/-! ## SpreadChecks: the order -/
def dueOf (list : List gCheck) (x : Int) : Int := m_spec_l25Due (at' list x)
theorem cmp_key (list : List gCheck) : keyc (dueOf list) (fun (a0 : Int) (a1 : Int) => m_impl_spread_1 a0 a1 list) := by
  intro a b
  show m_cmp_Compare_int64 (dueOf list a) (dueOf list b) < 0 ↔ dueOf list a < dueOf list b
  generalize dueOf list a = x
  generalize dueOf list b = y
  simp only [m_cmp_Compare_int64, m_cmp_isNaN_int64, bne_self_eq_false, Bool.cond_false]
  by_cases h : x < y
  · simp [h]
  · by_cases h2 : y < x
    · simp [h, h2]
    · simp [h, h2]
def idl (n : Nat) : List Int := (irange 0 n).map (fun j => j)
theorem idl_at {n : Nat} {q : Int} (h0 : 0 ≤ q) (h1 : q < n) : at' (idl n) q = q := at_irange0 h0 h1
theorem idl_len {n : Nat} : (idl n).length = n := by rw [idl, List.length_map, irange_len]
theorem idl_srt {g : Int → Int} {n : Nat} (hn : 1 ≤ n) : SrtI g n (idl n) 1 where
  len := idl_len
  rng := by omega
  low := fun q h1 h2 => by rw [idl_at h1 (by omega)]; omega
  srt := fun p q h1 h2 h3 => by omega
  rst := fun q h1 h2 => idl_at (by omega) h2
  sur := fun x h1 h2 => ⟨x, h1, h2, idl_at h1 h2⟩
def ordOf (list : List gCheck) : List Int := m_slices_SortStableFunc_int (idl list.length) (fun (a0 : Int) (a1 : Int) => m_impl_spread_1 a0 a1 list)
theorem ord_is (list : List gCheck) (hl : list.length ≤ 16) : SrtI (dueOf list) list.length (ordOf list) list.length := by
  have e : ordOf list = m_slices_insertionSortCmpFunc_int (idl list.length) 0 ((idl list.length).length : Int) (fun (a0 : Int) (a1 : Int) => m_impl_spread_1 a0 a1 list) := rfl
  rw [e, idl_len]
  rcases Nat.eq_zero_or_pos list.length with h | h
  · rw [h]
    have : m_slices_insertionSortCmpFunc_int (idl 0) 0 ((0 : Nat) : Int) (fun (a0 : Int) (a1 : Int) => m_impl_spread_1 a0 a1 list) = idl 0 := rfl
    rw [this]
    exact ⟨idl_len, by omega, fun q h1 h2 => by omega, fun p q h1 h2 h3 => by omega, fun q h1 h2 => by omega, fun x h1 h2 => by omega⟩
  · exact ins_is (cmp_key list) (by omega) (idl_srt h)
/-! ## SpreadChecks: what both end with -/
def SpBad (list : List gCheck) (L : List Int) (from_ per k : Int) : Prop := dueOf list (at' L k) < from_ + k / per
def SpOut (list : List gCheck) (L : List Int) (from_ per : Int) (r : List Int × Bool) : Prop :=
  (r = ([], false) ∧ ∃ k, 0 ≤ k ∧ k < (list.length : Int) ∧ SpBad list L from_ per k) ∨
  ((∀ k, 0 ≤ k → k < (list.length : Int) → ¬ SpBad list L from_ per k) ∧ r.2 = true ∧ r.1.length = list.length ∧ ∀ k, 0 ≤ k → k < (list.length : Int) → at' r.1 (at' L k) = from_ + k / per)
theorem SpOut.eq {list : List gCheck} {L : List Int} {from_ per : Int} (hL : SrtI (dueOf list) list.length L list.length) {r s : List Int × Bool} (h1 : SpOut list L from_ per r) (h2 : SpOut list L from_ per s) : r = s := by
  rcases h1 with ⟨h1, k, g1, g2, g3⟩ | ⟨h1, h3, h4, h5⟩ <;> rcases h2 with ⟨h2, k', g1', g2', g3'⟩ | ⟨h2, h3', h4', h5'⟩
  · rw [h1, h2]
  · exact absurd g3 (h2 k g1 g2)
  · exact absurd g3' (h1 k' g1' g2')
  · refine Prod.ext (list_ext_at (by rw [h4, h4']) fun j j0 j1 => ?_) (by rw [h3, h3'])
    obtain ⟨q, q0, q1, q2⟩ := hL.sur j j0 (by omega)
    rw [← q2, h5 q q0 q1, h5' q q0 q1]
theorem div_is {d p r : Int} (h0 : 0 ≤ r) (h1 : r < p) : (d * p + r) / p = d := by
  rw [Int.add_comm, Int.add_mul_ediv_right _ _ (by omega), Int.ediv_eq_zero_of_lt h0 h1]; omega
theorem div_le {k p : Int} (h0 : 0 ≤ k) (h1 : 1 ≤ p) : 0 ≤ k / p ∧ k / p ≤ k := by
  refine ⟨Int.ediv_nonneg h0 (by omega), ?_⟩
  exact Int.ediv_le_self _ h0
theorem spread_impl {list : List gCheck} {from_ per : Int} (hC : CkIn list) (hf : 0 ≤ from_ ∧ from_ ≤ 100000) (hp : 1 ≤ per ∧ per ≤ 16) : SpOut list (ordOf list) from_ per (m_impl_spread list from_ per) := by
  have hL := ord_is list hC.1
  have hn := hC.1
  simp only [m_impl_spread]
  refine LOOP_post (fun (x : List Int × Int) => (x.1.length = list.length ∧ 0 ≤ x.2 ∧ x.2 ≤ list.length) ∧ ∀ q, 0 ≤ q → q < x.2 → at' x.1 q = q) (fun x => ((list.length : Int) - x.2).toNat) (fun _ (r : List Int × Bool) => SpOut list (ordOf list) from_ per r) (fun rec x hI ih => ?_) _ _ ⟨⟨by simp, by simp, by simp⟩, fun q h1 h2 => by simp only at h2; omega⟩ (by simp)
  obtain ⟨xs, i⟩ := x
  obtain ⟨⟨hl, h0, h1⟩, hA⟩ := hI
  simp only at hl h0 h1 hA
  simp only [m_impl_spread_b1]
  rw [show (((List.replicate ((list.length : Int) : Int).toNat (0 : Int)).length : Nat) : Int) = list.length by simp]
  by_cases hi : i < (list.length : Int)
  · simp only [hi, decide_true, Bool.cond_true]
    refine ih _ ⟨⟨by simp only [put_len]; exact hl, by simp only; omega, by simp only; omega⟩, fun q q0 q1 => ?_⟩ (by simp only; omega)
    simp only at q1 ⊢
    by_cases e : q = i
    · subst e; exact put_at ⟨q0, by omega⟩
    · rw [put_at_ne h0 q0 (fun h => e h.symm)]; exact hA q q0 (by omega)
  · simp only [hi, decide_false, Bool.cond_false]
    have hx : xs = idl list.length := list_eq_irange hl (fun q q0 q1 => hA q q0 (by omega))
    subst hx
    refine LOOP_post (fun (x : List Int × Int) => (x.1.length = list.length ∧ 0 ≤ x.2 ∧ x.2 ≤ list.length) ∧ (∀ p, 0 ≤ p → p < x.2 → ¬ SpBad list (ordOf list) from_ per p) ∧ ∀ p, 0 ≤ p → p < x.2 → at' x.1 (at' (ordOf list) p) = from_ + p / per) (fun x => ((list.length : Int) - x.2).toNat) (fun _ (r : List Int × Bool) => SpOut list (ordOf list) from_ per r) (fun rec2 x hI ih2 => ?_) _ _ ⟨⟨by simp, by simp, by simp⟩, fun q h1 h2 => by simp only at h2; omega, fun q h1 h2 => by simp only at h2; omega⟩ (by simp only [idl_len]; omega)
    obtain ⟨plan, k⟩ := x
    obtain ⟨⟨g1, g2, g3⟩, hB, hV⟩ := hI
    simp only at g1 g2 g3 hB hV
    simp only [m_impl_spread_b2, idl_len]
    by_cases hk : k < (list.length : Int)
    · simp only [hk, decide_true, Bool.cond_true]
      have hd := div_le g2 hp.1
      have hD : IntKind.wrap .i64 (from_ + (IntKind.wrap .i64 (Int.tdiv k per))) = from_ + k / per := by
        rw [Int.tdiv_eq_ediv_of_nonneg g2, wr64 (n := k / per) (by omega), wr64 (by omega)]
      have hlow := hL.low k g2 hk
      show SpOut list (ordOf list) from_ per (bif decide ((m_impl_Check_due (at' list (at' (ordOf list) k))) < (at' (put' plan (at' (ordOf list) k) (IntKind.wrap .i64 (from_ + (IntKind.wrap .i64 (Int.tdiv k per))))) (at' (ordOf list) k))) then (([] : List Int), false) else rec2 (put' plan (at' (ordOf list) k) (IntKind.wrap .i64 (from_ + (IntKind.wrap .i64 (Int.tdiv k per)))), k + 1))
      rw [hD, put_at (by omega)]
      by_cases hb : SpBad list (ordOf list) from_ per k
      · have hb' : m_impl_Check_due (at' list (at' (ordOf list) k)) < from_ + k / per := hb
        simp only [hb', decide_true, Bool.cond_true]
        exact .inl ⟨rfl, k, g2, hk, hb⟩
      · have hb' : ¬ m_impl_Check_due (at' list (at' (ordOf list) k)) < from_ + k / per := hb
        simp only [hb', decide_false, Bool.cond_false]
        refine ih2 _ ⟨⟨by simp only [put_len]; exact g1, by simp only; omega, by simp only; omega⟩, fun p p0 p1 => ?_, fun p p0 p1 => ?_⟩ (by simp only; omega)
        · simp only at p1
          by_cases e : p = k
          · subst e; exact hb
          · exact hB p p0 (by omega)
        · simp only at p1 ⊢
          by_cases e : p = k
          · subst e; exact put_at (by omega)
          · have hlp := hL.low p p0 (by omega)
            rw [put_at_ne hlow.1 hlp.1 (fun h => e (hL.inj ⟨p0, by omega⟩ ⟨g2, hk⟩ h.symm))]
            exact hV p p0 (by omega)
    · have he : k = list.length := by omega
      subst he
      simp only [hk, decide_false, Bool.cond_false]
      exact .inr ⟨hB, rfl, g1, hV⟩
def PickI (list : List gCheck) (out : List Int) (b i : Int) : Prop := (b = -1 ∧ ∀ j, 0 ≤ j → j < i → ¬ at' out j < 0) ∨ (0 ≤ b ∧ b < i ∧ at' out b < 0 ∧ ∀ j, 0 ≤ j → j < i → at' out j < 0 → ¬ lexI (dueOf list) j b)
structure SpI (list : List gCheck) (L : List Int) (from_ per : Int) (out : List Int) (k : Int) : Prop where
  len : out.length = list.length
  rng : 0 ≤ k ∧ k ≤ list.length
  good : ∀ p, 0 ≤ p → p < k → ¬ SpBad list L from_ per p
  val : ∀ p, 0 ≤ p → p < k → at' out (at' L p) = from_ + p / per
  rst : ∀ p, k ≤ p → p < (list.length : Int) → at' out (at' L p) = -1
theorem pick_is {list : List gCheck} {L : List Int} {from_ per : Int} (hL : SrtI (dueOf list) list.length L list.length) (hf : 0 ≤ from_) (hp : 1 ≤ per) {out : List Int} {k : Int} (h : SpI list L from_ per out k) (hk : k < list.length) {b : Int} (hb : PickI list out b list.length) : b = at' L k := by
  have hr := h.rng
  have hlow := hL.low k hr.1 hk
  have hun := h.rst k (Int.le_refl _) hk
  rcases hb with ⟨_, h2⟩ | ⟨h1, h2, h3, h4⟩
  · exact absurd (by omega) (h2 _ hlow.1 hlow.2)
  · obtain ⟨p, p0, p1, p2⟩ := hL.sur b h1 h2
    subst p2
    have hpk : k ≤ p := by
      apply Classical.byContradiction; intro hn
      rw [h.val p p0 (by omega)] at h3
      have := div_le p0 hp; omega
    by_cases e : p = k
    · rw [e]
    · exact absurd (hL.srt k p hr.1 (by omega) p1) (h4 _ hlow.1 hlow.2 (by omega))
theorem SpI.put {list : List gCheck} {L : List Int} {from_ per : Int} (hL : SrtI (dueOf list) list.length L list.length) {out : List Int} {k : Int} (h : SpI list L from_ per out k) (hk : k < list.length) (hb : ¬ SpBad list L from_ per k) : SpI list L from_ per (put' out (at' L k) (from_ + k / per)) (k + 1) := by
  have hr := h.rng
  have hl := h.len
  have hlow := hL.low k hr.1 hk
  refine ⟨by rw [put_len]; exact hl, by omega, fun p p0 p1 => ?_, fun p p0 p1 => ?_, fun p p0 p1 => ?_⟩
  · by_cases e : p = k
    · subst e; exact hb
    · exact h.good p p0 (by omega)
  · by_cases e : p = k
    · subst e; exact put_at (by omega)
    · have hlp := hL.low p p0 (by omega)
      rw [put_at_ne hlow.1 hlp.1 (fun q => e (hL.inj ⟨p0, by omega⟩ ⟨hr.1, hk⟩ q.symm))]
      exact h.val p p0 (by omega)
  · have hlp := hL.low p (by omega) p1
    rw [put_at_ne hlow.1 hlp.1 (fun q => by have := hL.inj (p := k) (q := p) ⟨hr.1, hk⟩ ⟨by omega, p1⟩ q; omega)]
    exact h.rst p (by omega) p1
theorem spread_spec {list : List gCheck} {from_ per : Int} {L : List Int} (hL : SrtI (dueOf list) list.length L list.length) (hC : CkIn list) (hf : 0 ≤ from_ ∧ from_ ≤ 100000) (hp : 1 ≤ per ∧ per ≤ 16) : SpOut list L from_ per (m_spec_l25Spread list from_ per) := by
  have hn := hC.1
  simp only [m_spec_l25Spread]
  refine LOOP_post (fun (x : List Int × Int) => ((x.1.length : Int) = x.2 ∧ 0 ≤ x.2 ∧ x.2 ≤ list.length) ∧ ∀ q, 0 ≤ q → q < x.2 → at' x.1 q = -1) (fun x => ((list.length : Int) - x.2).toNat) (fun _ (r : List Int × Bool) => SpOut list L from_ per r) (fun rec x hI ih => ?_) _ _ ⟨⟨by simp, by simp, by simp⟩, fun q h1 h2 => by simp only at h2; omega⟩ (by simp)
  obtain ⟨xs, i⟩ := x
  obtain ⟨⟨hl, h0, h1⟩, hA⟩ := hI
  simp only at hl h0 h1 hA
  simp only [m_spec_l25Spread_b1]
  by_cases hi : i < (list.length : Int)
  · simp only [hi, decide_true, Bool.cond_true]
    refine ih _ ⟨⟨by simp only [List.length_append, List.length_cons, List.length_nil]; omega, by simp only; omega, by simp only; omega⟩, fun q q0 q1 => ?_⟩ (by simp only; omega)
    simp only at q1 ⊢
    by_cases e : q = i
    · subst e
      have hq : q.toNat = xs.length := by omega
      simp [at', List.getD_eq_getElem?_getD, hq]
    · have hq : q.toNat < xs.length := by omega
      have := hA q q0 (by omega)
      simp only [at', List.getD_eq_getElem?_getD] at this ⊢
      rw [List.getElem?_append_left hq]; exact this
  · simp only [hi, decide_false, Bool.cond_false]
    have he : i = list.length := by omega
    subst he
    refine LOOP_post (fun (x : List Int × Int × Int) => ∃ k, SpI list L from_ per x.1 k ∧ x.2.1 = list.length - k ∧ (k = (x.2.2 - from_) * per ∨ k = list.length) ∧ from_ ≤ x.2.2) (fun x => x.2.1.toNat) (fun _ (r : List Int × Bool) => SpOut list L from_ per r) (fun rec2 x hI ih2 => ?_) _ _ ⟨0, ⟨by simp only; omega, by omega, fun p h1 h2 => by omega, fun p h1 h2 => by omega, fun p h1 h2 => by have := hL.low p h1 h2; simp only; exact hA _ this.1 this.2⟩, by simp, .inl (by simp), by simp⟩ (by simp)
    obtain ⟨out, left, day⟩ := x
    obtain ⟨k, hS, e1, e2, e3⟩ := hI
    simp only at hS e1 e2 e3
    simp only [m_spec_l25Spread_b2]
    have hr := hS.rng
    by_cases hleft : 0 < left
    · simp only [hleft, decide_true, Bool.cond_true]
      have e4 : k = (day - from_) * per := by rcases e2 with h | h <;> omega
      refine LOOP_post (fun (x : List Int × Int × Int) => ∃ k', SpI list L from_ per x.1 k' ∧ x.2.1 = list.length - k' ∧ k' = k + x.2.2 ∧ 0 ≤ x.2.2 ∧ x.2.2 ≤ per) (fun x => (per - x.2.2).toNat) (fun _ (r : List Int × Bool) => SpOut list L from_ per r) (fun rec3 x hI ih3 => ?_) _ _ ⟨k, hS, by simp only; omega, by simp, by simp, by simp only; omega⟩ (by simp)
      obtain ⟨out3, left3, n3⟩ := x
      obtain ⟨k', hS', f1, f2, f3, f4⟩ := hI
      simp only at hS' f1 f2 f3 f4
      simp only [m_spec_l25Spread_b3]
      have hr' := hS'.rng
      by_cases hc : n3 < per ∧ 0 < left3
      · simp only [hc.1, hc.2, decide_true, Bool.and_true, Bool.cond_true]
        have hk' : k' < list.length := by omega
        have hday : from_ + k' / per = day := by
          rw [f2, e4, div_is f3 hc.1]; omega
        refine LOOP_post (fun (x : Int × Int) => (0 ≤ x.2 ∧ x.2 ≤ list.length) ∧ PickI list out3 x.1 x.2) (fun x => ((list.length : Int) - x.2).toNat) (fun _ (r : List Int × Bool) => SpOut list L from_ per r) (fun rec4 x hI ih4 => ?_) _ _ ⟨by simp, .inl ⟨rfl, fun j h1 h2 => by simp only at h2; omega⟩⟩ (by simp)
        obtain ⟨b, i⟩ := x
        obtain ⟨⟨i0, i1⟩, hP⟩ := hI
        simp only at i0 i1 hP
        simp only [m_spec_l25Spread_b4]
        by_cases hi4 : i < (list.length : Int)
        · simp only [hi4, decide_true, Bool.cond_true]
          by_cases ht : at' out3 i < 0 ∧ (b < 0 ∨ m_spec_l25Due (at' list i) < m_spec_l25Due (at' list b))
          · have ht' : ((decide ((at' out3 i) < 0)) && ((decide (b < 0)) || (decide ((m_spec_l25Due (at' list i)) < (m_spec_l25Due (at' list b)))))) = true := by simpa using ht
            rw [ht']
            simp only [Bool.cond_true]
            refine ih4 _ ⟨⟨by simp only; omega, by simp only; omega⟩, .inr ⟨i0, by simp only; omega, ht.1, fun j j0 j1 j2 => ?_⟩⟩ (by simp only; omega)
            simp only at j1 ⊢
            by_cases e : j = i
            · subst e; unfold lexI; omega
            · rcases hP with ⟨q1, q2⟩ | ⟨q1, q2, q3, q4⟩
              · exact absurd j2 (q2 j j0 (by omega))
              · have hlt : dueOf list i < dueOf list b := by rcases ht.2 with h | h; omega; exact h
                have := q4 j j0 (by omega) j2
                unfold lexI at this ⊢; omega
          · have ht' : ((decide ((at' out3 i) < 0)) && ((decide (b < 0)) || (decide ((m_spec_l25Due (at' list i)) < (m_spec_l25Due (at' list b)))))) = false := by rw [Bool.eq_false_iff]; simpa using ht
            rw [ht']
            simp only [Bool.cond_false]
            refine ih4 _ ⟨⟨by simp only; omega, by simp only; omega⟩, ?_⟩ (by simp only; omega)
            simp only
            rcases hP with ⟨q1, q2⟩ | ⟨q1, q2, q3, q4⟩
            · refine .inl ⟨q1, fun j j0 j1 j2 => ?_⟩
              by_cases e : j = i
              · subst e; exact ht ⟨j2, .inl (by omega)⟩
              · exact q2 j j0 (by omega) j2
            · refine .inr ⟨q1, by omega, q3, fun j j0 j1 j2 => ?_⟩
              by_cases e : j = i
              · subst e
                have : ¬ dueOf list j < dueOf list b := fun h => ht ⟨j2, .inr h⟩
                unfold lexI; omega
              · exact q4 j j0 (by omega) j2
        · have he : i = list.length := by omega
          subst he
          simp only [hi4, decide_false, Bool.cond_false]
          have hb := pick_is hL hf.1 hp.1 hS' hk' hP
          subst hb
          by_cases hbad : SpBad list L from_ per k'
          · have hbad' : m_spec_l25Due (at' list (at' L k')) < day := by have : dueOf list (at' L k') < from_ + k' / per := hbad; rw [hday] at this; exact this
            simp only [hbad', decide_true, Bool.cond_true]
            exact .inl ⟨rfl, k', hr'.1, hk', hbad⟩
          · have hbad' : ¬ m_spec_l25Due (at' list (at' L k')) < day := by rw [← hday]; exact hbad
            simp only [hbad', decide_false, Bool.cond_false]
            refine ih3 _ ⟨k' + 1, ?_, by simp only; omega, by simp only; omega, by simp only; omega, by simp only; omega⟩ (by simp only; omega)
            simp only
            rw [← hday]
            exact hS'.put hL hk' hbad
      · have hc' : ((decide (n3 < per)) && (decide (0 < left3))) = false := by rw [Bool.eq_false_iff]; simpa using hc
        rw [hc']
        simp only [Bool.cond_false]
        refine ih2 _ ⟨k', hS', by simp only; omega, ?_, by simp only; omega⟩ (by simp only; omega)
        simp only
        by_cases hz : left3 = 0
        · right; omega
        · left
          have : n3 = per := by omega
          rw [f2, e4, this, show day + 1 - from_ = (day - from_) + 1 by omega, Int.add_mul, Int.one_mul]
    · have hz : k = list.length := by omega
      subst hz
      simp only [hleft, decide_false, Bool.cond_false]
      exact .inr ⟨hS.good, rfl, hS.len, hS.val⟩
theorem SpreadChecks_eq (list : List gCheck) (from_ per : Int) : m_impl_SpreadChecks list from_ per = m_spec_SpreadChecks list from_ per := by
  simp only [m_impl_SpreadChecks, m_spec_SpreadChecks, checks_eq]
  cases h1 : m_spec_l25Ok list with
  | false => rfl
  | true =>
    have e1 : m_impl_checkDay from_ = m_spec_l25Day from_ := rfl
    have e2 : m_impl_within per 1 16 = m_spec_l00In per 1 16 := rfl
    rw [e1, e2]
    cases h2 : m_spec_l25Day from_ with
    | false => rfl
    | true =>
      cases h3 : m_spec_l00In per 1 16 with
      | false => rfl
      | true =>
        have hC := checks_in h1
        have hf := ckDay_imp h2
        have hp := l00In_imp h3
        rw [SpOut.eq (ord_is list hC.1) (spread_impl hC hf hp) (spread_spec (ord_is list hC.1) hC hf hp)]
theorem SpreadChecks_len (list : List gCheck) (from_ per : Int) : (m_spec_SpreadChecks list from_ per).1.length ≤ 1048576 := by
  simp only [m_spec_SpreadChecks]
  cases h1 : m_spec_l25Ok list with
  | false => simp
  | true =>
    cases h2 : m_spec_l25Day from_ with
    | false => simp
    | true =>
      cases h3 : m_spec_l00In per 1 16 with
      | false => simp
      | true =>
        have hC := checks_in h1
        have := spread_spec (ord_is list hC.1) hC (ckDay_imp h2) (l00In_imp h3)
        simp only [Bool.not_true, Bool.or_self, Bool.cond_false]
        rcases this with ⟨h, _⟩ | ⟨_, h4, h5, _⟩
        · rw [h]; simp
        · rw [h4]; simp only [Bool.not_true, Bool.cond_false]; rw [h5]; have := hC.1; omega

end Go.Proofs.Ytbeppnhplglocaa
