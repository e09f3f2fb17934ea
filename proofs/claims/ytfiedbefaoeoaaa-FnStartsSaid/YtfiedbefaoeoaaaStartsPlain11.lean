/-
  PLAIN LAWS about the models: no program in sight. Conditions: as each theorem states them.
-/
import Derived.Test.YtfiedbefaoeoaaaStartsPlain10
set_option linter.unusedVariables false
set_option linter.unusedSimpArgs false
set_option linter.unusedSectionVars false
set_option linter.unnecessarySimpa false
namespace Go.Proofs.Ytfiedbefaoeoaaa
open Go Go.RowKit Go.Proofs Go.Proofs.Ytfiedbefaoeoaaa.E
/-! ## FnStarts -/
def atT (x : gPermit) (t : Int) : gPermit := gPermit.mk x.Id x.Kind x.Airway t (t + (x.Until - x.From))
def clT (m : gMine) (list : List gPermit) (x : gPermit) (t : Int) : Bool := m_impl_Mine_clashesWith m (atT x t) list
structure StartAt (m : gMine) (list : List gPermit) (x : gPermit) (t : Int) : Prop where
  ok : m_spec_l26Ok m list = true
  one : m_spec_l26One x = true
  air : ¬ (m.Airways.length : Int) ≤ x.Airway
  low : x.From ≤ t
  high : t + (x.Until - x.From) ≤ 100000
  free : clT m list x t = false
  bef : x.From < t → clT m list x (t - 1) = true
theorem first_is (m : gMine) (list : List gPermit) (x : gPermit) : ((m_impl_FirstStart m list x).1 = 0 ∧ (m_impl_FirstStart m list x).2 ≠ 0) ∨ ∃ t, m_impl_FirstStart m list x = (t, 0) ∧ StartAt m list x t := by
  simp only [m_impl_FirstStart, permits_eq]
  cases hv : m_spec_l26Ok m list with
  | false => left; simp
  | true =>
    simp only [Bool.not_true, Bool.cond_false]
    have e : (!m_impl_Permit_valid x || !m_impl_indexValid_impl_Airway m.Airways x.Airway) = (!m_spec_l26One x || decide ((m.Airways.length : Int) ≤ x.Airway)) := by
      rw [permit_eq, index_eq]
      cases ho : m_spec_l26One x with
      | false => rfl
      | true =>
        have h0 := (one_imp ho).1
        rw [Bool.eq_iff_iff]; simp; omega
    rw [e]
    cases hc : (!m_spec_l26One x || decide ((m.Airways.length : Int) ≤ x.Airway)) with
    | true => left; simp
    | false =>
      simp only [Bool.or_eq_false_iff, Bool.not_eq_false', decide_eq_false_iff_not] at hc
      have hx := one_imp hc.1
      have hp := l26Ok_imp hv
      simp only [Bool.cond_false]
      refine LOOP_post (fun (y : Int × Int) => (x.From ≤ y.1 ∧ y.1 ≤ 100000 ∧ y.2 = y.1 + (x.Until - x.From)) ∧ (x.From < y.1 → clT m list x (y.1 - 1) = true)) (fun y => (100000 - y.1).toNat) (fun _ (r : Int × Int) => (r.1 = 0 ∧ r.2 ≠ 0) ∨ ∃ t, r = (t, 0) ∧ StartAt m list x t) (fun rec y hI ih => ?_) _ _ ⟨⟨by simp, by simp only; omega, by simp only; omega⟩, fun h => by simp at h⟩ (by simp)
      obtain ⟨t, u⟩ := y
      obtain ⟨⟨h1, h2, h3⟩, h4⟩ := hI
      simp only at h1 h2 h3 h4
      subst h3
      simp only [m_impl_FirstStart_b1]
      cases hcl : m_impl_Mine_clashesWith m (gPermit.mk x.Id x.Kind x.Airway t (t + (x.Until - x.From))) list with
      | true =>
        have hlt := clashesWith_lt hp hcl
        simp only at hlt
        simp only [Bool.cond_true]
        refine ih _ ⟨⟨by simp only; omega, by simp only; omega, by simp only; omega⟩, fun _ => ?_⟩ (by simp only; omega)
        simp only
        rw [show t + 1 - 1 = t by omega]; exact hcl
      | false =>
        simp only [Bool.cond_false, m_impl_orNotFound]
        by_cases hl : t + (x.Until - x.From) ≤ 100000
        · right
          simp only [hl, decide_true, Bool.not_true, Bool.cond_false]
          exact ⟨t, rfl, hv, hc.1, hc.2, h1, hl, hcl, h4⟩
        · left; simp [hl]
/-! ### AddPermit of the reference -/
def PosI (list : List gPermit) (id : List UInt8) (p : Int) : Prop := (0 ≤ p ∧ p ≤ list.length) ∧ (∀ q, 0 ≤ q → q < p → strB .lss (at' list q).Id id = true) ∧ (p < list.length → strB .lss (at' list p).Id id = false)
theorem PosI.uniq {list : List gPermit} {id : List UInt8} {p q : Int} (h1 : PosI list id p) (h2 : PosI list id q) : p = q := by
  obtain ⟨⟨a0, a1⟩, a2, a3⟩ := h1
  obtain ⟨⟨b0, b1⟩, b2, b3⟩ := h2
  rcases Int.lt_trichotomy p q with h | h | h
  · have := a3 (by omega); rw [b2 p a0 h] at this; simp at this
  · exact h
  · have := b3 (by omega); rw [a2 q b0 h] at this; simp at this
def addR (m : gMine) (list : List gPermit) (z : gPermit) (p : Int) : List gPermit × Int :=
  bif (decide (p < (list.length : Int))) && (strB .eql (at' list p).Id z.Id) then (([] : List gPermit), 4) else bif (list.length : Int) == 16 then (([] : List gPermit), 5) else bif !(m_spec_l26Free m list z) then (([] : List gPermit), 6) else (((([] : List gPermit) ++ (cut' list 0 p)) ++ ([z] : List gPermit)) ++ (cut' list p (list.length : Int)), 0)
theorem add_is {m : gMine} {list : List gPermit} {z : gPermit} (hv : m_spec_l26Ok m list = true) (ho : m_spec_l26One z = true) (ha : ¬ (m.Airways.length : Int) ≤ z.Airway) : ∃ p, PosI list z.Id p ∧ m_spec_AddPermit m list z = addR m list z p := by
  simp only [m_spec_AddPermit, hv, ho, ha, decide_false, Bool.not_true, Bool.or_self, Bool.cond_false]
  refine LOOP_post (fun (p : Int) => (0 ≤ p ∧ p ≤ list.length) ∧ ∀ q, 0 ≤ q → q < p → strB .lss (at' list q).Id z.Id = true) (fun p => ((list.length : Int) - p).toNat) (fun _ (r : List gPermit × Int) => ∃ p, PosI list z.Id p ∧ r = addR m list z p) (fun rec p hI ih => ?_) _ _ ⟨⟨by omega, by omega⟩, fun q h1 h2 => by omega⟩ (by omega)
  obtain ⟨⟨h0, h1⟩, h2⟩ := hI
  simp only [m_spec_AddPermit_b1]
  by_cases hp : p < (list.length : Int)
  · cases hs : strB .lss (at' list p).Id z.Id with
    | true =>
      simp only [hp, decide_true, Bool.and_self, Bool.cond_true]
      refine ih _ ⟨⟨by omega, by omega⟩, fun q q0 q1 => ?_⟩ (by omega)
      by_cases e : q = p
      · subst e; exact hs
      · exact h2 q q0 (by omega)
    | false =>
      simp only [Bool.and_false, Bool.cond_false]
      exact ⟨p, ⟨⟨h0, h1⟩, h2, fun _ => hs⟩, rfl⟩
  · simp only [hp, decide_false, Bool.false_and, Bool.cond_false]
    refine ⟨p, ⟨⟨h0, h1⟩, h2, fun h => absurd h hp⟩, ?_⟩
    simp only [addR, hp, decide_false, Bool.false_and, Bool.cond_false]
theorem free_is {m : gMine} {list : List gPermit} {z : gPermit} (hv : m_spec_l26Ok m list = true) (ho : m_spec_l26One z = true) : m_spec_l26Free m list z = !m_impl_Mine_clashesWith m z list := by
  have hp := l26Ok_imp hv
  have hk := (one_imp ho).2.2.2.2
  have h1 := LOOP_all (b := m_spec_l26Free_b1 m list z) (n := list.length) (fun rec k i _ => rfl) (k := fun _ => true) (((list.length : Int) - 0 : Int).toNat + 1) 0 (by omega) (by omega) (by omega)
  rw [Bool.eq_iff_iff]
  simp only [m_spec_l26Free]
  rw [h1]
  simp only [and_true, Bool.not_eq_true']
  constructor
  · intro h
    cases hc : m_impl_Mine_clashesWith m z list with
    | false => rfl
    | true =>
      obtain ⟨y, hy, hcl⟩ := with_iff.1 hc
      obtain ⟨j, hj, e⟩ := List.mem_iff_getElem.1 hy
      have := h j (by omega) hj
      rw [at_lt hj, e] at this
      rw [clash_eq hk (hp y hy).2.2.2.2.2, this] at hcl
      simp at hcl
  · intro h j _ hj
    have hm := at_mem (xs := list) (i := (j : Int)) ⟨by omega, by omega⟩
    cases hc : m_spec_l26Clash m (at' list j) z with
    | false => rfl
    | true =>
      have : m_impl_Mine_clashesWith m z list = true := with_iff.2 ⟨_, hm, by rw [clash_eq hk (hp _ hm).2.2.2.2.2]; exact hc⟩
      rw [this] at h; simp at h
theorem zone {x : gPermit} {t : Int} (h : m_spec_l26One x = true) (h0 : 0 ≤ t) (h1 : t + (x.Until - x.From) ≤ 100000) : m_spec_l26One (gPermit.mk ([122, 122, 122, 122] : List UInt8) x.Kind x.Airway t (t + (x.Until - x.From))) = true := by
  have hi := one_imp h
  simp only [m_spec_l26One, Bool.and_eq_true] at h ⊢
  refine ⟨⟨⟨⟨by rfl, h.1.1.1.2⟩, h.1.1.2⟩, ?_⟩, ?_⟩
  · simp only [m_spec_l00In, Bool.and_eq_true, decide_eq_true_eq]; omega
  · simp only [m_spec_l00In, Bool.and_eq_true, decide_eq_true_eq]; rw [wr64 (by omega)]; omega
theorem clash_id {m : gMine} {a b : List UInt8} {k w f u : Int} {list : List gPermit} : m_impl_Mine_clashesWith m (gPermit.mk a k w f u) list = m_impl_Mine_clashesWith m (gPermit.mk b k w f u) list := rfl
/-! ### A list with one more -/
theorem ins_at {list : List gPermit} {z : gPermit} {p : Int} (hp : 0 ≤ p ∧ p ≤ list.length) {j : Nat} (hj : j ≤ list.length) : at' (((([] : List gPermit) ++ (cut' list 0 p)) ++ ([z] : List gPermit)) ++ (cut' list p (list.length : Int))) j = if (j : Int) < p then at' list j else if (j : Int) = p then z else at' list ((j : Int) - 1) := by
  have hc1 : cut' list 0 p = list.take p.toNat := by simp [cut']
  have hc2 : cut' list p (list.length : Int) = list.drop p.toNat := by simp [cut']; rw [List.take_of_length_le (by rw [List.length_drop]; exact Nat.le_refl _)]
  rw [hc1, hc2]
  simp only [List.nil_append, at', List.getD_eq_getElem?_getD, Int.toNat_natCast]
  have hl : (list.take p.toNat).length = p.toNat := by rw [List.length_take]; omega
  by_cases h1 : (j : Int) < p
  · rw [if_pos h1, List.append_assoc, List.getElem?_append_left (by omega), List.getElem?_take_of_lt (by omega)]
  · rw [if_neg h1]
    by_cases h2 : (j : Int) = p
    · rw [if_pos h2, List.append_assoc, List.getElem?_append_right (by omega), hl, show j - p.toNat = 0 by omega]; rfl
    · rw [if_neg h2, List.getElem?_append_right (by rw [List.length_append, hl]; simp; omega), List.length_append, hl, List.getElem?_drop]
      congr 2; simp; omega
theorem ins_len {list : List gPermit} {z : gPermit} {p : Int} (hp : 0 ≤ p ∧ p ≤ list.length) : (((([] : List gPermit) ++ (cut' list 0 p)) ++ ([z] : List gPermit)) ++ (cut' list p (list.length : Int))).length = list.length + 1 := by
  simp [cut']; omega
theorem l26_all {m : gMine} {list : List gPermit} : m_spec_l26Ok m list = true ↔ (m_spec_l04Ok m = true ∧ list.length ≤ 16) ∧ ∀ j : Nat, j < list.length → m_spec_l26One (at' list j) = true ∧ ¬ (m.Airways.length : Int) ≤ (at' list j).Airway ∧ (0 < j → strB .geq (at' list ((j : Int) - 1)).Id (at' list j).Id = false) := by
  have h2 := LOOP_all (b := m_spec_l26Ok_b1 m list) (n := list.length) (fun rec k i _ => rfl) (k := fun _ => true) (((list.length : Int) - 0 : Int).toNat + 1) 0 (by omega) (by omega) (by omega)
  simp only [m_spec_l26Ok]
  cases h4 : m_spec_l04Ok m with
  | false => simp
  | true =>
    by_cases hl : 16 < (list.length : Int)
    · simp only [hl, decide_true, Bool.or_true, Bool.cond_true]
      constructor
      · intro h; simp at h
      · rintro ⟨⟨_, h⟩, _⟩; omega
    · simp only [hl, decide_false, Bool.not_true, Bool.or_self, Bool.cond_false]
      rw [h2]
      simp only [and_true, true_and]
      constructor
      · intro h
        refine ⟨by omega, fun j hj => ?_⟩
        have := h j (by omega) hj
        simp only [Bool.or_eq_false_iff, Bool.not_eq_false', decide_eq_false_iff_not, Bool.and_eq_false_iff] at this
        refine ⟨this.1.1, this.1.2, fun h0 => ?_⟩
        rcases this.2 with h | h
        · omega
        · exact h
      · rintro ⟨_, h⟩ j _ hj
        have := h j hj
        simp only [Bool.or_eq_false_iff, Bool.not_eq_false', decide_eq_false_iff_not, Bool.and_eq_false_iff]
        refine ⟨⟨this.1, this.2.1⟩, ?_⟩
        by_cases h0 : 0 < j
        · exact .inr (this.2.2 h0)
        · exact .inl (by omega)
theorem l26Ok_len {m : gMine} {list : List gPermit} (h : m_spec_l26Ok m list = true) : list.length ≤ 16 := (l26_all.1 h).1.2
theorem ValidPermits_len {m : gMine} {list : List gPermit} (h : m_impl_ValidPermits m list = true) : list.length ≤ 16 := l26Ok_len (by rw [← permits_eq]; exact h)
theorem cutP_le {xs : List gPermit} {a b : Int} : (cut' xs a b).length ≤ xs.length := by
  simp only [cut', List.length_take, List.length_drop]; omega
theorem lss_geq {a b : List UInt8} (h : strB .lss a b = true) : strB .geq a b = false := by
  simpa [strB] using h
theorem nlss_geq {a b : List UInt8} (h : strB .lss a b = false) (he : strB .eql a b = false) : strB .geq b a = false := by
  have := bytes_tri b a
  simp only [strB] at h he ⊢
  rw [h] at this
  simp only [Bool.not_false, Bool.or_eq_true] at this
  rcases this with h1 | h1
  · simp [h1]
  · rw [beq_iff_eq] at h1; subst h1; simp at he
theorem next_ok {m : gMine} {list : List gPermit} {z : gPermit} {p : Int} (hv : m_spec_l26Ok m list = true) (ho : m_spec_l26One z = true) (ha : ¬ (m.Airways.length : Int) ≤ z.Airway) (hp : PosI list z.Id p) (hl : list.length ≤ 15) (he : p < list.length → strB .eql (at' list p).Id z.Id = false) :
    m_spec_l26Ok m (((([] : List gPermit) ++ (cut' list 0 p)) ++ ([z] : List gPermit)) ++ (cut' list p (list.length : Int))) = true := by
  have h1 := l26_all.1 hv
  obtain ⟨hr, hb, hc⟩ := hp
  refine l26_all.2 ⟨⟨h1.1.1, by rw [ins_len hr]; omega⟩, fun j hj => ?_⟩
  rw [ins_len hr] at hj
  have e0 := ins_at (z := z) hr (j := j) (by omega)
  have e1 : 0 < j → at' (((([] : List gPermit) ++ (cut' list 0 p)) ++ ([z] : List gPermit)) ++ (cut' list p (list.length : Int))) ((j : Int) - 1) = if (j : Int) - 1 < p then at' list ((j : Int) - 1) else if (j : Int) - 1 = p then z else at' list ((j : Int) - 1 - 1) := fun h => by
    have := ins_at (z := z) hr (j := j - 1) (by omega)
    rwa [show (((j - 1 : Nat)) : Int) = (j : Int) - 1 by omega] at this
  by_cases c1 : (j : Int) < p
  · rw [if_pos c1] at e0
    have hj' := h1.2 j (by omega)
    rw [e0]
    refine ⟨hj'.1, hj'.2.1, fun h => ?_⟩
    rw [e1 h, if_pos (by omega)]
    exact hj'.2.2 h
  · rw [if_neg c1] at e0
    by_cases c2 : (j : Int) = p
    · rw [if_pos c2] at e0
      rw [e0]
      refine ⟨ho, ha, fun h => ?_⟩
      rw [e1 h, if_pos (by omega)]
      exact lss_geq (hb _ (by omega) (by omega))
    · rw [if_neg c2] at e0
      have hj' := h1.2 (j - 1) (by omega)
      rw [show (((j - 1 : Nat)) : Int) = (j : Int) - 1 by omega] at hj'
      rw [e0]
      refine ⟨hj'.1, hj'.2.1, fun h => ?_⟩
      rw [e1 h, if_neg (by omega)]
      by_cases c3 : (j : Int) - 1 = p
      · rw [if_pos c3]
        rw [c3]
        exact nlss_geq (hc (by omega)) (he (by omega))
      · rw [if_neg c3]
        exact hj'.2.2 (by omega)
theorem holds_ne {m : gMine} {list : List gPermit} {t : Int} (hv : m_spec_l26Ok m list = true) (ht : 0 ≤ t ∧ t ≤ 100000) {i : Int} (hi : 0 ≤ i ∧ i < list.length) (hw : m_impl_within t (at' list i).From (IntKind.wrap .i64 ((at' list i).Until - 1)) = true) : (m_impl_PermitsAt m list t).2 = 0 ∧ 0 < (m_impl_PermitsAt m list t).1.length := by
  have hw2 : m_impl_within t 0 100000 = true := by simp [m_impl_within, ht.1, ht.2]
  simp only [m_impl_PermitsAt, permits_eq, hv, hw2, Bool.not_true, Bool.cond_false]
  refine LOOP_post (fun (x : List Int × Int) => (0 ≤ x.2 ∧ x.2 ≤ list.length) ∧ (i < x.2 → 0 < x.1.length)) (fun x => ((list.length : Int) - x.2).toNat) (fun _ (r : List Int × Int) => r.2 = 0 ∧ 0 < r.1.length) (fun rec x hI ih => ?_) _ _ ⟨⟨by simp, by simp⟩, fun h => by simp only at h; omega⟩ (by simp)
  obtain ⟨xs, q⟩ := x
  obtain ⟨⟨h0, h1⟩, h2⟩ := hI
  simp only at h0 h1 h2
  simp only [m_impl_PermitsAt_b1]
  by_cases hq : q < (list.length : Int)
  · simp only [hq, decide_true, Bool.cond_true]
    cases hc : m_impl_within t (at' list q).From (IntKind.wrap .i64 ((at' list q).Until - 1)) with
    | true => exact ih _ ⟨⟨by simp only; omega, by simp only; omega⟩, fun _ => by simp⟩ (by simp only; omega)
    | false =>
      refine ih _ ⟨⟨by simp only; omega, by simp only; omega⟩, fun h => ?_⟩ (by simp only; omega)
      simp only at h ⊢
      by_cases e : i = q
      · subst e; rw [hw] at hc; simp at hc
      · exact h2 (by omega)
  · simp only [hq, decide_false, Bool.cond_false]
    exact ⟨by first | rfl | trivial, h2 (by omega)⟩
/-! ### The law, for whatever mine, permits and permit -/
theorem starts_core (m : gMine) (list : List gPermit) (x : gPermit) : (bif (m_impl_FirstStart m list x).2 != 0 then (m_impl_FirstStart m list x).1 == 0 else bif decide ((m_impl_FirstStart m list x).1 < x.From) then false else bif decide (15 < (list.length : Int)) then true else bif (m_spec_AddPermit m list (gPermit.mk ([122, 122, 122, 122] : List UInt8) x.Kind x.Airway (m_impl_FirstStart m list x).1 (IntKind.wrap .i64 ((m_impl_FirstStart m list x).1 + (IntKind.wrap .i64 (x.Until - x.From)))))).2 == 4 then true else bif (m_spec_AddPermit m list (gPermit.mk ([122, 122, 122, 122] : List UInt8) x.Kind x.Airway (m_impl_FirstStart m list x).1 (IntKind.wrap .i64 ((m_impl_FirstStart m list x).1 + (IntKind.wrap .i64 (x.Until - x.From)))))).2 != 0 then false else bif ((m_impl_PermitsAt m (m_spec_AddPermit m list (gPermit.mk ([122, 122, 122, 122] : List UInt8) x.Kind x.Airway (m_impl_FirstStart m list x).1 (IntKind.wrap .i64 ((m_impl_FirstStart m list x).1 + (IntKind.wrap .i64 (x.Until - x.From)))))).1 (m_impl_FirstStart m list x).1).2 != 0) || (((m_impl_PermitsAt m (m_spec_AddPermit m list (gPermit.mk ([122, 122, 122, 122] : List UInt8) x.Kind x.Airway (m_impl_FirstStart m list x).1 (IntKind.wrap .i64 ((m_impl_FirstStart m list x).1 + (IntKind.wrap .i64 (x.Until - x.From)))))).1 (m_impl_FirstStart m list x).1).1.length : Int) == 0) then false else bif (m_impl_FirstStart m list x).1 == x.From then true else (m_spec_AddPermit m list (gPermit.mk ([122, 122, 122, 122] : List UInt8) x.Kind x.Airway (IntKind.wrap .i64 ((m_impl_FirstStart m list x).1 - 1)) (IntKind.wrap .i64 ((IntKind.wrap .i64 ((m_impl_FirstStart m list x).1 - 1)) + (IntKind.wrap .i64 (x.Until - x.From)))))).2 == 6) = true := by
  rcases first_is m list x with ⟨h1, h2⟩ | ⟨t, e, h⟩
  · have : ((m_impl_FirstStart m list x).2 != 0) = true := by simpa using h2
    rw [this]; simp [h1]
  · rw [e]
    obtain ⟨hv, ho, ha, hlow, hhigh, hfree, hbef⟩ := h
    have hx := one_imp ho
    simp only
    have eL : IntKind.wrap .i64 (x.Until - x.From) = x.Until - x.From := wr64 (by omega)
    rw [eL, wr64 (n := t + (x.Until - x.From)) (by omega)]
    have hlow' : ¬ t < x.From := by omega
    simp only [bne_self_eq_false, hlow', decide_false, Bool.cond_false]
    by_cases hl : 15 < (list.length : Int)
    · simp [hl]
    simp only [hl, decide_false, Bool.cond_false]
    have hz := zone ho (t := t) (by omega) hhigh
    generalize hzd : gPermit.mk ([122, 122, 122, 122] : List UInt8) x.Kind x.Airway t (t + (x.Until - x.From)) = z at hz
    have hzi : z.Id = [122, 122, 122, 122] := by rw [← hzd]
    have hza : ¬ (m.Airways.length : Int) ≤ z.Airway := by rw [← hzd]; exact ha
    obtain ⟨p, hp, hadd⟩ := add_is hv hz hza
    have hfr : m_spec_l26Free m list z = true := by
      rw [free_is hv hz, ← hzd]
      have : m_impl_Mine_clashesWith m (gPermit.mk ([122, 122, 122, 122] : List UInt8) x.Kind x.Airway t (t + (x.Until - x.From))) list = false := hfree
      rw [this]; rfl
    have h16 : ((list.length : Int) == 16) = false := by simp; omega
    rw [hadd]
    cases hex : (decide (p < (list.length : Int))) && (strB .eql (at' list p).Id z.Id) with
    | true => simp [addR, hex]
    | false =>
      have hr : addR m list z p = (((([] : List gPermit) ++ (cut' list 0 p)) ++ ([z] : List gPermit)) ++ (cut' list p (list.length : Int)), 0) := by
        simp only [addR, hex, h16, hfr, Bool.not_true, Bool.cond_false]
      rw [hr]
      have heq : p < list.length → strB .eql (at' list p).Id z.Id = false := fun h => by
        simp only [Bool.and_eq_false_iff, decide_eq_false_iff_not] at hex
        rcases hex with h' | h'
        · omega
        · exact h'
      have hok := next_ok hv hz hza hp (by omega) heq
      have hpr := hp.1
      have hat := ins_at (z := z) hpr (j := p.toNat) (by omega)
      rw [show ((p.toNat : Nat) : Int) = p by omega, if_neg (by omega), if_pos rfl] at hat
      have hh := holds_ne (t := t) hok (by omega) (i := p) (by rw [ins_len hpr]; omega) (by
        rw [hat, ← hzd]; simp only [m_impl_within]; rw [wr64 (by omega)]; simp; omega)
      simp only
      rw [hh.1]
      have hn : ¬ ((((m_impl_PermitsAt m (((([] : List gPermit) ++ (cut' list 0 p)) ++ ([z] : List gPermit)) ++ (cut' list p (list.length : Int))) t).1.length : Nat) : Int) = 0) := by have := hh.2; omega
      have hn' : ((((m_impl_PermitsAt m (((([] : List gPermit) ++ (cut' list 0 p)) ++ ([z] : List gPermit)) ++ (cut' list p (list.length : Int))) t).1.length : Nat) : Int) == 0) = false := by simpa using hn
      rw [hn']
      simp only [bne_self_eq_false, Bool.or_self, Bool.cond_false]
      by_cases hs : t = x.From
      · simp [hs]
      · have hs' : (t == x.From) = false := by simpa using hs
        have h04 : ((0 : Int) == 4) = false := rfl
        rw [hs', h04]
        simp only [Bool.cond_false]
        rw [wr64 (n := t - 1) (by omega), wr64 (by omega)]
        have hz2 := zone ho (t := t - 1) (by omega) (by omega)
        generalize hzd2 : gPermit.mk ([122, 122, 122, 122] : List UInt8) x.Kind x.Airway (t - 1) (t - 1 + (x.Until - x.From)) = z2 at hz2
        have hzi2 : z2.Id = z.Id := by rw [hzi, ← hzd2]
        have hza2 : ¬ (m.Airways.length : Int) ≤ z2.Airway := by rw [← hzd2]; exact ha
        obtain ⟨p2, hp2, hadd2⟩ := add_is hv hz2 hza2
        have hpp : p2 = p := by rw [hzi2] at hp2; exact hp2.uniq hp
        subst hpp
        have hfr2 : m_spec_l26Free m list z2 = false := by
          rw [free_is hv hz2, ← hzd2]
          have : m_impl_Mine_clashesWith m (gPermit.mk ([122, 122, 122, 122] : List UInt8) x.Kind x.Airway (t - 1) (t - 1 + (x.Until - x.From))) list = true := hbef (by omega)
          rw [this]; rfl
        rw [hadd2]
        simp only [addR, hzi2, hex, h16, hfr2, Bool.not_false, Bool.cond_false, Bool.cond_true]
        rfl
theorem law_FnStarts (code : List Int) (_ : code.length ≤ 9223372036854775807 ∧ ∀ y ∈ code, 0 ≤ y ∧ y ≤ 255) : m_laws_FnStarts code = true := by
  simp only [m_laws_FnStarts]
  cases m_laws_b10Long code with
  | true => rfl
  | false => simp only [Bool.cond_false]; exact starts_core _ _ _

end Go.Proofs.Ytfiedbefaoeoaaa
