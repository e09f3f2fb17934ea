/-
  PLAIN LAWS about the models: no program in sight. Conditions: as each theorem states them.
-/
import Derived.Test.YtibbfdojcdkopaaExactAssignCrewsPlain9
set_option linter.unusedVariables false
set_option linter.unusedSimpArgs false
set_option linter.unusedSectionVars false
set_option linter.unnecessarySimpa false
namespace Go.Proofs.Ytibbfdojcdkopaa
open Go Go.RowKit Go.Proofs Go.Proofs.Ytibbfdojcdkopaa.E
/-! ## Refuges: both models judge alike -/
theorem valid_eq2 {α : Type} [Inhabited α] {list : List α} {N : Int} {b b' : (Int → Bool) → (Int → Bool) → Int → Bool} (v v' : α → Bool) (id : α → List UInt8) (ok : Bool)
    (hb : ∀ rec k i, 0 ≤ i → b rec k i = bif decide (i < (list.length : Int)) then (bif (!(v (at' list i))) || ((decide (0 < i)) && (strB .leq (id (at' list i)) (id (at' list (i - 1))))) then false else rec (i + 1)) else k i)
    (hb' : ∀ rec k i, 0 ≤ i → b' rec k i = bif decide (i < (list.length : Int)) then (bif (!(v' (at' list i))) || ((decide (0 < i)) && (strB .geq (id (at' list (i - 1))) (id (at' list i)))) then false else rec (i + 1)) else k i) (hv : ok = true → ∀ x, v x = v' x) :
    (bif !ok || decide (N < (list.length : Int)) then false else LOOP b (fun _ => true) (((list.length : Int) - 0 : Int).toNat + 1) 0) = (bif !ok || decide (N < (list.length : Int)) then false else LOOP b' (fun _ => true) (((list.length : Int) - 0 : Int).toNat + 1) 0) := by
  cases ok with
  | false => rfl
  | true =>
    have h : LOOP b (fun _ => true) (((list.length : Int) - 0 : Int).toNat + 1) 0 = LOOP b' (fun _ => true) (((list.length : Int) - 0 : Int).toNat + 1) 0 := by
      rw [Bool.eq_iff_iff, valid_iff v' id hb', valid_iff v id (fun rec k i h => by rw [hb rec k i h, strleq_geq])]
      simp only [hv rfl]
    rw [h]
def RefugeIn (m : gMine) (list : List gRefuge) : Prop := list.length ≤ 8 ∧ ∀ x ∈ list, 0 ≤ x.Junction ∧ x.Junction < m.Junctions
theorem refuge_eq (x : gRefuge) : m_impl_Refuge_valid x = m_spec_l20One x := by
  simp only [m_impl_Refuge_valid, m_spec_l20One, name_eq, m_impl_junctionOk, within_eq]
theorem one20_imp {x : gRefuge} (h : m_spec_l20One x = true) : 0 ≤ x.Junction := by
  simp only [m_spec_l20One, m_spec_l00In, Bool.and_eq_true, decide_eq_true_eq] at h; omega
theorem refuges_eq (m : gMine) (list : List gRefuge) : m_impl_ValidRefuges m list = m_spec_l20Ok m list := by
  simp only [m_impl_ValidRefuges, mine_eq, m_spec_l20Ok]
  refine valid_eq2 (fun t => m_impl_Refuge_valid t && m_impl_Mine_hasJunction m t.Junction) (fun t => m_spec_l20One t && !decide (m.Junctions ≤ t.Junction)) (fun t => t.Id) _ (fun rec k i _ => by simp only [m_impl_ValidRefuges_b1, Bool.not_and]) (fun rec k i _ => by simp only [m_spec_l20Ok_b1, Bool.not_and, Bool.not_not]) fun ho x => ?_
  rw [refuge_eq, hasJunction_eq (l04Ok_imp ho)]
  cases ho : m_spec_l20One x with
  | false => rfl
  | true => have h0 := one20_imp ho; rw [Bool.eq_iff_iff]; simp; omega
theorem l20Ok_imp {m : gMine} {list : List gRefuge} (h : m_spec_l20Ok m list = true) : RefugeIn m list := by
  simp only [m_spec_l20Ok] at h
  cases ho : m_spec_l04Ok m with
  | false => simp [ho] at h
  | true =>
    by_cases hl : (8 : Int) < list.length
    · simp [ho, hl] at h
    · simp only [ho, hl, Bool.not_true, Bool.false_or, decide_false, Bool.cond_false] at h
      have h1 := (valid_iff (fun t => m_spec_l20One t && !decide (m.Junctions ≤ t.Junction)) (fun t => t.Id) (fun rec k i _ => by simp only [m_spec_l20Ok_b1, Bool.not_and, Bool.not_not])).1 h
      refine ⟨by omega, all_at.2 fun j hj => ?_⟩
      have h2 := (h1.1 j (by omega)).1
      simp only [Bool.and_eq_true, Bool.not_eq_true', decide_eq_false_iff_not] at h2
      have := one20_imp h2.1
      omega
theorem ValidRefuges_imp {m : gMine} {list : List gRefuge} (h : m_impl_ValidRefuges m list = true) : RefugeIn m list := l20Ok_imp (by rw [← refuges_eq]; exact h)

end Go.Proofs.Ytibbfdojcdkopaa
