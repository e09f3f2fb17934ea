/-
  PLAIN LAWS about the models: no program in sight. Conditions: as each theorem states them.
-/
import Derived.Test.YtfiedbefaoeoaaaMixingPlain16
set_option linter.unusedVariables false
set_option linter.unusedSimpArgs false
set_option linter.unusedSectionVars false
set_option linter.unnecessarySimpa false
namespace Go.Proofs.Ytfiedbefaoeoaaa
open Go Go.RowKit Go.Proofs Go.Proofs.Ytfiedbefaoeoaaa.E
/-! ## Sources that are drawn are valid -/
def names3 : List (List UInt8) := [([103, 49] : List UInt8), ([103, 50] : List UInt8), ([103, 51] : List UInt8)]
theorem names3_up : ∀ k : Nat, k < 3 → ∀ q : Nat, q < k → strB .leq (at' names3 (k : Int)) (at' names3 (q : Int)) = false := by decide
theorem names3_ok : ∀ k : Nat, k < 3 → m_impl_IsName (at' names3 (k : Int)) = true := by decide
theorem zz_up : ∀ q : Nat, q < 3 → strB .leq ([122, 122] : List UInt8) (at' names3 (q : Int)) = false := by decide
theorem zz_ok : m_impl_IsName ([122, 122] : List UInt8) = true := by decide
structure SrcV (n : Int) (x : gSource) : Prop where
  v : m_impl_Source_valid x = true
  a : 0 ≤ x.Airway ∧ x.Airway < n
  r : 0 ≤ x.Rate ∧ x.Rate ≤ 10000000
theorem SrcV.mk' {n : Int} {x : gSource} (hn : n ≤ 24) (h : m_impl_IsName x.Id = true) (ha : 0 ≤ x.Airway ∧ x.Airway < n) (hr : 0 ≤ x.Rate ∧ x.Rate ≤ 10000000) : SrcV n x := by
  refine ⟨?_, ha, hr⟩
  simp only [m_impl_Source_valid, h, m_impl_within, m_impl_rateOk, Bool.true_and, Bool.and_eq_true, decide_eq_true_eq]
  omega
structure GoodS (n : Int) (A : List gSource) (k : Int) : Prop where
  len : (A.length : Int) ≤ k
  ok : ∀ a ∈ A, SrcV n a
  nm : ∀ j : Nat, j < A.length → ∃ q : Nat, (q : Int) < k ∧ (at' A j).Id = at' names3 (q : Int)
  up : ∀ j : Nat, j < A.length → 0 < j → strB .leq (at' A j).Id (at' A ((j : Int) - 1)).Id = false
theorem GoodS.nil {n : Int} : GoodS n [] 0 := ⟨by simp, fun a h => by simp at h, fun j h => by simp at h, fun j h => by simp at h⟩
theorem GoodS.skip {n : Int} {A : List gSource} {k : Int} (h : GoodS n A k) : GoodS n A (k + 1) :=
  ⟨by have := h.len; omega, h.ok, fun j hj => by obtain ⟨q, h1, h2⟩ := h.nm j hj; exact ⟨q, by omega, h2⟩, h.up⟩
theorem src_up {A : List gSource} {a : gSource} (hup : ∀ j : Nat, j < A.length → 0 < j → strB .leq (at' A j).Id (at' A ((j : Int) - 1)).Id = false) (hl : ∀ j : Nat, j < A.length → strB .leq a.Id (at' A j).Id = false) : ∀ j : Nat, j < (A ++ [a]).length → 0 < j → strB .leq (at' (A ++ [a]) j).Id (at' (A ++ [a]) ((j : Int) - 1)).Id = false := fun j hj hj0 => by
  rw [List.length_append, List.length_singleton] at hj
  by_cases e : j = A.length
  · subst e
    rw [at_app_last, show ((A.length : Int) - 1) = ((A.length - 1 : Nat) : Int) by omega, at_app (by omega)]
    exact hl _ (by omega)
  · rw [at_app (by omega), show ((j : Int) - 1) = ((j - 1 : Nat) : Int) by omega, at_app (by omega)]
    have := hup j (by omega) hj0
    rwa [show ((j : Int) - 1) = ((j - 1 : Nat) : Int) by omega] at this
theorem GoodS.add {n : Int} {A : List gSource} {k : Int} (h : GoodS n A k) (h0 : 0 ≤ k) (h3 : k < 3) {a : gSource} (ha : SrcV n a) (hid : a.Id = at' names3 k) : GoodS n (A ++ [a]) (k + 1) := by
  refine ⟨by have := h.len; simp; omega, fun y hy => ?_, fun j hj => ?_, src_up h.up fun j hj => ?_⟩
  · rcases List.mem_append.1 hy with h1 | h1
    · exact h.ok y h1
    · rw [List.mem_singleton.1 h1]; exact ha
  · rw [List.length_append, List.length_singleton] at hj
    by_cases e : j = A.length
    · subst e; rw [at_app_last]
      exact ⟨k.toNat, by omega, by rw [hid]; congr 1; omega⟩
    · rw [at_app (by omega)]
      obtain ⟨q, h1, h2⟩ := h.nm j (by omega)
      exact ⟨q, by omega, h2⟩
  · obtain ⟨q, h1, h2⟩ := h.nm j hj
    rw [h2, hid]
    have := names3_up k.toNat (by omega) q (by omega)
    rwa [show ((k.toNat : Nat) : Int) = k by omega] at this
theorem sources_good {code : List Int} {m : gMine} (hc : ∀ y ∈ code, 0 ≤ y ∧ y ≤ 255) (hm : MineIn m) : GoodS m.Airways.length (m_spec_R8Sources code m) 3 := by
  have hA := hm.2.1
  simp only [m_spec_R8Sources]
  rw [show ([([103, 49] : List UInt8), ([103, 50] : List UInt8), ([103, 51] : List UInt8)] : List (List UInt8)) = names3 from rfl]
  refine LOOP_post (fun (x : (List Int) × Int × Int × (List gSource) × Int) => ((0 ≤ x.2.2.2.2 ∧ x.2.2.2.2 ≤ 3) ∧ GoodS m.Airways.length x.2.2.2.1 x.2.2.2.2) ∧ Lim (gl00Src.mk x.1 x.2.1 x.2.2.1) (6 * x.2.2.2.2)) (fun x => (3 - x.2.2.2.2).toNat) (fun _ (r : List gSource) => GoodS m.Airways.length r 3) (fun rec x hI ih => ?_) _ _ ⟨⟨by simp, GoodS.nil⟩, (Lim.from hc).mono (by simp)⟩ (by simp [names3])
  obtain ⟨c, a, sd, A, k⟩ := x
  obtain ⟨⟨⟨h0, h1⟩, hG⟩, hL⟩ := hI
  simp only at h0 h1 hG hL
  have fin : GoodS m.Airways.length A 3 := ⟨by have := hG.len; omega, hG.ok, fun j hj => by obtain ⟨q, q1, q2⟩ := hG.nm j hj; exact ⟨q, by omega, q2⟩, hG.up⟩
  simp only [m_spec_R8Sources_b1]
  rw [show ([([103, 49] : List UInt8), ([103, 50] : List UInt8), ([103, 51] : List UInt8)] : List (List UInt8)) = names3 from rfl, show ((names3.length : Nat) : Int) = 3 from rfl]
  by_cases hk : k < 3
  · by_cases hn : 0 < (m.Airways.length : Int)
    · simp only [hk, hn, decide_true, Bool.and_self, Bool.cond_true]
      have l1 := hL.one (k := 2)
      have l2 := l1.pick (k := (m.Airways.length : Int))
      have l3 := l2.pick (k := 4000)
      have n1 := l1.num (k := (m.Airways.length : Int))
      have n1' := n1.2 (by omega)
      have n2 := l2.num (k := 4000)
      have n2' := n2.2 (by omega)
      cases (m_spec_l00Src_one (gl00Src.mk c a sd) 2).1 with
      | true =>
        refine ih _ ⟨⟨by simp only; omega, ?_⟩, l3.mono (by simp only; omega)⟩ (by simp only; omega)
        refine hG.add h0 hk (SrcV.mk' (by omega) ?_ ⟨n1.1, n1'⟩ ?_) rfl
        · have := names3_ok k.toNat (by omega)
          rwa [show ((k.toNat : Nat) : Int) = k by omega] at this
        · simp only
          rw [wr64 (by omega)]; omega
      | false => exact ih _ ⟨⟨by simp only; omega, hG.skip⟩, l1.mono (by simp only; omega)⟩ (by simp only; omega)
    · simp only [hn, decide_false, Bool.and_false, Bool.cond_false]
      exact fin
  · simp only [hk, decide_false, Bool.false_and, Bool.cond_false]
    exact fin
theorem valid_srcs {m : gMine} {A : List gSource} (hv : m_impl_ValidMine m = true) (hl : A.length ≤ 8) (hok : ∀ a ∈ A, SrcV m.Airways.length a) (hup : ∀ j : Nat, j < A.length → 0 < j → strB .leq (at' A j).Id (at' A ((j : Int) - 1)).Id = false) : m_impl_ValidSources m A = true := by
  have h1 := LOOP_all (b := m_impl_ValidSources_b1 m A) (n := A.length) (fun rec k i _ => rfl) (k := fun _ => true) (((A.length : Int) - 0 : Int).toNat + 1) 0 (by omega) (by omega) (by omega)
  have hc : ((!(m_impl_ValidMine m)) || (decide (8 < (A.length : Int)))) = false := by rw [hv]; simp; omega
  simp only [m_impl_ValidSources, hc, Bool.cond_false]
  rw [h1]
  refine ⟨fun j _ hj => ?_, rfl⟩
  have ha := at_all hok (i := (j : Int)) ⟨by omega, by omega⟩
  have hx : m_impl_indexValid_impl_Airway m.Airways (at' A j).Airway = true := by
    have := ha.a
    simp only [m_impl_indexValid_impl_Airway, m_impl_within, Bool.and_eq_true, decide_eq_true_eq]; omega
  rw [ha.v, hx]
  by_cases h0 : 0 < j
  · rw [hup j hj h0]; simp
  · have : j = 0 := by omega
    subst this; simp
theorem GoodS.valid {m : gMine} {A : List gSource} (hv : m_impl_ValidMine m = true) (h : GoodS m.Airways.length A 3) : m_impl_ValidSources m A = true := valid_srcs hv (by have := h.len; omega) h.ok h.up
theorem GoodS.src {n : Int} {A : List gSource} (h : GoodS n A 3) : SrcOk A := ⟨by have := h.len; omega, fun x hx => (h.ok x hx).r⟩
theorem GoodS.validzz {m : gMine} {A : List gSource} (hv : m_impl_ValidMine m = true) (hm : MineIn m) (h : GoodS m.Airways.length A 3) {k : Int} (hk : 0 ≤ k ∧ k < m.Airways.length) : m_impl_ValidSources m (A ++ [gSource.mk ([122, 122] : List UInt8) k 5000]) = true := by
  have hA := hm.2.1
  refine valid_srcs hv (by have := h.len; simp; omega) (fun a ha => ?_) (src_up h.up fun j hj => ?_)
  · rcases List.mem_append.1 ha with h1 | h1
    · exact h.ok a h1
    · rw [List.mem_singleton.1 h1]; exact SrcV.mk' (by omega) zz_ok hk (by simp)
  · obtain ⟨q, h1, h2⟩ := h.nm j hj
    simp only [h2]
    exact zz_up q (by omega)
theorem GoodS.srczz {n : Int} {A : List gSource} (h : GoodS n A 3) {k : Int} : SrcOk (A ++ [gSource.mk ([122, 122] : List UInt8) k 5000]) := by
  refine ⟨by have := h.len; simp; omega, fun a ha => ?_⟩
  rcases List.mem_append.1 ha with h1 | h1
  · exact (h.ok a h1).r
  · rw [List.mem_singleton.1 h1]; simp
theorem gas_code {m : gMine} {flows : List Int} {A : List gSource} (h : m_impl_ValidSources m A = true) (hf : FlowsIn m flows) : m_impl_gasCode m flows A = 0 := by
  simp only [m_impl_gasCode, h, hasFlows_iff.2 hf]; rfl
theorem junc_is {m : gMine} {flows : List Int} {A : List gSource} (h : m_impl_ValidSources m A = true) (hf : FlowsIn m flows) : m_impl_JunctionShares m flows A = (m_impl_Mine_junctionShares m flows A, 0) := by
  simp only [m_impl_JunctionShares, gas_code h hf]; rfl
theorem ends_is {m : gMine} {flows : List Int} {A : List gSource} (h : m_impl_ValidSources m A = true) (hf : FlowsIn m flows) : m_impl_AirwayShares m flows A = (m_impl_Mine_endShares m flows A (m_impl_Mine_junctionShares m flows A), 0) := by
  simp only [m_impl_AirwayShares, gas_code h hf]; rfl
theorem gasOf_code {m : gMine} {A : List gSource} (h : m_impl_ValidSources m A = true) (hA : SrcOk A) {k : Int} (hk : 0 ≤ k ∧ k < m.Airways.length) : m_impl_GasOf m A k = (gasL A k, 0) := by
  have hx : m_impl_indexValid_impl_Airway m.Airways k = true := by
    simp only [m_impl_indexValid_impl_Airway, m_impl_within, Bool.and_eq_true, decide_eq_true_eq]; omega
  simp only [m_impl_GasOf, h, hx, gasOf_is hA]; rfl
theorem r8has_is {list : List Int} {n : Int} : m_laws_r8Has list n = true ↔ n ∈ list := by
  rcases LOOP_find (b := m_laws_r8Has_b1 list n) (k := fun _ => false) (n := (list.length : Int)) (fun i => at' list i == n) (fun _ => true) (fun rec i h0 h1 => by simp only [m_laws_r8Has_b1, h1, decide_true, Bool.cond_true]) (fun rec => by simp [m_laws_r8Has_b1]) (((list.length : Int) - 0 : Int).toNat + 1) 0 (by omega) (by omega) (by omega) with ⟨j, h1, h2, h3, h4, h5⟩ | ⟨h1, h2⟩
  · have e : m_laws_r8Has list n = true := h5
    rw [e]
    simp only [beq_iff_eq] at h3
    exact ⟨fun _ => h3 ▸ at_mem ⟨h1, h2⟩, fun _ => rfl⟩
  · have e : m_laws_r8Has list n = false := h2
    rw [e]
    refine ⟨fun h => by simp at h, fun h => ?_⟩
    obtain ⟨j, hj, e2⟩ := List.mem_iff_getElem.1 h
    have := h1 j (by omega) (by omega)
    rw [at_lt hj, e2] at this; simp at this
theorem over_is {m : gMine} {flows : List Int} {A : List gSource} {s : Int} (h : m_impl_ValidSources m A = true) (hf : FlowsIn m flows) (hs : 0 ≤ s ∧ s ≤ 1000000) : (m_impl_OverLimit m flows A s).2 = 0 ∧ ∀ x : Int, 0 ≤ x → x < m.Airways.length → m_laws_r8Has (m_impl_OverLimit m flows A s).1 x = decide (s < at' (m_impl_Mine_endShares m flows A (m_impl_Mine_junctionShares m flows A)) x) := by
  have hw : m_impl_within s 0 1000000 = true := by simp only [m_impl_within, Bool.and_eq_true, decide_eq_true_eq]; exact hs
  have hl := endShares_len (m := m) hf (list := A) (js := m_impl_Mine_junctionShares m flows A)
  have e : m_impl_OverLimit m flows A s = (((irange 0 m.Airways.length).filter (fun i => decide (s < at' (m_impl_Mine_endShares m flows A (m_impl_Mine_junctionShares m flows A)) i))), 0) := by
    simp only [m_impl_OverLimit, gas_code h hf, hw]
    have k := LOOP_fori (b := m_impl_OverLimit_b1 m flows A s) (k := fun x => (x.1, (0 : Int))) (n := ((m_impl_Mine_endShares m flows A (m_impl_Mine_junctionShares m flows A)).length : Int)) (fun i xs => bif decide (s < at' (m_impl_Mine_endShares m flows A (m_impl_Mine_junctionShares m flows A)) i) then xs ++ [i] else xs) (fun rec xs i h0 h1 => by
      simp only [m_impl_OverLimit_b1, h1, decide_true, Bool.cond_true]
      cases decide (s < at' (m_impl_Mine_endShares m flows A (m_impl_Mine_junctionShares m flows A)) i) <;> rfl) (fun rec xs => by simp [m_impl_OverLimit_b1]) ((((m_impl_Mine_endShares m flows A (m_impl_Mine_junctionShares m flows A)).length : Int) - 0 : Int).toNat + 1) 0 [] (by omega) (by omega) (by omega)
    refine Eq.trans k ?_
    rw [fori_collect (f := fun i => i), hl, show ((m.Airways.length : Int) - 0).toNat = m.Airways.length by omega]
    simp
  rw [e]
  refine ⟨rfl, fun x h0 h1 => ?_⟩
  rw [Bool.eq_iff_iff, r8has_is, List.mem_filter, mem_irange]
  simp only [decide_eq_true_eq]
  constructor
  · exact fun h => h.2
  · exact fun h => ⟨by omega, h⟩
theorem index_of {s : List Int} {v : Int} (h : ∃ q : Int, 0 ≤ q ∧ q < s.length ∧ at' s q = v) : (0 ≤ m_slices_Index_int64 s v ∧ m_slices_Index_int64 s v < s.length) ∧ at' s (m_slices_Index_int64 s v) = v := by
  obtain ⟨b, h0, hb, hv⟩ := h
  rcases LOOP_find (b := m_slices_Index_int64_b1 s v) (k := fun _ => (-1)) (n := (s.length : Int)) (fun i => v == at' s i) (fun i => i) (fun rec i h0 h1 => by simp only [m_slices_Index_int64_b1, h1, decide_true, Bool.cond_true]) (fun rec => by simp [m_slices_Index_int64_b1]) (((s.length : Int) - 0 : Int).toNat + 1) 0 (by omega) (by omega) (by omega) with ⟨j, h1, h2, h3, h4, h5⟩ | ⟨h1, _⟩
  · have e : m_slices_Index_int64 s v = j := h5
    rw [e]
    simp only [beq_iff_eq] at h3
    exact ⟨⟨h1, h2⟩, h3.symm⟩
  · have := h1 b h0 hb; rw [hv] at this; simp at this
theorem worst_is {m : gMine} {flows : List Int} {A : List gSource} (h : m_impl_ValidSources m A = true) (hf : FlowsIn m flows) : (m.Airways.length = 0 → (m_impl_WorstAirway m flows A).2.2 = 3) ∧ (0 < m.Airways.length → (m_impl_WorstAirway m flows A).2.2 = 0 ∧ (0 ≤ (m_impl_WorstAirway m flows A).1 ∧ (m_impl_WorstAirway m flows A).1 < m.Airways.length) ∧ at' (m_impl_Mine_endShares m flows A (m_impl_Mine_junctionShares m flows A)) (m_impl_WorstAirway m flows A).1 = (m_impl_WorstAirway m flows A).2.1) := by
  have hl := endShares_len (m := m) hf (list := A) (js := m_impl_Mine_junctionShares m flows A)
  simp only [m_impl_WorstAirway, gas_code h hf, bne_self_eq_false, Bool.cond_false]
  constructor
  · intro h0
    rw [h0]; rfl
  · intro h0
    have e : ((m.Airways.length : Int) == 0) = false := beq_eq_false_iff_ne.2 (by omega)
    rw [e]
    simp only [Bool.cond_false]
    have h2 := max_spec (s := m_impl_Mine_endShares m flows A (m_impl_Mine_junctionShares m flows A)) (by rw [hl]; exact h0)
    have h1 := index_of h2.2
    refine ⟨trivial, ?_, h1.2⟩
    have := h1.1; rw [hl] at this; exact this
theorem mixJ_le {code more : List Int} (hc : ∀ y ∈ code, 0 ≤ y ∧ y ≤ 255) (hm : ∀ y ∈ more, 0 ≤ y ∧ y ≤ 255) : (m_impl_JunctionShares (m_spec_R8Mine more) (m_spec_R8Flows code (m_spec_R8Mine more)) (m_spec_R8Sources code (m_spec_R8Mine more))).1.length ≤ 16 := by
  have hM := r8mine_in hm
  have hF := r8flows_in hc hm
  rw [junc_is ((sources_good hc hM).valid (r8mine_ok hm)) hF]
  have := shares_lenI (list := m_spec_R8Sources code (m_spec_R8Mine more)) hM hF
  have := hM.1
  simp only; omega
theorem mixE_le {code more : List Int} (hc : ∀ y ∈ code, 0 ≤ y ∧ y ≤ 255) (hm : ∀ y ∈ more, 0 ≤ y ∧ y ≤ 255) : (m_impl_AirwayShares (m_spec_R8Mine more) (m_spec_R8Flows code (m_spec_R8Mine more)) (m_spec_R8Sources code (m_spec_R8Mine more))).1.length ≤ 24 := by
  have hM := r8mine_in hm
  have hF := r8flows_in hc hm
  rw [ends_is ((sources_good hc hM).valid (r8mine_ok hm)) hF]
  simp only
  rw [endShares_len hF]
  exact hM.2.1

end Go.Proofs.Ytfiedbefaoeoaaa
