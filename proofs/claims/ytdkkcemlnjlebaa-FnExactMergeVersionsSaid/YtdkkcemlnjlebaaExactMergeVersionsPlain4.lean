/-
  PLAIN LAWS about the models: no program in sight. Conditions: as each theorem states them.
-/
import Derived.Test.YtdkkcemlnjlebaaExactMergeVersionsPlain3
set_option linter.unusedVariables false
set_option linter.unusedSimpArgs false
set_option linter.unusedSectionVars false
set_option linter.unnecessarySimpa false
namespace Go.Proofs.Ytdkkcemlnjlebaa
open Go Go.RowKit Go.Proofs Go.Proofs.Ytdkkcemlnjlebaa.E
/-! ## A history with one version more -/
theorem HV.st {list : List gVersion} (h : HV list) {i : Int} (hi : 0 ≤ i ∧ i < list.length) : (at' list i).State.length ≤ 24 := by
  have := h.2 i.toNat (by omega)
  rw [show ((i.toNat : Nat) : Int) = i by omega] at this
  exact (state_in this.2.2.2).1
theorem hist_hv {list : List gVersion} (h : m_spec_l27Ok list = true) : HV list := (hist_iff list).1 h
theorem number_imp {list : List gVersion} {n : Int} (h : m_spec_l27Number list n = true) : 1 ≤ n ∧ n ≤ (list.length : Int) := l00In_imp h
theorem with_st {list : List gVersion} {n p : Int} {memo : List UInt8} {st : List gSetting} (h : HV list) (hs : st.length ≤ 24) {i : Int} (hi : 0 ≤ i ∧ i < (((m_slices_Clone_impl_Version list) ++ ([gVersion.mk n p memo st] : List gVersion)).length : Int)) : (at' ((m_slices_Clone_impl_Version list) ++ ([gVersion.mk n p memo st] : List gVersion)) i).State.length ≤ 24 := by
  refine at_all (Q := fun v => v.State.length ≤ 24) (fun v hv => ?_) hi
  rw [List.mem_append, List.mem_singleton] at hv
  rcases hv with hv | hv
  · simp only [m_slices_Clone_impl_Version, List.nil_append] at hv
    obtain ⟨j, hj, rfl⟩ := List.mem_iff_getElem.1 hv
    have := h.st (i := (j : Int)) (by omega)
    have h2 : at' list (j : Int) = list[j] := by simp [at', List.getD_eq_getElem?_getD, hj]
    rwa [h2] at this
  · subst hv; exact hs
theorem own_is (list : List gVersion) : m_spec_l27Own list = list := by
  simp only [m_spec_l27Own]
  have h := LOOP_fori (b := m_spec_l27Own_b1 list) (k := fun (x1 : (List gVersion) × Int) => x1.1) (n := (list.length : Int)) (fun i xs => xs ++ [at' list i]) (fun rec xs i h0 h1 => by
    simp only [m_spec_l27Own_b1, h1, decide_true, Bool.cond_true, List.nil_append]) (fun rec xs => by simp only [m_spec_l27Own_b1]; simp) (((list.length : Int) - 0 : Int).toNat + 1) 0 [] (by omega) (by omega) (by omega)
  rw [h, fori_map, List.nil_append, show ((list.length : Int) - 0).toNat = list.length by omega]
  exact (list_irange _).symm
theorem add_is (list : List gVersion) (p : Int) (memo : List UInt8) (st : List gSetting) : m_impl_withVersion list p memo st = m_spec_l27Add list p memo st := by
  by_cases h : (list.length : Int) = 32
  · have e : ((list.length : Int) == 32) = true := by simp [h]
    simp only [m_impl_withVersion, m_spec_l27Add, e, Bool.cond_true]
  · have e : ((list.length : Int) == 32) = false := by simp [h]
    by_cases h32 : list.length < 32
    · rw [with_is h32]
      simp only [m_spec_l27Add, e, Bool.cond_false, own_is, List.nil_append]
    · simp only [m_impl_withVersion, m_spec_l27Add, e, Bool.cond_false, own_is, List.nil_append]
      have ec : m_slices_Clone_impl_Version list ++ ([gVersion.mk ((list.length : Int) + 1) p memo st] : List gVersion) = list ++ ([gVersion.mk ((list.length : Int) + 1) p memo st] : List gVersion) := by simp [m_slices_Clone_impl_Version]
      rw [ec]
      have h := LOOP_fori (b := m_impl_withVersion_b1 list p memo st) (k := fun (x1 : (List gVersion) × Int) => (x1.1, (0 : Int))) (n := ((list ++ ([gVersion.mk ((list.length : Int) + 1) p memo st] : List gVersion)).length : Int)) (fun i xs => xs ++ [at' (list ++ ([gVersion.mk ((list.length : Int) + 1) p memo st] : List gVersion)) i]) (fun rec xs i h0 h1 => by
        simp only [m_impl_withVersion_b1, ec, h1, decide_true, Bool.cond_true, m_slices_Clone_impl_Setting, List.nil_append]) (fun rec xs => by simp only [m_impl_withVersion_b1, ec]; simp) ((((list ++ ([gVersion.mk ((list.length : Int) + 1) p memo st] : List gVersion)).length : Int) - 0 : Int).toNat + 1) 0 [] (by omega) (by omega) (by omega)
      rw [h]
      simp only [Prod.mk.injEq, and_true]
      rw [fori_map, List.nil_append]
      have e2 : (((list ++ ([gVersion.mk ((list.length : Int) + 1) p memo st] : List gVersion)).length : Int) - 0).toNat = (list ++ ([gVersion.mk ((list.length : Int) + 1) p memo st] : List gVersion)).length := by omega
      rw [e2]
      exact (list_irange _).symm
theorem add_small {list : List gVersion} (h : HV list) {p : Int} {memo : List UInt8} {st : List gSetting} (hs : st.length ≤ 24) : (m_spec_l27Add list p memo st).1.length ≤ 1048576 ∧ ∀ e ∈ (m_spec_l27Add list p memo st).1, e.State.length ≤ 1048576 := by
  simp only [m_spec_l27Add, own_is, List.nil_append]
  cases ((list.length : Int) == 32) with
  | true => simp
  | false =>
    simp only [Bool.cond_false]
    refine ⟨by have := h.1; simp; omega, fun e he => ?_⟩
    rcases List.mem_append.1 he with he | he
    · obtain ⟨j, hj, rfl⟩ := List.mem_iff_getElem.1 he
      have := h.2 j hj
      have h2 : at' list (j : Int) = list[j] := by simp [at', List.getD_eq_getElem?_getD, hj]
      rw [h2] at this
      have := (state_in this.2.2.2).1
      omega
    · simp at he; subst he; dsimp only; omega

end Go.Proofs.Ytdkkcemlnjlebaa
