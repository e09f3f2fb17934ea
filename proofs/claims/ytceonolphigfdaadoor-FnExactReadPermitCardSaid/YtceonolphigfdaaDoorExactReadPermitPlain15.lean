/-
  PLAIN LAWS about the models: no program in sight. Conditions: as each theorem states them.
-/
import Derived.Test.YtceonolphigfdaaDoorExactReadPermitPlain14
set_option linter.unusedVariables false
set_option linter.unusedSimpArgs false
set_option linter.unusedSectionVars false
set_option linter.unnecessarySimpa false
namespace Go.Proofs.YtceonolphigfdaaDoor
open Go Go.RowKit Go.Proofs Go.Proofs.YtceonolphigfdaaDoor.E
theorem kinds (s q : List UInt8) (hq : at' (m_spec_l01Split s 32) 1 = q) (w : List (List UInt8)) (hw : at' w 1 = q) :
    (∃ k : Int, (1 ≤ k ∧ k ≤ 4) ∧ q = m_spec_l26Name k ∧ m_impl_least 1 4 (fun (a0 : Int) => m_impl_ReadPermit_1 a0 w) = (k, true) ∧ ∀ K, LOOP (m_spec_l26Read_b1 s) K 5 ((0 : Int), (1 : Int)) = K (k, 5)) ∨
    (m_impl_least 1 4 (fun (a0 : Int) => m_impl_ReadPermit_1 a0 w) = (0, false) ∧ ∀ K, LOOP (m_spec_l26Read_b1 s) K 5 ((0 : Int), (1 : Int)) = K (0, 5)) := by
  have hl : m_impl_least 1 4 (fun (a0 : Int) => m_impl_ReadPermit_1 a0 w) = LOOP (m_impl_least_b1 1 4 (fun a0 : Int => strB .eql (m_impl_KindName a0) q)) (fun (x1 : Int) => ((0 : Int), false)) 5 1 := by
    unfold m_impl_least; simp only [m_impl_ReadPermit_1, hw]; rfl
  have hs : ∀ K, LOOP (m_spec_l26Read_b1 s) K 5 ((0 : Int), (1 : Int)) = LOOP (fun (rec1 : (Int × Int) → (gPermit × Bool)) k1 (x1 : Int × Int) => bif decide (x1.2 ≤ 4) then bif strB .eql q (m_spec_l26Name x1.2) then rec1 (x1.2, x1.2 + 1) else rec1 (x1.1, x1.2 + 1) else k1 (x1.1, x1.2)) K 5 ((0 : Int), (1 : Int)) := by
    intro K; congr 1; funext rec1 k1 x1; simp only [m_spec_l26Read_b1, hq]
  rw [hl]
  by_cases h1 : q = m_spec_l26Name 1
  · exact .inl ⟨1, by omega, h1, by rw [h1]; rfl, fun K => by rw [hs, h1]; rfl⟩
  by_cases h2 : q = m_spec_l26Name 2
  · exact .inl ⟨2, by omega, h2, by rw [h2]; rfl, fun K => by rw [hs, h2]; rfl⟩
  by_cases h3 : q = m_spec_l26Name 3
  · exact .inl ⟨3, by omega, h3, by rw [h3]; rfl, fun K => by rw [hs, h3]; rfl⟩
  by_cases h4 : q = m_spec_l26Name 4
  · exact .inl ⟨4, by omega, h4, by rw [h4]; rfl, fun K => by rw [hs, h4]; rfl⟩
  have e : ∀ k, q ≠ m_spec_l26Name k → strB .eql q (m_spec_l26Name k) = false := fun k h => by simpa [strB] using h
  have e' : ∀ k, 1 ≤ k ∧ k ≤ 4 → q ≠ m_spec_l26Name k → strB .eql (m_impl_KindName k) q = false := fun k hk h => by rw [kindName_eq hk]; simpa [strB] using fun x => h x.symm
  refine .inr ⟨?_, fun K => ?_⟩
  · simp only [LOOP, m_impl_least_b1, e' 1 (by omega) h1, Int.reduceAdd, e' 2 (by omega) h2, e' 3 (by omega) h3, e' 4 (by omega) h4]; rfl
  · rw [hs]; simp only [LOOP, e 1 h1, Int.reduceAdd, e 2 h2, e 3 h3, e 4 h4]; rfl
theorem ReadPermit_eq (s : List UInt8) (hs : s.length ≤ 1048576) : m_impl_ReadPermit s = m_spec_ReadPermit s := by
  simp only [m_impl_ReadPermit, m_spec_ReadPermit, m_spec_l26Read, m_strings_Split, split_spl]
  by_cases h3 : ((spl 32 s).length : Int) = 3
  · obtain ⟨p, q, r, e, es⟩ := three_cut h3
    have hb : ((([p, q, r] : List (List UInt8)).length : Int) != 3) = false := rfl
    have e0 : at' ([p, q, r] : List (List UInt8)) 0 = p := rfl
    have e1 : at' ([p, q, r] : List (List UInt8)) 1 = q := rfl
    have e2 : at' ([p, q, r] : List (List UInt8)) 2 = r := rfl
    have hl : s.length = p.length + (q.length + (r.length + 1) + 1) := by rw [es]; simp
    have hrl : r.length ≤ 1048576 := by omega
    have hsn : s ≠ [] := by rw [es]; simp
    have hk := kinds s q (by rw [spl32, e]; rfl) [p, q, r] rfl
    simp only [spl32, e, hb, e0, e1, e2, Bool.cond_false, m_impl_PermitText, permit_eq]
    rcases hk with ⟨k, hk, hq, k1, k2⟩ | ⟨k1, k2⟩
    · rw [k1, k2]
      simp only [Bool.not_true, Bool.false_or]
      rcases readNumbers_is r hrl 3 with ⟨h1, h2, h4⟩ | ⟨h1, h2⟩
      · rw [h4]
        have hk3 := three_at h2
        have hne : (m_spec_ReadList r).1 ≠ [] := fun e => by rw [e] at h2; simp at h2
        have ht := readList_text hrl h1 hne
        have hb2 : (((m_spec_ReadList r).1.length : Int) != 3) = false := by simpa using h2
        simp only [h1, hb2, Bool.not_true, Bool.or_self, Bool.cond_false, Bool.false_or]
        generalize hL : (m_spec_ReadList r).1 = L at hk3 ht
        cases hv : m_spec_l26One (gPermit.mk p k (at' L 0) (at' L 1) (at' L 2)) with
        | false => simp only [Bool.not_false, Bool.cond_true, neq_nil hsn]
        | true =>
          simp only [Bool.not_true, Bool.cond_false]
          have hx : (((p ++ ([32] : List UInt8)) ++ (m_impl_KindName k)) ++ ([32] : List UInt8)) ++ m_impl_ListText ([at' L 0, at' L 1, at' L 2] : List Int) = s := by
            rw [kindName_eq hk, ← hq, ← hk3, ht, es]; simp
          rw [hx, strB_neq_self]; rfl
      · rw [h1, h2]; rfl
    · rw [k1, k2]
      simp only [Bool.not_false, Bool.true_or, Bool.cond_true]
      cases hc : ((!(m_spec_ReadList r).2) || (((m_spec_ReadList r).1.length : Int) != 3)) with
      | true => rfl
      | false =>
        have hv : m_spec_l26One (gPermit.mk p 0 (at' (m_spec_ReadList r).1 0) (at' (m_spec_ReadList r).1 1) (at' (m_spec_ReadList r).1 2)) = false := by
          cases hv : m_spec_l26One (gPermit.mk p 0 (at' (m_spec_ReadList r).1 0) (at' (m_spec_ReadList r).1 1) (at' (m_spec_ReadList r).1 2)) with
          | false => rfl
          | true => exact absurd (one_rng hv).2.2.2.2 (by simp)
        rw [hv]; rfl
  · have : (((spl 32 s).length : Int) != 3) = true := by rw [bne_iff_ne]; exact h3
    rw [spl32, this]; rfl
theorem law_FnExactReadPermit (aS : List UInt8) (hp1 : aS.length ≤ 9223372036854775807) : m_laws_FnExactReadPermit aS = true := by
  simp only [m_laws_FnExactReadPermit]
  by_cases h1 : 1048576 < (aS.length : Int)
  · simp [h1]
  · simp [h1, ReadPermit_eq aS (by omega), eqPermit_refl]

end Go.Proofs.YtceonolphigfdaaDoor
