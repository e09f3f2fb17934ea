/-
  PLAIN LAWS about the models: no program in sight. Conditions: as each theorem states them.
-/
import Derived.Test.YtchjibndocnnhaaCrewsPlain2
set_option linter.unusedVariables false
set_option linter.unusedSimpArgs false
set_option linter.unusedSectionVars false
set_option linter.unnecessarySimpa false
namespace Go.Proofs.Ytchjibndocnnhaa
open Go Go.RowKit Go.Proofs Go.Proofs.Ytchjibndocnnhaa.E
/-! ## What the draws read -/
theorem wru64 {n : Int} (h : 0 ≤ n ∧ n ≤ 255) : IntKind.wrap .u64 n = n := by
  have : IntKind.wrap .u64 n = n % 18446744073709551616 := by rfl
  rw [this]; omega
def Lim (s : gl00Src) (n : Int) : Prop := (∀ y ∈ s.code, 0 ≤ y ∧ y ≤ 255) ∧ (n ≤ 1000000000000 → 0 ≤ s.at_ ∧ s.at_ ≤ n)
theorem Lim.mono {s : gl00Src} {n m : Int} (h : Lim s n) (hm : n ≤ m) : Lim s m := ⟨h.1, fun h1 => by have := h.2 (by omega); omega⟩
def LimA (c : List Int) (a : Int) (n : Int) : Prop := (∀ y ∈ c, 0 ≤ y ∧ y ≤ 255) ∧ (n ≤ 1000000000000 → 0 ≤ a ∧ a ≤ n)
theorem Lim.mk {c : List Int} {a b n : Int} (h : LimA c a n) : Lim (gl00Src.mk c a b) n := h
theorem Lim.out {s : gl00Src} {n m : Int} (h : Lim s n) (hm : n ≤ m) : LimA s.code s.at_ m := h.mono hm
theorem LimA.mono {c : List Int} {a n m : Int} (h : LimA c a n) (hm : n ≤ m) : LimA c a m := ⟨h.1, fun h1 => by have := h.2 (by omega); omega⟩
theorem Lim.from {code : List Int} (h : ∀ y ∈ code, 0 ≤ y ∧ y ≤ 255) : Lim (m_spec_l00From code) 0 := ⟨h, fun _ => by simp [m_spec_l00From]⟩
theorem Lim.next {s : gl00Src} {n : Int} (h : Lim s n) : Lim (m_spec_l00Src_next s).2 (n + 1) := by
  simp only [m_spec_l00Src_next, JN]
  have key : ∀ k : Int, Lim (gl00Src.mk s.code (IntKind.wrap .i64 (s.at_ + 1)) k) (n + 1) := fun k => by
    refine ⟨h.1, fun h1 => ?_⟩
    have := h.2 (by omega)
    rw [wr64 (by omega)]
    simp only; omega
  cases decide (s.at_ < (s.code.length : Int)) <;> cases decide ((IntKind.wrap .i64 (s.at_ + 1)) ≤ (s.code.length : Int)) <;> exact key _
theorem code_at {c : List Int} (h : ∀ y ∈ c, 0 ≤ y ∧ y ≤ 255) (i : Int) : 0 ≤ at' c i ∧ at' c i ≤ 255 := by
  by_cases hi : i.toNat < c.length
  · have : at' c i = c[i.toNat] := by simp [at', List.getD_eq_getElem?_getD, hi]
    rw [this]; exact h _ (List.getElem_mem hi)
  · have : at' c i = 0 := by
      simp only [at', List.getD_eq_getElem?_getD]
      rw [List.getElem?_eq_none (by omega)]; rfl
    omega
theorem Lim.byte {s : gl00Src} {n : Int} (h : Lim s n) : 0 ≤ (m_spec_l00Src_next s).1 ∧ (m_spec_l00Src_next s).1 ≤ 255 := by
  simp only [m_spec_l00Src_next, JN]
  have h0 := code_at h.1 s.at_
  have k1 : 0 ≤ IntKind.wrap .i64 (at' s.code s.at_) ∧ IntKind.wrap .i64 (at' s.code s.at_) ≤ 255 := by rw [wr64 (by omega)]; exact h0
  have k2 : ∀ b : BitVec (IntKind.bits .u64), 0 ≤ IntKind.wrap .i64 (IntKind.wrap .u64 (((b &&& (BitVec.ofInt (IntKind.bits .u64) 255)).toNat : Nat) : Int)) ∧ IntKind.wrap .i64 (IntKind.wrap .u64 (((b &&& (BitVec.ofInt (IntKind.bits .u64) 255)).toNat : Nat) : Int)) ≤ 255 := fun b => by
    have hb : (b &&& (BitVec.ofInt (IntKind.bits .u64) 255)).toNat ≤ 255 := by
      rw [BitVec.toNat_and]
      exact Nat.le_trans Nat.and_le_right (by decide)
    have e : IntKind.wrap .u64 (((b &&& (BitVec.ofInt (IntKind.bits .u64) 255)).toNat : Nat) : Int) = (((b &&& (BitVec.ofInt (IntKind.bits .u64) 255)).toNat : Nat) : Int) := by
      exact wru64 (by omega)
    rw [e, wr64 (by omega)]
    omega
  cases decide (s.at_ < (s.code.length : Int)) <;> cases decide ((IntKind.wrap .i64 (s.at_ + 1)) ≤ (s.code.length : Int)) <;> simp only [Bool.cond_true, Bool.cond_false] <;> first | exact k1 | exact k2 _ | omega
theorem Lim.pick {s : gl00Src} {n k : Int} (h : Lim s n) : Lim (m_spec_l00Src_pick s k).2 (n + 2) := by
  simp only [m_spec_l00Src_pick]
  cases decide (k ≤ 1)
  · cases decide (200 < k)
    · exact h.next.mono (by omega)
    · exact h.next.next.mono (by omega)
  · exact h.mono (by omega)
theorem Lim.num {s : gl00Src} {n k : Int} (h : Lim s n) : 0 ≤ (m_spec_l00Src_pick s k).1 ∧ (1 ≤ k → (m_spec_l00Src_pick s k).1 < k) := by
  have h1 := h.byte
  have h2 := h.next.byte
  simp only [m_spec_l00Src_pick]
  by_cases hk : k ≤ 1
  · simp only [hk, decide_true, Bool.cond_true]; exact ⟨by omega, fun _ => by omega⟩
  · simp only [hk, decide_false, Bool.cond_false]
    have hm : ∀ v : Int, 0 ≤ v → 0 ≤ Int.tmod v k ∧ (1 ≤ k → Int.tmod v k < k) := fun v hv => by
      rw [Int.tmod_eq_emod_of_nonneg hv]
      exact ⟨Int.emod_nonneg _ (by omega), fun _ => Int.emod_lt_of_pos _ (by omega)⟩
    by_cases h200 : 200 < k
    · simp only [h200, decide_true, Bool.cond_true]
      refine hm _ ?_
      rw [wr64 (n := (m_spec_l00Src_next s).1 * 256) (by omega), wr64 (by omega)]; omega
    · simp only [h200, decide_false, Bool.cond_false]
      exact hm _ h1.1
theorem Lim.one {s : gl00Src} {n k : Int} (h : Lim s n) : Lim (m_spec_l00Src_one s k).2 (n + 2) := h.pick
theorem Lim.bif1 {s : gl00Src} {n k : Int} {c : Bool} (h : Lim s n) : Lim (bif c then (m_spec_l00Src_one s k).2 else s) (n + 2) := by
  cases c
  · exact h.mono (by omega)
  · exact h.one
theorem chars_len {xs : List Int} : (chars xs).length = xs.length := by simp [chars]

end Go.Proofs.Ytchjibndocnnhaa
