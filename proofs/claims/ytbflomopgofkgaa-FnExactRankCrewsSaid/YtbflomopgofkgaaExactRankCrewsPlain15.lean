/-
  PLAIN LAWS about the models: no program in sight. Conditions: as each theorem states them.
-/
import Derived.Test.YtbflomopgofkgaaExactRankCrewsPlain14
set_option linter.unusedVariables false
set_option linter.unusedSimpArgs false
set_option linter.unusedSectionVars false
set_option linter.unnecessarySimpa false
namespace Go.Proofs.Ytbflomopgofkgaa
open Go Go.RowKit Go.Proofs Go.Proofs.Ytbflomopgofkgaa.E
/-! ## What the walks of RankCrews ask -/
def Kc (cmp : Txt → Txt → Int) : Prop := ∃ key : Txt → Int, ∀ x y, cmp x y < 0 ↔ key x < key y
theorem kc_rank (list : List gDrill) : Kc (fun (a0 : List UInt8) (a1 : List UInt8) => m_impl_RankCrews_1 a0 a1 list) := ⟨m_impl_medianSeconds list, fun x y => rank_cmp list x y⟩
theorem ins_keep {Q : Txt → Prop} {cmp : Txt → Txt → Int} {xs : List Txt} {a b : Int} (hc : Kc cmp) (h : 0 ≤ a ∧ a ≤ b ∧ b ≤ xs.length) (hq : ∀ x ∈ xs, Q x) : (m_slices_insertionSortCmpFunc_string xs a b cmp).length = xs.length ∧ ∀ x ∈ m_slices_insertionSortCmpFunc_string xs a b cmp, Q x := by
  obtain ⟨key, hc⟩ := hc
  have hs := (ins_spec hc h).1
  exact ⟨hs.len, fun x hx => hq x (hs.mem h.1 h.2.2 x hx)⟩
theorem rot_keep {Q : Txt → Prop} {cmp : Txt → Txt → Int} {xs : List Txt} {a m b : Int} (h : 0 ≤ a ∧ a < m ∧ m < b ∧ b ≤ xs.length) (hq : ∀ x ∈ xs, Q x) : (m_slices_rotateCmpFunc_string xs a m b cmp).length = xs.length ∧ ∀ x ∈ m_slices_rotateCmpFunc_string xs a m b cmp, Q x := by
  have hs := rot_spec (cmp := cmp) h
  refine ⟨hs.1, fun x hx => ?_⟩
  obtain ⟨j, hj, rfl⟩ := List.getElem_of_mem hx
  have hl := hs.1
  rw [← at_lt hj, hs.2 _ (by omega)]
  refine hq _ (at_mem ?_)
  simp only [rotf]
  split <;> (try split) <;> omega
theorem symn_keep {Q : Txt → Prop} {cmp : Txt → Txt → Int} {xs : List Txt} {a m b : Int} {fuel : Nat} (hc : Kc cmp) (h : 0 ≤ a ∧ a < m ∧ m < b ∧ b ≤ xs.length ∧ xs.length ≤ 100000) (hf : (b - a).toNat < fuel) (hq : ∀ x ∈ xs, Q x) : (m_slices_symMergeCmpFunc_string_n fuel xs a m b cmp).length = xs.length ∧ ∀ x ∈ m_slices_symMergeCmpFunc_string_n fuel xs a m b cmp, Q x := by
  obtain ⟨key, hc⟩ := hc
  have hs := (sym_spec hc fuel xs a m b h hf).1
  exact ⟨hs.len, fun x hx => hq x (hs.mem h.1 h.2.2.2.1 x hx)⟩
theorem sym_keep {Q : Txt → Prop} {cmp : Txt → Txt → Int} {xs : List Txt} {a m b : Int} (hc : Kc cmp) (h : 0 ≤ a ∧ a < m ∧ m < b ∧ b ≤ xs.length ∧ xs.length ≤ 100000) (hq : ∀ x ∈ xs, Q x) : (m_slices_symMergeCmpFunc_string xs a m b cmp).length = xs.length ∧ ∀ x ∈ m_slices_symMergeCmpFunc_string xs a m b cmp, Q x :=
  symn_keep hc h (by omega) hq
theorem preT_le {s : List Txt} {x : Int} : (pre' s x).length ≤ s.length := by unfold pre'; rw [List.length_take]; exact Nat.min_le_right _ _
theorem insT_len {s : List Txt} {x : Int} {y : Txt} (h : 0 ≤ x ∧ x ≤ s.length) : ((((([] : List Txt) ++ (pre' s x)) ++ ([y] : List Txt)) ++ cut' s x (s.length : Int)).length : Int) = s.length + 1 := by
  simp only [List.length_append, pre', cut', List.length_take, List.length_drop, List.length_cons, List.length_nil]
  omega
theorem crewsS_len (list : List gDrill) : (m_spec_l28Crews list).length ≤ list.length := by rw [← crewsOf_eq]; exact crewsOf_len list
theorem cutT_le {s : List Txt} {x y : Int} : (cut' s x y).length ≤ s.length := by unfold cut'; rw [List.length_take, List.length_drop]; omega
theorem rk_len {list : List gDrill} (h : list.length ≤ 32) : (m_slices_SortStableFunc_string (m_impl_crewsOf list) (fun (a0 : List UInt8) (a1 : List UInt8) => m_impl_RankCrews_1 a0 a1 list)).length = (m_impl_crewsOf list).length := by
  have h1 := crewsOf_len list
  exact (stable_spec (key := m_impl_medianSeconds list) (fun x y => rank_cmp list x y) (xs := m_impl_crewsOf list) (by omega)).1.len
theorem crew_in {list : List gDrill} : ∀ x ∈ m_impl_crewsOf list, ∃ j : Int, 0 ≤ j ∧ j < list.length ∧ strB .eql (at' list j).Crew x = true := by
  intro x hx
  rw [crewsOf_eq] at hx
  exact crew_at (((crews_spec list).2 x).1 hx)
theorem crew_at' {list : List gDrill} {i : Int} (hi : 0 ≤ i ∧ i < (m_spec_l28Crews list).length) : ∃ j : Int, 0 ≤ j ∧ j < list.length ∧ strB .eql (at' list j).Crew (at' (m_spec_l28Crews list) i) = true := crew_at (((crews_spec list).2 _).1 (at_mem hi))
theorem post_symMerge (fuel : Nat) : ∀ (Q : Txt → Prop) (cmp : Txt → Txt → Int) (xs : List Txt) (a m b : Int), Kc cmp → (0 ≤ a ∧ a < m ∧ m < b ∧ b ≤ xs.length ∧ xs.length ≤ 100000) → (b - a).toNat < fuel → (∀ x ∈ xs, Q x) → (m_slices_symMergeCmpFunc_string_n fuel xs a m b cmp).length = xs.length ∧ ∀ x ∈ m_slices_symMergeCmpFunc_string_n fuel xs a m b cmp, Q x :=
  fun _ _ _ _ _ _ hc h hf hq => symn_keep hc h hf hq
theorem midwB {s : Int} (h0 : 0 ≤ s) (h1 : s ≤ 100000000) : IntKind.wrap .i64 (Int.fdiv (IntKind.wrap .u64 s) (2 ^ min (1 : Int).toNat IntKind.u64.bits)) = s / 2 := midw h0 h1

end Go.Proofs.Ytbflomopgofkgaa
