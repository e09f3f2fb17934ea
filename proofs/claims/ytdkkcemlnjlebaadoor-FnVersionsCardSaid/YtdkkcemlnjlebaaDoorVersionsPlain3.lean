/-
  PLAIN LAWS about the models: no program in sight. Conditions: as each theorem states them.
-/
import Derived.Test.YtdkkcemlnjlebaaDoorVersionsPlain2
set_option linter.unusedVariables false
set_option linter.unusedSimpArgs false
set_option linter.unusedSectionVars false
set_option linter.unnecessarySimpa false
namespace Go.Proofs.YtdkkcemlnjlebaaDoor
open Go Go.RowKit Go.Proofs Go.Proofs.YtdkkcemlnjlebaaDoor.E
/-! ## FnVersions -/
theorem DS.up {L : List gSetting} (h : DS L) : Up L := (state_up h.valid).1
theorem diff_is {a b : List gSetting} (hA : DS a) (hB : DS b) : m_impl_DiffStates a b = ((difD a b).map (gChange.mk 2) ++ (difS a b).map (gChange.mk 1), 0) := by
  simp only [m_impl_DiffStates, hA.validI, hB.validI, Bool.not_true, Bool.or_self, Bool.cond_false]
  rw [LOOP_fmap (fun x => !(m_impl_valueAt b x.Name).2) (gChange.mk 2) (fun rec x => rfl)]
  simp only [List.nil_append]
  rw [LOOP_fmap (fun x => !(m_impl_valueAt a x.Name).2 || ((m_impl_valueAt a x.Name).1 != x.Value)) (gChange.mk 1) (fun rec x => rfl)]
  rfl
theorem apply_diff {a b : List gSetting} (hA : DS a) (hB : DS b) : m_impl_ApplyChanges a (m_impl_DiffStates a b).1 = (b, 0) := by
  rw [diff_is hA hB]
  have hl := hA.len
  have hl2 := hB.len
  have hbad : ((difD a b).map (gChange.mk 2) ++ (difS a b).map (gChange.mk 1)).any (fun (a0 : gChange) => m_impl_ApplyChanges_1 a0) = false := by
    rw [List.any_eq_false]
    intro c hc
    have hs : ∀ x, m_spec_l27Setting x = true → m_impl_Setting_valid x = true := fun x h => by rw [setting_eq]; exact h
    simp only [List.mem_append, List.mem_map] at hc
    rcases hc with ⟨x, hx, rfl⟩ | ⟨x, hx, rfl⟩
    · have := hs x (hA.setting x (List.mem_filter.1 hx).1)
      simp [m_impl_ApplyChanges_1, this]
    · have := hs x (hB.setting x (List.mem_filter.1 hx).1)
      simp [m_impl_ApplyChanges_1, this]
  simp only [m_impl_ApplyChanges, contains_is, hbad, hA.validI, Bool.not_true, Bool.or_self, Bool.cond_false]
  have hc : m_slices_Clone_impl_Setting a = a := by simp [m_slices_Clone_impl_Setting]
  rw [hc, apply_run _ _ _ hA.up (by omega)]
  exact run_diff hA.up hB.up (by omega)
theorem commit_is {list : List gVersion} (h : HV list) (hl : list.length < 32) {p : Int} (hp : 0 ≤ p ∧ p ≤ list.length) {memo : List UInt8} (hm : m_spec_l27Memo memo = true) {st : List gSetting} (hs : m_impl_ValidState st = true) :
    m_impl_CommitState list p memo st = (list ++ ([gVersion.mk ((list.length : Int) + 1) p memo st] : List gVersion), 0) := by
  have h1 : m_impl_ValidHistory list = true := (histI_iff list).2 h
  have h2 : m_impl_memoValid memo = true := by rw [memo_eq]; exact hm
  have h3 : m_impl_within p 0 (list.length : Int) = true := by simp only [m_impl_within, Bool.and_eq_true, decide_eq_true_eq]; exact hp
  simp only [m_impl_CommitState, h1, h2, hs, h3, Bool.not_true, Bool.or_self, Bool.cond_false, with_is hl]
theorem vcode1 {list : List gVersion} (h : HV list) {a : Int} (ha : 1 ≤ a ∧ a ≤ list.length) : m_impl_versionsCode list ([a] : List Int) = 0 := by
  have h1 : m_impl_ValidHistory list = true := (histI_iff list).2 h
  have h2 : m_impl_allWithin ([a] : List Int) 1 (list.length : Int) = true := allWithin_iff.2 fun y hy => by
    simp only [List.mem_cons, List.not_mem_nil, or_false] at hy
    subst hy; exact ha
  simp only [m_impl_versionsCode, h1, h2, Bool.not_true, Bool.cond_false]
theorem undo_memo {n : Int} (h : 1 ≤ n ∧ n ≤ 6) : m_spec_l27Memo (([117, 110, 100, 111, 32] : List UInt8) ++ (m_impl_Decimal n)) = true := by
  have d : ∀ k : Nat, k < 10 → Lib.decDigits k = [(48 + k).toUInt8] := fun k hk => by rw [Lib.decDigits, dif_pos hk]
  have e : ∀ k : Nat, k < 10 → m_impl_Decimal (k : Int) = [(48 + k).toUInt8] := fun k hk => by
    simp only [m_impl_Decimal, m_strconv_FormatInt, Lib.itoa]
    rw [if_neg (by omega), Int.toNat_natCast, d k hk]
  have : n = 1 ∨ n = 2 ∨ n = 3 ∨ n = 4 ∨ n = 5 ∨ n = 6 := by omega
  rcases this with rfl | rfl | rfl | rfl | rfl | rfl
  · rw [show (1 : Int) = ((1 : Nat) : Int) from rfl, e 1 (by omega)]; rfl
  · rw [show (2 : Int) = ((2 : Nat) : Int) from rfl, e 2 (by omega)]; rfl
  · rw [show (3 : Int) = ((3 : Nat) : Int) from rfl, e 3 (by omega)]; rfl
  · rw [show (4 : Int) = ((4 : Nat) : Int) from rfl, e 4 (by omega)]; rfl
  · rw [show (5 : Int) = ((5 : Nat) : Int) from rfl, e 5 (by omega)]; rfl
  · rw [show (6 : Int) = ((6 : Nat) : Int) from rfl, e 6 (by omega)]; rfl
theorem undo_is {list : List gVersion} (h : HV list) {n : Int} (hn : 1 ≤ n ∧ n ≤ list.length) (hl : list.length < 32) :
    m_impl_UndoVersion list n = (list ++ ([gVersion.mk ((list.length : Int) + 1) n (([117, 110, 100, 111, 32] : List UInt8) ++ (m_impl_Decimal n)) (m_impl_versionState list (at' list (n - 1)).Parent)] : List gVersion), 0) := by
  have e0 : ((0 : Int) != 0) = false := by decide
  simp only [m_impl_UndoVersion, vcode1 h hn, e0, Bool.cond_false]
  rw [wr64 (n := n - 1) (by omega), with_is hl]
theorem anc_is {list : List gVersion} (h : HV list) {n : Int} (hn : 1 ≤ n ∧ n ≤ list.length) : m_impl_AncestorsOf list n = (lineF list n.toNat (at' list (n - 1)).Parent, 0) := by
  have e0 : ((0 : Int) != 0) = false := by decide
  simp only [m_impl_AncestorsOf, vcode1 h hn, e0, Bool.cond_false]
  rw [line_is h ⟨by omega, hn.2⟩, lineF, if_pos (by omega)]
  simp [cut']
theorem r8Has_iff (s : List Int) (v : Int) : m_laws_r8Has s v = true ↔ v ∈ s := by
  simp only [m_laws_r8Has]
  refine LOOP_post (fun (x : Int) => (0 ≤ x ∧ x ≤ s.length) ∧ ∀ q, 0 ≤ q → q < x → at' s q ≠ v) (fun x => ((s.length : Int) - x).toNat) (fun _ (r : Bool) => r = true ↔ v ∈ s) (fun rec x hI ih => ?_) _ _ ⟨⟨by omega, by omega⟩, fun q h1 h2 => by omega⟩ (by omega)
  obtain ⟨⟨h0, h1⟩, h2⟩ := hI
  simp only [m_laws_r8Has_b1]
  by_cases hi : x < (s.length : Int)
  · simp only [hi, decide_true, Bool.cond_true]
    cases hq : (at' s x == v) with
    | true =>
      simp only [Bool.cond_true, true_iff]
      have : at' s x = v := by simpa using hq
      rw [← this]; exact at_mem ⟨h0, hi⟩
    | false =>
      simp only [Bool.cond_false]
      refine ih _ ⟨⟨by omega, by omega⟩, fun q g1 g2 => ?_⟩ (by omega)
      by_cases e : q = x
      · subst e; intro e2; rw [e2] at hq; simp at hq
      · exact h2 q g1 (by omega)
  · simp only [hi, decide_false, Bool.cond_false, Bool.false_eq_true, false_iff]
    intro hv
    obtain ⟨j, hj, e⟩ := List.getElem_of_mem hv
    exact h2 (j : Int) (by omega) (by omega) (by rw [at_lt hj]; exact e)
theorem idxV_is (s : List gVersion) (p : gVersion → Bool) : (m_slices_IndexFunc_impl_Version s p = -1 ∧ ∀ j, 0 ≤ j → j < (s.length : Int) → p (at' s j) = false) ∨ ((0 ≤ m_slices_IndexFunc_impl_Version s p ∧ m_slices_IndexFunc_impl_Version s p < s.length) ∧ p (at' s (m_slices_IndexFunc_impl_Version s p)) = true) := by
  simp only [m_slices_IndexFunc_impl_Version]
  refine LOOP_post (fun (x : Int) => (0 ≤ x ∧ x ≤ s.length) ∧ ∀ q, 0 ≤ q → q < x → p (at' s q) = false) (fun x => ((s.length : Int) - x).toNat) (fun _ (r : Int) => (r = -1 ∧ ∀ j, 0 ≤ j → j < (s.length : Int) → p (at' s j) = false) ∨ ((0 ≤ r ∧ r < s.length) ∧ p (at' s r) = true)) (fun rec x hI ih => ?_) _ _ ⟨⟨by omega, by omega⟩, fun q h1 h2 => by omega⟩ (by omega)
  obtain ⟨⟨h0, h1⟩, h2⟩ := hI
  simp only [m_slices_IndexFunc_impl_Version_b1]
  by_cases hi : x < (s.length : Int)
  · simp only [hi, decide_true, Bool.cond_true]
    cases hq : p (at' s x) with
    | true => exact .inr ⟨⟨h0, hi⟩, hq⟩
    | false =>
      refine ih _ ⟨⟨by omega, by omega⟩, fun q g1 g2 => ?_⟩ (by omega)
      by_cases e : q = x
      · subst e; exact hq
      · exact h2 q g1 (by omega)
  · simp only [hi, decide_false, Bool.cond_false]
    exact .inl ⟨by first | rfl | trivial, fun j g1 g2 => h2 j g1 (by omega)⟩
theorem heads_is {list : List gVersion} (h : HV list) (hl : 1 ≤ list.length) : (m_impl_HeadsOf list).2 = 0 ∧ m_laws_r8Has (m_impl_HeadsOf list).1 (list.length : Int) = true := by
  have h1 : m_impl_ValidHistory list = true := (histI_iff list).2 h
  simp only [m_impl_HeadsOf, h1, Bool.not_true, Bool.cond_false]
  rw [LOOP_fmap (fun x => !(m_slices_ContainsFunc_impl_Version list (fun (a0 : gVersion) => m_impl_HeadsOf_1 a0 x))) (fun x => x.Number) (fun rec x => rfl)]
  refine ⟨rfl, (r8Has_iff _ _).2 ?_⟩
  simp only [List.nil_append]
  have hn := h.2 (list.length - 1) (by omega)
  have hm := at_mem (xs := list) (i := ((list.length - 1 : Nat) : Int)) ⟨by omega, by omega⟩
  generalize hv : at' list ((list.length - 1 : Nat) : Int) = v at hn hm
  refine List.mem_map.2 ⟨v, List.mem_filter.2 ⟨hm, ?_⟩, by rw [hn.1]; omega⟩
  simp only [m_slices_ContainsFunc_impl_Version, Bool.not_eq_true', decide_eq_false_iff_not]
  rcases idxV_is list (fun (a0 : gVersion) => m_impl_HeadsOf_1 a0 v) with ⟨e, _⟩ | ⟨⟨g0, g1⟩, g2⟩
  · omega
  · exfalso
    generalize m_slices_IndexFunc_impl_Version list (fun (a0 : gVersion) => m_impl_HeadsOf_1 a0 v) = j at g0 g1 g2
    have := h.2 j.toNat (by omega)
    rw [Int.toNat_of_nonneg g0] at this
    simp only [m_impl_HeadsOf_1, beq_iff_eq, hn.1] at g2
    omega
theorem com_same {list : List gVersion} (h : HV list) {n : Int} (hn : 1 ≤ n ∧ n ≤ list.length) : m_impl_CommonAncestor list n n = (n, 0) := by
  have e0 : ((0 : Int) != 0) = false := by decide
  simp only [m_impl_CommonAncestor, vcode_is h hn hn, e0, Bool.cond_false]
  have hc := com_is h (a := n) (b := n) ⟨by omega, hn.2⟩
  have hr := com_rng h (a := n) (b := n) ⟨by omega, hn.2⟩ ⟨by omega, hn.2⟩
  have hm : n ∈ m_impl_lineOf list n := by
    rw [line_is h ⟨by omega, hn.2⟩, lineF, if_pos (by omega)]; exact List.mem_cons_self
  rcases hc with ⟨_, hno⟩ | ⟨_, _, hmax⟩
  · exact absurd hm (hno n hm)
  · have := hmax n hm hm
    rw [show m_impl_commonAncestor list n n = n by omega]
theorem text_ne {v : gVersion} (h1 : 1 ≤ v.Number ∧ v.Number ≤ 32) (h2 : 0 ≤ v.Parent ∧ v.Parent ≤ v.Number - 1) (h3 : m_spec_l27Memo v.Memo = true) (h4 : m_impl_ValidState v.State = true) : strB .neq (m_impl_VersionText v) ([] : List UInt8) = true := by
  have e1 : m_impl_within v.Number 1 32 = true := by simp only [m_impl_within, Bool.and_eq_true, decide_eq_true_eq]; exact h1
  have e2 : m_impl_within v.Parent 0 (IntKind.wrap .i64 (v.Number - 1)) = true := by rw [wr64 (by omega)]; simp only [m_impl_within, Bool.and_eq_true, decide_eq_true_eq]; exact h2
  have e3 : m_impl_memoValid v.Memo = true := by rw [memo_eq]; exact h3
  simp only [m_impl_VersionText, e1, e2, e3, h4, Bool.not_true, Bool.or_self, Bool.cond_false]
  have hne : ∀ (x y z : List UInt8), (x ++ (60 :: y)) ++ z ≠ [] := fun x y z => by simp
  refine LOOP_post (fun (x : (List UInt8) × Int) => x.1 ≠ [] ∧ 0 ≤ x.2 ∧ x.2 ≤ v.State.length) (fun x => ((v.State.length : Int) - x.2).toNat) (fun _ (r : List UInt8) => strB .neq r ([] : List UInt8) = true) (fun rec x hI ih => ?_) _ _ ⟨hne _ _ _, by simp, by simp⟩ (by simp)
  obtain ⟨t, q⟩ := x
  obtain ⟨g0, g1, g2⟩ := hI
  simp only at g0 g1 g2
  simp only [m_impl_VersionText_b1]
  by_cases hq : q < (v.State.length : Int)
  · simp only [hq, decide_true, Bool.cond_true]
    exact ih _ ⟨by simp [g0], by simp only; omega, by simp only; omega⟩ (by simp only; omega)
  · simp only [hq, decide_false, Bool.cond_false]
    have hn : ∀ x : List UInt8, x ≠ [] → strB .neq x ([] : List UInt8) = true := fun x hx => by simp [strB, hx]
    cases strB .neq v.Memo ([] : List UInt8) with
    | true => exact hn _ (by simp [g0])
    | false => exact hn _ g0
theorem vstate_at {list : List gVersion} {n : Int} (hn : 0 ≤ n ∧ n ≤ list.length) (hl : list.length ≤ 32) {v : gVersion} : m_impl_versionState (list ++ ([v] : List gVersion)) n = bif decide (0 < n) then (at' list (n - 1)).State else ([] : List gSetting) := by
  simp only [m_impl_versionState]
  by_cases h : n = 0
  · subst h; rfl
  · have e : (n == 0) = false := by simpa using h
    have e2 : (0 : Int) < n := by omega
    simp only [e, e2, decide_true, Bool.cond_false, Bool.cond_true]
    rw [wr64 (by omega)]
    have := at_app_lt (xs := list) (y := v) (j := (n - 1).toNat) (by omega)
    rw [show (((n - 1).toNat : Nat) : Int) = n - 1 by omega] at this
    rw [this]
/-! ### what the walks ask for -/
theorem histI_hv {list : List gVersion} (h : m_impl_ValidHistory list = true) : HV list := (histI_iff list).1 h
theorem histI_len {list : List gVersion} (h : m_impl_ValidHistory list = true) : list.length ≤ 32 := (histI_hv h).1
theorem within_iff {n l h : Int} (e : m_impl_within n l h = true) : l ≤ n ∧ n ≤ h := within_imp e
theorem vcode1_imp {list : List gVersion} {a : Int} (h : m_impl_versionsCode list ([a] : List Int) = 0) : HV list ∧ (1 ≤ a ∧ a ≤ list.length) := by
  simp only [m_impl_versionsCode] at h
  cases h1 : m_impl_ValidHistory list with
  | false => rw [h1] at h; simp at h
  | true =>
    rw [h1] at h
    cases h2 : m_impl_allWithin ([a] : List Int) 1 (list.length : Int) with
    | false => rw [h2] at h; simp at h
    | true => exact ⟨(histI_iff list).1 h1, allWithin_iff.1 h2 a (by simp)⟩
theorem vcode1_len {list : List gVersion} {a : Int} (h : m_impl_versionsCode list ([a] : List Int) = 0) : list.length ≤ 32 := (vcode1_imp h).1.1
theorem vcode1_hv {list : List gVersion} {a : Int} (h : m_impl_versionsCode list ([a] : List Int) = 0) : HV list := (vcode1_imp h).1
theorem vcode1_par {list : List gVersion} {a : Int} (h : m_impl_versionsCode list ([a] : List Int) = 0) : (1 ≤ a ∧ a ≤ list.length) ∧ list.length ≤ 32 ∧ IntKind.wrap .i64 (a - 1) = a - 1 ∧ 0 ≤ (at' list (a - 1)).Parent ∧ (at' list (a - 1)).Parent ≤ list.length := by
  obtain ⟨h1, h2⟩ := vcode1_imp h
  have h3 := h1.1
  have h4 := h1.par (n := a) ⟨by omega, h2.2⟩
  exact ⟨h2, h3, wr64 (by omega), h4.1, by omega⟩
theorem vstate24 {list : List gVersion} (h : HV list) {n : Int} (hn : 0 ≤ n ∧ n ≤ list.length) : (m_impl_versionState list n).length ≤ 24 := state_l24 (vstate_ok h hn)
theorem line_pos {list : List gVersion} (h : HV list) {n : Int} (hn : 1 ≤ n ∧ n ≤ list.length) : 1 ≤ (m_impl_lineOf list n).length := by
  rw [line_is h ⟨by omega, hn.2⟩, lineF, if_pos (by omega)]; simp
theorem undoV_memo (list : List gVersion) (n : Int) : ∀ v ∈ (m_impl_UndoVersion list n).1, v.Memo.length ≤ 1048576 := by
  cases hd : ((m_impl_versionsCode list ([n] : List Int)) != 0) with
  | true => simp [m_impl_UndoVersion, hd]
  | false =>
    obtain ⟨hv, hn⟩ := vcode1_imp (by simpa using hd)
    have h32 := hv.1
    by_cases hl : list.length < 32
    · rw [undo_is hv hn hl]
      intro v hv'
      rw [List.mem_append, List.mem_singleton] at hv'
      rcases hv' with h | h
      · obtain ⟨j, hj, rfl⟩ := List.getElem_of_mem h
        have := (hv.2 j hj).2.2.1
        rw [at_lt hj] at this
        have := memo_len this
        omega
      · rw [h]
        have := itoa_len (n := n) (by omega)
        simp only [List.length_append, List.length_cons, List.length_nil, m_impl_Decimal, m_strconv_FormatInt]
        omega
    · have e : ((list.length : Int) == 32) = true := by simp; omega
      simp only [m_impl_UndoVersion, hd, Bool.cond_false, m_impl_withVersion, e, Bool.cond_true]
      simp
theorem next_len {list : List gVersion} {p : Int} {st : List gSetting} : (m_impl_CommitState list p ([110, 101, 120, 116] : List UInt8) st).2 = 0 → list.length ≤ 5 → (m_impl_CommitState list p ([110, 101, 120, 116] : List UInt8) st).1.length = list.length + 1 := by
  intro h hl
  simp only [m_impl_CommitState] at h ⊢
  cases h1 : (((!(m_impl_ValidHistory list)) || (!(m_impl_memoValid ([110, 101, 120, 116] : List UInt8)))) || (!(m_impl_ValidState st))) with
  | true => rw [h1] at h; simp at h
  | false =>
    rw [h1] at h
    simp only [Bool.cond_false] at h ⊢
    cases h2 : (!(m_impl_within p 0 (list.length : Int))) with
    | true => rw [h2] at h; simp at h
    | false => simp only [Bool.cond_false]; rw [with_is (by omega)]; simp
theorem hist5 {code : List Int} (h : ∀ y ∈ code, 0 ≤ y ∧ y ≤ 255) : (m_spec_R8History code).length ≤ 5 := (draw_hist (Lim.from h)).2
theorem vcodeG_hv {list : List gVersion} {ns : List Int} (h : m_impl_versionsCode list ns = 0) : HV list := by
  simp only [m_impl_versionsCode] at h
  cases h1 : m_impl_ValidHistory list with
  | false => rw [h1] at h; simp at h
  | true => exact (histI_iff list).1 h1
theorem vcodeG_len {list : List gVersion} {ns : List Int} (h : m_impl_versionsCode list ns = 0) : list.length ≤ 32 := (vcodeG_hv h).1
theorem decI_len {n : Int} (h : -9223372036854775808 ≤ n ∧ n ≤ 9223372036854775807) : (m_impl_Decimal n).length ≤ 20 := itoa_len h
theorem at_memo {L : List gVersion} (h : ∀ v ∈ L, v.Memo.length ≤ 1048576) (i : Int) : (at' L i).Memo.length ≤ 1048576 := by
  unfold at'
  rw [List.getD_eq_getElem?_getD]
  cases h' : L[i.toNat]? with
  | none => exact (show (0 : Nat) ≤ 1048576 by omega)
  | some v => exact h v (List.mem_of_getElem? h')
theorem commitV_memo (list : List gVersion) (p : Int) (st : List gSetting) : ∀ v ∈ (m_impl_CommitState list p ([110, 101, 120, 116] : List UInt8) st).1, v.Memo.length ≤ 1048576 := by
  simp only [m_impl_CommitState]
  cases h1 : (((!(m_impl_ValidHistory list)) || (!(m_impl_memoValid ([110, 101, 120, 116] : List UInt8)))) || (!(m_impl_ValidState st))) with
  | true => simp
  | false =>
    simp only [Bool.or_eq_false_iff, Bool.not_eq_false'] at h1
    have hv := (histI_iff list).1 h1.1.1
    have h32 := hv.1
    simp only [Bool.cond_false]
    cases h2 : (!(m_impl_within p 0 (list.length : Int))) with
    | true => simp
    | false =>
      simp only [Bool.cond_false]
      by_cases hl : list.length < 32
      · rw [with_is hl]
        intro v hv'
        rw [List.mem_append, List.mem_singleton] at hv'
        rcases hv' with h | h
        · obtain ⟨j, hj, rfl⟩ := List.getElem_of_mem h
          have := (hv.2 j hj).2.2.1
          rw [at_lt hj] at this
          have := memo_len this
          omega
        · rw [h]; simp
      · have e : ((list.length : Int) == 32) = true := by simp; omega
        simp only [m_impl_withVersion, e, Bool.cond_true]
        simp
theorem law_idx {code more : List Int} (hp1 : ∀ y ∈ code, 0 ≤ y ∧ y ≤ 255) (hp2 : ∀ y ∈ more, 0 ≤ y ∧ y ≤ 255) (h : 0 < m_laws_r8At more 0 (IntKind.wrap .i64 (((m_spec_R8History code).length : Int) + 1))) :
    0 ≤ IntKind.wrap .i64 ((m_laws_r8At more 0 (IntKind.wrap .i64 (((m_spec_R8History code).length : Int) + 1))) - 1) ∧ IntKind.wrap .i64 ((m_laws_r8At more 0 (IntKind.wrap .i64 (((m_spec_R8History code).length : Int) + 1))) - 1) < ((m_spec_R8History code).length : Int) := by
  have h5 := hist5 hp1
  have hw1 : IntKind.wrap .i64 (((m_spec_R8History code).length : Int) + 1) = ((m_spec_R8History code).length : Int) + 1 := wr64 (by omega)
  have hr := r8At_rng hp2 (k := 0) (n := ((m_spec_R8History code).length : Int) + 1) (by omega)
  rw [hw1] at h ⊢
  rw [wr64 (by omega)]
  omega
theorem decimal_len {n : Int} (hn : -9223372036854775808 ≤ n ∧ n ≤ 9223372036854775807) : (m_impl_Decimal n).length ≤ 20 := itoa_len hn

end Go.Proofs.YtdkkcemlnjlebaaDoor
