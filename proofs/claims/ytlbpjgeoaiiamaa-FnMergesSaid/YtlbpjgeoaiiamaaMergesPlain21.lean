/-
  PLAIN LAWS about the models: no program in sight. Conditions: as each theorem states them.
-/
import Derived.Test.YtlbpjgeoaiiamaaMergesPlain20
set_option linter.unusedVariables false
set_option linter.unusedSimpArgs false
set_option linter.unusedSectionVars false
set_option linter.unnecessarySimpa false
namespace Go.Proofs.Ytlbpjgeoaiiamaa
open Go Go.RowKit Go.Proofs Go.Proofs.Ytlbpjgeoaiiamaa.E
/-! ## Draws of states and histories: what the walks need -/
theorem Lim.dstate {s : gl00Src} {n : Int} (h : Lim s n) : Lim (m_spec_l27DrawState s).2 (n + 20) := (draw_state h).2
theorem Lim.chg {s : gl00Src} {n : Int} {L : List gSetting} (h : Lim s n) (hL : DS L) : Lim (m_spec_l27Changed s L).2 (n + 20) := (changed_state h hL).2
theorem Lim.text {s : gl00Src} {n : Int} {l : List (List UInt8)} (h : Lim s n) : Lim (m_spec_l00Src_text s l).2.1 (n + 2) := h.pick
theorem chg_set {c : List Int} {a sd n : Int} {l : List gSetting} {d : Bool} (h : LimA c a n) (hd : DS l) : DS (m_spec_l27Set l (gSetting.mk (at' ([([97] : List UInt8), ([98] : List UInt8), ([99] : List UInt8), ([100] : List UInt8), ([101] : List UInt8), ([102] : List UInt8)] : List (List UInt8)) (m_spec_l00Src_pick (gl00Src.mk c a sd) 6).1) (m_spec_l00Src_pick (bif d then (m_spec_l00Src_one (m_spec_l00Src_pick (gl00Src.mk c a sd) 6).2 2).2 else (m_spec_l00Src_pick (gl00Src.mk c a sd) 6).2) 1001).1)) := by
  have hs : Lim (gl00Src.mk c a sd) n := Lim.mk h
  have hv := hs.num (k := 6)
  have hw := (hs.pick (k := 6)).bif1 (k := 2) (c := d) |>.num (k := 1001)
  exact hd.set (six_at ⟨hv.1, hv.2 (by omega)⟩) (by have := hw.2 (by omega); omega)
theorem chg_idx {c : List Int} {a sd n : Int} (h : LimA c a n) : 0 ≤ (m_spec_l00Src_pick (gl00Src.mk c a sd) 6).1 ∧ (m_spec_l00Src_pick (gl00Src.mk c a sd) 6).1 < 6 := by
  have hv := (Lim.mk (b := sd) h).num (k := 6)
  exact ⟨hv.1, hv.2 (by omega)⟩
theorem chg_drop {l : List gSetting} {nm : Txt} {q : Prop} (hd : DS l) (h : 0 ≤ m_spec_l27At l nm ∧ q) : DS ((([] : List gSetting) ++ (pre' l (m_spec_l27At l nm))) ++ (cut' l (IntKind.wrap .i64 ((m_spec_l27At l nm) + 1)) (l.length : Int))) := hd.drop (at_rng h.1)
theorem chg_cut {l : List gSetting} {nm : Txt} {q : Prop} (hd : DS l) (h : 0 ≤ m_spec_l27At l nm ∧ q) : (0 ≤ m_spec_l27At l nm ∧ m_spec_l27At l nm < l.length) ∧ IntKind.wrap .i64 ((m_spec_l27At l nm) + 1) = m_spec_l27At l nm + 1 ∧ l.length ≤ 6 := by
  have h1 := at_rng h.1
  have h2 := hd.len
  exact ⟨h1, wr64 (by omega), h2⟩
theorem hist_idx {c : List Int} {a sd n : Int} {l : List gVersion} (h : LimA c a n) (hl : (l.length : Int) ≤ 5) (hp : 0 < (m_spec_l00Src_pick (gl00Src.mk c a sd) (IntKind.wrap .i64 ((l.length : Int) + 1))).1) : 0 ≤ IntKind.wrap .i64 ((m_spec_l00Src_pick (gl00Src.mk c a sd) (IntKind.wrap .i64 ((l.length : Int) + 1))).1 - 1) ∧ IntKind.wrap .i64 ((m_spec_l00Src_pick (gl00Src.mk c a sd) (IntKind.wrap .i64 ((l.length : Int) + 1))).1 - 1) < l.length := by
  have e : IntKind.wrap .i64 ((l.length : Int) + 1) = l.length + 1 := wr64 (by omega)
  have hv := (Lim.mk (b := sd) h).num (k := IntKind.wrap .i64 ((l.length : Int) + 1))
  have hv2 := hv.2 (by omega)
  generalize (m_spec_l00Src_pick (gl00Src.mk c a sd) (IntKind.wrap .i64 ((l.length : Int) + 1))).1 = p at hp hv2 ⊢
  rw [wr64 (by omega)]; omega
theorem hist_ds {c : List Int} {a sd n : Int} {l : List gVersion} (h : LimA c a n) (hl : (l.length : Int) ≤ 5) (hd : ∀ v ∈ l, DS v.State) (hp : 0 < (m_spec_l00Src_pick (gl00Src.mk c a sd) (IntKind.wrap .i64 ((l.length : Int) + 1))).1) : DS (at' l (IntKind.wrap .i64 ((m_spec_l00Src_pick (gl00Src.mk c a sd) (IntKind.wrap .i64 ((l.length : Int) + 1))).1 - 1))).State :=
  at_all (Q := fun v => DS v.State) hd (hist_idx h hl hp)
theorem line_step {list : List gVersion} (h : HV list) {n : Int} (h0 : 0 < n) (h1 : n ≤ list.length) : IntKind.wrap .i64 (n - 1) = n - 1 ∧ 0 ≤ (at' list (IntKind.wrap .i64 (n - 1))).Parent ∧ (at' list (IntKind.wrap .i64 (n - 1))).Parent ≤ n - 1 := by
  have hl := h.1
  have e : IntKind.wrap .i64 (n - 1) = n - 1 := wr64 (by omega)
  rw [e]
  exact ⟨rfl, h.par ⟨h0, h1⟩⟩
theorem vcode_imp {list : List gVersion} {a b : Int} (h : m_impl_versionsCode list ([a, b] : List Int) = 0) : HV list ∧ (0 ≤ a ∧ a ≤ list.length) ∧ (0 ≤ b ∧ b ≤ list.length) := by
  simp only [m_impl_versionsCode] at h
  cases h1 : m_impl_ValidHistory list with
  | false => rw [h1] at h; simp at h
  | true =>
    rw [h1] at h
    cases h2 : m_impl_allWithin ([a, b] : List Int) 1 (list.length : Int) with
    | false => rw [h2] at h; simp at h
    | true =>
      have h3 := allWithin_iff.1 h2
      have ha := h3 a (by simp)
      have hb := h3 b (by simp)
      exact ⟨(histI_iff list).1 h1, by omega, by omega⟩
theorem vcode_len {list : List gVersion} {a b : Int} (h : m_impl_versionsCode list ([a, b] : List Int) = 0) : list.length ≤ 32 := (vcode_imp h).1.1
theorem vcode_hv {list : List gVersion} {a b : Int} (h : m_impl_versionsCode list ([a, b] : List Int) = 0) : HV list := (vcode_imp h).1
theorem vcode_ab {list : List gVersion} {a b : Int} (h : m_impl_versionsCode list ([a, b] : List Int) = 0) : (0 ≤ a ∧ a ≤ list.length) ∧ (0 ≤ b ∧ b ≤ list.length) ∧ 0 ≤ m_impl_commonAncestor list a b ∧ m_impl_commonAncestor list a b ≤ a ∧ m_impl_commonAncestor list a b ≤ b :=
  ⟨(vcode_imp h).2.1, (vcode_imp h).2.2, com_rng (vcode_imp h).1 (vcode_imp h).2.1 (vcode_imp h).2.2⟩
theorem lineF_len {list : List gVersion} (h : HV list) : ∀ (k : Nat) (n : Int), 0 ≤ n → n ≤ list.length → ((lineF list k n).length : Int) ≤ n
  | 0, n, h0, _ => by simp [lineF]; exact h0
  | k + 1, n, h0, h1 => by
    rw [lineF]
    by_cases hn : 0 < n
    · rw [if_pos hn]
      have hp := h.par ⟨hn, h1⟩
      have := lineF_len h k _ hp.1 (by omega)
      simp only [List.length_cons]; omega
    · rw [if_neg hn]; simp only [List.length_nil]; omega
theorem line_len {list : List gVersion} (h : HV list) {n : Int} (hn : 0 ≤ n ∧ n ≤ list.length) : ((m_impl_lineOf list n).length : Int) ≤ 32 := by
  have := lineF_len h (n.toNat + 1) n hn.1 hn.2
  have hl := h.1
  rw [line_is h hn]; omega
theorem with_st {list : List gVersion} {n p : Int} {memo : List UInt8} {st : List gSetting} (h : HV list) (hs : st.length ≤ 24) {i : Int} (hi : 0 ≤ i ∧ i < (((m_slices_Clone_impl_Version list) ++ ([gVersion.mk n p memo st] : List gVersion)).length : Int)) : (at' ((m_slices_Clone_impl_Version list) ++ ([gVersion.mk n p memo st] : List gVersion)) i).State.length ≤ 24 := by
  refine at_all (Q := fun v => v.State.length ≤ 24) (fun v hv => ?_) hi
  rw [List.mem_append, List.mem_singleton] at hv
  rcases hv with hv | hv
  · simp only [m_slices_Clone_impl_Version, List.nil_append] at hv
    obtain ⟨j, hj, rfl⟩ := List.getElem_of_mem hv
    have := (h.2 j hj).2.2.2
    rw [at_lt hj] at this
    exact ((state_iff _).1 this).2.2
  · rw [hv]; exact hs
theorem mergeI_len (base a b : List gSetting) : (m_impl_MergeStates base a b).1.length ≤ 24 := by
  simp only [m_impl_MergeStates]
  cases (((!(m_impl_ValidState base)) || (!(m_impl_ValidState a))) || (!(m_impl_ValidState b))) with
  | true => simp
  | false =>
    simp only [Bool.cond_false]
    cases decide (0 < ((m_impl_conflictsOf base a b).length : Int)) with
    | true => simp
    | false =>
      simp only [Bool.cond_false]
      rw [merge_loop]
      by_cases hl : 24 < ((mrg base a b).length : Int)
      · simp only [hl, decide_true, Bool.cond_true]; simp
      · simp only [hl, decide_false, Bool.cond_false]; omega
theorem mergeV_memo (list : List gVersion) (a b : Int) (memo : List UInt8) : ∀ v ∈ (m_impl_MergeVersions list a b memo).1, v.Memo.length ≤ 1048576 := by
  simp only [m_impl_MergeVersions]
  cases hc : (((m_impl_versionsCode list ([a, b] : List Int)) == 1) || (!(m_impl_memoValid memo))) with
  | true => simp
  | false =>
    simp only [Bool.cond_false]
    cases hd : ((m_impl_versionsCode list ([a, b] : List Int)) != 0) with
    | true => simp
    | false =>
      have hv := vcode_hv (by simpa using hd)
      simp only [Bool.or_eq_false_iff, Bool.not_eq_false'] at hc
      have hm := memo_lenI hc.2
      simp only [Bool.cond_false]
      cases ((m_impl_MergeStates (m_impl_versionState list (m_impl_commonAncestor list a b)) (m_impl_versionState list a) (m_impl_versionState list b)).2 != 0) with
      | true => simp
      | false =>
        simp only [Bool.cond_false]
        by_cases hl : list.length < 32
        · rw [with_is hl]
          intro v hv'
          rw [List.mem_append, List.mem_singleton] at hv'
          rcases hv' with h | h
          · obtain ⟨j, hj, rfl⟩ := List.getElem_of_mem h
            have := (hv.2 j hj).2.2.1
            rw [at_lt hj] at this
            have := memo_len this; omega
          · rw [h]; simp only; omega
        · have he : ((list.length : Int) == 32) = true := by have := hv.1; simp; omega
          simp only [m_impl_withVersion, he, Bool.cond_true]
          simp

end Go.Proofs.Ytlbpjgeoaiiamaa
