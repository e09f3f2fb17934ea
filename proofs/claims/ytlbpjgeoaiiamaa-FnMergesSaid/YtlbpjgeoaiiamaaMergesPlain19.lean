/-
  PLAIN LAWS about the models: no program in sight. Conditions: as each theorem states them.
-/
import Derived.Test.YtlbpjgeoaiiamaaMergesPlain18
set_option linter.unusedVariables false
set_option linter.unusedSimpArgs false
set_option linter.unusedSectionVars false
set_option linter.unnecessarySimpa false
namespace Go.Proofs.Ytlbpjgeoaiiamaa
open Go Go.RowKit Go.Proofs Go.Proofs.Ytlbpjgeoaiiamaa.E
/-! ## FnMerges: drawn histories, lines and common ancestors -/
def HV (list : List gVersion) : Prop := list.length ≤ 32 ∧ ∀ j : Nat, j < list.length → (at' list (j : Int)).Number = (j : Int) + 1 ∧ (0 ≤ (at' list (j : Int)).Parent ∧ (at' list (j : Int)).Parent ≤ j) ∧ m_spec_l27Memo (at' list (j : Int)).Memo = true ∧ m_spec_l27State (at' list (j : Int)).State = true
theorem hist_iff (list : List gVersion) : m_spec_l27Ok list = true ↔ HV list := by
  have h := LOOP_all (b := m_spec_l27Ok_b1 list) (n := list.length) (fun rec k i _ => rfl) (k := fun _ => decide ((list.length : Int) ≤ 32)) (((list.length : Int) - 0 : Int).toNat + 1) 0 (by omega) (by omega) (by omega)
  simp only [m_spec_l27Ok]
  rw [h]
  simp only [Bool.or_eq_false_iff, bne_eq_false_iff_eq, Bool.not_eq_false', decide_eq_true_eq, m_spec_l00In, Bool.and_eq_true]
  constructor
  · rintro ⟨h1, h2⟩
    exact ⟨by omega, fun j hj => by have := h1 j (by omega) hj; exact ⟨this.1.1.1, this.1.1.2, this.1.2, this.2⟩⟩
  · rintro ⟨h1, h2⟩
    exact ⟨fun j _ hj => by have := h2 j hj; exact ⟨⟨⟨this.1, this.2.1⟩, this.2.2.1⟩, this.2.2.2⟩, by omega⟩
theorem histI_iff (list : List gVersion) : m_impl_ValidHistory list = true ↔ HV list := by
  have h := LOOP_all (b := m_impl_ValidHistory_b1 list) (n := list.length) (fun rec k i _ => rfl) (k := fun _ => true) (((list.length : Int) - 0 : Int).toNat + 1) 0 (by omega) (by omega) (by omega)
  simp only [m_impl_ValidHistory]
  by_cases hl : 32 < (list.length : Int)
  · simp only [hl, decide_true, Bool.cond_true]
    constructor
    · intro h; exact absurd h (by decide)
    · rintro ⟨h, _⟩; omega
  · simp only [hl, decide_false, Bool.cond_false]
    rw [h]
    simp only [Bool.or_eq_false_iff, bne_eq_false_iff_eq, Bool.not_eq_false', decide_eq_true_eq, m_impl_within, Bool.and_eq_true, memo_eq, state_eq]
    constructor
    · rintro ⟨h1, h2⟩
      exact ⟨by omega, fun j hj => by have := h1 j (by omega) hj; exact ⟨this.1.1.1, this.1.1.2, this.1.2, this.2⟩⟩
    · rintro ⟨h1, h2⟩
      exact ⟨fun j _ hj => by have := h2 j hj; exact ⟨⟨⟨this.1, this.2.1⟩, this.2.2.1⟩, this.2.2.2⟩, trivial⟩
theorem at_app_lt {α : Type} [Inhabited α] {xs : List α} {y : α} {j : Nat} (h : j < xs.length) : at' (xs ++ [y]) (j : Int) = at' xs (j : Int) := by
  rw [at_lt h, at_lt (by rw [List.length_append]; omega), List.getElem_append_left h]
theorem at_app_eq {α : Type} [Inhabited α] {xs : List α} {y : α} : at' (xs ++ [y]) (xs.length : Int) = y := by
  rw [at_lt (by rw [List.length_append, List.length_singleton]; omega)]; simp
theorem HV.snoc {list : List gVersion} {p : Int} {memo : List UInt8} {st : List gSetting} (h : HV list) (hl : list.length < 32) (hp : 0 ≤ p ∧ p ≤ list.length) (hm : m_spec_l27Memo memo = true) (hs : m_spec_l27State st = true) : HV (list ++ ([gVersion.mk ((list.length : Int) + 1) p memo st] : List gVersion)) := by
  refine ⟨by rw [List.length_append, List.length_singleton]; omega, fun j hj => ?_⟩
  rw [List.length_append, List.length_singleton] at hj
  by_cases hjl : j < list.length
  · rw [at_app_lt hjl]; exact h.2 j hjl
  · have : j = list.length := by omega
    subst this
    rw [at_app_eq]
    exact ⟨rfl, hp, hm, hs⟩
theorem HV.nil : HV [] := ⟨by simp, fun j hj => by simp at hj⟩
/-- a history whose states are drawn -/
def HD (list : List gVersion) : Prop := HV list ∧ ∀ v ∈ list, DS v.State
theorem draw_hist {s : gl00Src} {n : Int} (h : Lim s n) : HD (m_spec_l27Draw s).1 ∧ (m_spec_l27Draw s).1.length ≤ 5 := by
  simp only [m_spec_l27Draw]
  have hp0 := h.pick (k := 6)
  have hn0 := h.num (k := 6)
  have hn1 := hn0.2 (by omega)
  refine LOOP_post (fun (x : (List Int) × Int × Int × (List gVersion) × Int) => (0 ≤ x.2.2.2.2 ∧ x.2.2.2.2 + x.2.2.2.1.length ≤ 5) ∧ LimA x.1 x.2.1 100000000000000 ∧ HD x.2.2.2.1) (fun x => x.2.2.2.2.toNat)
    (fun _ (r : (List gVersion) × gl00Src) => HD r.1 ∧ r.1.length ≤ 5) (fun rec x hI ih => ?_) _ _ ⟨⟨hn0.1, by simp only [List.length_nil]; omega⟩, ⟨hp0.1, fun h => by omega⟩, HV.nil, fun v hv => absurd hv List.not_mem_nil⟩ (by simp only; omega)
  obtain ⟨c, a, sd, l, i⟩ := x
  obtain ⟨⟨h0, h1⟩, hl, hd⟩ := hI
  simp only at h0 h1 hl hd
  simp only [m_spec_l27Draw_b1, JN]
  by_cases hi : 0 < i
  · simp only [hi, decide_true, Bool.cond_true]
    have hs : Lim (gl00Src.mk c a sd) 100000000000000 := Lim.mk hl
    have e1 : IntKind.wrap .i64 ((l.length : Int) + 1) = l.length + 1 := wr64 (by omega)
    rw [e1]
    have hq := hs.pick (k := (l.length : Int) + 1)
    have hv := hs.num (k := (l.length : Int) + 1)
    have hv2 := hv.2 (by omega)
    have hst := draw_state hq
    generalize (m_spec_l00Src_pick (gl00Src.mk c a sd) ((l.length : Int) + 1)).2 = s1 at hst hq ⊢
    generalize (m_spec_l00Src_pick (gl00Src.mk c a sd) ((l.length : Int) + 1)).1 = p at hv hv2 ⊢
    have fin : ∀ (s2 : gl00Src) (m : Int) (st : List gSetting), Lim s2 m → DS st → HD (rec ((m_spec_l00Src_text (gl00Src.mk s2.code s2.at_ s2.seed) ([([] : List UInt8), ([110, 101, 119] : List UInt8), ([97, 32, 98] : List UInt8)] : List (List UInt8))).2.1.code, (m_spec_l00Src_text (gl00Src.mk s2.code s2.at_ s2.seed) ([([] : List UInt8), ([110, 101, 119] : List UInt8), ([97, 32, 98] : List UInt8)] : List (List UInt8))).2.1.at_, (m_spec_l00Src_text (gl00Src.mk s2.code s2.at_ s2.seed) ([([] : List UInt8), ([110, 101, 119] : List UInt8), ([97, 32, 98] : List UInt8)] : List (List UInt8))).2.1.seed, l ++ ([gVersion.mk ((l.length : Int) + 1) p (m_spec_l00Src_text (gl00Src.mk s2.code s2.at_ s2.seed) ([([] : List UInt8), ([110, 101, 119] : List UInt8), ([97, 32, 98] : List UInt8)] : List (List UInt8))).1 st] : List gVersion), i - 1)).1 ∧ (rec ((m_spec_l00Src_text (gl00Src.mk s2.code s2.at_ s2.seed) ([([] : List UInt8), ([110, 101, 119] : List UInt8), ([97, 32, 98] : List UInt8)] : List (List UInt8))).2.1.code, (m_spec_l00Src_text (gl00Src.mk s2.code s2.at_ s2.seed) ([([] : List UInt8), ([110, 101, 119] : List UInt8), ([97, 32, 98] : List UInt8)] : List (List UInt8))).2.1.at_, (m_spec_l00Src_text (gl00Src.mk s2.code s2.at_ s2.seed) ([([] : List UInt8), ([110, 101, 119] : List UInt8), ([97, 32, 98] : List UInt8)] : List (List UInt8))).2.1.seed, l ++ ([gVersion.mk ((l.length : Int) + 1) p (m_spec_l00Src_text (gl00Src.mk s2.code s2.at_ s2.seed) ([([] : List UInt8), ([110, 101, 119] : List UInt8), ([97, 32, 98] : List UInt8)] : List (List UInt8))).1 st] : List gVersion), i - 1)).1.length ≤ 5 := fun s2 m st hs2 hst2 => by
      have hs3 : Lim (gl00Src.mk s2.code s2.at_ s2.seed) 100000000000000 := ⟨hs2.1, fun h => by omega⟩
      have hm := hs3.num (k := 3)
      have hm2 := hm.2 (by omega)
      have hmem : m_spec_l27Memo (m_spec_l00Src_text (gl00Src.mk s2.code s2.at_ s2.seed) ([([] : List UInt8), ([110, 101, 119] : List UInt8), ([97, 32, 98] : List UInt8)] : List (List UInt8))).1 = true := by
        show m_spec_l27Memo (at' ([([] : List UInt8), ([110, 101, 119] : List UInt8), ([97, 32, 98] : List UInt8)] : List (List UInt8)) (m_spec_l00Src_pick (gl00Src.mk s2.code s2.at_ s2.seed) 3).1) = true
        generalize (m_spec_l00Src_pick (gl00Src.mk s2.code s2.at_ s2.seed) 3).1 = q at hm hm2
        have : q = 0 ∨ q = 1 ∨ q = 2 := by omega
        rcases this with rfl | rfl | rfl <;> rfl
      refine ih _ ⟨⟨by simp only; omega, by simp only [List.length_append, List.length_singleton]; omega⟩, ⟨(hs3.pick (k := 3)).1, fun h => by omega⟩, hd.1.snoc (by omega) (by omega) hmem hst2.valid, fun v hv => ?_⟩ (by simp only; omega)
      rw [List.mem_append, List.mem_singleton] at hv
      rcases hv with hv | hv
      · exact hd.2 v hv
      · rw [hv]; exact hst2
    by_cases hp : 0 < p
    · simp only [hp, decide_true, Bool.cond_true]
      have e2 : IntKind.wrap .i64 (p - 1) = p - 1 := wr64 (by omega)
      rw [e2]
      have hds : DS (at' l (p - 1)).State := hd.2 _ (at_mem ⟨by omega, by omega⟩)
      have hch := changed_state hst.2 hds
      exact fin _ _ _ hch.2 hch.1
    · simp only [hp, decide_false, Bool.cond_false]
      exact fin _ _ _ hst.2 hst.1
  · simp only [hi, decide_false, Bool.cond_false]
    exact ⟨hd, by omega⟩
/-! ### Lines -/
def lineF (list : List gVersion) : Nat → Int → List Int
  | 0, _ => []
  | k + 1, n => if 0 < n then n :: lineF list k (at' list (n - 1)).Parent else []
theorem HV.par {list : List gVersion} (h : HV list) {n : Int} (hn : 0 < n ∧ n ≤ list.length) : 0 ≤ (at' list (n - 1)).Parent ∧ (at' list (n - 1)).Parent ≤ n - 1 := by
  have := (h.2 (n - 1).toNat (by omega)).2.1
  rw [show (((n - 1).toNat : Nat) : Int) = n - 1 by omega] at this
  exact this
theorem line_loop {list : List gVersion} (h : HV list) {m : Int} : ∀ (fuel : Nat) (n : Int) (acc : List Int), 0 ≤ n → n ≤ list.length → n.toNat < fuel → LOOP (m_impl_lineOf_b1 list m) (fun (x1 : Int × (List Int)) => x1.2) fuel (n, acc) = acc ++ lineF list fuel n
  | 0, _, _, _, _, hf => by omega
  | fuel + 1, n, acc, h0, h1, hf => by
    have hl := h.1
    rw [LOOP, m_impl_lineOf_b1, lineF]
    by_cases hn : 0 < n
    · simp only [hn, decide_true, Bool.cond_true, if_true]
      rw [wr64 (n := n - 1) (by omega)]
      have hp := h.par ⟨hn, h1⟩
      rw [line_loop h fuel _ _ hp.1 (by omega) (by omega)]
      simp
    · simp [hn]
theorem line_is {list : List gVersion} (h : HV list) {n : Int} (h0 : 0 ≤ n ∧ n ≤ list.length) : m_impl_lineOf list n = lineF list (n.toNat + 1) n := by
  simp only [m_impl_lineOf]
  rw [line_loop h _ _ _ h0.1 h0.2 (by omega), List.nil_append]
theorem line_mem {list : List gVersion} (h : HV list) : ∀ (k : Nat) (n : Int), 0 ≤ n → n ≤ list.length → ∀ x ∈ lineF list k n, 1 ≤ x ∧ x ≤ n
  | 0, _, _, _, x, hx => by simp [lineF] at hx
  | k + 1, n, h0, h1, x, hx => by
    rw [lineF] at hx
    by_cases hn : 0 < n
    · rw [if_pos hn] at hx
      have hp := h.par ⟨hn, h1⟩
      rcases List.mem_cons.1 hx with e | e
      · omega
      · have := line_mem h k _ hp.1 (by omega) x e; omega
    · rw [if_neg hn] at hx; simp at hx
theorem line_down {list : List gVersion} (h : HV list) : ∀ (k : Nat) (n : Int), 0 ≤ n → n ≤ list.length → (lineF list k n).Pairwise (fun x y => y < x)
  | 0, _, _, _ => List.Pairwise.nil
  | k + 1, n, h0, h1 => by
    rw [lineF]
    by_cases hn : 0 < n
    · rw [if_pos hn]
      have hp := h.par ⟨hn, h1⟩
      refine List.Pairwise.cons (fun x hx => ?_) (line_down h k _ hp.1 (by omega))
      have := line_mem h k _ hp.1 (by omega) x hx; omega
    · rw [if_neg hn]; exact List.Pairwise.nil
theorem has_iff (s : List Int) (v : Int) : m_slices_Contains_int64 s v = true ↔ v ∈ s := by
  have key : (m_slices_Index_int64 s v = -1 ∧ v ∉ s) ∨ (0 ≤ m_slices_Index_int64 s v ∧ v ∈ s) := by
    simp only [m_slices_Index_int64]
    refine LOOP_post (fun (x : Int) => (0 ≤ x ∧ x ≤ s.length) ∧ ∀ q, 0 ≤ q → q < x → at' s q ≠ v) (fun x => ((s.length : Int) - x).toNat) (fun _ (r : Int) => (r = -1 ∧ v ∉ s) ∨ (0 ≤ r ∧ v ∈ s)) (fun rec x hI ih => ?_) _ _ ⟨⟨by omega, by omega⟩, fun q h1 h2 => by omega⟩ (by omega)
    obtain ⟨⟨h0, h1⟩, h2⟩ := hI
    simp only [m_slices_Index_int64_b1]
    by_cases hi : x < (s.length : Int)
    · simp only [hi, decide_true, Bool.cond_true]
      cases hq : (v == at' s x) with
      | true => simp only [Bool.cond_true]; exact .inr ⟨h0, by have : v = at' s x := by simpa using hq
                                                               rw [this]; exact at_mem ⟨h0, hi⟩⟩
      | false =>
        simp only [Bool.cond_false]
        refine ih _ ⟨⟨by omega, by omega⟩, fun q g1 g2 => ?_⟩ (by omega)
        by_cases e : q = x
        · subst e; intro e2; rw [e2] at hq; simp at hq
        · exact h2 q g1 (by omega)
    · simp only [hi, decide_false, Bool.cond_false]
      refine .inl ⟨by first | rfl | trivial, fun hv => ?_⟩
      obtain ⟨j, hj, e⟩ := List.getElem_of_mem hv
      exact h2 (j : Int) (by omega) (by omega) (by rw [at_lt hj]; exact e)
  simp only [m_slices_Contains_int64, decide_eq_true_eq]
  rcases key with ⟨h1, h2⟩ | ⟨h1, h2⟩
  · rw [h1]; constructor
    · intro h; omega
    · intro h; exact absurd h h2
  · exact ⟨fun _ => h2, fun _ => h1⟩
/-- the greatest number of both lines, or 0 -/
def Com (A B : List Int) (r : Int) : Prop := (r = 0 ∧ ∀ x ∈ A, x ∉ B) ∨ (r ∈ A ∧ r ∈ B ∧ ∀ x ∈ A, x ∈ B → x ≤ r)
theorem Com.swap {A B : List Int} {r : Int} (h : Com A B r) : Com B A r := by
  rcases h with ⟨h1, h2⟩ | ⟨h1, h2, h3⟩
  · exact .inl ⟨h1, fun x hx hy => h2 x hy hx⟩
  · exact .inr ⟨h2, h1, fun x hx hy => h3 x hy hx⟩
theorem Com.one {A B : List Int} {r s : Int} (h : Com A B r) (h' : Com A B s) : r = s := by
  rcases h with ⟨h1, h2⟩ | ⟨h1, h2, h3⟩ <;> rcases h' with ⟨g1, g2⟩ | ⟨g1, g2, g3⟩
  · omega
  · exact absurd g2 (h2 _ g1)
  · exact absurd h2 (g2 _ h1)
  · have := h3 _ g1 g2; have := g3 _ h1 h2; omega
theorem com_is {list : List gVersion} (h : HV list) {a b : Int} (ha : 0 ≤ a ∧ a ≤ list.length) : Com (m_impl_lineOf list a) (m_impl_lineOf list b) (m_impl_commonAncestor list a b) := by
  have hd : (m_impl_lineOf list a).Pairwise (fun x y => y < x) := by rw [line_is h ha]; exact line_down h _ _ ha.1 ha.2
  simp only [m_impl_commonAncestor]
  refine LOOP_post (fun (x : Int) => (0 ≤ x ∧ x ≤ (m_impl_lineOf list a).length) ∧ ∀ q, 0 ≤ q → q < x → at' (m_impl_lineOf list a) q ∉ m_impl_lineOf list b) (fun x => (((m_impl_lineOf list a).length : Int) - x).toNat) (fun _ (r : Int) => Com (m_impl_lineOf list a) (m_impl_lineOf list b) r) (fun rec x hI ih => ?_) _ _ ⟨⟨by omega, by omega⟩, fun q h1 h2 => by omega⟩ (by omega)
  obtain ⟨⟨h0, h1⟩, h2⟩ := hI
  simp only [m_impl_commonAncestor_b1]
  by_cases hi : x < ((m_impl_lineOf list a).length : Int)
  · simp only [hi, decide_true, Bool.cond_true]
    cases hc : m_slices_Contains_int64 (m_impl_lineOf list b) (at' (m_impl_lineOf list a) x) with
    | true =>
      simp only [Bool.cond_true]
      refine .inr ⟨at_mem ⟨h0, hi⟩, (has_iff _ _).1 hc, fun y hy hyb => ?_⟩
      obtain ⟨j, hj, e⟩ := List.getElem_of_mem hy
      have hlt : x.toNat < (m_impl_lineOf list a).length := by omega
      have hat : at' (m_impl_lineOf list a) x = (m_impl_lineOf list a)[x.toNat] := by
        have := at_lt (xs := m_impl_lineOf list a) (j := x.toNat) hlt
        rwa [Int.toNat_of_nonneg h0] at this
      rcases Nat.lt_trichotomy j x.toNat with g | g | g
      · have := h2 (j : Int) (by omega) (by omega)
        rw [at_lt hj, e] at this
        exact absurd hyb this
      · subst g; rw [hat, e]; exact Int.le_refl _
      · have := List.pairwise_iff_getElem.1 hd x.toNat j hlt hj g
        rw [hat, ← e]; exact Int.le_of_lt this
    | false =>
      simp only [Bool.cond_false]
      refine ih _ ⟨⟨by omega, by omega⟩, fun q g1 g2 => ?_⟩ (by omega)
      by_cases e : q = x
      · subst e; intro hm; rw [(has_iff _ _).2 hm] at hc; simp at hc
      · exact h2 q g1 (by omega)
  · simp only [hi, decide_false, Bool.cond_false]
    refine .inl ⟨rfl, fun y hy hyb => ?_⟩
    obtain ⟨j, hj, e⟩ := List.getElem_of_mem hy
    have := h2 (j : Int) (by omega) (by omega)
    rw [at_lt hj, e] at this
    exact this hyb
theorem com_rng {list : List gVersion} (h : HV list) {a b : Int} (ha : 0 ≤ a ∧ a ≤ list.length) (hb : 0 ≤ b ∧ b ≤ list.length) : 0 ≤ m_impl_commonAncestor list a b ∧ m_impl_commonAncestor list a b ≤ a ∧ m_impl_commonAncestor list a b ≤ b := by
  rcases com_is h (b := b) ha with ⟨h1, _⟩ | ⟨h1, h2, _⟩
  · omega
  · rw [line_is h ha] at h1
    rw [line_is h hb] at h2
    have := line_mem h _ _ ha.1 ha.2 _ h1
    have := line_mem h _ _ hb.1 hb.2 _ h2
    omega
theorem com_swap {list : List gVersion} (h : HV list) {a b : Int} (ha : 0 ≤ a ∧ a ≤ list.length) (hb : 0 ≤ b ∧ b ≤ list.length) : m_impl_commonAncestor list a b = m_impl_commonAncestor list b a :=
  (com_is h ha).one (com_is h hb).swap
theorem vcode_is {list : List gVersion} (h : HV list) {a b : Int} (ha : 1 ≤ a ∧ a ≤ list.length) (hb : 1 ≤ b ∧ b ≤ list.length) : m_impl_versionsCode list ([a, b] : List Int) = 0 := by
  have h1 : m_impl_ValidHistory list = true := (histI_iff list).2 h
  have h2 : m_impl_allWithin ([a, b] : List Int) 1 (list.length : Int) = true := allWithin_iff.2 fun y hy => by
    simp only [List.mem_cons, List.not_mem_nil, or_false] at hy
    rcases hy with rfl | rfl <;> assumption
  simp only [m_impl_versionsCode, h1, h2, Bool.not_true, Bool.cond_false]
theorem vstate_ok {list : List gVersion} (h : HV list) {n : Int} (hn : 0 ≤ n ∧ n ≤ list.length) : m_spec_l27State (m_impl_versionState list n) = true := by
  have hl := h.1
  simp only [m_impl_versionState]
  cases e : (n == 0) with
  | true => simp only [Bool.cond_true]; exact (state_iff _).2 ⟨fun e he => absurd he List.not_mem_nil, List.Pairwise.nil, by simp⟩
  | false =>
    have : n ≠ 0 := by simpa using e
    simp only [Bool.cond_false]
    rw [wr64 (by omega)]
    have := (h.2 (n - 1).toNat (by omega)).2.2.2
    rw [show (((n - 1).toNat : Nat) : Int) = n - 1 by omega] at this
    exact this
theorem with_is {list : List gVersion} {p : Int} {memo : List UInt8} {st : List gSetting} (hl : list.length < 32) : m_impl_withVersion list p memo st = (list ++ ([gVersion.mk ((list.length : Int) + 1) p memo st] : List gVersion), 0) := by
  have e : ((list.length : Int) == 32) = false := by simp; omega
  simp only [m_impl_withVersion, e, Bool.cond_false]
  have ec : m_slices_Clone_impl_Version list ++ ([gVersion.mk ((list.length : Int) + 1) p memo st] : List gVersion) = list ++ ([gVersion.mk ((list.length : Int) + 1) p memo st] : List gVersion) := by simp [m_slices_Clone_impl_Version]
  rw [ec]
  have h := LOOP_fori (b := m_impl_withVersion_b1 list p memo st) (k := fun (x1 : (List gVersion) × Int) => (x1.1, (0 : Int))) (n := ((list ++ ([gVersion.mk ((list.length : Int) + 1) p memo st] : List gVersion)).length : Int)) (fun i xs => xs ++ [at' (list ++ ([gVersion.mk ((list.length : Int) + 1) p memo st] : List gVersion)) i]) (fun rec xs i h0 h1 => by
    simp only [m_impl_withVersion_b1, ec, h1, decide_true, Bool.cond_true, m_slices_Clone_impl_Setting, List.nil_append]) (fun rec xs => by simp only [m_impl_withVersion_b1, ec]; simp) ((((list ++ ([gVersion.mk ((list.length : Int) + 1) p memo st] : List gVersion)).length : Int) - 0 : Int).toNat + 1) 0 [] (by omega) (by omega) (by omega)
  rw [h]
  simp only [Prod.mk.injEq, and_true]
  rw [fori_map, List.nil_append]
  have e2 : (((list ++ ([gVersion.mk ((list.length : Int) + 1) p memo st] : List gVersion)).length : Int) - 0).toNat = (list ++ ([gVersion.mk ((list.length : Int) + 1) p memo st] : List gVersion)).length := by omega
  rw [e2]
  exact (list_irange _).symm

end Go.Proofs.Ytlbpjgeoaiiamaa
