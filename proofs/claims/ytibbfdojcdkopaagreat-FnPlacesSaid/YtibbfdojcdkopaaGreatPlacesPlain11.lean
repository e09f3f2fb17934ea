/-
  PLAIN LAWS about the models: no program in sight. Conditions: as each theorem states them.
-/
import Derived.Test.YtibbfdojcdkopaaGreatPlacesPlain10
set_option linter.unusedVariables false
set_option linter.unusedSimpArgs false
set_option linter.unusedSectionVars false
set_option linter.unnecessarySimpa false
namespace Go.Proofs.YtibbfdojcdkopaaGreat
open Go Go.RowKit Go.Proofs Go.Proofs.YtibbfdojcdkopaaGreat.E
/-! ## The law of places -/
theorem bif_ff {c x : Bool} (hc : c = false) (h : x = true) : (bif c then false else x) = true := by rw [hc]; exact h
theorem Up_step {hi : Int} : ∀ {lo : Int} {l : List Int}, Up lo hi l → ∀ (n : Nat) (h : n + 1 < l.length), l[n]'(by omega) < l[n + 1]
  | _, [], _, n, h => by simp at h
  | _, [x], _, n, h => by simp at h
  | _, x :: y :: r, hu, 0, _ => by
    have := hu.2.2.1
    simp only [List.getElem_cons_zero, List.getElem_cons_succ]; omega
  | _, x :: y :: r, hu, n + 1, h => by
    have := Up_step hu.2.2 n (by simpa using h)
    simpa using this
theorem Up_erase {hi : Int} : ∀ {lo : Int} {l : List Int} (i : Nat), Up lo hi l → Up lo hi (l.eraseIdx i)
  | lo, [], i, _ => by rw [List.eraseIdx_nil]; exact True.intro
  | _, x :: r, 0, h => Up_weak (by have := h.1; omega) h.2.2
  | _, x :: r, i + 1, h => ⟨h.1, h.2.1, Up_erase i h.2.2⟩
theorem rises_of {l : List Int} {J : Int} (h : Up 0 J l) : CR l J = true := by
  simp only [CR]
  refine LOOP_is (b := C6 l J) (fun (x : Int) => 0 ≤ x ∧ x ≤ l.length) (fun x => ((l.length : Int) - x).toNat) (fun _ => true) (fun rec x hI ih => ?_) ⟨by omega, by omega⟩ (by omega)
  simp only [C6]
  by_cases hi : x < (l.length : Int)
  · have hm := at_all (Up_mem h) (i := x) ⟨hI.1, hi⟩
    simp only [hi, decide_true, Bool.cond_true]
    refine bif_ff ?_ (ih _ ⟨by omega, by omega⟩ (by omega))
    rw [Bool.or_eq_false_iff, Bool.or_eq_false_iff, Bool.and_eq_false_iff, decide_eq_false_iff_not, decide_eq_false_iff_not, decide_eq_false_iff_not, decide_eq_false_iff_not]
    refine ⟨⟨by omega, by omega⟩, ?_⟩
    by_cases h0 : 0 < x
    · right
      have hs := Up_step h (x.toNat - 1) (by omega)
      have e1 : at' l (x - 1) = l[x.toNat - 1]'(by omega) := by
        have := at_lt (xs := l) (j := x.toNat - 1) (by omega)
        rwa [show ((x.toNat - 1 : Nat) : Int) = x - 1 by omega] at this
      have e2 : at' l x = l[x.toNat - 1 + 1]'(by omega) := by
        have := at_lt (xs := l) (j := x.toNat - 1 + 1) (by omega)
        rwa [show ((x.toNat - 1 + 1 : Nat) : Int) = x by omega] at this
      omega
    · exact .inl h0
  · simp only [hi, decide_false, Bool.cond_false]
/-! ### Each place that is chosen is the only one for some junction -/
def cvr (w : Int → List Int) (limit : Int) (set : List Int) (j i : Int) : Prop := 0 ≤ at' (w j) (at' set i) ∧ at' (w j) (at' set i) ≤ limit
def sole (w : Int → List Int) (limit : Int) (set : List Int) (j i : Int) : Prop := cvr w limit set j i ∧ ∀ q : Int, 0 ≤ q → q < set.length → q ≠ i → ¬ cvr w limit set j q
section
variable {m : AB} {speed limit : Int} {set : List Int}
theorem wS (h : FewOk m speed limit set) {j : Int} (hj : 0 ≤ j ∧ j < m.Junctions) : (A6 m j speed).2 = 0 ∧ (A6 m j speed).1 = A9 m j speed := by
  have hm := ValidMine_imp h.val
  have hJ := hm.1
  have h1 : AD m = true := by rw [← mine_eq]; exact h.val
  have h2 : Bx m j = true := by
    simp only [Bx, AR]
    rw [wr64 (n := m.Junctions - 1) (by omega)]
    simp; omega
  have h3 : Cz speed = true := by
    have := h.spd
    simp only [Cz, AR]
    simp; omega
  simp only [A6, h1, h2, h3, Bool.not_true, Bool.or_self, Bool.cond_false]
  exact ⟨trivial, by rw [l20Walks_is hm hj h.spd, walks_is hm hj h.spd]⟩
theorem cvr_iff (h : FewOk m speed limit set) {j i : Int} (hj : 0 ≤ j ∧ j < m.Junctions) : cvr (fun j => (A6 m j speed).1) limit set j i ↔ nearW m speed limit j (at' set i) := by
  unfold cvr nearW
  dsimp only
  rw [(wS h hj).2]
theorem some_cvr (h : FewOk m speed limit set) {j : Int} (hj : 0 ≤ j ∧ j < m.Junctions) : ∃ i : Int, 0 ≤ i ∧ i < set.length ∧ cvr (fun j => (A6 m j speed).1) limit set j i := by
  obtain ⟨y, hy, hn⟩ := h.cov j hj.1 hj.2
  obtain ⟨n, hl, rfl⟩ := List.mem_iff_getElem.1 hy
  exact ⟨(n : Int), by omega, by omega, (cvr_iff h hj).2 (by rw [at_lt hl]; exact hn)⟩
theorem has_sole (h : FewOk m speed limit set) {i : Int} (hi : 0 ≤ i ∧ i < set.length) : ∃ j : Int, (0 ≤ j ∧ j < m.Junctions) ∧ sole (fun j => (A6 m j speed).1) limit set j i := by
  obtain ⟨j, hj, hno⟩ := h.min (set.eraseIdx i.toNat) (Up_erase _ h.up) (by rw [List.length_eraseIdx]; split <;> omega)
  have hne : ∀ q : Int, 0 ≤ q → q < set.length → q ≠ i → ¬ cvr (fun j => (A6 m j speed).1) limit set j q := fun q q0 q1 hq hc => by
    refine hno (at' set q) ?_ ((cvr_iff h hj).1 hc)
    have := at_lt (xs := set) (j := q.toNat) (by omega)
    rw [Int.toNat_of_nonneg q0] at this
    rw [this]
    exact List.mem_eraseIdx_iff_getElem.2 ⟨q.toNat, by omega, by omega, rfl⟩
  obtain ⟨q, q0, q1, hc⟩ := some_cvr h hj
  by_cases hq : q = i
  · subst hq; exact ⟨j, hj, hc, hne⟩
  · exact absurd hc (hne q q0 q1 hq)
end
/-- the number of places of a junction, as far as they are seen -/
def Cnt (w : Int → List Int) (limit : Int) (set : List Int) (j i near last : Int) : Prop :=
  (near = 0 ∧ ∀ q : Int, 0 ≤ q → q < i → ¬ cvr w limit set j q) ∨ (near = 1 ∧ last < i ∧ cvr w limit set j last ∧ ∀ q : Int, 0 ≤ q → q < i → cvr w limit set j q → q = last) ∨ (2 ≤ near ∧ ∃ a b : Int, (0 ≤ a ∧ a < i) ∧ (0 ≤ b ∧ b < i) ∧ a ≠ b ∧ cvr w limit set j a ∧ cvr w limit set j b)
theorem Cnt.yes {w : Int → List Int} {limit : Int} {set : List Int} {j i near last : Int} (h : Cnt w limit set j i near last) (hl : 0 ≤ last) (hi : 0 ≤ i) (hn : 0 ≤ near) (hc : cvr w limit set j i) : Cnt w limit set j (i + 1) (near + 1) i := by
  rcases h with ⟨h1, h2⟩ | ⟨h1, h2, h3, h4⟩ | ⟨h1, a, b, h2, h3, h4, h5, h6⟩
  · refine .inr (.inl ⟨by omega, by omega, hc, fun q q0 q1 hq => ?_⟩)
    by_cases e : q = i
    · exact e
    · exact absurd hq (h2 q q0 (by omega))
  · exact .inr (.inr ⟨by omega, last, i, by omega, by omega, by omega, h3, hc⟩)
  · exact .inr (.inr ⟨by omega, a, b, by omega, by omega, h4, h5, h6⟩)
theorem Cnt.no {w : Int → List Int} {limit : Int} {set : List Int} {j i near last : Int} (h : Cnt w limit set j i near last) (hc : ¬ cvr w limit set j i) : Cnt w limit set j (i + 1) near last := by
  rcases h with ⟨h1, h2⟩ | ⟨h1, h2, h3, h4⟩ | ⟨h1, a, b, h2, h3, h4, h5, h6⟩
  · refine .inl ⟨h1, fun q q0 q1 hq => ?_⟩
    by_cases e : q = i
    · subst e; exact hc hq
    · exact h2 q q0 (by omega) hq
  · refine .inr (.inl ⟨h1, by omega, h3, fun q q0 q1 hq => ?_⟩)
    by_cases e : q = i
    · subst e; exact absurd hq hc
    · exact h4 q q0 (by omega) hq
  · exact .inr (.inr ⟨h1, a, b, by omega, by omega, h4, h5, h6⟩)
structure Aln (w : Int → List Int) (limit : Int) (set : List Int) (j : Int) (alone : List Int) : Prop where
  len : alone.length = set.length
  rng : ∀ i : Int, 0 ≤ i → i < set.length → 0 ≤ at' alone i ∧ at' alone i ≤ j
  one : ∀ i : Int, 0 ≤ i → i < set.length → (∃ q : Int, (0 ≤ q ∧ q < j) ∧ sole w limit set q i) → 1 ≤ at' alone i
theorem Aln.start {w : Int → List Int} {limit : Int} {set : List Int} : Aln w limit set 0 (List.replicate set.length 0) :=
  ⟨List.length_replicate, fun i i0 i1 => by rw [at_rep i0 (by omega)]; omega, fun i i0 i1 h => by obtain ⟨q, hq, _⟩ := h; omega⟩
theorem Aln.same {w : Int → List Int} {limit : Int} {set : List Int} {j : Int} {alone : List Int} (h : Aln w limit set j alone) {a b : Int} (ha : 0 ≤ a ∧ a < set.length) (hb : 0 ≤ b ∧ b < set.length) (hab : a ≠ b) (ca : cvr w limit set j a) (cb : cvr w limit set j b) : Aln w limit set (j + 1) alone := by
  refine ⟨h.len, fun i i0 i1 => by have := h.rng i i0 i1; omega, fun i i0 i1 hq => ?_⟩
  obtain ⟨q, hq, hs⟩ := hq
  by_cases e : q = j
  · subst e
    exfalso
    by_cases ea : a = i
    · exact hs.2 b hb.1 hb.2 (by omega) cb
    · exact hs.2 a ha.1 ha.2 ea ca
  · exact h.one i i0 i1 ⟨q, by omega, hs⟩
theorem Aln.put {w : Int → List Int} {limit : Int} {set : List Int} {j : Int} {alone : List Int} (h : Aln w limit set j alone) (hj : 0 ≤ j ∧ j ≤ 1000) {last : Int} (hl : 0 ≤ last ∧ last < set.length) (hc : ∀ q : Int, 0 ≤ q → q < set.length → cvr w limit set j q → q = last) : Aln w limit set (j + 1) (put' alone last (IntKind.wrap .i64 (at' alone last + 1))) := by
  have hr := h.rng last hl.1 hl.2
  have hlen := h.len
  rw [wr64 (n := at' alone last + 1) (by omega)]
  refine ⟨by rw [put_len]; exact h.len, fun i i0 i1 => ?_, fun i i0 i1 hq => ?_⟩
  · by_cases e : last = i
    · subst e; rw [put_at ⟨hl.1, by omega⟩]; omega
    · rw [put_at_ne hl.1 i0 e]; have := h.rng i i0 i1; omega
  · obtain ⟨q, hq, hs⟩ := hq
    by_cases e : q = j
    · subst e
      have := hc i i0 i1 hs.1
      subst this
      rw [put_at ⟨hl.1, by omega⟩]; omega
    · have := h.one i i0 i1 ⟨q, by omega, hs⟩
      by_cases e2 : last = i
      · subst e2; rw [put_at ⟨hl.1, by omega⟩]; omega
      · rw [put_at_ne hl.1 i0 e2]; exact this
/-! ### The refuge that is reached first -/
theorem rlx_from {J : Nat} {safe : Int → Int → Bool} {s : Int} (hs : 0 ≤ s) {a : List Int} {e : Int × Int × Int} (hok : EdOk J e) (hl : a.length = J) (h : ∀ v : Int, 0 ≤ v → v < J → at' a v = -1 ∨ s ≤ at' a v) : ∀ v : Int, 0 ≤ v → v < J → at' (rlx safe e a) v = -1 ∨ s ≤ at' (rlx safe e a) v := by
  rcases rlx_cases (safe := safe) e a with h0 | ⟨h1, h2, h3, h4⟩
  · rw [h0]; exact h
  · rw [h4]
    obtain ⟨b1, b2, b3, b4, b5⟩ := hok
    intro v v0 v1
    by_cases hv : v = e.2.1
    · subst hv
      rw [put_at ⟨b3, by omega⟩]
      have := (h e.1 b1 b2).resolve_left (by omega)
      exact .inr (by omega)
    · rw [put_at_ne b3 v0 (fun e0 => hv e0.symm)]; exact h v v0 v1
theorem swp_from {J : Nat} {safe : Int → Int → Bool} {s : Int} (hs : 0 ≤ s) : ∀ (fs : List (Int × Int × Int)) {a : List Int}, (∀ e ∈ fs, EdOk J e) → a.length = J → (∀ v : Int, 0 ≤ v → v < J → at' a v = -1 ∨ s ≤ at' a v) → ∀ v : Int, 0 ≤ v → v < J → at' (swp safe fs a) v = -1 ∨ s ≤ at' (swp safe fs a) v
  | [], _, _, _, h => h
  | e :: fs, a, hf, hl, h => swp_from hs fs (a := rlx safe e a) (fun e' h' => hf e' (List.mem_cons_of_mem _ h')) (by rw [rlx_len]; exact hl) (rlx_from hs (hf e List.mem_cons_self) hl h)
theorem swps_from {J : Nat} {safe : Int → Int → Bool} {s : Int} (hs : 0 ≤ s) {es : List (Int × Int × Int)} (hok : ∀ e ∈ es, EdOk J e) : ∀ (k : Nat) {a : List Int}, a.length = J → (∀ v : Int, 0 ≤ v → v < J → at' a v = -1 ∨ s ≤ at' a v) → ∀ v : Int, 0 ≤ v → v < J → at' (swps safe es k a) v = -1 ∨ s ≤ at' (swps safe es k a) v
  | 0, _, _, h => h
  | k + 1, a, hl, h => swps_from hs hok k (a := swp safe es a) (by rw [swp_len]; exact hl) (swp_from hs es hok hl h)
theorem times_from {m : AB} {arr : List Int} {blocked : Int} {c : Bu} {start : Int} (hm : MineIn m) (hc : CrewIn m c) (hs : 0 ≤ start ∧ start ≤ 36000) {v : Int} (hv : 0 ≤ v ∧ v < m.Junctions) : at' (AX m arr blocked c start) v = -1 ∨ start ≤ at' (AX m arr blocked c start) v := by
  have hJ := hm.1
  rw [specTimes_is hm hc hs]
  cases cwSafe arr c.Junction start with
  | false =>
    simp only [Bool.not_false, Bool.cond_true]
    exact .inl (at_rep hv.1 (by omega))
  | true =>
    simp only [Bool.not_true, Bool.cond_false]
    refine swps_from (J := m.Junctions.toNat) hs.1 (fun e he => (cwEs_ok hm blocked hc.2 e he).ok) _ (by unfold cwStart; rw [put_len, List.length_replicate]) (fun u u0 u1 => ?_) v hv.1 (by omega)
    unfold cwStart
    have hcj := hc.1
    by_cases e : u = c.Junction
    · subst e; rw [put_at ⟨u0, by rw [List.length_replicate]; exact u1⟩]; exact .inr (Int.le_refl _)
    · rw [put_at_ne hcj.1 u0 (fun e0 => e e0.symm), at_rep u0 (by omega)]; exact .inl rfl
structure NearOk (m : AB) (arr : List Int) (blocked : Int) (c : Bu) (start : Int) (list : List AS) (k t : Int) : Prop where
  esc : Bh m arr blocked c start = (AX m arr blocked c start, 0)
  rng : 0 ≤ k ∧ k < list.length
  ref : BW m list = true
  time : at' (AX m arr blocked c start) (at' list k).Junction = t
  late : start ≤ t
  min : ∀ i : Int, 0 ≤ i → i < list.length → 0 ≤ at' (AX m arr blocked c start) (at' list i).Junction → t ≤ at' (AX m arr blocked c start) (at' list i).Junction
theorem near_is (m : AB) (arr : List Int) (blocked : Int) (c : Bu) (start : Int) (list : List AS) : ((AQ m arr blocked c start list).2.2 = 0 → NearOk m arr blocked c start list (AQ m arr blocked c start list).1 (AQ m arr blocked c start list).2.1) ∧ ((AQ m arr blocked c start list).2.2 ≠ 0 → (AQ m arr blocked c start list).1 = 0 ∧ (AQ m arr blocked c start list).2.1 = 0) := by
  obtain ⟨h1, h2⟩ := escapeOf1 m arr blocked c start
  simp only [AQ, refuges_eq, h1]
  cases hr : CS m list with
  | false => simp
  | true =>
    simp only [Bool.not_true, Bool.cond_false]
    cases hc : (Bz m arr blocked c start != 0) with
    | true =>
      have h0 : Bz m arr blocked c start ≠ 0 := by simpa using hc
      simp only [Bool.cond_true]
      exact ⟨fun h => absurd h h0, fun _ => ⟨trivial, trivial⟩⟩
    | false =>
      have h0 : Bz m arr blocked c start = 0 := by simpa using hc
      have hi := l19Ask_imp h0
      have hE : Bh m arr blocked c start = (AX m arr blocked c start, 0) := by simp [Bh, h0]
      have hR := l20Ok_imp hr
      simp only [Bool.cond_false]
      refine LOOP_post (b := Cs m arr blocked c start list) (fun (x : Int × Int) => (0 ≤ x.2 ∧ x.2 ≤ list.length) ∧ ((x.1 = -1 ∧ ∀ q : Int, 0 ≤ q → q < x.2 → at' (AX m arr blocked c start) (at' list q).Junction < 0) ∨ ((0 ≤ x.1 ∧ x.1 < list.length) ∧ 0 ≤ at' (AX m arr blocked c start) (at' list x.1).Junction ∧ ∀ q : Int, 0 ≤ q → q < x.2 → 0 ≤ at' (AX m arr blocked c start) (at' list q).Junction → at' (AX m arr blocked c start) (at' list x.1).Junction ≤ at' (AX m arr blocked c start) (at' list q).Junction)))
        (fun x => ((list.length : Int) - x.2).toNat) (fun _ (r : Int × Int × Int) => (r.2.2 = 0 → NearOk m arr blocked c start list r.1 r.2.1) ∧ (r.2.2 ≠ 0 → r.1 = 0 ∧ r.2.1 = 0)) (fun rec x hI ih => ?_) _ _ ⟨⟨by simp, by simp⟩, .inl ⟨rfl, fun q q0 q1 => by dsimp only at q1; omega⟩⟩ (by simp)
      obtain ⟨best, i⟩ := x
      obtain ⟨⟨g0, g1⟩, g2⟩ := hI
      dsimp only at g0 g1 g2
      simp only [Cs, h2 h0, times_eq hi.1 hi.2.1 hi.2.2.1]
      by_cases hl : i < (list.length : Int)
      · simp only [hl, decide_true, Bool.cond_true]
        by_cases hb : 0 ≤ at' (AX m arr blocked c start) (at' list i).Junction ∧ (best < 0 ∨ at' (AX m arr blocked c start) (at' list i).Junction < at' (AX m arr blocked c start) (at' list best).Junction)
        · have e : ((decide (0 ≤ at' (AX m arr blocked c start) (at' list i).Junction)) && ((decide (best < 0)) || (decide (at' (AX m arr blocked c start) (at' list i).Junction < at' (AX m arr blocked c start) (at' list best).Junction)))) = true := by
            rw [Bool.and_eq_true, Bool.or_eq_true, decide_eq_true_eq, decide_eq_true_eq, decide_eq_true_eq]; exact hb
          rw [e]
          simp only [Bool.cond_true]
          refine ih _ ⟨⟨by dsimp only; omega, by dsimp only; omega⟩, .inr ⟨⟨g0, hl⟩, hb.1, fun q q0 q1 hq => ?_⟩⟩ (by dsimp only; omega)
          dsimp only at q1 ⊢
          by_cases eq : q = i
          · subst eq; exact Int.le_refl _
          · rcases g2 with ⟨k1, k2⟩ | ⟨k1, k2, k3⟩
            · have := k2 q q0 (by omega); omega
            · have := k3 q q0 (by omega) hq; omega
        · have e : ((decide (0 ≤ at' (AX m arr blocked c start) (at' list i).Junction)) && ((decide (best < 0)) || (decide (at' (AX m arr blocked c start) (at' list i).Junction < at' (AX m arr blocked c start) (at' list best).Junction)))) = false := by
            rw [← Bool.not_eq_true, Bool.and_eq_true, Bool.or_eq_true, decide_eq_true_eq, decide_eq_true_eq, decide_eq_true_eq]; exact hb
          rw [e]
          simp only [Bool.cond_false]
          refine ih _ ⟨⟨by dsimp only; omega, by dsimp only; omega⟩, ?_⟩ (by dsimp only; omega)
          dsimp only
          rcases g2 with ⟨k1, k2⟩ | ⟨k1, k2, k3⟩
          · refine .inl ⟨k1, fun q q0 q1 => ?_⟩
            by_cases eq : q = i
            · subst eq
              have : ¬ (0 ≤ at' (AX m arr blocked c start) (at' list q).Junction) := fun h => hb ⟨h, .inl (by omega)⟩
              omega
            · exact k2 q q0 (by omega)
          · refine .inr ⟨k1, k2, fun q q0 q1 hq => ?_⟩
            by_cases eq : q = i
            · subst eq
              have : ¬ (at' (AX m arr blocked c start) (at' list q).Junction < at' (AX m arr blocked c start) (at' list best).Junction) := fun h => hb ⟨hq, .inr h⟩
              omega
            · exact k3 q q0 (by omega) hq
      · simp only [hl, decide_false, Bool.cond_false]
        by_cases hn : best < 0
        · simp [hn]
        · simp only [hn, decide_false, Bool.cond_false]
          obtain ⟨k1, k2, k3⟩ := g2.resolve_left (by omega)
          have hj := at_all hR.2 k1
          refine ⟨fun _ => ⟨hE, k1, hr, rfl, ?_, fun q q0 q1 hq => k3 q q0 (by omega) hq⟩, fun h => by simp at h⟩
          have := times_from (arr := arr) (blocked := blocked) hi.1 hi.2.1 hi.2.2.1 hj
          omega
/-! ### Both halves -/
theorem places_true (code more : List Int) (j5 : Unit → Bool) (hj5 : j5 () = true) : (bif (Ao (Ac code).1 (Ac code).2.1 (Ac code).2.2.1 (Ac code).2.2.2).2 == 0 then bif !(CR (Ao (Ac code).1 (Ac code).2.1 (Ac code).2.2.1 (Ac code).2.2.2).1 (Ac code).1.Junctions) then false else LOOP (CM code more j5) (fun (x1 : (List Int) × Int) => LOOP (CL code more j5 x1) (fun (x3 : Int) => j5 ()) (((x1.1.length : Int) - 0 : Int).toNat + 1) 0) (((Ac code).1.Junctions - 0 : Int).toNat + 1) (List.replicate (((Ao (Ac code).1 (Ac code).2.1 (Ac code).2.2.1 (Ac code).2.2.2).1.length : Int) : Int).toNat (0 : Int), 0) else j5 ()) = true := by
  by_cases h0 : (Ao (Ac code).1 (Ac code).2.1 (Ac code).2.2.1 (Ac code).2.2.2).2 = 0
  · have h := few_ok h0
    have hJ := (ValidMine_imp h.val).1
    have hr := rises_of h.up
    rw [show ((Ao (Ac code).1 (Ac code).2.1 (Ac code).2.2.1 (Ac code).2.2.2).2 == 0) = true by rw [h0]; rfl, hr]
    simp only [Bool.cond_true, Bool.not_true, Bool.cond_false]
    refine LOOP_post (b := CM code more j5) (fun (x : List Int × Int) => (0 ≤ x.2 ∧ x.2 ≤ (Ac code).1.Junctions) ∧ Aln (fun j => (A6 (Ac code).1 j (Ac code).2.1).1) (Ac code).2.2.1 (Ao (Ac code).1 (Ac code).2.1 (Ac code).2.2.1 (Ac code).2.2.2).1 x.2 x.1)
      (fun x => ((Ac code).1.Junctions - x.2).toNat) (fun _ r => r = true) (fun rec x hI ih => ?_) _ _ ⟨⟨by simp, by simp only; omega⟩, by rw [Int.toNat_natCast]; exact Aln.start⟩ (by simp only; omega)
    obtain ⟨alone, j⟩ := x
    obtain ⟨⟨g0, g1⟩, hA⟩ := hI
    dsimp only at g0 g1 hA
    simp only [CM]
    by_cases hj : j < (Ac code).1.Junctions
    · simp only [hj, decide_true, Bool.cond_true]
      have hw := wS h (j := j) ⟨g0, hj⟩
      refine bif_ff (by rw [hw.1]; rfl) ?_
      have hlen := h.len
      refine LOOP_post (b := C7 code more j5 rec _ (alone, j)) (fun (x : Int × Int × Int) => (0 ≤ x.2.1 ∧ x.2.1 ≤ (Ao (Ac code).1 (Ac code).2.1 (Ac code).2.2.1 (Ac code).2.2.2).1.length) ∧ (0 ≤ x.1 ∧ x.1 ≤ x.2.1) ∧ 0 ≤ x.2.2 ∧ Cnt (fun j => (A6 (Ac code).1 j (Ac code).2.1).1) (Ac code).2.2.1 (Ao (Ac code).1 (Ac code).2.1 (Ac code).2.2.1 (Ac code).2.2.2).1 j x.2.1 x.1 x.2.2)
        (fun x => (((Ao (Ac code).1 (Ac code).2.1 (Ac code).2.2.1 (Ac code).2.2.2).1.length : Int) - x.2.1).toNat) (fun _ r => r = true) (fun rec2 x hI2 ih2 => ?_) _ _ ⟨⟨by simp, by simp⟩, ⟨by simp, by simp⟩, by simp, .inl ⟨rfl, fun q q0 q1 => by dsimp only at q1; omega⟩⟩ (by simp)
      obtain ⟨near, i, last⟩ := x
      obtain ⟨⟨q0, q1⟩, ⟨q2, q3⟩, q4, hC⟩ := hI2
      dsimp only at q0 q1 q2 q3 q4 hC
      simp only [C7]
      by_cases hi : i < ((Ao (Ac code).1 (Ac code).2.1 (Ac code).2.2.1 (Ac code).2.2.2).1.length : Int)
      · simp only [hi, decide_true, Bool.cond_true]
        by_cases hc : cvr (fun j => (A6 (Ac code).1 j (Ac code).2.1).1) (Ac code).2.2.1 (Ao (Ac code).1 (Ac code).2.1 (Ac code).2.2.1 (Ac code).2.2.2).1 j i
        · have e := hc
          unfold cvr at e
          dsimp only at e
          rw [decide_eq_true e.1, decide_eq_true e.2]
          simp only [Bool.and_self, Bool.cond_true]
          rw [wr64 (n := near + 1) (by omega)]
          exact ih2 _ ⟨⟨by dsimp only; omega, by dsimp only; omega⟩, ⟨by dsimp only; omega, by dsimp only; omega⟩, q0, hC.yes q4 q0 q2 hc⟩ (by dsimp only; omega)
        · have e : ((decide (0 ≤ at' (A6 (Ac code).1 j (Ac code).2.1).1 (at' (Ao (Ac code).1 (Ac code).2.1 (Ac code).2.2.1 (Ac code).2.2.2).1 i))) && (decide (at' (A6 (Ac code).1 j (Ac code).2.1).1 (at' (Ao (Ac code).1 (Ac code).2.1 (Ac code).2.2.1 (Ac code).2.2.2).1 i) ≤ (Ac code).2.2.1))) = false := by
            rw [← Bool.not_eq_true, Bool.and_eq_true, decide_eq_true_eq, decide_eq_true_eq]; exact hc
          rw [e]
          simp only [Bool.cond_false]
          exact ih2 _ ⟨⟨by dsimp only; omega, by dsimp only; omega⟩, ⟨by dsimp only; omega, by dsimp only; omega⟩, q4, hC.no hc⟩ (by dsimp only; omega)
      · simp only [hi, decide_false, Bool.cond_false]
        obtain ⟨z, z0, z1, z2⟩ := some_cvr h ⟨g0, hj⟩
        rcases hC with ⟨k1, k2⟩ | ⟨k1, k2, k3, k4⟩ | ⟨k1, a, b, ka, kb, kab, ca, cb⟩
        · exact absurd z2 (k2 z z0 (by omega))
        · subst k1
          refine bif_ff rfl ?_
          simp only [beq_self_eq_true, Bool.cond_true]
          exact ih _ ⟨⟨by dsimp only; omega, by dsimp only; omega⟩, hA.put ⟨g0, by omega⟩ ⟨q4, by omega⟩ (fun q q0' q1' hq => k4 q q0' (by omega) hq)⟩ (by dsimp only; omega)
        · have e0 : (near == 0) = false := by rw [beq_eq_false_iff_ne]; omega
          have e1 : (near == 1) = false := by rw [beq_eq_false_iff_ne]; omega
          rw [e0, e1]
          simp only [Bool.cond_false]
          exact ih _ ⟨⟨by dsimp only; omega, by dsimp only; omega⟩, hA.same ⟨ka.1, by omega⟩ ⟨kb.1, by omega⟩ kab ca cb⟩ (by dsimp only; omega)
    · simp only [hj, decide_false, Bool.cond_false]
      refine LOOP_post (b := CL code more j5 (alone, j)) (fun (x : Int) => 0 ≤ x ∧ x ≤ alone.length) (fun x => ((alone.length : Int) - x).toNat) (fun _ r => r = true) (fun rec2 x hI2 ih2 => ?_) _ _ ⟨by simp, by simp⟩ (by simp)
      simp only [CL]
      by_cases hx : x < (alone.length : Int)
      · simp only [hx, decide_true, Bool.cond_true]
        have hl := hA.len
        obtain ⟨q, hq, hs⟩ := has_sole h (i := x) ⟨hI2.1, by omega⟩
        have := hA.one x hI2.1 (by omega) ⟨q, by omega, hs⟩
        refine bif_ff (by rw [beq_eq_false_iff_ne]; omega) (ih2 _ ⟨by omega, by omega⟩ (by omega))
      · simp only [hx, decide_false, Bool.cond_false]
        exact hj5
  · rw [show ((Ao (Ac code).1 (Ac code).2.1 (Ac code).2.2.1 (Ac code).2.2.2).2 == 0) = false by simpa using h0]
    exact hj5
theorem law_FnPlaces (code : List Int) (more : List Int) (hp1 : code.length ≤ 9223372036854775807 ∧ ∀ y ∈ code, 0 ≤ y ∧ y ≤ 255) (hp2 : more.length ≤ 9223372036854775807 ∧ ∀ y ∈ more, 0 ≤ y ∧ y ≤ 255) : DD code more = true := by
  simp only [DD, JN]
  cases (CY code) || (CY more) with
  | true => rfl
  | false =>
    simp only [Bool.cond_false]
    refine places_true code more _ ?_
    have hN := near_is (Ae more).1 (Ae more).2.1 (Ae more).2.2.1 (Ae more).2.2.2.1 (Ae more).2.2.2.2.1 (Ae more).2.2.2.2.2
    generalize hR : AQ (Ae more).1 (Ae more).2.1 (Ae more).2.2.1 (Ae more).2.2.2.1 (Ae more).2.2.2.2.1 (Ae more).2.2.2.2.2 = R at hN
    by_cases h0 : R.2.2 = 0
    · have h := hN.1 h0
      have c1 : (R.2.2 != 0) = false := by rw [h0]; rfl
      rw [c1, h.esc, h.ref, h.time]
      simp only [Bool.cond_false]
      have hr := h.rng
      have hla := h.late
      refine bif_ff (by simp; omega) ?_
      refine LOOP_post (b := C8 code more ()) (fun (x : Int) => 0 ≤ x ∧ x ≤ (Ae more).2.2.2.2.2.length) (fun x => (((Ae more).2.2.2.2.2.length : Int) - x).toNat) (fun _ r => r = true) (fun rec2 x hI2 ih2 => ?_) _ _ ⟨by simp, by simp⟩ (by simp)
      simp only [C8, hR, h.esc]
      by_cases hx : x < ((Ae more).2.2.2.2.2.length : Int)
      · simp only [hx, decide_true, Bool.cond_true]
        have hm := h.min x hI2.1 hx
        refine bif_ff ?_ (ih2 _ ⟨by omega, by omega⟩ (by omega))
        rw [Bool.and_eq_false_iff, decide_eq_false_iff_not, decide_eq_false_iff_not]
        by_cases ht : 0 ≤ at' (AX (Ae more).1 (Ae more).2.1 (Ae more).2.2.1 (Ae more).2.2.2.1 (Ae more).2.2.2.2.1) (at' (Ae more).2.2.2.2.2 x).Junction
        · right; have := hm ht; omega
        · exact .inl ht
      · simp only [hx, decide_false, Bool.cond_false]
    · have c1 : (R.2.2 != 0) = true := by simpa using h0
      have h := hN.2 h0
      rw [c1, h.1, h.2]
      rfl

end Go.Proofs.YtibbfdojcdkopaaGreat
