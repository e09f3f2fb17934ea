/-
  PLAIN LAWS about the models: no program in sight. Conditions: as each theorem states them.
-/
import Derived.Test.YtibbfdojcdkopaaExactAssignCrewsPlain3
set_option linter.unusedVariables false
set_option linter.unusedSimpArgs false
set_option linter.unusedSectionVars false
set_option linter.unnecessarySimpa false
namespace Go.Proofs.Ytibbfdojcdkopaa
open Go Go.RowKit Go.Proofs Go.Proofs.Ytibbfdojcdkopaa.E
/-! ## The least times along ways: going round till nothing changes, and going round as often as there are places -/
section
variable (J : Nat) (safe : Int → Int → Bool)
def rlx (e : Int × Int × Int) (a : List Int) : List Int :=
  bif (decide (0 ≤ at' a e.1) && (decide (at' a e.2.1 < 0) || decide (at' a e.1 + e.2.2 < at' a e.2.1))) && safe e.2.1 (at' a e.1 + e.2.2) then put' a e.2.1 (at' a e.1 + e.2.2) else a
def swp (es : List (Int × Int × Int)) (a : List Int) : List Int := es.foldl (fun a e => rlx safe e a) a
def swps (es : List (Int × Int × Int)) : Nat → List Int → List Int
  | 0, a => a
  | k + 1, a => swps es k (swp safe es a)
def EdOk (e : Int × Int × Int) : Prop := 0 ≤ e.1 ∧ e.1 < J ∧ 0 ≤ e.2.1 ∧ e.2.1 < J ∧ 0 ≤ e.2.2
def Fixd (es : List (Int × Int × Int)) (a : List Int) : Prop := ∀ e ∈ es, rlx safe e a = a
variable {J safe}
/-- an edge that has nothing to give -/
def Rel (safe : Int → Int → Bool) (e : Int × Int × Int) (a : List Int) : Prop := safe e.2.1 (at' a e.1 + e.2.2) = true → 0 ≤ at' a e.2.1 ∧ at' a e.2.1 ≤ at' a e.1 + e.2.2
theorem rlx_cases (e : Int × Int × Int) (a : List Int) : rlx safe e a = a ∨ (0 ≤ at' a e.1 ∧ (at' a e.2.1 < 0 ∨ at' a e.1 + e.2.2 < at' a e.2.1) ∧ safe e.2.1 (at' a e.1 + e.2.2) = true ∧ rlx safe e a = put' a e.2.1 (at' a e.1 + e.2.2)) := by
  simp only [rlx]
  cases h : (decide (0 ≤ at' a e.1) && (decide (at' a e.2.1 < 0) || decide (at' a e.1 + e.2.2 < at' a e.2.1))) && safe e.2.1 (at' a e.1 + e.2.2) with
  | false => exact .inl rfl
  | true =>
    simp only [Bool.and_eq_true, Bool.or_eq_true, decide_eq_true_eq] at h
    exact .inr ⟨h.1.1, h.1.2, h.2, rfl⟩
structure Inv (J : Nat) (safe : Int → Int → Bool) (F G : List Int) (c : Int) (a : List Int) : Prop where
  len : a.length = J
  sub : ∀ u ∈ G, u ∈ F
  inF : ∀ u ∈ F, 0 ≤ u ∧ u < J ∧ 0 ≤ at' a u ∧ at' a u ≤ c
  out : ∀ v : Int, 0 ≤ v → v < J → v ∉ F → at' a v < 0 ∨ c ≤ at' a v
  new : ∀ u ∈ F, u ∈ G ∨ c ≤ at' a u
theorem step_keeps {F G : List Int} {c : Int} {a : List Int} (h : Inv J safe F G c a) {e : Int × Int × Int} (he : EdOk J e) (hG : e.1 ∈ G → Rel safe e a) :
    Inv J safe F G c (rlx safe e a) ∧ (∀ u ∈ F, at' (rlx safe e a) u = at' a u) ∧ (∀ e' : Int × Int × Int, EdOk J e' → e'.1 ∈ F → Rel safe e' a → Rel safe e' (rlx safe e a)) := by
  rcases rlx_cases (safe := safe) e a with h0 | ⟨h1, h2, h3, h4⟩
  · rw [h0]; exact ⟨h, fun _ _ => rfl, fun _ _ _ h => h⟩
  · rw [h4]
    obtain ⟨b1, b2, b3, b4, b5⟩ := he
    have hlen := h.len
    have hnG : e.1 ∉ G := fun hg => by have := hG hg h3; omega
    have hc : c ≤ at' a e.1 := by
      by_cases hF : e.1 ∈ F
      · exact (h.new _ hF).resolve_left hnG
      · rcases h.out e.1 b1 b2 hF with h | h
        · omega
        · exact h
    have hvF : e.2.1 ∉ F := fun hF => by have := h.inF _ hF; omega
    have hne : ∀ u ∈ F, at' (put' a e.2.1 (at' a e.1 + e.2.2)) u = at' a u := fun u hu => put_at_ne b3 (h.inF u hu).1 (fun e0 => hvF (e0 ▸ hu))
    have hat : at' (put' a e.2.1 (at' a e.1 + e.2.2)) e.2.1 = at' a e.1 + e.2.2 := put_at ⟨b3, by omega⟩
    refine ⟨⟨by rw [put_len]; exact hlen, h.sub, fun u hu => ?_, fun v hv0 hv hvn => ?_, fun u hu => ?_⟩, hne, fun e' he' hu' hr => ?_⟩
    · rw [hne u hu]; exact h.inF u hu
    · by_cases hvv : v = e.2.1
      · subst hvv; rw [hat]; omega
      · rw [put_at_ne b3 hv0 (fun e0 => hvv e0.symm)]; exact h.out v hv0 hv hvn
    · rw [hne u hu]; exact h.new u hu
    · intro hs
      rw [hne _ hu'] at hs ⊢
      have := hr hs
      by_cases hvv : e'.2.1 = e.2.1
      · rw [hvv] at this ⊢; rw [hat]; omega
      · rw [put_at_ne b3 he'.2.2.1 (fun e0 => hvv e0.symm)]; exact this
theorem self_rel {F : List Int} {a : List Int} {e : Int × Int × Int} (he : EdOk J e) (hl : a.length = J) (hu : 0 ≤ at' a e.1) : Rel safe e (rlx safe e a) := by
  obtain ⟨b1, b2, b3, b4, b5⟩ := he
  rcases rlx_cases (safe := safe) e a with h0 | ⟨h1, h2, h3, h4⟩
  · rw [h0]
    intro hs
    simp only [rlx] at h0
    by_cases hc : at' a e.2.1 < 0 ∨ at' a e.1 + e.2.2 < at' a e.2.1
    · exfalso
      have ht : ((decide (0 ≤ at' a e.1) && (decide (at' a e.2.1 < 0) || decide (at' a e.1 + e.2.2 < at' a e.2.1))) && safe e.2.1 (at' a e.1 + e.2.2)) = true := by simp [hu, hs, hc]
      rw [ht] at h0
      have : at' (put' a e.2.1 (at' a e.1 + e.2.2)) e.2.1 = at' a e.1 + e.2.2 := put_at ⟨b3, by omega⟩
      simp only [Bool.cond_true] at h0
      rw [h0] at this
      omega
    · omega
  · rw [h4]
    have hne : e.1 ≠ e.2.1 := fun e0 => by rw [← e0] at h2; omega
    have hat : at' (put' a e.2.1 (at' a e.1 + e.2.2)) e.2.1 = at' a e.1 + e.2.2 := put_at ⟨b3, by omega⟩
    intro _
    rw [hat, put_at_ne b3 b1 (fun e0 => hne e0.symm)]
    omega
theorem sweep_keeps : ∀ (es : List (Int × Int × Int)) {F G : List Int} {c : Int} {a : List Int}, Inv J safe F G c a → (∀ e ∈ es, EdOk J e) → (∀ e ∈ es, e.1 ∈ G → Rel safe e a) →
    Inv J safe F G c (swp safe es a) ∧ (∀ u ∈ F, at' (swp safe es a) u = at' a u) ∧ (∀ e ∈ es, e.1 ∈ F → Rel safe e (swp safe es a)) ∧ (∀ e' : Int × Int × Int, EdOk J e' → e'.1 ∈ F → Rel safe e' a → Rel safe e' (swp safe es a))
  | [], F, G, c, a, h, _, _ => ⟨h, fun _ _ => rfl, by simp, fun _ _ _ h => h⟩
  | e :: es, F, G, c, a, h, hok, hG => by
    have he := hok e List.mem_cons_self
    obtain ⟨s1, s2, s3⟩ := step_keeps h he (hG e List.mem_cons_self)
    obtain ⟨t1, t2, t3, t4⟩ := sweep_keeps es s1 (fun e' h' => hok e' (List.mem_cons_of_mem _ h')) (fun e' h' hg => s3 e' (hok e' (List.mem_cons_of_mem _ h')) (h.sub _ hg) (hG e' (List.mem_cons_of_mem _ h') hg))
    refine ⟨t1, fun u hu => (t2 u hu).trans (s2 u hu), fun e' h' hF => ?_, fun e' hok' hF hr => t4 e' hok' hF (s3 e' hok' hF hr)⟩
    rcases List.mem_cons.1 h' with e0 | h'
    · subst e0
      exact t4 e' he hF (self_rel (F := F) he h.len (h.inF _ hF).2.2.1)
    · exact t3 e' h' hF
theorem fix_of {es : List (Int × Int × Int)} {F : List Int} {a : List Int} (hok : ∀ e ∈ es, EdOk J e) (hr : ∀ e ∈ es, e.1 ∈ F → Rel safe e a) (ho : ∀ v : Int, 0 ≤ v → v < J → 0 ≤ at' a v → v ∈ F) : Fixd safe es a := by
  intro e he
  rcases rlx_cases (safe := safe) e a with h0 | ⟨h1, h2, h3, h4⟩
  · exact h0
  · obtain ⟨b1, b2, _⟩ := hok e he
    have := hr e he (ho e.1 b1 b2 h1) h3
    omega
theorem list_min {f : Int → Int} : ∀ {L : List Int}, L ≠ [] → ∃ x ∈ L, ∀ y ∈ L, f x ≤ f y
  | [x], _ => ⟨x, by simp, by simp⟩
  | x :: y :: r, _ => by
    obtain ⟨z, hz, h⟩ := list_min (f := f) (L := y :: r) (by simp)
    by_cases hx : f x ≤ f z
    · refine ⟨x, by simp, fun q hq => ?_⟩
      rcases List.mem_cons.1 hq with e | hq
      · subst e; omega
      · have := h q hq; omega
    · refine ⟨z, List.mem_cons_of_mem _ hz, fun q hq => ?_⟩
      rcases List.mem_cons.1 hq with e | hq
      · subst e; omega
      · exact h q hq
theorem nodup_len : ∀ {F L : List Int}, F.Nodup → (∀ x ∈ F, x ∈ L) → F.length ≤ L.length
  | [], _, _, _ => by simp
  | x :: F, L, hn, hs => by
    rw [List.nodup_cons] at hn
    have hx := hs x List.mem_cons_self
    have := nodup_len (F := F) (L := L.erase x) hn.2 fun y hy => (List.mem_erase_of_ne (by intro e; subst e; exact hn.1 hy)).2 (hs y (List.mem_cons_of_mem _ hy))
    rw [List.length_erase_of_mem hx] at this
    have : 0 < L.length := List.length_pos_of_mem hx
    simp; omega
def Good (J : Nat) (safe : Int → Int → Bool) (es : List (Int × Int × Int)) (r : Nat) (a : List Int) : Prop := ∃ F G c, F.Nodup ∧ F.length = r ∧ Inv J safe F G c a ∧ ∀ e ∈ es, e.1 ∈ G → Rel safe e a
theorem good_next {es : List (Int × Int × Int)} {r : Nat} {a : List Int} (hok : ∀ e ∈ es, EdOk J e) (h : Good J safe es r a) : Good J safe es (r + 1) (swp safe es a) ∨ Fixd safe es (swp safe es a) := by
  obtain ⟨F, G, c, hn, hl, hi, hG⟩ := h
  obtain ⟨t1, t2, t3, _⟩ := sweep_keeps es hi hok hG
  generalize swp safe es a = b at t1 t2 t3
  by_cases hL : (irange 0 J).filter (fun v => !(F.contains v) && decide (0 ≤ at' b v)) = []
  · refine .inr (fix_of (F := F) hok t3 fun v h0 h1 h2 => ?_)
    have := List.filter_eq_nil_iff.1 hL v (mem_irange.2 ⟨h0, by omega⟩)
    simpa [h2] using this
  · obtain ⟨x, hx, hmin⟩ := list_min (f := at' b) hL
    rw [List.mem_filter, mem_irange] at hx
    obtain ⟨⟨x0, x1⟩, hx2⟩ := hx
    simp only [Bool.and_eq_true, Bool.not_eq_true', decide_eq_true_eq] at hx2
    have hxF : x ∉ F := by simpa using hx2.1
    refine .inl ⟨x :: F, F, at' b x, List.nodup_cons.2 ⟨hxF, hn⟩, by simp [hl], ⟨t1.len, fun u hu => List.mem_cons_of_mem _ hu, fun u hu => ?_, fun v hv0 hv hvn => ?_, fun u hu => ?_⟩, t3⟩
    · rcases List.mem_cons.1 hu with e | hu
      · subst e; exact ⟨x0, by omega, hx2.2, Int.le_refl _⟩
      · have h1 := t1.inF u hu
        rcases t1.out x x0 (by omega) hxF with h2 | h2
        · omega
        · exact ⟨h1.1, h1.2.1, h1.2.2.1, by omega⟩
    · by_cases hv1 : 0 ≤ at' b v
      · refine .inr (hmin v ?_)
        rw [List.mem_filter, mem_irange]
        have : v ∉ F := fun h => hvn (List.mem_cons_of_mem _ h)
        exact ⟨⟨hv0, by omega⟩, by simp [this, hv1]⟩
      · exact .inl (by omega)
    · rcases List.mem_cons.1 hu with e | hu
      · subst e; exact .inr (Int.le_refl _)
      · exact .inl hu
theorem fix_swp : ∀ {es : List (Int × Int × Int)} {a : List Int}, Fixd safe es a → swp safe es a = a
  | [], _, _ => rfl
  | e :: es, a, h => by
    show swp safe es (rlx safe e a) = a
    rw [h e List.mem_cons_self]
    exact fix_swp fun e' h' => h e' (List.mem_cons_of_mem _ h')
theorem fix_swps {es : List (Int × Int × Int)} {a : List Int} (h : Fixd safe es a) : ∀ k, swps safe es k a = a
  | 0 => rfl
  | k + 1 => by rw [swps, fix_swp h]; exact fix_swps h k
theorem good_all {es : List (Int × Int × Int)} (hok : ∀ e ∈ es, EdOk J e) : ∀ (k r : Nat) (a : List Int), Good J safe es r a → Good J safe es (r + k) (swps safe es k a) ∨ Fixd safe es (swps safe es k a)
  | 0, r, a, h => .inl h
  | k + 1, r, a, h => by
    rcases good_next hok h with h1 | h1
    · have := good_all hok k (r + 1) _ h1
      rw [show r + (k + 1) = r + 1 + k by omega]; exact this
    · refine .inr ?_
      show Fixd safe es (swps safe es k (swp safe es a))
      rw [fix_swps h1]; exact h1
theorem good_lt {es : List (Int × Int × Int)} {r : Nat} {a : List Int} (h : Good J safe es r a) : r ≤ J := by
  obtain ⟨F, G, c, hn, hl, hi, _⟩ := h
  have := nodup_len (L := irange 0 J) hn fun x hx => mem_irange.2 ⟨(hi.inF x hx).1, by have := (hi.inF x hx).2.1; omega⟩
  rw [irange_len] at this; omega
theorem swps_add (es : List (Int × Int × Int)) : ∀ (i j : Nat) (a : List Int), swps safe es (i + j) a = swps safe es j (swps safe es i a)
  | 0, j, a => by rw [Nat.zero_add]; rfl
  | i + 1, j, a => by rw [show i + 1 + j = (i + j) + 1 by omega]; exact swps_add es i j _
/-- all rounds that end with nothing to give end alike -/
theorem fix_same {es : List (Int × Int × Int)} {i j : Nat} {a : List Int} (hi : Fixd safe es (swps safe es i a)) (hj : Fixd safe es (swps safe es j a)) : swps safe es i a = swps safe es j a := by
  by_cases h : i ≤ j
  · rw [show j = i + (j - i) by omega, swps_add, fix_swps hi]
  · rw [show i = j + (i - j) by omega, swps_add, fix_swps hj]
/-- from one place on: as many rounds as there are places are enough -/
theorem enough {es : List (Int × Int × Int)} {a0 : List Int} {s c : Int} (hok : ∀ e ∈ es, EdOk J e) (hl : a0.length = J) (hs : 0 ≤ s ∧ s < J) (hc : 0 ≤ c) (h1 : at' a0 s = c) (h2 : ∀ v : Int, 0 ≤ v → v < J → v ≠ s → at' a0 v < 0) : Fixd safe es (swps safe es J a0) := by
  have hg : Good J safe es 1 a0 := by
    refine ⟨[s], [], c, by simp, rfl, ⟨hl, by simp, fun u hu => ?_, fun v hv0 hv hvn => .inl (h2 v hv0 hv (by simpa using hvn)), fun u hu => ?_⟩, by simp⟩
    · simp at hu; subst hu; exact ⟨hs.1, hs.2, by omega, by omega⟩
    · simp at hu; subst hu; exact .inr (by omega)
  rcases good_all hok J 1 a0 hg with h | h
  · have := good_lt h; omega
  · exact h
end
/-! ### How great the times are, and why the rounds end -/
def cntS : List Int → Int
  | [] => 0
  | x :: r => (if x < 0 then 0 else 1) + cntS r
def pot : List Int → Nat
  | [] => 0
  | x :: r => (if x < 0 then 16000000001 else x.toNat) + pot r
def SmB (J : Int) (a : List Int) : Prop := (a.length : Int) = J ∧ ∀ j : Int, 0 ≤ j → j < J → at' a j ≤ 1000000000 * cntS a
theorem cntS_rng : ∀ a : List Int, 0 ≤ cntS a ∧ cntS a ≤ a.length
  | [] => by simp [cntS]
  | x :: r => by have := cntS_rng r; simp only [cntS, List.length_cons]; split <;> omega
theorem set_cnt : ∀ (a : List Int) (i : Nat) (t : Int), i < a.length → 0 ≤ t → cntS (a.set i t) = cntS a + (if a.getD i 0 < 0 then 1 else 0)
  | [], _, _, h, _ => by simp at h
  | x :: r, 0, t, _, ht => by
    have : ¬ t < 0 := by omega
    simp only [List.set_cons_zero, cntS, this, if_false, List.getD_cons_zero]; split <;> omega
  | x :: r, i + 1, t, h, ht => by
    have := set_cnt r i t (by simpa using h) ht
    simp only [List.set_cons_succ, cntS, List.getD_cons_succ]; omega
theorem set_pot : ∀ (a : List Int) (i : Nat) (t : Int), i < a.length → 0 ≤ t → t ≤ 16000000000 → (a.getD i 0 < 0 ∨ t < a.getD i 0) → pot (a.set i t) < pot a
  | [], _, _, h, _, _, _ => by simp at h
  | x :: r, 0, t, _, h0, h1, h2 => by
    have : ¬ t < 0 := by omega
    simp only [List.getD_cons_zero] at h2
    simp only [List.set_cons_zero, pot, this, if_false]
    split <;> omega
  | x :: r, i + 1, t, h, h0, h1, h2 => by
    have := set_pot r i t (by simpa using h) h0 h1 (by simpa using h2)
    simp only [List.set_cons_succ, pot]; omega
theorem at_getD {a : List Int} {j : Int} : at' a j = a.getD j.toNat 0 := rfl
theorem SmB.hi {J : Int} {a : List Int} (h : SmB J a) (hJ : J ≤ 16) {j : Int} (h0 : 0 ≤ j) (h1 : j < J) : at' a j ≤ 16000000000 := by
  have := h.2 j h0 h1
  have := cntS_rng a
  have := h.1
  omega
/-- a time that is set or made less -/
theorem SmB.put {J : Int} {a : List Int} (h : SmB J a) (hJ : J ≤ 16) {u v w : Int} (hu : 0 ≤ u ∧ u < J) (hv : 0 ≤ v ∧ v < J) (h0 : 0 ≤ at' a u) (hw : 0 ≤ w ∧ w ≤ 1000000000) (hc : at' a v < 0 ∨ at' a u + w < at' a v) :
    SmB J (put' a v (at' a u + w)) ∧ pot (put' a v (at' a u + w)) < pot a := by
  have hl := h.1
  have hvl : v.toNat < a.length := by omega
  have h2 := h.2 u hu.1 hu.2
  have hr := cntS_rng a
  have hle : at' a u + w ≤ 16000000000 := by
    rcases hc with hc | hc
    · -- v is not set: so at most 15 are
      have h3 := set_cnt a v.toNat 0 hvl (by omega)
      have h4 := cntS_rng (a.set v.toNat 0)
      rw [List.length_set] at h4
      rw [at_getD] at hc
      rw [if_pos hc] at h3
      omega
    · have := h.hi hJ hv.1 hv.2; omega
  refine ⟨⟨by rw [put_len]; exact hl, fun j hj0 hj => ?_⟩, set_pot a v.toNat _ hvl (by omega) hle (by rw [at_getD] at hc; rw [← at_getD (j := v)] at hc ⊢; exact hc)⟩
  have h3 : cntS (put' a v (at' a u + w)) = _ := set_cnt a v.toNat (at' a u + w) hvl (by omega)
  rw [h3]
  by_cases hjv : j = v
  · subst hjv
    rw [put_at ⟨hj0, by omega⟩]
    rw [at_getD] at hc
    rcases hc with hc | hc
    · rw [if_pos hc]; omega
    · have h5 := h.2 j hj0 hj
      rw [at_getD] at h5
      split <;> omega
  · rw [put_at_ne hv.1 hj0 (fun e => hjv e.symm)]
    have := h.2 j hj0 hj
    split <;> omega
theorem pot_le : ∀ {a : List Int}, (∀ x ∈ a, x ≤ 16000000000) → pot a ≤ 16000000001 * a.length
  | [], _ => by simp [pot]
  | x :: r, h => by
    have h1 := pot_le (a := r) fun y hy => h y (List.mem_cons_of_mem _ hy)
    have h2 := h x List.mem_cons_self
    simp only [pot, List.length_cons]; split <;> omega
theorem SmB.pot {J : Int} {a : List Int} (h : SmB J a) (hJ : J ≤ 16) : pot a ≤ 256000000016 := by
  have := pot_le (a := a) (all_at.2 fun j hj => h.hi hJ (by omega) (by have := h.1; omega))
  have := h.1
  omega
/-- within a round: what there was, what there is, whether it has changed -/
def SmI (J : Int) (a0 a : List Int) (fl : Bool) : Prop := SmB J a ∧ pot a ≤ pot a0 ∧ (fl = true → pot a < pot a0)
theorem SmI.refl {J : Int} {a : List Int} (h : SmB J a) : SmI J a a false := ⟨h, Nat.le_refl _, fun h => by simp at h⟩
theorem SmI.mu {J : Int} {a0 a : List Int} {fl m : Bool} (h : SmI J a0 a fl) (hm : m = true) : pot a + (bif fl then 1 else 0) < pot a0 + (bif m then 1 else 0) := by
  subst hm
  have h1 := h.2.1
  cases fl with
  | true => have := h.2.2 rfl; simp; omega
  | false => simp; omega
theorem SmI.put {J : Int} {a0 a : List Int} {fl : Bool} (h : SmI J a0 a fl) (hJ : J ≤ 16) {u v w : Int} (hu : 0 ≤ u ∧ u < J) (hv : 0 ≤ v ∧ v < J) (h0 : 0 ≤ at' a u) (hw : 0 ≤ w ∧ w ≤ 1000000000) (hc : at' a v < 0 ∨ at' a u + w < at' a v) :
    SmI J a0 (put' a v (at' a u + w)) true := by
  obtain ⟨h1, h2⟩ := h.1.put hJ hu hv h0 hw hc
  have := h.2.1
  exact ⟨h1, by omega, fun _ => by omega⟩
theorem SmB.start {J : Int} {n : Nat} (hJ : 1 ≤ J ∧ J ≤ 16) (hn : n = J.toNat) {s c : Int} (hs : 0 ≤ s ∧ s < J) (hc : 0 ≤ c ∧ c ≤ 1000000000) : SmB J (put' (List.replicate n (-1 : Int)) s c) := by
  subst hn
  have hl : s.toNat < (List.replicate J.toNat (-1 : Int)).length := by simp; omega
  have h3 : cntS (put' (List.replicate J.toNat (-1 : Int)) s c) = _ := set_cnt (List.replicate J.toNat (-1 : Int)) s.toNat c hl hc.1
  have h4 : (List.replicate J.toNat (-1 : Int)).getD s.toNat 0 = -1 := by
    rw [List.getD_eq_getElem?_getD, List.getElem?_eq_getElem hl]; simp
  have h5 := cntS_rng (List.replicate J.toNat (-1 : Int))
  refine ⟨by rw [put_len]; simp; omega, fun j hj0 hj => ?_⟩
  rw [h3, h4]
  by_cases hjs : j = s
  · subst hjs; rw [put_at ⟨hj0, by simp; omega⟩]; simp; omega
  · rw [put_at_ne hs.1 hj0 (fun e => hjs e.symm)]
    have : at' (List.replicate J.toNat (-1 : Int)) j = -1 := by
      have hj' : j.toNat < (List.replicate J.toNat (-1 : Int)).length := by simp; omega
      rw [at_getD, List.getD_eq_getElem?_getD, List.getElem?_eq_getElem hj']; simp
    rw [this]; simp; omega
theorem at_rep {n : Nat} {j x : Int} (h0 : 0 ≤ j) (h : j < n) : at' (List.replicate n x) j = x := by
  have hj' : j.toNat < (List.replicate n x).length := by simp; omega
  rw [at_getD, List.getD_eq_getElem?_getD, List.getElem?_eq_getElem hj']; simp

end Go.Proofs.Ytibbfdojcdkopaa
