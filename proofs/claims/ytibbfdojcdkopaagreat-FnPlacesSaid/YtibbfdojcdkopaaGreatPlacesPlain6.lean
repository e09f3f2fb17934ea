/-
  PLAIN LAWS about the models: no program in sight. Conditions: as each theorem states them.
-/
import Derived.Test.YtibbfdojcdkopaaGreatPlacesPlain5
set_option linter.unusedVariables false
set_option linter.unusedSimpArgs false
set_option linter.unusedSectionVars false
set_option linter.unnecessarySimpa false
namespace Go.Proofs.YtibbfdojcdkopaaGreat
open Go Go.RowKit Go.Proofs Go.Proofs.YtibbfdojcdkopaaGreat.E
/-! ## The first set of the fewest numbers that is right -/
def Up (lo hi : Int) : List Int → Prop
  | [] => True
  | x :: r => lo ≤ x ∧ x < hi ∧ Up (x + 1) hi r
theorem Up_len {hi : Int} : ∀ {lo : Int} {e : List Int}, Up lo hi e → e ≠ [] → lo + (e.length : Int) ≤ hi
  | lo, [], _, h => absurd rfl h
  | lo, [x], h, _ => by
    obtain ⟨h1, h2, _⟩ := h
    simp only [List.length_cons, List.length_nil]; omega
  | lo, x :: y :: r, h, _ => by
    obtain ⟨h1, _, h3⟩ := h
    have := Up_len h3 (by simp)
    simp only [List.length_cons] at this ⊢; omega
theorem Up_mem {hi : Int} : ∀ {lo : Int} {e : List Int}, Up lo hi e → ∀ y ∈ e, lo ≤ y ∧ y < hi
  | lo, [], _, y, hy => by simp at hy
  | lo, x :: r, h, y, hy => by
    obtain ⟨h1, h2, h3⟩ := h
    rcases List.mem_cons.1 hy with e | hy
    · subst e; exact ⟨h1, h2⟩
    · have := Up_mem h3 y hy; omega
theorem Up_weak {hi : Int} : ∀ {lo lo' : Int} {e : List Int}, lo' ≤ lo → Up lo hi e → Up lo' hi e
  | _, _, [], _, _ => trivial
  | _, _, x :: r, hl, h => ⟨by have := h.1; omega, h.2.1, h.2.2⟩
def EnvOk (x : gEnv45) (n : Nat) : Prop := x.c0.length = n ∧ (∀ r ∈ x.c0, r.length = n) ∧ ∀ y ∈ x.c2, 0 ≤ y ∧ y < (n : Int)
structure SetOk (s : AA) : Prop where
  len : s.list.length ≤ 16
  num : ∀ i : Int, 0 ≤ i → i < s.list.length → at' s.list i = i
  env : EnvOk s.right s.list.length
  som : ∀ y ∈ s.some_, 0 ≤ y ∧ y < (s.list.length : Int)
def rightS (x : gEnv45) (l : List Int) : Bool := B7 l x.c0 x.c1 x.c2
structure ExtR (s : AA) (from_ more : Int) (r : Bool × AA) : Prop where
  lst : r.2.list = s.list
  rgt : r.2.right = s.right
  bud : -1 ≤ r.2.budget ∧ r.2.budget ≤ s.budget
  yes : r.1 = true → 0 ≤ r.2.budget ∧ ∃ e, r.2.some_ = s.some_ ++ e ∧ Up from_ s.list.length e ∧ (e.length : Int) = more ∧ rightS s.right (s.some_ ++ e) = true
  no : r.1 = false → r.2.some_ = s.some_ ∧ (0 ≤ r.2.budget → ∀ e, Up from_ s.list.length e → (e.length : Int) = more → rightS s.right (s.some_ ++ e) = false)
theorem app_cutW {xs : List Int} {y : Int} (h : (xs.length : Int) ≤ 1000000) : pre' (xs ++ ([y] : List Int)) (IntKind.wrap .i64 (((xs ++ ([y] : List Int)).length : Int) - 1)) = xs := by
  rw [List.length_append, List.length_cons, List.length_nil, wr64 (by omega)]
  unfold pre'
  rw [show (((xs.length + (0 + 1) : Nat) : Int) - 1).toNat = xs.length by omega, List.take_left']
  rfl
theorem SetOk.push {s : AA} (h : SetOk s) {i b : Int} (hi : 0 ≤ i ∧ i < s.list.length) : SetOk (AA.mk s.list s.right b (s.some_ ++ ([at' s.list i] : List Int))) :=
  ⟨h.len, h.num, h.env, fun y hy => by
    rw [List.mem_append, List.mem_singleton] at hy
    rcases hy with hy | rfl
    · exact h.som y hy
    · dsimp only; rw [h.num i hi.1 hi.2]; exact hi⟩
theorem ext_is : ∀ (fuel : Nat) (s : AA) (from_ more : Int), SetOk s → (0 ≤ from_ ∧ from_ ≤ s.list.length) → (0 ≤ more ∧ more ≤ 17) → (0 ≤ s.budget ∧ s.budget ≤ 20000) → (s.some_.length : Int) + more ≤ 40 → more.toNat < fuel → ExtR s from_ more (m_impl_setSearch_extend_n fuel s from_ more) := by
  intro fuel
  induction fuel with
  | zero => intro s from_ more _ _ _ _ _ h; omega
  | succ fuel IH =>
    intro s from_ more hS hf hm hb hl hF
    simp only [m_impl_setSearch_extend_n, m_impl_setSearch_extend_body]
    have hlen := hS.len
    have w0 : IntKind.wrap .i64 (s.budget - 1) = s.budget - 1 := wr64 (by omega)
    by_cases h0 : more = 0
    · subst h0
      simp only [beq_self_eq_true, Bool.cond_true, w0]
      refine ⟨rfl, rfl, by dsimp only; omega, fun h => ?_, fun h => ⟨rfl, fun hB e he hel => ?_⟩⟩
      · dsimp only at h ⊢
        rw [Bool.and_eq_true, decide_eq_true_eq] at h
        exact ⟨h.1, [], by simp, trivial, rfl, by rw [List.append_nil]; exact h.2⟩
      · dsimp only at h hB
        have : e = [] := List.eq_nil_of_length_eq_zero (by omega)
        subst this
        rw [List.append_nil]
        rw [decide_eq_true hB, Bool.true_and] at h
        exact h
    · have e0 : (more == 0) = false := by simpa using h0
      simp only [e0, Bool.cond_false]
      have w1 : IntKind.wrap .i64 (more - 1) = more - 1 := wr64 (by omega)
      refine LOOP_post (b := B5 (m_impl_setSearch_extend_n fuel) s from_ more) (fun x : Int × List Int × Int => (from_ ≤ x.2.2 ∧ x.2.2 ≤ s.list.length) ∧ x.2.1 = s.some_ ∧ (0 ≤ x.1 ∧ x.1 ≤ s.budget) ∧ ∀ h t, h < x.2.2 → Up from_ s.list.length (h :: t) → (((h :: t).length : Nat) : Int) = more → rightS s.right (s.some_ ++ h :: t) = false)
        (fun x => ((s.list.length : Int) - x.2.2).toNat) (fun _ r => ExtR s from_ more r) (fun rec x hI ih => ?_) _ _ ⟨⟨by dsimp only; omega, by dsimp only; omega⟩, rfl, ⟨by dsimp only; omega, by dsimp only; omega⟩, fun h t hlt hu _ => by have := hu.1; dsimp only at hlt; omega⟩ (by dsimp only; omega)
      obtain ⟨b, so, i⟩ := x
      obtain ⟨⟨g0, g1⟩, g2, ⟨g3, g4⟩, g5⟩ := hI
      dsimp only at g0 g1 g2 g3 g4 g5
      subst g2
      simp only [B5, w1]
      rw [wr64 (n := i + more) (by omega)]
      by_cases hc : i + more ≤ (s.list.length : Int)
      · simp only [hc, decide_true, Bool.cond_true]
        have hin : 0 ≤ i ∧ i < s.list.length := ⟨by omega, by omega⟩
        have hS' := hS.push (b := b) hin
        have hR := IH (AA.mk s.list s.right b (s.some_ ++ ([at' s.list i] : List Int))) (i + 1) (more - 1) hS' ⟨by omega, by dsimp only; omega⟩ ⟨by omega, by omega⟩ ⟨by dsimp only; omega, by dsimp only; omega⟩ (by simp only [List.length_append, List.length_cons, List.length_nil]; omega) (by omega)
        have hat := hS.num i hin.1 hin.2
        rw [hat] at hR ⊢
        generalize m_impl_setSearch_extend_n fuel (AA.mk s.list s.right b (s.some_ ++ ([i] : List Int))) (i + 1) (more - 1) = R at hR
        obtain ⟨r1, r2⟩ := R
        have hbud := hR.bud
        dsimp only at hbud
        cases r1 with
        | true =>
          simp only [Bool.cond_true]
          obtain ⟨y0, e, y1, y2, y3, y4⟩ := hR.yes rfl
          dsimp only at y0 y1 y2 y3 y4
          refine ⟨rfl, rfl, by dsimp only; omega, fun _ => ⟨y0, i :: e, ?_, ⟨by omega, by omega, y2⟩, by simp only [List.length_cons]; omega, ?_⟩, fun h => by simp at h⟩
          · dsimp only; rw [y1, List.append_assoc]; rfl
          · rw [List.append_assoc] at y4; exact y4
        | false =>
          simp only [Bool.cond_false]
          obtain ⟨n1, n2⟩ := hR.no rfl
          dsimp only at n1 n2
          rw [n1, app_cutW (by omega)]
          by_cases hB : r2.budget < 0
          · simp only [hB, decide_true, Bool.cond_true]
            exact ⟨rfl, rfl, by dsimp only; omega, fun h => by simp at h, fun _ => ⟨rfl, fun h => by dsimp only at h; omega⟩⟩
          · simp only [hB, decide_false, Bool.cond_false]
            refine ih _ ⟨⟨by dsimp only; omega, by dsimp only; omega⟩, rfl, ⟨by dsimp only; omega, by dsimp only; omega⟩, fun h t hlt hu hel => ?_⟩ (by dsimp only; omega)
            dsimp only at hlt
            by_cases hh : h < i
            · exact g5 h t hh hu hel
            · have : h = i := by omega
              subst this
              have := n2 (by omega) t hu.2.2 (by simp only [List.length_cons] at hel; omega)
              rw [List.append_assoc] at this; exact this
      · simp only [hc, decide_false, Bool.cond_false]
        refine ⟨rfl, rfl, by dsimp only; omega, fun h => by simp at h, fun _ => ⟨rfl, fun _ e hu hel => ?_⟩⟩
        cases e with
        | nil => simp only [List.length_nil] at hel; omega
        | cons h t =>
          by_cases hh : h < i
          · exact g5 h t hh hu hel
          · exfalso
            have := Up_len (lo := h) (hi := (s.list.length : Int)) (e := h :: t) ⟨Int.le_refl _, hu.2.1, hu.2.2⟩ (by simp)
            omega
theorem post_impl_setSearch_extend (fuel : Nat) : ∀ (s : AA) (from_ more : Int), SetOk s → (0 ≤ from_ ∧ from_ ≤ s.list.length) → (0 ≤ more ∧ more ≤ 17) → (0 ≤ s.budget ∧ s.budget ≤ 20000) → (s.some_.length : Int) + more ≤ 40 → more.toNat < fuel → ExtR s from_ more (m_impl_setSearch_extend_n fuel s from_ more) := ext_is fuel
theorem ext_top {s : AA} {from_ more : Int} (h1 : SetOk s) (h2 : 0 ≤ from_ ∧ from_ ≤ s.list.length) (h3 : 0 ≤ more ∧ more ≤ 17) (h4 : 0 ≤ s.budget ∧ s.budget ≤ 20000) (h5 : (s.some_.length : Int) + more ≤ 40) : ExtR s from_ more (A3 s from_ more) := ext_is _ s from_ more h1 h2 h3 h4 h5 (by omega)
structure FstR (s : AA) (r : List Int × Int) : Prop where
  len : r.1.length ≤ 16
  ok : r.2 = 0 → Up 0 s.list.length r.1 ∧ rightS s.right r.1 = true ∧ ∀ e, Up 0 s.list.length e → e.length < r.1.length → rightS s.right e = false
theorem first_is {s : AA} (hS : SetOk s) (hb : 0 ≤ s.budget ∧ s.budget ≤ 20000) (hn : s.some_ = []) : FstR s (BA s) := by
  have hlen := hS.len
  simp only [BA]
  refine LOOP_post (b := Cc s) (fun x : Int × List Int × Int => (0 ≤ x.2.2 ∧ x.2.2 ≤ (s.list.length : Int) + 1) ∧ x.2.1 = s.some_ ∧ (0 ≤ x.1 ∧ x.1 ≤ 20000) ∧ ∀ e, Up 0 s.list.length e → (e.length : Int) < x.2.2 → rightS s.right e = false)
    (fun x => ((s.list.length : Int) + 1 - x.2.2).toNat) (fun _ r => FstR s r) (fun rec x hI ih => ?_) _ _ ⟨⟨by dsimp only; omega, by dsimp only; omega⟩, rfl, ⟨by dsimp only; omega, by dsimp only; omega⟩, fun e _ h => by dsimp only at h; omega⟩ (by dsimp only; omega)
  obtain ⟨b, so, n⟩ := x
  obtain ⟨⟨g0, g1⟩, g2, ⟨g3, g4⟩, g5⟩ := hI
  dsimp only at g0 g1 g2 g3 g4 g5
  subst g2
  simp only [Cc]
  by_cases hc : n < (s.list.length : Int) + 1
  · simp only [hc, decide_true, Bool.cond_true]
    have hR := ext_top (s := AA.mk s.list s.right b s.some_) (from_ := 0) (more := n) ⟨hS.len, hS.num, hS.env, hS.som⟩ ⟨by omega, by dsimp only; omega⟩ ⟨g0, by omega⟩ ⟨g3, g4⟩ (by dsimp only; rw [hn]; simp only [List.length_nil]; omega)
    generalize A3 (AA.mk s.list s.right b s.some_) 0 n = R at hR
    obtain ⟨r1, r2⟩ := R
    have hbud := hR.bud
    dsimp only at hbud
    cases r1 with
    | true =>
      simp only [Bool.cond_true]
      obtain ⟨y0, e, y1, y2, y3, y4⟩ := hR.yes rfl
      dsimp only at y0 y1 y2 y3 y4
      rw [hn, List.nil_append] at y1 y4
      rw [y1]
      exact ⟨by dsimp only; omega, fun _ => ⟨y2, y4, fun e' hu hl => g5 e' hu (by dsimp only at hl; omega)⟩⟩
    | false =>
      simp only [Bool.cond_false]
      obtain ⟨n1, n2⟩ := hR.no rfl
      dsimp only at n1 n2
      by_cases hB : r2.budget < 0
      · simp only [hB, decide_true, Bool.cond_true]
        exact ⟨by simp, fun h => by simp at h⟩
      · simp only [hB, decide_false, Bool.cond_false]
        refine ih _ ⟨⟨by dsimp only; omega, by dsimp only; omega⟩, n1, ⟨by dsimp only; omega, by dsimp only; omega⟩, fun e hu hl => ?_⟩ (by dsimp only; omega)
        dsimp only at hl
        by_cases hh : (e.length : Int) < n
        · exact g5 e hu hh
        · have := n2 (by omega) e hu (by omega)
          rw [hn, List.nil_append] at this; exact this
  · simp only [hc, decide_false, Bool.cond_false]
    exact ⟨by simp, fun h => by simp at h⟩

end Go.Proofs.YtibbfdojcdkopaaGreat
