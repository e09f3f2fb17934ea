/-
  PLAIN LAWS about the models: no program in sight. Conditions: as each theorem states them.
-/
import Derived.Test.YtibbfdojcdkopaaGreatPlacesPlain7
set_option linter.unusedVariables false
set_option linter.unusedSimpArgs false
set_option linter.unusedSectionVars false
set_option linter.unnecessarySimpa false
namespace Go.Proofs.YtibbfdojcdkopaaGreat
open Go Go.RowKit Go.Proofs Go.Proofs.YtibbfdojcdkopaaGreat.E
/-! ## FewestRefuges: what comes out -/
theorem contains_iff {s : List Int} {f : Int → Bool} : Bo s f = true ↔ ∃ y ∈ s, f y = true := by
  simp only [Bo, decide_eq_true_eq]
  have h := LOOP_post (b := Bn s f) (k := fun (x1 : Int) => (-1 : Int)) (fun (i : Int) => 0 ≤ i ∧ i ≤ s.length) (fun i => ((s.length : Int) - i).toNat) (fun i r => 0 ≤ r ↔ ∃ j : Int, i ≤ j ∧ j < s.length ∧ f (at' s j) = true) (fun rec i hI ih => by
    simp only [Bn]
    by_cases hi : i < (s.length : Int)
    · simp only [hi, decide_true, Bool.cond_true]
      cases hf : f (at' s i) with
      | true =>
        simp only [Bool.cond_true]
        exact ⟨fun _ => ⟨i, Int.le_refl _, hi, hf⟩, fun _ => hI.1⟩
      | false =>
        simp only [Bool.cond_false]
        rw [ih (i + 1) ⟨by omega, by omega⟩ (by omega)]
        constructor
        · rintro ⟨j, h1, h2, h3⟩; exact ⟨j, by omega, h2, h3⟩
        · rintro ⟨j, h1, h2, h3⟩
          refine ⟨j, ?_, h2, h3⟩
          have : j ≠ i := fun e => by rw [e, hf] at h3; simp at h3
          omega
    · simp only [hi, decide_false, Bool.cond_false]
      constructor
      · intro h; omega
      · rintro ⟨j, h1, h2, _⟩; omega) (((s.length : Int) - 0 : Int).toNat + 1) 0 ⟨by omega, by omega⟩ (by omega)
  rw [show Cm s f = LOOP (Bn s f) (fun (x1 : Int) => (-1 : Int)) (((s.length : Int) - 0 : Int).toNat + 1) 0 from rfl, h]
  constructor
  · rintro ⟨j, h1, h2, h3⟩; exact ⟨_, at_mem ⟨h1, h2⟩, h3⟩
  · rintro ⟨y, hy, h3⟩
    obtain ⟨j, hj, rfl⟩ := List.mem_iff_getElem.1 hy
    exact ⟨(j : Int), by omega, by omega, by rw [at_lt hj]; exact h3⟩
def near (x : gEnv45) (j y : Int) : Prop := 0 ≤ at' (at' x.c0 j) y ∧ at' (at' x.c0 j) y ≤ x.c1
theorem right_iff {x : gEnv45} {l : List Int} : rightS x l = true ↔ ∀ j ∈ x.c2, ∃ y ∈ l, near x j y := by
  have hin : ∀ j, BK j l x.c0 x.c1 = false ↔ ∃ y ∈ l, near x j y := fun j => by
    simp only [BK, Bool.not_eq_false']
    rw [contains_iff]
    simp only [BR, Bl, Bool.and_eq_true, decide_eq_true_eq, near]
  unfold rightS
  simp only [B7, Bool.not_eq_true', ← Bool.not_eq_true]
  rw [contains_iff]
  constructor
  · intro h j hj
    rw [← hin j, ← Bool.not_eq_true]
    exact fun h1 => h ⟨j, hj, h1⟩
  · rintro h ⟨j, hj, h1⟩
    have := (hin j).2 (h j hj)
    rw [this] at h1; simp at h1
theorem right_no {x : gEnv45} {l : List Int} (h : rightS x l = false) : ∃ j ∈ x.c2, ∀ y ∈ l, ¬ near x j y := by
  apply Classical.byContradiction
  intro hn
  have : rightS x l = true := right_iff.2 fun j hj => by
    apply Classical.byContradiction
    intro h1
    exact hn ⟨j, hj, fun y hy h2 => h1 ⟨y, hy, h2⟩⟩
  rw [this] at h; simp at h
def nearW (m : AB) (speed limit j y : Int) : Prop := 0 ≤ at' (A9 m j speed) y ∧ at' (A9 m j speed) y ≤ limit
structure FewOk (m : AB) (speed limit : Int) (set : List Int) : Prop where
  val : BO m = true
  spd : 10 ≤ speed ∧ speed ≤ 300
  len : set.length ≤ 16
  up : Up 0 m.Junctions set
  cov : ∀ j : Int, 0 ≤ j → j < m.Junctions → ∃ y ∈ set, nearW m speed limit j y
  min : ∀ e : List Int, Up 0 m.Junctions e → e.length < set.length → ∃ j : Int, (0 ≤ j ∧ j < m.Junctions) ∧ ∀ y ∈ e, ¬ nearW m speed limit j y
/-- the junctions and the walks from them, as far as they are made -/
structure Made (m : AB) (speed n : Int) (js : List Int) (ts : List (List Int)) : Prop where
  l1 : (js.length : Int) = n
  l2 : (ts.length : Int) = n
  num : ∀ i : Int, 0 ≤ i → i < n → at' js i = i
  row : ∀ i : Int, 0 ≤ i → i < n → at' ts i = A9 m i speed
theorem Made.start (m : AB) (speed : Int) : Made m speed 0 [] [] := ⟨rfl, rfl, fun i h1 h2 => by omega, fun i h1 h2 => by omega⟩
theorem Made.next {m : AB} {speed n : Int} {js : List Int} {ts : List (List Int)} (h : Made m speed n js ts) (hn : 0 ≤ n) : Made m speed (n + 1) (js ++ ([n] : List Int)) (ts ++ ([A9 m n speed] : List (List Int))) := by
  have h1 := h.l1
  have h2 := h.l2
  refine ⟨by simp only [List.length_append, List.length_cons, List.length_nil]; omega, by simp only [List.length_append, List.length_cons, List.length_nil]; omega, fun i i0 i1 => ?_, fun i i0 i1 => ?_⟩
  · by_cases hi : i < n
    · have := at_app (A := js) (x := n) (j := i.toNat) (by omega)
      rw [Int.toNat_of_nonneg i0] at this
      rw [this]; exact h.num i i0 hi
    · have : i = (js.length : Int) := by omega
      rw [this, at_app_last]; omega
  · by_cases hi : i < n
    · have := at_app (A := ts) (x := A9 m n speed) (j := i.toNat) (by omega)
      rw [Int.toNat_of_nonneg i0] at this
      rw [this]; exact h.row i i0 hi
    · have : i = (ts.length : Int) := by omega
      rw [this, at_app_last, h2]
theorem Made.ok {m : AB} {speed limit budget : Int} {js : List Int} {ts : List (List Int)} (hm : MineIn m) (hs : 10 ≤ speed ∧ speed ≤ 300) (h : Made m speed m.Junctions js ts) : SetOk (AA.mk js (gEnv45.mk ts limit js) budget K_5) := by
  have h1 := h.l1
  have h2 := h.l2
  have hJ := hm.1
  refine ⟨by dsimp only; omega, fun i i0 i1 => h.num i i0 (by dsimp only at i1; omega), ⟨by dsimp only; omega, ?_, ?_⟩, fun y hy => by simp at hy⟩
  · dsimp only
    refine all_at.2 fun q hq => ?_
    rw [h.row q (by omega) (by omega)]
    have := walks_len hm (j := (q : Int)) (speed := speed) ⟨by omega, by omega⟩ hs
    omega
  · dsimp only
    refine all_at.2 fun q hq => ?_
    rw [h.num q (by omega) (by omega)]; omega
theorem few_ok {m : AB} {speed limit budget : Int} (h : (Ao m speed limit budget).2 = 0) : FewOk m speed limit (Ao m speed limit budget).1 := by
  simp only [Ao] at h ⊢
  cases h1 : BO m with
  | false => simp [h1] at h
  | true =>
    cases h2 : ((!(Bl speed 10 300)) || (decide (limit < 0))) || (!(C5 budget)) with
    | true => simp [h1, h2] at h
    | false =>
      simp only [h1, h2, Bool.not_true, Bool.cond_false] at h ⊢
      rw [Bool.or_eq_false_iff, Bool.or_eq_false_iff, Bool.not_eq_false', Bool.not_eq_false'] at h2
      have hm := ValidMine_imp h1
      have hs := within_imp h2.1.1
      have hB : 1 ≤ budget ∧ budget ≤ 20000 := within_imp (n := budget) (a := 1) (b := 20000) h2.2
      have hJ := hm.1
      revert h
      refine LOOP_post (b := Cr m speed limit budget) (fun (x : List Int × List (List Int) × Int) => (0 ≤ x.2.2 ∧ x.2.2 ≤ m.Junctions) ∧ Made m speed x.2.2 x.1 x.2.1) (fun x => (m.Junctions - x.2.2).toNat) (fun _ (r : List Int × Int) => r.2 = 0 → FewOk m speed limit r.1) (fun rec x hI ih => ?_) _ _ ⟨⟨by simp, by simp only; omega⟩, Made.start m speed⟩ (by simp only; omega)
      obtain ⟨js, ts, n⟩ := x
      obtain ⟨⟨g0, g1⟩, hM⟩ := hI
      dsimp only at g0 g1 hM
      simp only [Cr]
      by_cases hn : n < m.Junctions
      · simp only [hn, decide_true, Bool.cond_true]
        exact ih _ ⟨⟨by dsimp only; omega, by dsimp only; omega⟩, hM.next g0⟩ (by dsimp only; omega)
      · simp only [hn, decide_false, Bool.cond_false]
        have he : n = m.Junctions := by omega
        subst he
        intro h0
        have hF := first_is (hM.ok (limit := limit) (budget := budget) hm hs) (by dsimp only; omega) rfl
        obtain ⟨f1, f2, f3⟩ := hF.ok h0
        have hl := hM.l1
        dsimp only at f1 f2 f3
        rw [hl] at f1 f3
        have hcv : ∀ j : Int, 0 ≤ j → j < m.Junctions → ∀ y, near (gEnv45.mk ts limit js) j y ↔ nearW m speed limit j y := fun j j0 j1 y => by
          unfold near nearW
          dsimp only
          rw [hM.row j j0 j1]
        refine ⟨h1, hs, hF.len, f1, fun j j0 j1 => ?_, fun e hu hl2 => ?_⟩
        · obtain ⟨y, hy, hn⟩ := right_iff.1 f2 j (by
            dsimp only
            have := at_mem (xs := js) (i := j) ⟨j0, by omega⟩
            rwa [hM.num j j0 j1] at this)
          exact ⟨y, hy, (hcv j j0 j1 y).1 hn⟩
        · obtain ⟨j, hj, hno⟩ := right_no (f3 e hu hl2)
          dsimp only at hj
          have hr : 0 ≤ j ∧ j < m.Junctions := by
            have := all_at (xs := js) (Q := fun y => 0 ≤ y ∧ y < m.Junctions) |>.2 (fun q hq => by rw [hM.num q (by omega) (by omega)]; omega) j hj
            exact this
          exact ⟨j, hr, fun y hy h5 => hno y hy ((hcv j hr.1 hr.2 y).2 h5)⟩
section
variable {m : AB} {speed limit budget : Int}
theorem fw_len (h : (Ao m speed limit budget).2 = 0) : (Ao m speed limit budget).1.length ≤ 16 := (few_ok h).len
theorem fw_J (h : (Ao m speed limit budget).2 = 0) : 1 ≤ m.Junctions ∧ m.Junctions ≤ 16 := (ValidMine_imp (few_ok h).val).1
theorem fw_in (h : (Ao m speed limit budget).2 = 0) : ∀ y ∈ (Ao m speed limit budget).1, 0 ≤ y ∧ y < m.Junctions := Up_mem (few_ok h).up
end
/-! ### The reference's walks -/
theorem junS_in {m : AB} {j : Int} (hm : MineIn m) (h : Bx m j = true) : 0 ≤ j ∧ j < m.Junctions := by
  have hJ := hm.1
  have := l00In_imp h
  rw [wr64 (n := m.Junctions - 1) (by omega)] at this
  omega
theorem spdS_in {s : Int} (h : Cz s = true) : 10 ≤ s ∧ s ≤ 300 := l00In_imp h

end Go.Proofs.YtibbfdojcdkopaaGreat
