/-
  PLAIN LAWS about the models: no program in sight. Conditions: as each theorem states them.
-/
import Derived.Test.YtibbfdojcdkopaaGreatRefugesPlain11
set_option linter.unusedVariables false
set_option linter.unusedSimpArgs false
set_option linter.unusedSectionVars false
set_option linter.unnecessarySimpa false
namespace Go.Proofs.YtibbfdojcdkopaaGreat
open Go Go.RowKit Go.Proofs Go.Proofs.YtibbfdojcdkopaaGreat.E
/-! ## Flows, fires, arrivals, crews and refuges that are drawn -/
structure DF (n : Int) (L : Nat) {α : Type} (r : List α × Aj) : Prop where
  lim : Lim r.2 n
  len : r.1.length ≤ L
theorem DF.bif {α : Type} {n : Int} {L : Nat} {c : Bool} {a b : List α × Aj} (h1 : DF n L a) (h2 : DF n L b) : DF n L (bif c then a else b) := by cases c <;> assumption
theorem Lim.iff {s t : Aj} {n : Int} {c : Bool} (h1 : Lim s n) (h2 : Lim t n) : Lim (bif c then s else t) n := by cases c <;> assumption
theorem Lim.bifp {s : Aj} {n k : Int} {c : Bool} (h : Lim s n) : Lim (bif c then (Aa s k).2 else s) (n + 2) := Lim.iff h.pick (h.mono (by omega))
theorem draw7 {s : Aj} {n : Int} {m : AH} (h : Lim s n) (hA : m.Airways.length ≤ 30) : DF (n + 100) 31 (AU s m) := by
  simp only [AU, JN]
  have hend : ∀ v2 : List Int × Int × Int × List Int, Lim (Aj.mk v2.1 v2.2.1 v2.2.2.1) (n + 70) → v2.2.2.2.length ≤ 30 → DF (n + 100) 31 (bif (Aa (Aj.mk v2.1 v2.2.1 v2.2.2.1) 20).1 == 0 then (v2.2.2.2 ++ ([0] : List Int), (Aa (Aj.mk v2.1 v2.2.1 v2.2.2.1) 20).2) else bif (Aa (Aj.mk v2.1 v2.2.1 v2.2.2.1) 20).1 == 1 then bif decide (0 < (v2.2.2.2.length : Int)) then (put' v2.2.2.2 0 (Ak (Aa (Aj.mk v2.1 v2.2.1 v2.2.2.1) 20).2 ([100000, 100001, (-100001)] : List Int)).1, (Ak (Aa (Aj.mk v2.1 v2.2.1 v2.2.2.1) 20).2 ([100000, 100001, (-100001)] : List Int)).2.1) else (v2.2.2.2, (Aa (Aj.mk v2.1 v2.2.1 v2.2.2.1) 20).2) else (v2.2.2.2, (Aa (Aj.mk v2.1 v2.2.1 v2.2.2.1) 20).2)) := fun v2 hL hl => by
    have l1 := hL.pick (k := 20)
    refine DF.bif ⟨l1.mono (by omega), by simp only [List.length_append, List.length_cons, List.length_nil]; omega⟩ (DF.bif (DF.bif ⟨l1.among.mono (by omega), by simp only [put_len]; omega⟩ ⟨l1.mono (by omega), by simp only; omega⟩) ⟨l1.mono (by omega), by simp only; omega⟩)
  have hs : Lim (bif AO m then (Aa s 4).2 else s) (n + 2) := Lim.iff h.pick (h.mono (by omega))
  generalize hS : (bif AO m then (Aa s 4).2 else s) = S at hs
  cases hc : (AO m) && (decide (0 < (Aa s 4).1)) with
  | true =>
    rw [Bool.and_eq_true] at hc
    have hM := (meshes_is (l04Ok_imp hc.1)).1
    simp only [Bool.cond_true]
    refine LOOP_post (fun (x : List Int × Int × Int × List Int × Int) => (0 ≤ x.2.2.2.2 ∧ x.2.2.2.2 ≤ (Bg m).length ∧ x.2.2.2.1.length = m.Airways.length) ∧ Lim (Aj.mk x.1 x.2.1 x.2.2.1) (n + 2 + 2 * x.2.2.2.2)) (fun x => (((Bg m).length : Int) - x.2.2.2.2).toNat) (fun _ r => DF (n + 100) 31 r) (fun rec x hI ih => ?_) _ _ ⟨by simp, hs.mono (by simp)⟩ (by simp)
    obtain ⟨c, a, sd, A, k⟩ := x
    obtain ⟨⟨g0, g1, g2⟩, hL⟩ := hI
    simp only at g0 g1 g2 hL
    simp only [C4]
    by_cases hk : k < ((Bg m).length : Int)
    · simp only [hk, decide_true, Bool.cond_true]
      exact ih _ ⟨⟨by simp only; omega, by simp only; omega, by simp only; rw [add_len]; exact g2⟩, (hL.pick (k := 4000)).mono (by simp only; omega)⟩ (by simp only; omega)
    · simp only [hk, decide_false, Bool.cond_false]
      exact hend (c, a, sd, A) (hL.mono (by omega)) (by simp only; omega)
  | false =>
    simp only [Bool.cond_false, List.length_replicate]
    refine LOOP_post (fun (x : List Int × Int × Int × List Int × Int) => (0 ≤ x.2.2.2.2 ∧ x.2.2.2.2 ≤ m.Airways.length ∧ x.2.2.2.1.length = m.Airways.length) ∧ Lim (Aj.mk x.1 x.2.1 x.2.2.1) (n + 2 + 2 * x.2.2.2.2)) (fun x => ((m.Airways.length : Int) - x.2.2.2.2).toNat) (fun _ r => DF (n + 100) 31 r) (fun rec x hI ih => ?_) _ _ ⟨by simp, hs.mono (by simp)⟩ (by simp)
    obtain ⟨c, a, sd, A, k⟩ := x
    obtain ⟨⟨g0, g1, g2⟩, hL⟩ := hI
    simp only at g0 g1 g2 hL
    simp only [C5]
    by_cases hk : k < (A.length : Int)
    · simp only [hk, decide_true, Bool.cond_true]
      exact ih _ ⟨⟨by simp only; omega, by simp only; omega, by simp only; rw [put_len]; exact g2⟩, (hL.pick (k := 4000)).mono (by simp only; omega)⟩ (by simp only; omega)
    · simp only [hk, decide_false, Bool.cond_false]
      exact hend (c, a, sd, A) (hL.mono (by omega)) (by simp only; omega)
theorem Lim.flows7 {s : Aj} {n : Int} {m : AH} (h : Lim s n) (hA : m.Airways.length ≤ 30) : Lim (AU s m).2 (n + 100) := (draw7 h hA).lim
theorem Lim.fire17 {s : Aj} {n : Int} {m : AH} (h : Lim s n) : Lim (A4 s m).2 (n + 12) := by
  simp only [A4, JN]
  have hend : ∀ {S : Aj}, Lim S (n + 6) → Lim (Aa S 20).2 (n + 8) := fun hS => hS.pick.mono (by omega)
  have he2 : ∀ {S : Aj} {l : List Int}, Lim S (n + 8) → Lim (Ak S l).2.1 (n + 12) := fun hS => hS.among.mono (by omega)
  have h3 : ∀ {k : Int}, Lim (Aa (Aa (Aa s 10).2 (m.Airways.length : Int)).2 k).2 (n + 6) := h.pick.pick.pick.mono (by omega)
  have h1 : Lim (Aa s 10).2 (n + 6) := h.pick.mono (by omega)
  cases decide (0 < (m.Airways.length : Int)) with
  | true =>
    simp only [Bool.cond_true]
    exact limB (he2 (hend h3)) (limB (he2 (hend h3)) (limB (he2 (hend h3)) ((hend h3).mono (by omega))))
  | false =>
    simp only [Bool.cond_false]
    exact limB (he2 (hend h1)) (limB (he2 (hend h1)) (limB (he2 (hend h1)) ((hend h1).mono (by omega))))
theorem min17 {a : Int} : A5 a 17 ≤ 17 := by
  simp only [A5]
  by_cases h : a < 17
  · simp only [h, decide_true, Bool.cond_true]; omega
  · simp [h]
theorem draw19a {s : Aj} {n : Int} {m : AH} (h : Lim s n) (hA : m.Airways.length ≤ 30) : DF (n + 300) 20 (AD s m) := by
  simp only [AD, JN]
  have hs : Lim (bif (AO m) && (decide (0 < (m.Airways.length : Int))) then (Aa s 3).2 else s) (n + 2) := Lim.iff h.pick (h.mono (by omega))
  generalize hS : (bif (AO m) && (decide (0 < (m.Airways.length : Int))) then (Aa s 3).2 else s) = S at hs
  have l7 := Lim.flows7 (m := m) hs hA
  have l8 := Lim.fire17 (m := m) l7
  have hend : ∀ v2 : List Int × Int × Int, Lim (Aj.mk v2.1 v2.2.1 v2.2.2) (n + 200) → DF (n + 300) 20 (LOOP (Cj s m v2) (fun (x1 : (List Int) × Int × Int × (List Int) × Int) => bif (Aa (Aj.mk x1.1 x1.2.1 x1.2.2.1) 16).1 == 0 then (x1.2.2.2.1 ++ K_7, (Aa (Aj.mk x1.1 x1.2.1 x1.2.2.1) 16).2) else bif (Aa (Aj.mk x1.1 x1.2.1 x1.2.2.1) 16).1 == 1 then bif decide (0 < (x1.2.2.2.1.length : Int)) then (put' x1.2.2.2.1 0 (-2), (Aa (Aj.mk x1.1 x1.2.1 x1.2.2.1) 16).2) else (x1.2.2.2.1, (Aa (Aj.mk x1.1 x1.2.1 x1.2.2.1) 16).2) else (x1.2.2.2.1, (Aa (Aj.mk x1.1 x1.2.1 x1.2.2.1) 16).2)) (((A5 m.Junctions 17) - 0 : Int).toNat + 1) (v2.1, v2.2.1, v2.2.2, K_6, 0)) := fun v2 hv => by
    have hm := min17 (a := m.Junctions)
    generalize hM : A5 m.Junctions 17 = M at hm
    refine LOOP_post (fun (x : List Int × Int × Int × List Int × Int) => (0 ≤ x.2.2.2.2 ∧ (x.2.2.2.1.length : Int) = x.2.2.2.2 ∧ (x.2.2.2.2 ≤ M ∨ x.2.2.2.2 = 0)) ∧ Lim (Aj.mk x.1 x.2.1 x.2.2.1) (n + 200 + 4 * x.2.2.2.2)) (fun x => (M - x.2.2.2.2).toNat) (fun _ r => DF (n + 300) 20 r) (fun rec x hI ih => ?_) _ _ ⟨by simp, hv.mono (by simp)⟩ (by simp)
    obtain ⟨c, a, sd, A, k⟩ := x
    obtain ⟨⟨g0, g1, g2⟩, hL⟩ := hI
    simp only at g0 g1 g2 hL
    simp only [Cj, hM]
    by_cases hk : k < M
    · simp only [hk, decide_true, Bool.cond_true]
      exact ih _ ⟨⟨by simp only; omega, by simp only [List.length_append, List.length_cons, List.length_nil]; omega, by simp only; omega⟩, (hL.pick (k := 60)).among.mono (by simp only; omega)⟩ (by simp only; omega)
    · simp only [hk, decide_false, Bool.cond_false]
      have l1 := hL.pick (k := 16)
      refine DF.bif ⟨l1.mono (by omega), by simp only [List.length_append, List.length_cons, List.length_nil]; omega⟩ (DF.bif (DF.bif ⟨l1.mono (by omega), by simp only [put_len]; omega⟩ ⟨l1.mono (by omega), by simp only; omega⟩) ⟨l1.mono (by omega), by simp only; omega⟩)
  cases ((AO m) && (decide (0 < (m.Airways.length : Int)))) && (decide (0 < (Aa s 3).1)) with
  | false => exact hend _ (Lim.mono hs (by omega))
  | true =>
    simp only [Bool.cond_true]
    cases ha : Ci m (AU S m).1 (A4 (AU S m).2 m).1 == 0 with
    | false => exact hend _ (Lim.mono l8 (by omega))
    | true =>
      have h1 := l17Ask_imp (by simpa using ha)
      have h2 := (arrivals_SmB h1.1 h1.2.1 h1.2.2).2
      have h3 := h1.1.1
      exact ⟨Lim.mono l8 (by omega), by simp only [Bool.cond_true]; omega⟩
theorem Lim.arr19 {s : Aj} {n : Int} {m : AH} (h : Lim s n) (hA : m.Airways.length ≤ 30) : Lim (AD s m).2 (n + 300) := (draw19a h hA).lim
theorem Lim.crew19 {s : Aj} {n : Int} {m : AH} (h : Lim s n) : Lim (Av s m).2 (n + 12) := by
  simp only [Av]
  have l1 : ∀ {l : List (List UInt8)} {k : Int}, Lim (Aa (Aa (Aa (Ab s l).2.1 150).2 k).2 20).2 (n + 8) := h.text.pick.pick.pick.mono (by omega)
  have he2 : ∀ {S : Aj} {l : List Int}, Lim S (n + 8) → Lim (Ak S l).2.1 (n + 12) := fun hS => hS.among.mono (by omega)
  exact limB (he2 l1) (limB (he2 l1) (Lim.mono l1 (by omega)))
structure D19 (n : Int) (r : AH × (List Int) × Int × Bi × Int × Aj) : Prop where
  lim : Lim r.2.2.2.2.2 n
  air : r.1.Airways.length ≤ 30
  arr : r.2.1.length ≤ 20
theorem draw19 {s : Aj} {n : Int} (h : Lim s n) : D19 (n + 900) (Ao s) := by
  have h0 := Lim.draw4 h
  have h1 := draw19a h0.lim h0.len
  have h2 := Lim.crew19 (m := (Al s).1) (h1.lim.pick (k := 9))
  exact ⟨h2.pick.among.mono (by omega), h0.len, h1.len⟩
theorem Lim.all19 {s : Aj} {n : Int} (h : Lim s n) : Lim (Ao s).2.2.2.2.2 (n + 900) := (draw19 h).lim
theorem draw19l {s : Aj} {n : Int} {m : AH} (h : Lim s n) : DF (n + 200) 10 (AZ s m) := by
  simp only [AZ, JN]
  have p1 := (h.num (k := 4)).2 (by omega)
  have p2 := ((h.pick (k := 4)).one (k := 12)).num (k := 3)
  have p3 := p2.2 (by omega)
  rw [wr64 (n := 7 + (Aa (Ai (Aa s 4).2 12).2 3).1) (by omega)]
  have hend : ∀ v2 : List Int × Int × Int × Int, Lim (Aj.mk v2.1 v2.2.1 v2.2.2.1) (n + 6) → v2.2.2.2 ≤ 9 → DF (n + 200) 10 (LOOP (CF s m v2) (fun (x1 : (List Int) × Int × Int × (List Bi) × Int) => bif (Ai (Aj.mk x1.1 x1.2.1 x1.2.2.1) 16).1 then (x1.2.2.2.1 ++ ([(Av (Ai (Aj.mk x1.1 x1.2.1 x1.2.2.1) 16).2 m).1] : List Bi), (Av (Ai (Aj.mk x1.1 x1.2.1 x1.2.2.1) 16).2 m).2) else (x1.2.2.2.1, (Ai (Aj.mk x1.1 x1.2.1 x1.2.2.1) 16).2)) ((v2.2.2.2 - 0 : Int).toNat + 1) (v2.1, v2.2.1, v2.2.2.1, ([] : List Bi), 0)) := fun v2 hv hm => by
    generalize hM : v2.2.2.2 = M at hm
    refine LOOP_post (fun (x : List Int × Int × Int × List Bi × Int) => (0 ≤ x.2.2.2.2 ∧ (x.2.2.2.1.length : Int) = x.2.2.2.2 ∧ (x.2.2.2.2 ≤ M ∨ x.2.2.2.2 = 0)) ∧ Lim (Aj.mk x.1 x.2.1 x.2.2.1) (n + 6 + 12 * x.2.2.2.2)) (fun x => (M - x.2.2.2.2).toNat) (fun _ r => DF (n + 200) 10 r) (fun rec x hI ih => ?_) _ _ ⟨by simp, hv.mono (by simp)⟩ (by simp)
    obtain ⟨c, a, sd, A, k⟩ := x
    obtain ⟨⟨g0, g1, g2⟩, hL⟩ := hI
    simp only at g0 g1 g2 hL
    simp only [CF, hM]
    by_cases hk : k < M
    · simp only [hk, decide_true, Bool.cond_true]
      exact ih _ ⟨⟨by simp only; omega, by simp only [List.length_append, List.length_cons, List.length_nil]; omega, by simp only; omega⟩, (Lim.crew19 (m := m) hL).mono (by simp only; omega)⟩ (by simp only; omega)
    · simp only [hk, decide_false, Bool.cond_false]
      have l1 := hL.one (k := 16)
      exact DF.bif ⟨(Lim.crew19 (m := m) l1).mono (by omega), by simp only [List.length_append, List.length_cons, List.length_nil]; omega⟩ ⟨l1.mono (by omega), by simp only; omega⟩
  cases (Ai (Aa s 4).2 12).1 with
  | true => exact hend _ ((h.pick.one.pick (k := 3)).mono (by omega)) (by simp only; omega)
  | false => exact hend _ ((h.pick.one).mono (by omega)) (by simp only; omega)
theorem Lim.list19 {s : Aj} {n : Int} {m : AH} (h : Lim s n) : Lim (AZ s m).2 (n + 200) := (draw19l h).lim
theorem Lim.one20 {s : Aj} {n j : Int} {id : List UInt8} (h : Lim s n) : Lim (AN s id j).2 (n + 4) := h.pick.among.mono (by omega)
theorem Lim.bend20 {s : Aj} {n : Int} {x : AI} (h : Lim s n) : Lim (BI s x).2 (n + 4) := by
  simp only [BI]
  exact limB (Lim.mono (Lim.among (Lim.pick h)) (by omega)) (limB (Lim.mono (Lim.among (Lim.pick h)) (by omega)) (limB (Lim.mono (Lim.among (Lim.pick h)) (by omega)) (limB (Lim.mono (Lim.text (Lim.pick h)) (by omega)) (Lim.mono (Lim.pick h) (by omega)))))
theorem draw20 {s : Aj} {n : Int} {m : AH} (h : Lim s n) : DF (n + 200) 10 (A8 s m) := by
  simp only [A8]
  refine LOOP_post (fun (x : (List Int) × Int × Int × (List AI) × Int) => (0 ≤ x.2.2.2.2 ∧ x.2.2.2.2 ≤ 3 ∧ (x.2.2.2.1.length : Int) ≤ x.2.2.2.2) ∧ Lim (Aj.mk x.1 x.2.1 x.2.2.1) (n + 10 * x.2.2.2.2)) (fun x => (3 - x.2.2.2.2).toNat) (fun _ r => DF (n + 200) 10 r) (fun rec x hI ih => ?_) _ _ ⟨by simp, h.mono (by simp)⟩ (by simp)
  obtain ⟨c, a, sd, A, k⟩ := x
  obtain ⟨⟨g0, g1, g2⟩, hL⟩ := hI
  simp only at g0 g1 g2 hL
  simp only [Dd]
  rw [show ((K_3.length : Nat) : Int) = 3 from rfl]
  by_cases hk : k < 3
  · simp only [hk, decide_true, Bool.cond_true]
    have go : ∀ (S : Aj) (B : List AI), (B.length : Int) ≤ A.length + 1 → Lim S (n + 10 * (k + 1)) → DF (n + 200) 10 (rec (S.code, S.at_, S.seed, B, k + 1)) := fun S B hB hS => ih _ ⟨⟨by simp only; omega, by simp only; omega, by simp only; omega⟩, hS⟩ (by simp only; omega)
    have l1 := hL.one (k := 3)
    exact DF.bif (go _ _ (by simp only [List.length_append, List.length_cons, List.length_nil]; omega) (Lim.mono (Lim.one20 (l1.pick (k := AF 1 m.Junctions))) (by omega))) (go _ _ (by omega) (l1.mono (by omega)))
  · simp only [hk, decide_false, Bool.cond_false]
    have l1 := hL.pick (k := 20)
    refine DF.bif ⟨Lim.mono (Lim.bend20 (Lim.one20 l1)) (by omega), by simp only [List.length_append, List.length_cons, List.length_nil]; omega⟩ (DF.bif ?_ ⟨l1.mono (by omega), by simp only; omega⟩)
    have hm := among2 (B := 9) l1 (x := 8) (y := 9) (by omega) (by omega)
    have l2 := l1.among (l := ([8, 9] : List Int))
    generalize hM : (Ak (Aa (Aj.mk c a sd) 20).2 ([8, 9] : List Int)).1 = M at hm
    refine LOOP_post (fun (x : (List Int) × Int × Int × (List AI) × Int) => (0 ≤ x.2.2.2.2 ∧ (x.2.2.2.1.length : Int) = x.2.2.2.2 ∧ (x.2.2.2.2 ≤ M ∨ x.2.2.2.2 = 0)) ∧ Lim (Aj.mk x.1 x.2.1 x.2.2.1) (n + 50 + 4 * x.2.2.2.2)) (fun x => (M - x.2.2.2.2).toNat) (fun _ r => DF (n + 200) 10 r) (fun rec2 x hI ih2 => ?_) _ _ ⟨by simp, l2.mono (by simp only; omega)⟩ (by simp)
    obtain ⟨c2, a2, sd2, B, j⟩ := x
    obtain ⟨⟨q0, q1, q2⟩, hL2⟩ := hI
    simp only at q0 q1 q2 hL2
    simp only [Dc, hM]
    by_cases hj : j < M
    · simp only [hj, decide_true, Bool.cond_true]
      exact ih2 _ ⟨⟨by simp only; omega, by simp only [List.length_append, List.length_cons, List.length_nil]; omega, by simp only; omega⟩, (Lim.one20 (j := 0) (id := K_8 ++ (BE j)) hL2).mono (by simp only; omega)⟩ (by simp only; omega)
    · simp only [hj, decide_false, Bool.cond_false]
      exact ⟨hL2.mono (by omega), by simp only; omega⟩
theorem Lim.list20 {s : Aj} {n : Int} {m : AH} (h : Lim s n) : Lim (A8 s m).2 (n + 200) := (draw20 h).lim
theorem Lim.junc4 {s : Aj} {n : Int} {m : AH} (h : Lim s n) : Lim (Bs s m).2 (n + 4) := by
  simp only [Bs]
  exact limB (Lim.among h.one |>.mono (by omega)) (h.one.pick.mono (by omega))
theorem dec_le {n : Int} (hn : -9223372036854775808 ≤ n ∧ n ≤ 9223372036854775807) : (BE n).length ≤ 20 := by
  simp only [BE]
  by_cases h0 : n = 0
  · subst h0; simp
  · have e : (n == 0) = false := by simpa using h0
    rw [e]
    simp only [Bool.cond_false]
    refine LOOP_post (fun (x : List Int × Int) => DecI x.1.length x.2) (fun x => x.2.natAbs) (fun _ (r : List UInt8) => r.length ≤ 20) (fun rec x hI ih => ?_) _ _ (DecI.start hn) (by simp)
    obtain ⟨ds, q⟩ := x
    dsimp only at hI
    simp only [m_spec_l01Dec_b1, JN]
    by_cases hq : q = 0
    · subst hq
      simp only [bne_self_eq_false, Bool.cond_false]
      have hl := hI.len
      have hend : ∀ v : List Int, v.length ≤ 20 → (LOOP (Dr n (ds, 0) v) (fun (x2 : (List Int) × Int) => chars x2.1) (v.length + 1) (K_6, IntKind.wrap .i64 ((v.length : Int) - 1))).length ≤ 20 := fun v hv => by
        rw [wr64 (by omega)]
        refine LOOP_post (fun (x : List Int × Int) => (x.1.length : Int) + x.2 + 1 = v.length ∧ -1 ≤ x.2) (fun x => (x.2 + 1).toNat) (fun _ (r : List UInt8) => r.length ≤ 20) (fun rec2 x hI2 ih2 => ?_) _ _ ⟨by simp, by simp only; omega⟩ (by simp only; omega)
        obtain ⟨zs, j⟩ := x
        obtain ⟨g0, g1⟩ := hI2
        dsimp only at g0 g1
        simp only [Dr]
        by_cases hj : 0 ≤ j
        · simp only [hj, decide_true, Bool.cond_true]
          exact ih2 _ ⟨by simp only [List.length_append, List.length_cons, List.length_nil]; omega, by simp only; omega⟩ (by simp only; omega)
        · simp only [hj, decide_false, Bool.cond_false]
          rw [chars_len]; omega
      cases decide (n < 0) with
      | true => exact hend _ (by simp only [List.length_append, List.length_cons, List.length_nil]; omega)
      | false => exact hend _ (by omega)
    · have eq : (q != 0) = true := by simpa using hq
      rw [eq]
      simp only [Bool.cond_true]
      cases decide (Int.tmod q 10 < 0) with
      | true => exact ih _ (hI.step hq) (dec_mu hI hq)
      | false => exact ih _ (hI.step hq) (dec_mu hI hq)

end Go.Proofs.YtibbfdojcdkopaaGreat
