/-
  PLAIN LAWS about the models: no program in sight. Conditions: as each theorem states them.
-/
import Derived.Test.YtibbfdojcdkopaaGreatRefugesPlain14
set_option linter.unusedVariables false
set_option linter.unusedSimpArgs false
set_option linter.unusedSectionVars false
set_option linter.unnecessarySimpa false
namespace Go.Proofs.YtibbfdojcdkopaaGreat
open Go Go.RowKit Go.Proofs Go.Proofs.YtibbfdojcdkopaaGreat.E
/-! ## The law of refuges -/
theorem bif_ff {c x : Bool} (hc : c = false) (h : x = true) : (bif c then false else x) = true := by rw [hc]; exact h
section
variable {m : AH} {arr : List Int} {blocked : Int} {crews : List Bi} {sizes : List Int} {start : Int} {list : List AI} {P : List Int} {S : Int}
theorem rch_at {i : Int} (hi : 0 ≤ i ∧ i < crews.length) : at' (rchOf m arr blocked crews start list) i = sel (LE (Bw m arr blocked (at' crews i) start) list) (fun j => j) list.length 0 := by
  unfold rchOf rowsOf
  have hl : i.toNat < ((List.range crews.length).map fun (j : Nat) => sel (LE (Bw m arr blocked (at' crews (j : Int)) start) list) (fun j => j) list.length 0).length := by rw [List.length_map, List.length_range]; omega
  have h1 := at_lt hl
  rw [Int.toNat_of_nonneg hi.1] at h1
  rw [h1, List.getElem_map, List.getElem_range, Int.toNat_of_nonneg hi.1]
theorem sel_memP {p : Int → Bool} : ∀ (n : Nat) (i : Int), ∀ y ∈ sel p (fun j => j) n i, p y = true ∧ i ≤ y ∧ y < i + n
  | 0, _, y, h => by simp [sel] at h
  | n + 1, i, y, h => by
    rw [sel, List.mem_append] at h
    rcases h with h | h
    · by_cases hp : p i = true
      · rw [if_pos hp] at h
        have : y = i := by simpa using h
        subst this; exact ⟨hp, by omega, by omega⟩
      · rw [if_neg hp] at h; simp at h
    · have := sel_memP n (i + 1) y h
      exact ⟨this.1, by omega, by omega⟩
theorem free_at {j : Int} (hj : 0 ≤ j ∧ j < list.length) : at' (freeOf list) j = (at' list j).Places := by
  unfold freeOf
  rw [sel_all]
  have hl : j.toNat < ((List.range list.length).map fun (q : Nat) => (at' list (0 + (q : Int))).Places).length := by rw [List.length_map, List.length_range]; omega
  have h1 := at_lt hl
  rw [Int.toNat_of_nonneg hj.1] at h1
  rw [h1, List.getElem_map, List.getElem_range, Int.zero_add, Int.toNat_of_nonneg hj.1]
/-- a place of the answer: none, or one of the list that the crew reaches in time -/
theorem AsgOk.place (h : AsgOk m arr blocked crews sizes start list P S) {i : Int} (hi : 0 ≤ i ∧ i < crews.length) : at' P i = -1 ∨ ((0 ≤ at' P i ∧ at' P i < list.length) ∧ 0 ≤ at' (Bw m arr blocked (at' crews i) start) (at' list (at' P i)).Junction) := by
  have hl := h.len
  have h1 := h.fin.me i.toNat (by omega)
  rw [Int.toNat_of_nonneg hi.1] at h1
  rcases h1 with h1 | h1
  · exact .inl h1
  · rw [rch_at hi] at h1
    have h2 := sel_memP _ _ _ h1
    have h3 : 0 ≤ at' (Bw m arr blocked (at' crews i) start) (at' list (at' P i)).Junction := by simpa [LE] using h2.1
    exact .inr ⟨by omega, h3⟩
theorem AsgOk.size (h : AsgOk m arr blocked crews sizes start list P S) {i : Int} (hi : 0 ≤ i ∧ i < crews.length) : 1 ≤ at' sizes i ∧ at' sizes i ≤ 200 := at_all h.siz ⟨hi.1, by rw [h.len]; exact hi.2⟩
theorem AsgOk.crews8 (h : AsgOk m arr blocked crews sizes start list P S) : crews.length ≤ 8 := (escapeN_imp h.esc).2.2.1.1
theorem AsgOk.times (h : AsgOk m arr blocked crews sizes start list P S) {i : Int} (hi : 0 ≤ i ∧ i < crews.length) : BM m arr blocked (at' crews i) start = (Bw m arr blocked (at' crews i) start, 0) ∧ ((Bw m arr blocked (at' crews i) start).length : Int) = m.Junctions := by
  have ha := ask_of h.esc (at_mem hi)
  have g := l19Ask_imp ha
  refine ⟨by simp [BM, ha], (times_SmB (arr := arr) (blocked := blocked) g.1 g.2.1 g.2.2.1).1⟩
/-- the persons of a refuge so far -/
structure Used (sizes P : List Int) (L : Nat) (n : Int) (sum : Int) (used : List Int) : Prop where
  len : used.length = L
  at_ : ∀ r : Int, 0 ≤ r → r < L → at' used r = accN (usedF sizes P r) n.toNat
  sum : sum = accN (placF sizes P) n.toNat
theorem Used.init (L : Nat) : Used sizes P L 0 0 (List.replicate L 0) := ⟨List.length_replicate, fun r h0 h1 => by rw [at_rep h0 h1]; rfl, rfl⟩
theorem AsgOk.usedR (h : AsgOk m arr blocked crews sizes start list P S) {r : Int} {n : Nat} (hn : n ≤ crews.length) : 0 ≤ accN (usedF sizes P r) n ∧ accN (usedF sizes P r) n ≤ 200 * (n : Int) :=
  accN_rng fun i hi => by
    have := h.size (i := (i : Int)) ⟨by omega, by omega⟩
    unfold usedF; split <;> omega
theorem AsgOk.placR (h : AsgOk m arr blocked crews sizes start list P S) {n : Nat} (hn : n ≤ crews.length) : 0 ≤ accN (placF sizes P) n ∧ accN (placF sizes P) n ≤ 200 * (n : Int) :=
  accN_rng fun i hi => by
    have := h.size (i := (i : Int)) ⟨by omega, by omega⟩
    unfold placF; split <;> omega
theorem acc_step {f : Int → Int} {i : Int} (hi : 0 ≤ i) : accN f (i + 1).toNat = accN f i.toNat + f i := by
  rw [show (i + 1).toNat = i.toNat + 1 by omega, accN, Int.toNat_of_nonneg hi]
theorem Used.skip (h : AsgOk m arr blocked crews sizes start list P S) {i sum : Int} {used : List Int} (hu : Used sizes P list.length i sum used) (hi : 0 ≤ i ∧ i < crews.length) (hp : at' P i < 0) : Used sizes P list.length (i + 1) sum used := by
  refine ⟨hu.len, fun r h0 h1 => ?_, ?_⟩
  · rw [acc_step hi.1, ← hu.at_ r h0 h1]; unfold usedF; rw [if_neg (by omega)]; omega
  · rw [acc_step hi.1, ← hu.sum]; unfold placF; rw [if_neg (by omega)]; omega
theorem Used.next (h : AsgOk m arr blocked crews sizes start list P S) {i sum : Int} {used : List Int} (hu : Used sizes P list.length i sum used) (hi : 0 ≤ i ∧ i < crews.length) (hp : 0 ≤ at' P i ∧ at' P i < list.length) :
    Used sizes P list.length (i + 1) (IntKind.wrap .i64 (sum + at' sizes i)) (put' used (at' P i) (IntKind.wrap .i64 (at' used (at' P i) + at' sizes i))) ∧ at' (put' used (at' P i) (IntKind.wrap .i64 (at' used (at' P i) + at' sizes i))) (at' P i) ≤ (at' list (at' P i)).Places := by
  have hc := h.crews8
  have hs := h.size hi
  have h1 := h.usedR (r := at' P i) (n := i.toNat) (by omega)
  have h2 := h.placR (n := i.toNat) (by omega)
  have h3 := hu.at_ _ hp.1 hp.2
  have h4 := hu.sum
  have hw1 : IntKind.wrap .i64 (sum + at' sizes i) = sum + at' sizes i := wr64 (by omega)
  have hw2 : IntKind.wrap .i64 (at' used (at' P i) + at' sizes i) = at' used (at' P i) + at' sizes i := wr64 (by omega)
  have hl := hu.len
  have h5 : accN (usedF sizes P (at' P i)) (i + 1).toNat = at' used (at' P i) + at' sizes i := by
    rw [acc_step hi.1, ← h3]; unfold usedF; rw [if_pos rfl]
  rw [hw1, hw2]
  refine ⟨⟨by rw [put_len]; exact hl, fun r h0 h1' => ?_, ?_⟩, ?_⟩
  · by_cases hr : at' P i = r
    · subst hr
      rw [put_at ⟨hp.1, by omega⟩, h5]
    · rw [put_at_ne hp.1 h0 hr, hu.at_ r h0 h1', acc_step hi.1]
      unfold usedF; rw [if_neg hr]; omega
  · rw [acc_step hi.1, ← h4]; unfold placF; rw [if_pos hp.1]
  · rw [put_at ⟨hp.1, by omega⟩, ← h5]
    have h6 := h.fin.us (at' P i) hp.1 (by rw [freeOf_len]; exact hp.2)
    rw [free_at hp, h.len] at h6
    have hmono := accN_mono (f := usedF sizes P (at' P i)) (n := (i + 1).toNat) (k := crews.length - (i + 1).toNat) (fun q hq => by
      have := h.size (i := (q : Int)) ⟨by omega, by omega⟩
      unfold usedF; split <;> omega)
    rw [show (i + 1).toNat + (crews.length - (i + 1).toNat) = crews.length by omega] at hmono
    omega
/-! ### The air of the refuges -/
theorem hours_rng {x : AI} {p : Int} (hx : BB x = true) (hp : 0 ≤ p ∧ p ≤ 1600) : 0 ≤ BK x p 30 ∧ BK x p 30 ≤ 1000 := by
  have ha := (ref_imp hx).2
  simp only [BK]
  by_cases h0 : p = 0
  · subst h0; simp
  · have e : (p == 0) = false := by simpa using h0
    have h1 : 0 ≤ Int.tdiv x.Air (p * 30) := Int.tdiv_nonneg ha.1 (by omega)
    have h2 : Int.tdiv x.Air (p * 30) ≤ x.Air := Int.tdiv_le_self _ ha.1
    rw [e, wr64 (n := p * 30) (by omega), wr64 (n := Int.tdiv x.Air (p * 30)) (by omega)]
    simp only [Bool.cond_false]
    split <;> omega
theorem noBad (h : Bk m list = true) : BA list (fun (a0 : AI) => BC a0) = false := by
  have hL := LOOP_is (b := BN list fun (a0 : AI) => BC a0) (k := fun (x1 : Int) => (-1 : Int)) (fun (x : Int) => 0 ≤ x ∧ x ≤ list.length) (fun x => ((list.length : Int) - x).toNat) (fun _ => (-1 : Int)) (fun rec x hI ih => by
    simp only [BN]
    by_cases hi : x < (list.length : Int)
    · have hv := at_all (refs_valid h) ⟨hI.1, hi⟩
      simp only [hi, decide_true, Bool.cond_true, BC, hv, Bool.not_true, Bool.cond_false]
      exact ih _ ⟨by omega, by omega⟩ (by omega)
    · simp only [hi, decide_false, Bool.cond_false]) (f := ((list.length : Int) - 0 : Int).toNat + 1) (x := (0 : Int)) ⟨by omega, by omega⟩ (by omega)
  have e : BU list (fun (a0 : AI) => BC a0) = -1 := hL
  simp only [BA]
  rw [e]; rfl
theorem AsgOk.hours (h : AsgOk m arr blocked crews sizes start list P S) : (Bx list sizes P 30).2 = 0 ∧ 0 ≤ (Bx list sizes P 30).1 ∧ (Bx list sizes P 30).1 ≤ 1000 := by
  have hc := h.crews8
  have hl := h.len
  have hf := h.fin.len
  have h8 : ¬ (8 : Int) < list.length := by have := (ValidRefuges_imp h.ref).1; omega
  have hz : Bn sizes 1 200 = true := allWithin_iff.2 h.siz
  have hpl : Bn P (-1) ((list.length : Int) - 1) = true := allWithin_iff.2 (all_at.2 fun j hj => by
    have := h.place (i := (j : Int)) ⟨by omega, by omega⟩
    omega)
  have e1 : ((sizes.length : Int) != (P.length : Int)) = false := by rw [bne_eq_false_iff_eq]; omega
  have e2 : decide ((8 : Int) < sizes.length) = false := by rw [decide_eq_false_iff_not]; omega
  have e3 : Bf 30 1 10000 = true := rfl
  simp only [Bx, noBad h.ref, decide_eq_false h8, e1, e2, hz, hpl, e3, Bool.not_true, Bool.or_self, Bool.cond_false]
  refine LOOP_post (fun (x : List Int × Int) => (0 ≤ x.2 ∧ x.2 ≤ P.length) ∧ ∃ sum, Used sizes P list.length x.2 sum x.1) (fun x => ((P.length : Int) - x.2).toNat) (fun _ (r : Int × Int) => r.2 = 0 ∧ 0 ≤ r.1 ∧ r.1 ≤ 1000) (fun rec x hI ih => ?_) _ _ ⟨⟨by simp, by simp⟩, 0, Used.init _⟩ (by simp)
  obtain ⟨us, i⟩ := x
  obtain ⟨⟨g0, g1⟩, sum, hu⟩ := hI
  dsimp only at g0 g1 hu
  simp only [CX]
  by_cases hi : i < (P.length : Int)
  · simp only [hi, decide_true, Bool.cond_true]
    have hp := h.place (i := i) ⟨g0, by omega⟩
    by_cases h0 : 0 ≤ at' P i
    · simp only [h0, decide_true, Bool.cond_true]
      exact ih _ ⟨⟨by dsimp only; omega, by dsimp only; omega⟩, _, (hu.next h ⟨g0, by omega⟩ (by omega)).1⟩ (by dsimp only; omega)
    · simp only [h0, decide_false, Bool.cond_false]
      exact ih _ ⟨⟨by dsimp only; omega, by dsimp only; omega⟩, _, hu.skip h ⟨g0, by omega⟩ (by omega)⟩ (by dsimp only; omega)
  · simp only [hi, decide_false, Bool.cond_false]
    have hie : i.toNat = sizes.length := by omega
    refine LOOP_post (fun (x : Int × Int) => (0 ≤ x.2 ∧ x.2 ≤ list.length) ∧ 0 ≤ x.1 ∧ x.1 ≤ 1000) (fun x => ((list.length : Int) - x.2).toNat) (fun _ (r : Int × Int) => r.2 = 0 ∧ 0 ≤ r.1 ∧ r.1 ≤ 1000) (fun rec2 x hI2 ih2 => ?_) _ _ ⟨⟨by simp, by simp⟩, by simp, by simp⟩ (by simp)
    obtain ⟨hr, j⟩ := x
    obtain ⟨⟨q0, q1⟩, q2⟩ := hI2
    dsimp only at q0 q1 q2
    simp only [CW]
    by_cases hj : j < (list.length : Int)
    · have hat := hu.at_ j q0 hj
      rw [hie] at hat
      have hrg := h.usedR (r := j) (n := sizes.length) (by omega)
      have hus := h.fin.us j q0 (by rw [freeOf_len]; exact hj)
      rw [free_at ⟨q0, hj⟩] at hus
      have hno : ¬ (at' list j).Places < at' us j := by omega
      have hh := hours_rng (x := at' list j) (p := at' us j) (at_all (refs_valid h.ref) ⟨q0, hj⟩) (by omega)
      simp only [hj, hno, decide_true, decide_false, Bool.cond_true, Bool.cond_false]
      refine ih2 _ ⟨⟨by dsimp only; omega, by dsimp only; omega⟩, ?_⟩ (by dsimp only; omega)
      dsimp only
      split <;> omega
    · simp only [hj, decide_false, Bool.cond_false]
      exact ⟨trivial, q2⟩
end
/-! ### Walks -/
theorem walk_law {n : AH} {j s : Int} (h : (AQ n j s).2 = 0) : (((AQ n j s).1.length : Int) = n.Junctions ∧ 0 ≤ j ∧ j < n.Junctions) ∧ ∀ v : Int, 0 ≤ v → v < n.Junctions → (AQ n v s).2 = 0 ∧ ((AQ n v s).1.length : Int) = n.Junctions ∧ at' (AQ n v s).1 j = at' (AQ n j s).1 v ∧ at' (AQ n v s).1 v = 0 := by
  obtain ⟨hm, hj, hs, he, hv⟩ := WalkTimes_ok h
  have hok := wkE_ok hm hs
  refine ⟨⟨by rw [he]; exact walks_len hm hj hs, hj⟩, fun v h0 h1 => ?_⟩
  rw [WalkTimes_is hv ⟨h0, h1⟩ hs, he]
  refine ⟨rfl, walks_len hm ⟨h0, h1⟩ hs, ?_, ?_⟩
  · show at' (Br n v s) j = _
    rw [walks_is hm ⟨h0, h1⟩ hs, walks_is hm hj hs]
    exact wlk_sym hok wkE_sym wkS_yes ⟨h0, by omega⟩ ⟨hj.1, by omega⟩
  · show at' (Br n v s) v = 0
    rw [walks_is hm ⟨h0, h1⟩ hs]
    exact (wlk_WI (safe := wkS n) ⟨h0, by omega⟩ hok).at0
theorem walks_true (code more : List Int) : (bif (AQ (Am more).1 (Am more).2.1 (Am more).2.2).2 != 0 then ((AQ (Am more).1 (Am more).2.1 (Am more).2.2).1.length : Int) == 0 else bif ((((AQ (Am more).1 (Am more).2.1 (Am more).2.2).1.length : Int) != (Am more).1.Junctions) || (decide ((Am more).2.1 < 0))) || (decide ((Am more).1.Junctions ≤ (Am more).2.1)) then false else LOOP (Ch code more ()) (fun (x2 : Int) => true) (((Am more).1.Junctions - 0 : Int).toNat + 1) 0) = true := by
  by_cases h : (AQ (Am more).1 (Am more).2.1 (Am more).2.2).2 = 0
  · have hw := walk_law h
    obtain ⟨⟨w1, w2, w3⟩, w4⟩ := hw
    have c1 : ((AQ (Am more).1 (Am more).2.1 (Am more).2.2).2 != 0) = false := by rw [h]; rfl
    have c2 : (((AQ (Am more).1 (Am more).2.1 (Am more).2.2).1.length : Int) != (Am more).1.Junctions) = false := by rw [w1]; simp
    have c3 : decide ((Am more).2.1 < 0) = false := by rw [decide_eq_false_iff_not]; omega
    have c4 : decide ((Am more).1.Junctions ≤ (Am more).2.1) = false := by rw [decide_eq_false_iff_not]; omega
    rw [c1, c2, c3, c4]
    simp only [Bool.or_self, Bool.cond_false]
    refine LOOP_is (b := Ch code more ()) (fun (x : Int) => 0 ≤ x ∧ x ≤ (Am more).1.Junctions) (fun x => ((Am more).1.Junctions - x).toNat) (fun _ => true) (fun rec x hI ih => ?_) ⟨by omega, by omega⟩ (by omega)
    simp only [Ch]
    by_cases hi : x < (Am more).1.Junctions
    · obtain ⟨v1, v2, v3, v4⟩ := w4 x hI.1 hi
      simp only [hi, decide_true, Bool.cond_true]
      rw [v1, v2, v3, v4]
      simp only [bne_self_eq_false, Bool.or_self, Bool.cond_false]
      exact ih _ ⟨by omega, by omega⟩ (by omega)
    · simp only [hi, decide_false, Bool.cond_false]
  · have c1 : ((AQ (Am more).1 (Am more).2.1 (Am more).2.2).2 != 0) = true := by simpa using h
    rw [c1]
    simp only [Bool.cond_true]
    generalize Am more = d at h ⊢
    simp only [AQ] at h ⊢
    cases h1 : Bz d.1 <;> cases h2 : A2 d.1 d.2.1 <;> cases h3 : Bf d.2.2 10 300 <;> simp [h1, h2, h3] at h ⊢
theorem law_FnRefuges (code : List Int) (more : List Int) (hp1 : code.length ≤ 9223372036854775807 ∧ ∀ y ∈ code, 0 ≤ y ∧ y ≤ 255) (hp2 : more.length ≤ 9223372036854775807 ∧ ∀ y ∈ more, 0 ≤ y ∧ y ≤ 255) : Ds code more = true := by
  simp only [Ds, JN]
  cases (C1 code) || (C1 more) with
  | true => rfl
  | false =>
    simp only [Bool.cond_false]
    have hW := walks_true code more
    by_cases hA : (Ax (Ac code).1 (Ac code).2.1 (Ac code).2.2.1 (Ac code).2.2.2.1 (Ac code).2.2.2.2.1 (Ac code).2.2.2.2.2.1 (Ac code).2.2.2.2.2.2.1 (Ac code).2.2.2.2.2.2.2).2.2 = 0
    · have h := asg_fin hA
      rw [show ((Ax (Ac code).1 (Ac code).2.1 (Ac code).2.2.1 (Ac code).2.2.2.1 (Ac code).2.2.2.2.1 (Ac code).2.2.2.2.2.1 (Ac code).2.2.2.2.2.2.1 (Ac code).2.2.2.2.2.2.2).2.2 == 0) = true by rw [hA]; rfl]
      simp only [Bool.cond_true]
      have hlen := h.len
      have hfl := h.fin.len
      have hfs := h.fin.su
      have hh := h.hours
      have hc8 := h.crews8
      refine bif_ff (by rw [Bool.or_eq_false_iff, bne_eq_false_iff_eq, bne_eq_false_iff_eq]; omega) ?_
      refine LOOP_is (b := CY code more fun _ => bif (AQ (Am more).1 (Am more).2.1 (Am more).2.2).2 != 0 then ((AQ (Am more).1 (Am more).2.1 (Am more).2.2).1.length : Int) == 0 else bif ((((AQ (Am more).1 (Am more).2.1 (Am more).2.2).1.length : Int) != (Am more).1.Junctions) || (decide ((Am more).2.1 < 0))) || (decide ((Am more).1.Junctions ≤ (Am more).2.1)) then false else LOOP (Ch code more ()) (fun (x2 : Int) => true) (((Am more).1.Junctions - 0 : Int).toNat + 1) 0)
        (fun x => (0 ≤ x.1 ∧ x.1 ≤ (Ac code).2.2.2.1.length) ∧ Used (Ac code).2.2.2.2.1 (Ax (Ac code).1 (Ac code).2.1 (Ac code).2.2.1 (Ac code).2.2.2.1 (Ac code).2.2.2.2.1 (Ac code).2.2.2.2.2.1 (Ac code).2.2.2.2.2.2.1 (Ac code).2.2.2.2.2.2.2).1 (Ac code).2.2.2.2.2.2.1.length x.1 x.2.1 x.2.2)
        (fun x => (((Ac code).2.2.2.1.length : Int) - x.1).toNat) (fun _ => true) (fun rec x hI ih => ?_) ⟨⟨by simp, by simp⟩, by rw [Int.toNat_natCast]; exact Used.init _⟩ (by simp only; omega)
      generalize hP : Ax (Ac code).1 (Ac code).2.1 (Ac code).2.2.1 (Ac code).2.2.2.1 (Ac code).2.2.2.2.1 (Ac code).2.2.2.2.2.1 (Ac code).2.2.2.2.2.2.1 (Ac code).2.2.2.2.2.2.2 = A at h hfl hfs hh hI ih
      generalize hD : Ac code = D at *
      obtain ⟨i, sum, used⟩ := x
      obtain ⟨⟨g0, g1⟩, hu⟩ := hI
      dsimp only at g0 g1 hu ih
      simp only [CY, hD, hP]
      by_cases hi : i < (A.1.length : Int)
      · have hin : 0 ≤ i ∧ i < D.2.2.2.1.length := ⟨g0, by omega⟩
        have hp := h.place hin
        have ht := h.times hin
        simp only [hi, decide_true, Bool.cond_true]
        refine bif_ff (by rw [Bool.or_eq_false_iff, decide_eq_false_iff_not, decide_eq_false_iff_not]; omega) ?_
        rw [ht.1]
        refine bif_ff rfl ?_
        dsimp only
        by_cases h0 : at' A.1 i < 0
        · simp only [h0, decide_true, Bool.cond_true]
          exact ih _ ⟨⟨by dsimp only; omega, by dsimp only; omega⟩, hu.skip h hin h0⟩ (by dsimp only; omega)
        · have hp2 := hp.resolve_left (by omega)
          have hj := at_all (ValidRefuges_imp h.ref).2 hp2.1
          have hn := hu.next h hin hp2.1
          simp only [h0, decide_false, Bool.cond_false]
          refine bif_ff (by rw [Bool.or_eq_false_iff, Bool.or_eq_false_iff, decide_eq_false_iff_not, decide_eq_false_iff_not, decide_eq_false_iff_not]; omega) ?_
          refine bif_ff (by rw [decide_eq_false_iff_not]; omega) ?_
          exact ih _ ⟨⟨by dsimp only; omega, by dsimp only; omega⟩, hn.1⟩ (by dsimp only; omega)
      · simp only [hi, decide_false, Bool.cond_false]
        have hie : i.toNat = D.2.2.2.2.1.length := by omega
        have hsum := hu.sum
        rw [hie, ← hfs] at hsum
        refine bif_ff (by rw [Bool.or_eq_false_iff, Bool.or_eq_false_iff, Bool.or_eq_false_iff, bne_eq_false_iff_eq, bne_eq_false_iff_eq, decide_eq_false_iff_not, decide_eq_false_iff_not]; omega) ?_
        exact hW
    · rw [show ((Ax (Ac code).1 (Ac code).2.1 (Ac code).2.2.1 (Ac code).2.2.2.1 (Ac code).2.2.2.2.1 (Ac code).2.2.2.2.2.1 (Ac code).2.2.2.2.2.2.1 (Ac code).2.2.2.2.2.2.2).2.2 == 0) = false by simpa using hA]
      exact hW

end Go.Proofs.YtibbfdojcdkopaaGreat
