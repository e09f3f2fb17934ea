/-
  PLAIN LAWS about the models: no program in sight. Conditions: as each theorem states them.
-/
import Derived.Test.YtibbfdojcdkopaaGreatRefugesPlain13
set_option linter.unusedVariables false
set_option linter.unusedSimpArgs false
set_option linter.unusedSectionVars false
set_option linter.unnecessarySimpa false
namespace Go.Proofs.YtibbfdojcdkopaaGreat
open Go Go.RowKit Go.Proofs Go.Proofs.YtibbfdojcdkopaaGreat.E
/-! ## AssignCrews: what comes out -/
theorem PI.startI {m : AH} {arr : List Int} {blocked : Int} {crews : List Bi} {sizes : List Int} {start : Int} {list : List AI} (h1 : Bk m list = true) (h2 : crews.length ≤ 8) (h3 : sizes.length = crews.length) (h4 : ∀ y ∈ sizes, 1 ≤ y ∧ y ≤ 200) : PI sizes (rchOf m arr blocked crews start list) (freeOf list) [] 0 := by
  refine ⟨h4, by omega, by unfold rchOf rowsOf; rw [List.length_map, List.length_range, h3], fun l hl r hr => ?_, fun y hy => ?_, by simp, by simp⟩
  · unfold rchOf rowsOf at hl
    obtain ⟨i, _, rfl⟩ := List.mem_map.1 hl
    obtain ⟨j, g1, g2, rfl⟩ := sel_mem _ _ r hr
    rw [freeOf_len]; omega
  · obtain ⟨j, g1, g2, rfl⟩ := sel_mem _ _ y hy
    exact places_inI h1 ⟨g1, by omega⟩
structure AsgOk (m : AH) (arr : List Int) (blocked : Int) (crews : List Bi) (sizes : List Int) (start : Int) (list : List AI) (P : List Int) (S : Int) : Prop where
  esc : (AA m arr blocked crews start []).2 = 0
  ref : Bk m list = true
  len : sizes.length = crews.length
  siz : ∀ y ∈ sizes, 1 ≤ y ∧ y ≤ 200
  fin : Fin' sizes (rchOf m arr blocked crews start list) (freeOf list) P S
theorem asg_fin {m : AH} {arr : List Int} {blocked : Int} {crews : List Bi} {sizes : List Int} {start : Int} {list : List AI} {budget : Int} (h : (Ax m arr blocked crews sizes start list budget).2.2 = 0) : AsgOk m arr blocked crews sizes start list (Ax m arr blocked crews sizes start list budget).1 (Ax m arr blocked crews sizes start list budget).2.1 := by
  simp only [Ax] at h ⊢
  cases e1 : ((AA m arr blocked crews start []).2 == 1) || (!(Bk m list)) with
  | true => simp [e1] at h
  | false =>
    cases e2 : ((AA m arr blocked crews start []).2 == 2) || (!(Co budget)) with
    | true => simp [e1, e2] at h
    | false =>
      cases e3 : (((AA m arr blocked crews start []).2 != 0) || ((sizes.length : Int) != (crews.length : Int))) || (!(Bn sizes 1 200)) with
      | true => simp [e1, e2, e3] at h
      | false =>
        simp only [e1, e2, e3, Bool.cond_false] at h ⊢
        rw [Bool.or_eq_false_iff] at e1 e2 e3
        rw [Bool.or_eq_false_iff] at e3
        have hesc : (AA m arr blocked crews start []).2 = 0 := by simpa using e3.1.1
        have href : Bk m list = true := by simpa using e1.2
        have hlen : sizes.length = crews.length := by
          have := e3.1.2; rw [bne_eq_false_iff_eq] at this; omega
        have hz := allWithin_iff.1 (show Bn sizes 1 200 = true by simpa using e3.2)
        have hB := l00In_imp (show A0 budget 1 20000 = true by
          have : Co budget = true := by simpa using e2.2
          exact this)
        have g := escapeN_imp hesc
        have hc8 := g.2.2.1.1
        have hP := PI.startI (arr := arr) (blocked := blocked) (start := start) href hc8 hlen hz
        rw [filt_loop (n := list.length) (p := fun _ => true) (g := fun j => (at' list j).Places) (fun rec x => by simp only [Dg, Bool.cond_true])] at h ⊢
        rw [rows_loop (n := crews.length) (row := fun i => sel (LE (Bm (Cb.mk m arr blocked) (at' crews i) start) list) (fun j => j) list.length 0) (fun rec x h0 => by
          simp only [Df]
          rw [filt_loop (n := list.length) (p := LE (Bm (Cb.mk m arr blocked) (at' crews x.2) start) list) (g := fun j => j) (fun rec x => by simp only [De, LE, g.1])])] at h ⊢
        have hrow : (rowsOf crews.length fun i => sel (LE (Bm (Cb.mk m arr blocked) (at' crews i) start) list) (fun j => j) list.length 0) = rchOf m arr blocked crews start list := by
          dsimp only [rchOf]
          refine rows_congr fun i h0 h1 => ?_
          rw [times_eq g.2.1 (at_all g.2.2.1.2 ⟨h0, h1⟩) g.2.2.2.1]
        dsimp only at h ⊢
        rw [hrow] at h ⊢
        have hfree : sel (fun _ => true) (fun j => (at' list j).Places) list.length 0 = freeOf list := rfl
        rw [hfree] at h ⊢
        have hg := hP.rng 0
        have hv := visI_is budget hB.2 (((sizes.length : Int) - (K_6.length : Int)).toNat + 1) (Ar.mk sizes (rchOf m arr blocked crews start list) (freeOf list) budget [] [] (-1)) 0 0 false hP ⟨by omega, by omega⟩ (by simp [bud]) (by dsimp only; simp only [List.length_nil]; omega) (by dsimp only; simp only [List.length_nil]; omega)
        rw [show A9 (Ar.mk sizes (rchOf m arr blocked crews start list) (freeOf list) budget [] [] (-1)) 0 = m_impl_placeSearch_visit_n (((sizes.length : Int) - (K_6.length : Int)).toNat + 1) (Ar.mk sizes (rchOf m arr blocked crews start list) (freeOf list) budget [] [] (-1)) 0 from rfl, hv] at h ⊢
        dsimp only [implOut] at h ⊢
        have hfn := psrch_fin (B := budget) (f := ((sizes.length : Int) - (K_6.length : Int)).toNat + 1) hP (by simp only [List.length_nil]; omega)
        generalize psrch sizes (rchOf m arr blocked crews start list) budget (((sizes.length : Int) - (K_6.length : Int)).toNat + 1) (freeOf list) [] 0 ⟨[], -1, 0, false⟩ = r at h hfn ⊢
        by_cases hb : bud budget r < 0
        · simp [hb] at h
        · have hf : r.full = false := by
            cases hr : r.full with
            | false => rfl
            | true => exfalso; apply hb; simp [bud, hr]
          simp only [hb, decide_false, Bool.cond_false]
          exact ⟨hesc, href, hlen, hz, hfn hf⟩
section
variable {m : AH} {arr : List Int} {blocked : Int} {crews : List Bi} {sizes : List Int} {start : Int} {list : List AI} {budget : Int}
theorem asg_list (h : (Ax m arr blocked crews sizes start list budget).2.2 = 0) : list.length ≤ 8 := (ValidRefuges_imp (asg_fin h).ref).1
theorem asg_len (h : (Ax m arr blocked crews sizes start list budget).2.2 = 0) : (Ax m arr blocked crews sizes start list budget).1.length ≤ 8 := by
  have g := asg_fin h
  have h1 := (escapeN_imp g.esc).2.2.1.1
  have h2 := g.fin.len
  have h3 := g.len
  omega
end

end Go.Proofs.YtibbfdojcdkopaaGreat
