/-
  PLAIN LAWS about the models: no program in sight. Conditions: as each theorem states them.
-/
import Derived.Test.YtibbfdojcdkopaaExactAssignCrewsPlain12
set_option linter.unusedVariables false
set_option linter.unusedSimpArgs false
set_option linter.unusedSectionVars false
set_option linter.unnecessarySimpa false
namespace Go.Proofs.Ytibbfdojcdkopaa
open Go Go.RowKit Go.Proofs Go.Proofs.Ytibbfdojcdkopaa.E
structure RestOk (sizes rest : List Int) : Prop where
  len : rest.length = sizes.length + 1
  val : ∀ k : Nat, k ≤ sizes.length → at' rest (k : Int) = rstf sizes k
def specOut (x : gl20Search) (r : Pst) : gl20Search := gl20Search.mk x.sizes x.reach x.left x.rest x.places r.best r.most r.nodes x.budget r.full
theorem runS_is : ∀ (fuel : Nat) (x : gl20Search) (sum : Int), PI x.sizes x.reach x.left x.places sum → RestOk x.sizes x.rest → (0 ≤ x.nodes ∧ x.nodes ≤ x.budget ∧ x.budget ≤ 20000) → x.most < sum + rstf x.sizes x.places.length → x.sizes.length - x.places.length < fuel →
    m_spec_l20Search_run_n fuel x sum = specOut x (psrch x.sizes x.reach x.budget fuel x.left x.places sum ⟨x.best, x.most, x.nodes, x.full⟩) := by
  intro fuel
  induction fuel with
  | zero => intro x sum _ _ _ _ h; omega
  | succ fuel IH =>
    rintro ⟨sizes, reach, left, rest, places, best, most, nodes, budget, full⟩ sum hP hR hB hb hf
    dsimp only at hP hR hB hb hf
    simp only [m_spec_l20Search_run_n, m_spec_l20Search_run_body, psrch, specOut, JN]
    have hpl := hP.pl
    have hsl := hP.sl
    have hsm := hP.sm
    by_cases he : places.length = sizes.length
    · have e1 : ((places.length : Int) == (sizes.length : Int)) = true := by simp [he]
      have e2 : rstf sizes places.length = 0 := by unfold rstf; rw [he, List.drop_length]; rfl
      have e3 : most < sum := by omega
      simp only [e1, Bool.cond_true, e3, decide_true, if_pos he, m_spec_l00Own, List.nil_append]
    · have e1 : ((places.length : Int) == (sizes.length : Int)) = false := by rw [beq_eq_false_iff_ne]; omega
      have hlt : places.length < sizes.length := by omega
      have hr0 := hR.val places.length (by omega)
      have hr1 := hR.val (places.length + 1) (by omega)
      have hr1' : at' rest ((places.length : Int) + 1) = rstf sizes (places.length + 1) := by rw [← hr1]; congr 1
      have hs1 := rstf_succ hlt
      have hg1 := hP.rng (places.length + 1)
      simp only [e1, Bool.cond_false, if_neg he]
      refine LOOP_is (b := m_spec_l20Search_run_b1 (m_spec_l20Search_run_n fuel) ⟨sizes, reach, left, rest, places, best, most, nodes, budget, full⟩ sum)
        (fun x => (0 ≤ x.2.2.1 ∧ x.2.2.1 ≤ (at' reach (places.length : Int)).length) ∧ x.2.2.2.1 = reach ∧ x.2.2.2.2.1 = left ∧ x.2.2.2.2.2.1 = rest ∧ x.2.2.2.2.2.2.1 = places ∧ (⟨x.2.2.2.2.2.2.2.1, x.2.2.2.2.2.2.2.2, x.1, x.2.1⟩ : Pst) = ((at' reach (places.length : Int)).take x.2.2.1.toNat).foldl (pstep budget left (at' sizes (places.length : Int)) (rstf sizes (places.length + 1)) sum fun left' r => psrch sizes reach budget fuel left' (places ++ [r]) (sum + at' sizes (places.length : Int))) ⟨best, most, nodes, full⟩)
        (fun x => (((at' reach (places.length : Int)).length : Int) - x.2.2.1).toNat) (fun _ => gl20Search.mk sizes reach left rest places
          (pnode budget ((at' reach (places.length : Int)).foldl (pstep budget left (at' sizes (places.length : Int)) (rstf sizes (places.length + 1)) sum fun left' r => psrch sizes reach budget fuel left' (places ++ [r]) (sum + at' sizes (places.length : Int))) ⟨best, most, nodes, full⟩) (sum + rstf sizes (places.length + 1)) (psrch sizes reach budget fuel left (places ++ [-1]) sum)).best
          (pnode budget ((at' reach (places.length : Int)).foldl (pstep budget left (at' sizes (places.length : Int)) (rstf sizes (places.length + 1)) sum fun left' r => psrch sizes reach budget fuel left' (places ++ [r]) (sum + at' sizes (places.length : Int))) ⟨best, most, nodes, full⟩) (sum + rstf sizes (places.length + 1)) (psrch sizes reach budget fuel left (places ++ [-1]) sum)).most
          (pnode budget ((at' reach (places.length : Int)).foldl (pstep budget left (at' sizes (places.length : Int)) (rstf sizes (places.length + 1)) sum fun left' r => psrch sizes reach budget fuel left' (places ++ [r]) (sum + at' sizes (places.length : Int))) ⟨best, most, nodes, full⟩) (sum + rstf sizes (places.length + 1)) (psrch sizes reach budget fuel left (places ++ [-1]) sum)).nodes budget
          (pnode budget ((at' reach (places.length : Int)).foldl (pstep budget left (at' sizes (places.length : Int)) (rstf sizes (places.length + 1)) sum fun left' r => psrch sizes reach budget fuel left' (places ++ [r]) (sum + at' sizes (places.length : Int))) ⟨best, most, nodes, full⟩) (sum + rstf sizes (places.length + 1)) (psrch sizes reach budget fuel left (places ++ [-1]) sum)).full)
        ?_ ⟨⟨by dsimp only; omega, by dsimp only; omega⟩, rfl, rfl, rfl, rfl, rfl⟩ (by dsimp only; omega)
      rintro rec ⟨nd, fu, i, re, le, rs, pl, be, mo⟩ ⟨⟨i0, i1⟩, d1, d2, d3, d4, hst⟩ ih
      dsimp only at i0 i1 hst ih d1 d2 d3 d4
      subst d1 d2 d3 d4
      have hok : Pst.ok budget ⟨be, mo, nd, fu⟩ := by
        rw [hst]; exact fold_ok (fun l r s hs => psrch_ok _ _ _ _ s hs) _ _ ⟨hB.1, hB.2.1⟩
      have hnd : 0 ≤ nd ∧ nd ≤ budget := hok
      simp only [m_spec_l20Search_run_b1, JN]
      by_cases hi : i < ((at' re (pl.length : Int)).length : Int)
      · have hmem := at_mem (xs := at' re (pl.length : Int)) (i := i) ⟨i0, hi⟩
        have hat := hP.at_ hlt hmem
        have hft := fold_take (B := budget) (left := le) (n := at' sizes (pl.length : Int)) (rest := rstf sizes (pl.length + 1)) (sum := sum) (k := fun left' r => psrch sizes re budget fuel left' (pl ++ [r]) (sum + at' sizes (pl.length : Int))) (L := at' re (pl.length : Int)) (st := ⟨best, most, nodes, full⟩) ⟨i0, hi⟩
        rw [← hst] at hft
        simp only [hi, decide_true, Bool.cond_true]
        by_cases hn : at' le (at' (at' re (pl.length : Int)) i) < at' sizes (pl.length : Int)
        · simp only [hn, decide_true, Bool.true_or, Bool.not_true, Bool.cond_true, Bool.cond_false]
          refine ih _ ⟨⟨by dsimp only; omega, by dsimp only; omega⟩, rfl, rfl, rfl, rfl, ?_⟩ (by dsimp only; omega)
          dsimp only
          rw [hft]; simp only [pstep, if_pos hn]
        · have w1 : IntKind.wrap .i64 (sum + at' rs (pl.length : Int)) = sum + at' sizes (pl.length : Int) + rstf sizes (pl.length + 1) := by rw [hr0, hs1, wr64 (by omega)]; omega
          simp only [hn, decide_false, Bool.false_or, Bool.not_false, Bool.cond_true, Bool.cond_false, w1]
          rw [nodeS_is _ _ ⟨by dsimp only; omega, by dsimp only; omega⟩]
          dsimp only
          simp only [pstep, if_neg hn, pnode] at hft
          by_cases c1 : sum + at' sizes (pl.length : Int) + rstf sizes (pl.length + 1) ≤ mo
          · simp only [c1, if_true, Bool.not_false, Bool.cond_true]
            refine ih _ ⟨⟨by dsimp only; omega, by dsimp only; omega⟩, rfl, rfl, rfl, rfl, ?_⟩ (by dsimp only; omega)
            dsimp only
            rw [hft, if_pos c1]
          · simp only [c1, if_false] at hft ⊢
            by_cases c2 : fu = true
            · simp only [c2, if_true, Bool.not_false, Bool.cond_true] at hft ⊢
              refine ih _ ⟨⟨by dsimp only; omega, by dsimp only; omega⟩, rfl, rfl, rfl, rfl, ?_⟩ (by dsimp only; omega)
              dsimp only
              rw [hft]
            · by_cases c3 : nd = budget
              · simp only [c2, c3, if_true, if_false, Bool.not_false, Bool.cond_true, Bool.false_eq_true] at hft ⊢
                refine ih _ ⟨⟨by dsimp only; omega, by dsimp only; omega⟩, rfl, rfl, rfl, rfl, ?_⟩ (by dsimp only; omega)
                dsimp only
                rw [hft]
              · simp only [c2, c3, if_false, Bool.not_true, Bool.cond_false, Bool.false_eq_true] at hft ⊢
                have w2 : IntKind.wrap .i64 (at' le (at' (at' re (pl.length : Int)) i) - at' sizes (pl.length : Int)) = at' le (at' (at' re (pl.length : Int)) i) - at' sizes (pl.length : Int) := wr64 (by omega)
                have w3 : IntKind.wrap .i64 (sum + at' sizes (pl.length : Int)) = sum + at' sizes (pl.length : Int) := wr64 (by omega)
                have hN := hP.next hlt hmem (by omega)
                rw [w2, w3, IH _ _ hN hR ⟨by dsimp only; omega, by dsimp only; omega, by dsimp only; omega⟩ (by simp only [List.length_append, List.length_cons, List.length_nil, Nat.zero_add]; omega) (by simp only [List.length_append, List.length_cons, List.length_nil, Nat.zero_add]; omega)]
                dsimp only [specOut]
                have w4 : IntKind.wrap .i64 (at' (put' le (at' (at' re (pl.length : Int)) i) (at' le (at' (at' re (pl.length : Int)) i) - at' sizes (pl.length : Int))) (at' (at' re (pl.length : Int)) i) + at' sizes (pl.length : Int)) = at' le (at' (at' re (pl.length : Int)) i) := by
                  rw [put_at hat.1, wr64 (by omega)]; omega
                rw [w4, put_back hat.1 rfl, app_pre]
                refine ih _ ⟨⟨by dsimp only; omega, by dsimp only; omega⟩, rfl, rfl, rfl, rfl, ?_⟩ (by dsimp only; omega)
                dsimp only
                rw [hft]
      · have hie : i = ((at' re (pl.length : Int)).length : Int) := by omega
        simp only [hi, decide_false, Bool.cond_false]
        subst hie
        rw [Int.toNat_natCast, List.take_length] at hst
        rw [← hst]
        have w1 : IntKind.wrap .i64 (sum + at' rs ((pl.length : Int) + 1)) = sum + rstf sizes (pl.length + 1) := by rw [hr1', wr64 (by omega)]
        rw [w1, nodeS_is _ _ ⟨by dsimp only; omega, by dsimp only; omega⟩]
        dsimp only
        simp only [pnode]
        by_cases c1 : sum + rstf sizes (pl.length + 1) ≤ mo
        · simp only [c1, if_true, Bool.cond_false]
        · by_cases c2 : fu = true
          · simp only [c1, c2, if_true, if_false, Bool.cond_false]
          · by_cases c3 : nd = budget
            · simp only [c1, c2, c3, if_true, if_false, Bool.cond_false, Bool.false_eq_true]
            · simp only [c1, c2, c3, if_false, Bool.cond_true, Bool.false_eq_true]
              rw [IH _ _ (hP.skip hlt) hR ⟨by dsimp only; omega, by dsimp only; omega, by dsimp only; omega⟩ (by simp only [List.length_append, List.length_cons, List.length_nil, Nat.zero_add]; omega) (by simp only [List.length_append, List.length_cons, List.length_nil, Nat.zero_add]; omega)]
              dsimp only [specOut]
              rw [app_pre]

end Go.Proofs.Ytibbfdojcdkopaa
