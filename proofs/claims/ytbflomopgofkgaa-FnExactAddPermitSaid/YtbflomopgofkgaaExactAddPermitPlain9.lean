/-
  PLAIN LAWS about the models: no program in sight. Conditions: as each theorem states them.
-/
import Derived.Test.YtbflomopgofkgaaExactAddPermitPlain8
set_option linter.unusedVariables false
set_option linter.unusedSimpArgs false
set_option linter.unusedSectionVars false
set_option linter.unnecessarySimpa false
namespace Go.Proofs.Ytbflomopgofkgaa
open Go Go.RowKit Go.Proofs Go.Proofs.Ytbflomopgofkgaa.E
theorem held_mark_permit {a : List gPermit} (h : a.length ≤ 1048576) : m_laws_heldPermitS (m_laws_markPermitS a 1).2 1 = (m_laws_markPermitS a 1).1 ∧ ¬ (m_laws_markPermitS a 1).1 < 0 := by
  have w : ∀ kk : Int, 0 ≤ kk → kk ≤ 9223372036854770000 → IntKind.wrap .i64 (kk + 1) = kk + 1 ∧ IntKind.wrap .i64 (kk + 1 + 1) = kk + 2 ∧ IntKind.wrap .i64 (kk + 2 + 1) = kk + 3 ∧ IntKind.wrap .i64 (kk + 3 + 1) = kk + 4 ∧ IntKind.wrap .i64 (kk + 4 + 1) = kk + 5 := fun kk h0 h1 => by
    rw [wr64 (n := kk + 1) (by omega), wr64 (n := kk + 1 + 1) (by omega), wr64 (n := kk + 2 + 1) (by omega), wr64 (n := kk + 3 + 1) (by omega), wr64 (n := kk + 4 + 1) (by omega)]; omega
  have e : m_laws_markPermitS a 1 = (1 + 5 * (a.length : Int), (irange 0 a.length).map (fun j => gPermit.mk (m_laws_markText (1 + 5 * j)) (1 + 5 * j + 1) (1 + 5 * j + 2) (1 + 5 * j + 3) (1 + 5 * j + 4))) :=
    LOOP_markt (f := fun kk => gPermit.mk (m_laws_markText kk) (kk + 1) (kk + 2) (kk + 3) (kk + 4)) (s := 5) (b := m_laws_markPermitS_b1 a 1) (k := fun x => (x.2.1, x.1)) (by omega) 1 (by omega) (fun rec xs kk i h0 h1 h2 h3 => by have := w kk h2 h3; simp only [m_laws_markPermitS_b1, h1, decide_true, Bool.cond_true]; rw [this.1, this.2.1, this.2.2.1, this.2.2.2.1, this.2.2.2.2]) (fun rec xs kk i h1 => by simp only [m_laws_markPermitS_b1, h1, decide_false, Bool.cond_false]) (fun _ => rfl) (((a.length : Int) - 0 : Int).toNat + 1) a 0 (by omega) (by omega) (by omega) (by omega) (fun j h1 h2 => by omega)
  rw [e]
  refine ⟨?_, by simp only []; omega⟩
  generalize hL : (irange 0 a.length).map (fun j => gPermit.mk (m_laws_markText (1 + 5 * j)) (1 + 5 * j + 1) (1 + 5 * j + 2) (1 + 5 * j + 3) (1 + 5 * j + 4)) = L
  have hl : L.length = a.length := by rw [← hL, List.length_map, irange_len]
  have := LOOP_heldt (f := fun kk => gPermit.mk (m_laws_markText kk) (kk + 1) (kk + 2) (kk + 3) (kk + 4)) (s := 5) (L := L) (b := m_laws_heldPermitS_b1 L 1) (k := fun x => x.1) (n := a.length) (by omega) 1 (by omega) (by omega) hL.symm (fun rec kk i h0 h1 h2 h3 h4 => by have := w kk h2 h3; simp only [m_laws_heldPermitS_b1, hl, h1, decide_true, Bool.cond_true, h4, strB_neq_self, Bool.cond_false]; rw [this.1, this.2.1, this.2.2.1, this.2.2.2.1, this.2.2.2.2]; simp) (fun rec kk i h1 => by simp only [m_laws_heldPermitS_b1, hl, h1, decide_false, Bool.cond_false]) (fun _ => rfl) (((a.length : Int) - 0 : Int).toNat + 1) 0 (by omega) (by omega) (by omega)
  simp only [m_laws_heldPermitS, hl]
  exact this
theorem law_FnExactAddPermit (aM : gMine) (aList : List gPermit) (aX : gPermit) (hp1 : gMine.ok aM) (hp2 : aList.length ≤ 9223372036854775807 ∧ ∀ y ∈ aList, gPermit.ok y) (hp3 : gPermit.ok aX) : m_laws_FnExactAddPermit aM aList aX = true := by
  simp only [m_laws_FnExactAddPermit, toAirway_eq, toMine_eq, toPermit_eq, toAirwayS_eq, toPermitS_eq, eqPermit_refl, eqAirway_refl, eqAirwayS_refl, eqMine_refl, eqPermitS_refl, AddPermit_eq, bne_self_eq_false, strB_neq_self, Bool.or_self, Bool.or_false, Bool.false_or, Bool.not_true, Bool.cond_false]
  by_cases h1 : m_laws_szMine aM 1048576 < 0
  · simp [h1]
  have a1 := szMine_impA (a := aM) (l := 1048576) hp1 (by omega) (by omega) (by omega)
  have b1 := szMine_impB (a := aM) (l := 1048576) hp1 (by omega) (by omega) (by omega)
  by_cases h2 : m_laws_szPermitS aList (m_laws_szMine aM 1048576) < 0
  · simp [h2]
  have a2 := szPermitS_impA (a := aList) (l := (m_laws_szMine aM 1048576)) hp2 (by omega) (by omega) (by omega)
  have b2 := szPermitS_impB (a := aList) (l := (m_laws_szMine aM 1048576)) hp2 (by omega) (by omega) (by omega)
  by_cases h3 : m_laws_szPermit aX (m_laws_szPermitS aList (m_laws_szMine aM 1048576)) < 0
  · simp [h3]
  have a3 := szPermit_impA (a := aX) (l := (m_laws_szPermitS aList (m_laws_szMine aM 1048576))) hp3 (by omega) (by omega) (by omega)
  have b3 := szPermit_impB (a := aX) (l := (m_laws_szPermitS aList (m_laws_szMine aM 1048576))) hp3 (by omega) (by omega) (by omega)
  have k0 := markMine_rng (a := aM) (k := 1) (by omega) (by omega)
  have k1 := markPermitS_rng (a := aList) (k := (m_laws_markMine aM 1).1) (by omega) (by omega)
  have kk : ¬ (m_laws_markPermitS aList (m_laws_markMine aM 1).1).1 < 0 := by omega
  have hh := held_mark_permit (a := (m_spec_AddPermit aM aList aX).1) (AddPermit_len aM aList aX)
  simp [h1, h2, h3, kk, hh.1, hh.2]

end Go.Proofs.Ytbflomopgofkgaa
