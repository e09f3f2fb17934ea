/-
  PLAIN LAWS about the models: no program in sight. Conditions: as each theorem states them.
-/
import Derived.Test.YtibbfdojcdkopaaGreatRefugesPlain9
set_option linter.unusedVariables false
set_option linter.unusedSimpArgs false
set_option linter.unusedSectionVars false
set_option linter.unnecessarySimpa false
namespace Go.Proofs.YtibbfdojcdkopaaGreat
open Go Go.RowKit Go.Proofs Go.Proofs.YtibbfdojcdkopaaGreat.E
/-! ## What the search finds is right: places that are reached, rooms that are great enough, the sum of the persons -/
def accN (f : Int → Int) : Nat → Int
  | 0 => 0
  | n + 1 => accN f n + f (n : Int)
theorem accN_congr {f g : Int → Int} : ∀ {n : Nat}, (∀ i : Nat, i < n → f i = g i) → accN f n = accN g n
  | 0, _ => rfl
  | n + 1, h => by rw [accN, accN, accN_congr (n := n) (fun i hi => h i (by omega)), h n (by omega)]
theorem accN_rng {f : Int → Int} : ∀ {n : Nat}, (∀ i : Nat, i < n → 0 ≤ f i ∧ f i ≤ 200) → 0 ≤ accN f n ∧ accN f n ≤ 200 * (n : Int)
  | 0, _ => by simp [accN]
  | n + 1, h => by
    have h1 := accN_rng (n := n) (fun i hi => h i (by omega))
    have h2 := h n (by omega)
    rw [accN]; omega
theorem accN_mono {f : Int → Int} {n : Nat} : ∀ {k : Nat}, (∀ i : Nat, i < n + k → 0 ≤ f i) → accN f n ≤ accN f (n + k)
  | 0, _ => Int.le_refl _
  | k + 1, h => by
    have h1 := accN_mono (n := n) (k := k) (fun i hi => h i (by omega))
    have h2 := h (n + k) (by omega)
    rw [show n + (k + 1) = (n + k) + 1 by omega, accN]; omega
def usedF (sizes places : List Int) (r i : Int) : Int := if at' places i = r then at' sizes i else 0
def placF (sizes places : List Int) (i : Int) : Int := if 0 ≤ at' places i then at' sizes i else 0
theorem used_app {sizes places : List Int} {p r : Int} : accN (usedF sizes (places ++ [p]) r) (places ++ [p]).length = accN (usedF sizes places r) places.length + (if p = r then at' sizes places.length else 0) := by
  rw [show (places ++ [p]).length = places.length + 1 by simp, accN]
  rw [accN_congr (g := usedF sizes places r) (fun i hi => by unfold usedF; rw [at_app hi])]
  congr 1
  unfold usedF; rw [at_app_last]
theorem plac_app {sizes places : List Int} {p : Int} : accN (placF sizes (places ++ [p])) (places ++ [p]).length = accN (placF sizes places) places.length + (if 0 ≤ p then at' sizes places.length else 0) := by
  rw [show (places ++ [p]).length = places.length + 1 by simp, accN]
  rw [accN_congr (g := placF sizes places) (fun i hi => by unfold placF; rw [at_app hi])]
  congr 1
  unfold placF; rw [at_app_last]
structure PG (sizes : List Int) (reach : List (List Int)) (free left places : List Int) (sum : Int) : Prop where
  pi : PI sizes reach left places sum
  ll : left.length = free.length
  us : ∀ r : Int, 0 ≤ r → r < free.length → at' left r = at' free r - accN (usedF sizes places r) places.length
  su : sum = accN (placF sizes places) places.length
  me : ∀ i : Nat, i < places.length → at' places i = -1 ∨ at' places i ∈ at' reach i
structure Fin' (sizes : List Int) (reach : List (List Int)) (free best : List Int) (most : Int) : Prop where
  len : best.length = sizes.length
  su : most = accN (placF sizes best) sizes.length
  me : ∀ i : Nat, i < sizes.length → at' best i = -1 ∨ at' best i ∈ at' reach i
  us : ∀ r : Int, 0 ≤ r → r < free.length → accN (usedF sizes best r) sizes.length ≤ at' free r
theorem PG.fin {sizes : List Int} {reach : List (List Int)} {free left places : List Int} {sum : Int} (h : PG sizes reach free left places sum) (he : places.length = sizes.length) : Fin' sizes reach free places sum := by
  refine ⟨he, by rw [← he]; exact h.su, fun i hi => h.me i (by omega), fun r h0 h1 => ?_⟩
  have h2 := h.us r h0 h1
  have h3 := at_all h.pi.lf (i := r) ⟨h0, by rw [h.ll]; exact h1⟩
  rw [← he]; omega
theorem PG.me_app {reach : List (List Int)} {places : List Int} {p : Int} (h : ∀ i : Nat, i < places.length → at' places i = -1 ∨ at' places i ∈ at' reach i) (hp : p = -1 ∨ p ∈ at' reach (places.length : Int)) : ∀ i : Nat, i < (places ++ [p]).length → at' (places ++ [p]) i = -1 ∨ at' (places ++ [p]) i ∈ at' reach i := fun i hi => by
  rw [List.length_append, List.length_cons, List.length_nil] at hi
  by_cases hl : i < places.length
  · rw [at_app hl]; exact h i hl
  · have : i = places.length := by omega
    subst this
    rw [at_app_last]; exact hp
theorem PG.next {sizes : List Int} {reach : List (List Int)} {free left places : List Int} {sum : Int} (h : PG sizes reach free left places sum) (hlt : places.length < sizes.length) {r : Int} (hr : r ∈ at' reach (places.length : Int)) (hn : at' sizes (places.length : Int) ≤ at' left r) :
    PG sizes reach free (put' left r (at' left r - at' sizes (places.length : Int))) (places ++ [r]) (sum + at' sizes (places.length : Int)) := by
  have ha := h.pi.at_ hlt hr
  refine ⟨h.pi.next hlt hr hn, by rw [put_len]; exact h.ll, fun q h0 h1 => ?_, ?_, PG.me_app h.me (.inr hr)⟩
  · rw [used_app]
    by_cases hq : r = q
    · subst hq
      rw [put_at ha.1, if_pos rfl, h.us r h0 h1]; omega
    · rw [put_at_ne ha.1.1 h0 hq, if_neg hq, h.us q h0 h1]; omega
  · rw [plac_app, if_pos ha.1.1, h.su]
theorem PG.skip {sizes : List Int} {reach : List (List Int)} {free left places : List Int} {sum : Int} (h : PG sizes reach free left places sum) (hlt : places.length < sizes.length) : PG sizes reach free left (places ++ [-1]) sum := by
  refine ⟨h.pi.skip hlt, h.ll, fun q h0 h1 => ?_, ?_, PG.me_app h.me (.inl rfl)⟩
  · rw [used_app, if_neg (by omega), h.us q h0 h1]; omega
  · rw [plac_app, if_neg (by omega), ← h.su]; omega
def QF (sizes : List Int) (reach : List (List Int)) (free : List Int) (st : Pst) : Prop := (st.most = -1 ∧ st.best = []) ∨ Fin' sizes reach free st.best st.most
theorem pnode_Q {sizes : List Int} {reach : List (List Int)} {free : List Int} {B : Int} {st : Pst} {bound sum : Int} {k : Pst → Pst} (h : QF sizes reach free st) (hk : ∀ s, QF sizes reach free s → QF sizes reach free (k s) ∧ ((k s).full = false → sum ≤ (k s).most)) (hb : sum ≤ bound) :
    QF sizes reach free (pnode B st bound k) ∧ ((pnode B st bound k).full = false → sum ≤ (pnode B st bound k).most) := by
  unfold pnode
  split
  · exact ⟨h, fun _ => by omega⟩
  · split
    · rename_i hf; exact ⟨h, fun h1 => by rw [hf] at h1; exact absurd h1 (by simp)⟩
    · split
      · exact ⟨h, fun h1 => absurd h1 (by simp)⟩
      · exact hk _ h
theorem fold_Q {sizes : List Int} {reach : List (List Int)} {free : List Int} {B : Int} {left : List Int} {n rest sum : Int} {k : List Int → Int → Pst → Pst} (hb : sum ≤ sum + n + rest) : ∀ (L : List Int) (st : Pst), (∀ r ∈ L, ∀ s, n ≤ at' left r → QF sizes reach free s → QF sizes reach free (k (put' left r (at' left r - n)) r s) ∧ ((k (put' left r (at' left r - n)) r s).full = false → sum ≤ (k (put' left r (at' left r - n)) r s).most)) → QF sizes reach free st → QF sizes reach free (L.foldl (pstep B left n rest sum k) st)
  | [], _, _, h => h
  | r :: L, st, hk, h => by
    rw [List.foldl_cons]
    refine fold_Q hb L _ (fun r' hr' => hk r' (List.mem_cons_of_mem _ hr')) ?_
    unfold pstep
    split
    · exact h
    · rename_i hn
      exact (pnode_Q h (fun s hs => hk r List.mem_cons_self s (by omega) hs) hb).1
theorem psrch_Q {sizes : List Int} {reach : List (List Int)} {free : List Int} {B : Int} : ∀ (f : Nat) (left places : List Int) (sum : Int) (st : Pst), PG sizes reach free left places sum → sizes.length - places.length < f → QF sizes reach free st →
    QF sizes reach free (psrch sizes reach B f left places sum st) ∧ ((psrch sizes reach B f left places sum st).full = false → sum ≤ (psrch sizes reach B f left places sum st).most)
  | 0, _, _, _, _, _, hf, _ => by omega
  | f + 1, left, places, sum, st, h, hf, hQ => by
    rw [psrch]
    have hpl := h.pi.pl
    split
    · rename_i he
      exact ⟨.inr (h.fin he), fun _ => Int.le_refl _⟩
    · rename_i he
      have hlt : places.length < sizes.length := by omega
      have hg := h.pi.rng (places.length + 1)
      have hz := at_all h.pi.sz (i := (places.length : Int)) ⟨by omega, by omega⟩
      have hla : ∀ x : Int, (places ++ [x]).length = places.length + 1 := fun x => by simp
      refine pnode_Q (fold_Q (by omega) _ _ (fun r hr s hn hs => ?_) hQ) (fun s hs => psrch_Q f left _ sum s (h.skip hlt) (by rw [hla]; omega) hs) (by omega)
      have h2 := psrch_Q (B := B) f _ _ _ s (h.next hlt hr hn) (by rw [hla]; omega) hs
      exact ⟨h2.1, fun h3 => by have := h2.2 h3; omega⟩
theorem PG.start {sizes : List Int} {reach : List (List Int)} {free : List Int} (h : PI sizes reach free [] 0) : PG sizes reach free free [] 0 :=
  ⟨h, rfl, fun r _ _ => by simp [accN], by simp [accN], fun i hi => by simp at hi⟩
theorem psrch_fin {sizes : List Int} {reach : List (List Int)} {free : List Int} {B : Int} (h : PI sizes reach free [] 0) {f : Nat} (hf : sizes.length < f) (hF : (psrch sizes reach B f free [] 0 ⟨[], -1, 0, false⟩).full = false) : Fin' sizes reach free (psrch sizes reach B f free [] 0 ⟨[], -1, 0, false⟩).best (psrch sizes reach B f free [] 0 ⟨[], -1, 0, false⟩).most := by
  have h1 := psrch_Q (B := B) f free [] 0 ⟨[], -1, 0, false⟩ (PG.start h) (by simpa using hf) (.inl ⟨rfl, rfl⟩)
  have h2 := h1.2 hF
  rcases h1.1 with h3 | h3
  · omega
  · exact h3

end Go.Proofs.YtibbfdojcdkopaaGreat
