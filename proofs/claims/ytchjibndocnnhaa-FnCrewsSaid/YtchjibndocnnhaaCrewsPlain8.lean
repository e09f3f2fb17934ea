/-
  PLAIN LAWS about the models: no program in sight. Conditions: as each theorem states them.
-/
import Derived.Test.YtchjibndocnnhaaCrewsPlain7
set_option linter.unusedVariables false
set_option linter.unusedSimpArgs false
set_option linter.unusedSectionVars false
set_option linter.unnecessarySimpa false
namespace Go.Proofs.Ytchjibndocnnhaa
open Go Go.RowKit Go.Proofs Go.Proofs.Ytchjibndocnnhaa.E
/-! ## A mine that is drawn is valid -/
def names8 : List (List UInt8) := [([97] : List UInt8), ([98] : List UInt8), ([99] : List UInt8), ([100] : List UInt8), ([101] : List UInt8), ([102] : List UInt8), ([103] : List UInt8), ([104] : List UInt8)]
theorem names8_up : ∀ k : Nat, k < 8 → ∀ q : Nat, q < k → strB .leq (at' names8 (k : Int)) (at' names8 (q : Int)) = false := by decide
theorem names8_ok : ∀ k : Nat, k < 8 → m_impl_IsName (at' names8 (k : Int)) = true := by decide
def AirOk (J : Int) (a : gAirway) : Prop := AirIn J a ∧ m_impl_ValidAirway a = true
structure GoodA (J : Int) (A : List gAirway) (k : Int) : Prop where
  len : (A.length : Int) ≤ k
  ok : ∀ a ∈ A, AirOk J a
  nm : ∀ j : Nat, j < A.length → ∃ q : Nat, (q : Int) < k ∧ (at' A j).Id = at' names8 (q : Int)
  up : ∀ j : Nat, j < A.length → 0 < j → strB .leq (at' A j).Id (at' A ((j : Int) - 1)).Id = false
theorem GoodA.nil {J : Int} : GoodA J [] 0 := ⟨by simp, fun a h => by simp at h, fun j h => by simp at h, fun j h => by simp at h⟩
theorem GoodA.skip {J : Int} {A : List gAirway} {k : Int} (h : GoodA J A k) : GoodA J A (k + 1) :=
  ⟨by have := h.len; omega, h.ok, fun j hj => by obtain ⟨q, h1, h2⟩ := h.nm j hj; exact ⟨q, by omega, h2⟩, h.up⟩
theorem at_app {α : Type} [Inhabited α] {A : List α} {x : α} {j : Nat} (h : j < A.length) : at' (A ++ [x]) (j : Int) = at' A (j : Int) := by
  simp only [at', List.getD_eq_getElem?_getD, Int.toNat_natCast]; rw [List.getElem?_append_left h]
theorem at_app_last {α : Type} [Inhabited α] {A : List α} {x : α} : at' (A ++ [x]) (A.length : Int) = x := by
  simp [at', List.getD_eq_getElem?_getD]
theorem GoodA.add {J : Int} {A : List gAirway} {k : Int} (h : GoodA J A k) (h0 : 0 ≤ k) (h8 : k < 8) {a : gAirway} (ha : AirOk J a) (hid : a.Id = at' names8 k) : GoodA J (A ++ [a]) (k + 1) := by
  refine ⟨by have := h.len; simp; omega, fun y hy => ?_, fun j hj => ?_, fun j hj hj0 => ?_⟩
  · rcases List.mem_append.1 hy with h1 | h1
    · exact h.ok y h1
    · rw [List.mem_singleton.1 h1]; exact ha
  · rw [List.length_append, List.length_singleton] at hj
    by_cases e : j = A.length
    · subst e; rw [at_app_last]
      exact ⟨k.toNat, by omega, by rw [hid]; congr 1; omega⟩
    · rw [at_app (by omega)]
      obtain ⟨q, h1, h2⟩ := h.nm j (by omega)
      exact ⟨q, by omega, h2⟩
  · rw [List.length_append, List.length_singleton] at hj
    by_cases e : j = A.length
    · subst e
      rw [at_app_last, show ((A.length : Int) - 1) = ((A.length - 1 : Nat) : Int) by omega, at_app (by omega)]
      obtain ⟨q, h1, h2⟩ := h.nm (A.length - 1) (by omega)
      rw [h2, hid]
      have := names8_up k.toNat (by omega) q (by omega)
      rwa [show ((k.toNat : Nat) : Int) = k by omega] at this
    · rw [at_app (by omega), show ((j : Int) - 1) = ((j - 1 : Nat) : Int) by omega, at_app (by omega)]
      have := h.up j (by omega) hj0
      rwa [show ((j : Int) - 1) = ((j - 1 : Nat) : Int) by omega] at this
theorem draw3_ok {s : gl00Src} {n J k f t : Int} (h : Lim s n) (hJ : 2 ≤ J ∧ J ≤ 6) (hk : 0 ≤ k ∧ k < 8) (hf : 0 ≤ f ∧ f < J) (ht : 0 ≤ t ∧ t < J) (hft : f ≠ t) : AirOk J (m_spec_l03DrawOk s (at' names8 k) f t).1 ∧ (m_spec_l03DrawOk s (at' names8 k) f t).1.Id = at' names8 k := by
  have a1 := h.num (k := 900)
  have a2 := h.pick.num (k := 1500) (s := (m_spec_l00Src_pick s 900).2)
  have h2 : Lim (m_spec_l00Src_pick s 900).2 (n + 2) := h.pick
  have h3 : Lim (m_spec_l00Src_pick (m_spec_l00Src_pick s 900).2 1500).2 (n + 2 + 2) := h2.pick
  have h4 : Lim (m_spec_l00Src_pick (m_spec_l00Src_pick (m_spec_l00Src_pick s 900).2 1500).2 200).2 (n + 2 + 2 + 2) := h3.pick
  have a3 := h3.num (k := 200)
  have a4 := h4.num (k := 60)
  refine ⟨?_, rfl⟩
  simp only [m_spec_l03DrawOk]
  generalize (m_spec_l00Src_pick s 900).1 = v1 at a1 ⊢
  generalize (m_spec_l00Src_pick (m_spec_l00Src_pick s 900).2 1500).1 = v2 at a2 ⊢
  generalize (m_spec_l00Src_pick (m_spec_l00Src_pick (m_spec_l00Src_pick s 900).2 1500).2 200).1 = v3 at a3 ⊢
  generalize (m_spec_l00Src_pick (m_spec_l00Src_pick (m_spec_l00Src_pick (m_spec_l00Src_pick s 900).2 1500).2 200).2 60).1 = v4 at a4 ⊢
  have b1 := a1.2 (by omega); have b2 := a2.2 (by omega); have b3 := a3.2 (by omega); have b4 := a4.2 (by omega)
  rw [wr64 (n := 20 + v1) (by omega), wr64 (n := 300 + v2) (by omega), wr64 (n := 20 + v3) (by omega)]
  refine ⟨by unfold AirIn; simp only; omega, ?_⟩
  have hn := names8_ok k.toNat (by omega)
  rw [show ((k.toNat : Nat) : Int) = k by omega] at hn
  simp only [m_impl_ValidAirway, hn, m_impl_junctionOk, m_impl_within, Bool.and_eq_true, decide_eq_true_eq, Bool.true_and, bne_iff_ne, ne_eq]
  omega
structure GoodM (m : gMine) : Prop where
  J : 2 ≤ m.Junctions ∧ m.Junctions ≤ 6
  A : GoodA m.Junctions m.Airways 8
theorem GoodM.bif {c : Bool} {a b : gMine × gl00Src} (h1 : GoodM a.1) (h2 : GoodM b.1) : GoodM (bif c then a else b).1 := by cases c <;> assumption
theorem to_ne {f p J : Int} (hJ : 2 ≤ J ∧ J ≤ 6) (hf : 0 ≤ f ∧ f < J) (hp : 0 ≤ p ∧ p < J - 1) : (0 ≤ Int.tmod (IntKind.wrap .i64 ((IntKind.wrap .i64 (f + 1)) + p)) J ∧ Int.tmod (IntKind.wrap .i64 ((IntKind.wrap .i64 (f + 1)) + p)) J < J) ∧ f ≠ Int.tmod (IntKind.wrap .i64 ((IntKind.wrap .i64 (f + 1)) + p)) J := by
  rw [wr64 (n := f + 1) (by omega), wr64 (by omega), Int.tmod_eq_emod_of_nonneg (by omega)]
  have h1 : (f + 1 + p) % J = if f + 1 + p < J then f + 1 + p else f + 1 + p - J := by
    split
    · exact Int.emod_eq_of_lt (by omega) (by assumption)
    · have e : f + 1 + p = (f + 1 + p - J) + J * 1 := by omega
      have e2 : ((f + 1 + p - J) + J * 1) % J = (f + 1 + p - J) % J := Int.add_mul_emod_self_left ..
      rw [← e] at e2; rw [e2]; exact Int.emod_eq_of_lt (by omega) (by omega)
  rw [h1]; split <;> omega
theorem draw4_good {s : gl00Src} {n : Int} (h : Lim s n) : GoodM (m_spec_l04DrawOk s).1 := by
  have hp := h.num (k := 5)
  have hp2 := hp.2 (by omega)
  have hJw : IntKind.wrap .i64 (2 + (m_spec_l00Src_pick s 5).1) = 2 + (m_spec_l00Src_pick s 5).1 := wr64 (by omega)
  generalize hJ : 2 + (m_spec_l00Src_pick s 5).1 = J at hJw
  have hJr : 2 ≤ J ∧ J ≤ 6 := by omega
  have hJw2 : IntKind.wrap .i64 (J - 1) = J - 1 := wr64 (by omega)
  simp only [m_spec_l04DrawOk]
  rw [hJ, hJw]
  refine LOOP_post (fun (x : (List Int) × Int × Int × Int × (List gAirway)) => ((0 ≤ x.2.2.2.1 ∧ x.2.2.2.1 ≤ 8) ∧ GoodA J x.2.2.2.2 x.2.2.2.1) ∧ Lim (gl00Src.mk x.1 x.2.1 x.2.2.1) (n + 2 + 20 * x.2.2.2.1)) (fun x => (8 - x.2.2.2.1).toNat) (fun _ (r : gMine × gl00Src) => GoodM r.1) (fun rec x hI ih => ?_) _ _ ⟨⟨by simp, GoodA.nil⟩, h.pick.mono (by simp)⟩ (by simp)
  obtain ⟨c, a, sd, k, A⟩ := x
  obtain ⟨⟨⟨h0, h1⟩, hG⟩, hL⟩ := hI
  simp only at h0 h1 hG hL
  simp only [m_spec_l04DrawOk_b1, JN, hJ, hJw, hJw2]
  rw [show ([([97] : List UInt8), ([98] : List UInt8), ([99] : List UInt8), ([100] : List UInt8), ([101] : List UInt8), ([102] : List UInt8), ([103] : List UInt8), ([104] : List UInt8)] : List (List UInt8)) = names8 from rfl, show ((names8.length : Nat) : Int) = 8 from rfl]
  by_cases hk : k < 8
  · simp only [hk, decide_true, Bool.cond_true]
    have go : ∀ (S : gl00Src) (B : List gAirway), GoodA J B (k + 1) → Lim S (n + 2 + 20 * (k + 1)) → GoodM (rec (S.code, S.at_, S.seed, k + 1, B)).1 := fun S B hB hS => ih _ ⟨⟨by simp only; omega, hB⟩, hS⟩ (by simp only; omega)
    have l1 := hL.one (k := 5)
    refine GoodM.bif (go _ _ hG.skip (l1.mono (by omega))) ?_
    have step : ∀ (S : gl00Src) (f t : Int), Lim S (n + 2 + 20 * k + 10) → (0 ≤ f ∧ f < J) → (0 ≤ t ∧ t < J) → f ≠ t → GoodM (rec ((m_spec_l03DrawOk S (at' names8 k) f t).2.code, (m_spec_l03DrawOk S (at' names8 k) f t).2.at_, (m_spec_l03DrawOk S (at' names8 k) f t).2.seed, k + 1, A ++ ([(m_spec_l03DrawOk S (at' names8 k) f t).1] : List gAirway))).1 := fun S f t hS hf ht hft => by
      have hd := draw3_ok hS hJr (k := k) (by omega) hf ht hft
      exact go _ _ (hG.add h0 hk hd.1 hd.2) ((Lim.draw3 hS).mono (by omega))
    have two : ∀ (c' : List Int) (a' s' f : Int), Lim (gl00Src.mk c' a' s') (n + 2 + 20 * k + 6) → (0 ≤ f ∧ f < J) → GoodM (bif (decide (k < J - 1)) && (!(m_spec_l00Src_one (m_spec_l00Src_pick (gl00Src.mk c' a' s') (J - 1)).2 4).1) then rec ((m_spec_l03DrawOk (bif (decide (k < J - 1)) then (m_spec_l00Src_one (m_spec_l00Src_pick (gl00Src.mk c' a' s') (J - 1)).2 4).2 else (m_spec_l00Src_pick (gl00Src.mk c' a' s') (J - 1)).2) (at' names8 k) k (k + 1)).2.code, (m_spec_l03DrawOk (bif (decide (k < J - 1)) then (m_spec_l00Src_one (m_spec_l00Src_pick (gl00Src.mk c' a' s') (J - 1)).2 4).2 else (m_spec_l00Src_pick (gl00Src.mk c' a' s') (J - 1)).2) (at' names8 k) k (k + 1)).2.at_, (m_spec_l03DrawOk (bif (decide (k < J - 1)) then (m_spec_l00Src_one (m_spec_l00Src_pick (gl00Src.mk c' a' s') (J - 1)).2 4).2 else (m_spec_l00Src_pick (gl00Src.mk c' a' s') (J - 1)).2) (at' names8 k) k (k + 1)).2.seed, k + 1, A ++ ([(m_spec_l03DrawOk (bif (decide (k < J - 1)) then (m_spec_l00Src_one (m_spec_l00Src_pick (gl00Src.mk c' a' s') (J - 1)).2 4).2 else (m_spec_l00Src_pick (gl00Src.mk c' a' s') (J - 1)).2) (at' names8 k) k (k + 1)).1] : List gAirway)) else rec ((m_spec_l03DrawOk (bif (decide (k < J - 1)) then (m_spec_l00Src_one (m_spec_l00Src_pick (gl00Src.mk c' a' s') (J - 1)).2 4).2 else (m_spec_l00Src_pick (gl00Src.mk c' a' s') (J - 1)).2) (at' names8 k) f (Int.tmod (IntKind.wrap .i64 ((IntKind.wrap .i64 (f + 1)) + (m_spec_l00Src_pick (gl00Src.mk c' a' s') (J - 1)).1)) J)).2.code, (m_spec_l03DrawOk (bif (decide (k < J - 1)) then (m_spec_l00Src_one (m_spec_l00Src_pick (gl00Src.mk c' a' s') (J - 1)).2 4).2 else (m_spec_l00Src_pick (gl00Src.mk c' a' s') (J - 1)).2) (at' names8 k) f (Int.tmod (IntKind.wrap .i64 ((IntKind.wrap .i64 (f + 1)) + (m_spec_l00Src_pick (gl00Src.mk c' a' s') (J - 1)).1)) J)).2.at_, (m_spec_l03DrawOk (bif (decide (k < J - 1)) then (m_spec_l00Src_one (m_spec_l00Src_pick (gl00Src.mk c' a' s') (J - 1)).2 4).2 else (m_spec_l00Src_pick (gl00Src.mk c' a' s') (J - 1)).2) (at' names8 k) f (Int.tmod (IntKind.wrap .i64 ((IntKind.wrap .i64 (f + 1)) + (m_spec_l00Src_pick (gl00Src.mk c' a' s') (J - 1)).1)) J)).2.seed, k + 1, A ++ ([(m_spec_l03DrawOk (bif (decide (k < J - 1)) then (m_spec_l00Src_one (m_spec_l00Src_pick (gl00Src.mk c' a' s') (J - 1)).2 4).2 else (m_spec_l00Src_pick (gl00Src.mk c' a' s') (J - 1)).2) (at' names8 k) f (Int.tmod (IntKind.wrap .i64 ((IntKind.wrap .i64 (f + 1)) + (m_spec_l00Src_pick (gl00Src.mk c' a' s') (J - 1)).1)) J)).1] : List gAirway))).1 := fun c' a' s' f hS hf => by
      have hq := hS.num (k := J - 1)
      have hq2 := hq.2 (by omega)
      have hne := to_ne hJr hf ⟨hq.1, hq2⟩
      have hSS := (Lim.bif1 (c := decide (k < J - 1)) (k := 4) (hS.pick (k := J - 1))).mono (m := n + 2 + 20 * k + 10) (by omega)
      by_cases hkJ : k < J - 1
      · simp only [hkJ, decide_true, Bool.true_and, Bool.cond_true] at hSS ⊢
        exact GoodM.bif (step _ _ _ hSS (by omega) (by omega) (by omega)) (step _ _ _ hSS hf hne.1 hne.2)
      · simp only [hkJ, decide_false, Bool.false_and, Bool.cond_false] at hSS ⊢
        exact step _ _ _ hSS hf hne.1 hne.2
    have hmod : 0 ≤ Int.tmod k J ∧ Int.tmod k J < J := by
      rw [Int.tmod_eq_emod_of_nonneg h0]
      exact ⟨Int.emod_nonneg _ (by omega), Int.emod_lt_of_pos _ (by omega)⟩
    refine GoodM.bif ?_ ?_
    · have hf := (l1.one (k := 2)).num (k := J)
      exact two _ _ _ _ ((l1.one.pick).mono (by omega)) ⟨hf.1, hf.2 (by omega)⟩
    · exact two _ _ _ _ ((l1.one).mono (by omega)) hmod
  · simp only [hk, decide_false, Bool.cond_false]
    exact ⟨hJr, ⟨by have := hG.len; simp only; omega, hG.ok, fun j hj => by obtain ⟨q, q1, q2⟩ := hG.nm j hj; exact ⟨q, by omega, q2⟩, hG.up⟩⟩
theorem GoodM.mine {m : gMine} (h : GoodM m) : MineIn m := ⟨by have := h.J; omega, by have := h.A.len; omega, fun a ha => (h.A.ok a ha).1⟩
theorem GoodM.valid {m : gMine} (h : GoodM m) : m_impl_ValidMine m = true := by
  have hJ := h.J
  have hl := h.A.len
  have h1 := LOOP_all (b := m_impl_ValidMine_b1 m) (n := m.Airways.length) (fun rec k i _ => rfl) (k := fun _ => true) (((m.Airways.length : Int) - 0 : Int).toNat + 1) 0 (by omega) (by omega) (by omega)
  have hc : ((!(m_impl_within m.Junctions 1 16)) || (decide (24 < (m.Airways.length : Int)))) = false := by
    simp [m_impl_within]; omega
  simp only [m_impl_ValidMine, hc, Bool.cond_false]
  rw [h1]
  refine ⟨fun j _ hj => ?_, rfl⟩
  have ha := at_all h.A.ok (i := (j : Int)) ⟨by omega, by omega⟩
  have hup := h.A.up j hj
  obtain ⟨ha1, ha2⟩ := ha
  unfold AirIn at ha1
  have he : m_impl_Mine_hasEnds m (at' m.Airways j) = true := by
    simp only [m_impl_Mine_hasEnds, m_impl_Mine_hasJunction, m_impl_within, Bool.and_eq_true, decide_eq_true_eq]
    rw [wr64 (by omega)]; omega
  rw [ha2, he]
  by_cases h0 : 0 < j
  · rw [hup h0]; simp
  · have : j = 0 := by omega
    subst this; simp

end Go.Proofs.Ytchjibndocnnhaa
