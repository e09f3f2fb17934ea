/-
  PLAIN LAWS about the models: no program in sight. Conditions: as each theorem states them.
-/
import Derived.Test.YtpkkmkbafdadoaaExactFirstStartPlain3
set_option linter.unusedVariables false
set_option linter.unusedSimpArgs false
set_option linter.unusedSectionVars false
set_option linter.unnecessarySimpa false
namespace Go.Proofs.Ytpkkmkbafdadoaa
open Go Go.RowKit Go.Proofs Go.Proofs.Ytpkkmkbafdadoaa.E
/-! ## FirstStart: a step at a time and a jump at a time come to the same minute -/
theorem other_eq (a : gAirway) (j : Int) : (m_impl_Airway_other a j).2 = (j == a.From || j == a.To) := by
  simp only [m_impl_Airway_other]
  cases h1 : j == a.From <;> cases h2 : j == a.To <;> simp
theorem kinds_eq {a b : Int} {same : Bool} (ha : m_spec_l00In a 1 4 = true) (hb : m_spec_l00In b 1 4 = true) : m_impl_KindsClash a b same = m_spec_l26Kinds (m_spec_l00Min b a) (m_spec_l00Max b a) same := by
  simp only [m_spec_l00In, Bool.and_eq_true, decide_eq_true_eq] at ha hb
  have h1 : a = 1 ∨ a = 2 ∨ a = 3 ∨ a = 4 := by omega
  have h2 : b = 1 ∨ b = 2 ∨ b = 3 ∨ b = 4 := by omega
  rcases h1 with h1 | h1 | h1 | h1 <;> rcases h2 with h2 | h2 | h2 | h2 <;> subst h1 <;> subst h2 <;> cases same <;> decide
theorem clash_eq {m : gMine} {x y : gPermit} (hx : m_spec_l00In x.Kind 1 4 = true) (hy : m_spec_l00In y.Kind 1 4 = true) : m_impl_Mine_clash m x y = m_spec_l26Clash m y x := by
  simp only [m_impl_Mine_clash, m_spec_l26Clash, other_eq, kinds_eq hx hy]
  have e : (x.Airway == y.Airway) = (y.Airway == x.Airway) := by rw [Bool.eq_iff_iff]; simp; exact eq_comm
  rw [e]
  generalize at' m.Airways x.Airway = a
  generalize at' m.Airways y.Airway = b
  have e2 : (((a.From == b.From || a.From == b.To) || (a.To == b.From || a.To == b.To)) = true) ↔ ((((b.From == a.From || b.From == a.To) || b.To == a.From) || b.To == a.To) = true) := by
    simp only [Bool.or_eq_true, beq_iff_eq]; omega
  rw [← Bool.eq_iff_iff] at e2
  rw [e2]
  have e3 : (decide (y.Until ≤ x.From) || decide (x.Until ≤ y.From)) = (decide (x.Until ≤ y.From) || decide (y.Until ≤ x.From)) := Bool.or_comm ..
  rw [e3]

section
variable (m : gMine) (list : List gPermit) (x : gPermit)
def atT (t : Int) : gPermit := gPermit.mk x.Id x.Kind x.Airway t (t + (x.Until - x.From))
def cl (t : Int) : Bool := m_impl_Mine_clashesWith m (atT x t) list
def kF : (Int × Int) → (Int × Int) := fun x1 => ((m_impl_orNotFound x1.1 (decide (x1.2 ≤ 100000))).1, (m_impl_orNotFound x1.1 (decide (x1.2 ≤ 100000))).2)
def G (t : Int) : Int × Int := LOOP (m_impl_FirstStart_b1 m list x) kF ((100000 - t).toNat + 1) (t, t + (x.Until - x.From))
variable {m list x}
theorem cl_lt (hp : PmIn m.Airways.length list) {t : Int} (h : cl m list x t = true) : t < 100000 := clashesWith_lt (x := atT x t) hp h
theorem G_fuel (hp : PmIn m.Airways.length list) (hx : 0 ≤ x.From ∧ x.From < x.Until ∧ x.Until ≤ 100000) : ∀ (f : Nat) (t : Int), 0 ≤ t → t ≤ 100000 → (100000 - t).toNat < f → LOOP (m_impl_FirstStart_b1 m list x) kF f (t, t + (x.Until - x.From)) = G m list x t := by
  have key : ∀ (n f1 f2 : Nat) (t : Int), 0 ≤ t → t ≤ 100000 → (100000 - t).toNat ≤ n → (100000 - t).toNat < f1 → (100000 - t).toNat < f2 → LOOP (m_impl_FirstStart_b1 m list x) kF f1 (t, t + (x.Until - x.From)) = LOOP (m_impl_FirstStart_b1 m list x) kF f2 (t, t + (x.Until - x.From)) := by
    intro n
    induction n with
    | zero =>
      intro f1 f2 t h0 h1 hn h2 h3
      obtain ⟨g1, rfl⟩ : ∃ g, f1 = g + 1 := ⟨f1 - 1, by omega⟩
      obtain ⟨g2, rfl⟩ : ∃ g, f2 = g + 1 := ⟨f2 - 1, by omega⟩
      simp only [LOOP, m_impl_FirstStart_b1]
      have : cl m list x t = false := by
        cases hc : cl m list x t with
        | false => rfl
        | true => have := cl_lt hp hc; omega
      have h' : m_impl_Mine_clashesWith m (gPermit.mk x.Id x.Kind x.Airway t (t + (x.Until - x.From))) list = false := this
      rw [h']
      rfl
    | succ n ih =>
      intro f1 f2 t h0 h1 hn h2 h3
      obtain ⟨g1, rfl⟩ : ∃ g, f1 = g + 1 := ⟨f1 - 1, by omega⟩
      obtain ⟨g2, rfl⟩ : ∃ g, f2 = g + 1 := ⟨f2 - 1, by omega⟩
      simp only [LOOP, m_impl_FirstStart_b1]
      cases h' : m_impl_Mine_clashesWith m (gPermit.mk x.Id x.Kind x.Airway t (t + (x.Until - x.From))) list with
      | false => rfl
      | true =>
        have hlt : t < 100000 := cl_lt (x := x) hp h'
        simp only [Bool.cond_true]
        rw [show t + (x.Until - x.From) + 1 = (t + 1) + (x.Until - x.From) by omega]
        exact ih g1 g2 (t + 1) (by omega) (by omega) (by omega) (by omega) (by omega)
  intro f t h0 h1 hf
  exact key _ _ _ t h0 h1 (Nat.le_refl _) hf (by omega)
theorem G_step (hp : PmIn m.Airways.length list) (hx : 0 ≤ x.From ∧ x.From < x.Until ∧ x.Until ≤ 100000) {t : Int} (h0 : 0 ≤ t) (h1 : t ≤ 100000) : G m list x t = bif cl m list x t then G m list x (t + 1) else kF (t, t + (x.Until - x.From)) := by
  cases hc : cl m list x t with
  | true =>
    have hlt := cl_lt hp hc
    have h' : m_impl_Mine_clashesWith m (gPermit.mk x.Id x.Kind x.Airway t (t + (x.Until - x.From))) list = true := hc
    show LOOP _ _ _ _ = _
    simp only [LOOP, m_impl_FirstStart_b1, h', Bool.cond_true]
    rw [show t + (x.Until - x.From) + 1 = (t + 1) + (x.Until - x.From) by omega]
    exact G_fuel hp hx _ (t + 1) (by omega) (by omega) (by omega)
  | false =>
    have h' : m_impl_Mine_clashesWith m (gPermit.mk x.Id x.Kind x.Airway t (t + (x.Until - x.From))) list = false := hc
    show LOOP _ _ _ _ = _
    simp only [LOOP, m_impl_FirstStart_b1, h', Bool.cond_false]
theorem G_jump (hp : PmIn m.Airways.length list) (hx : 0 ≤ x.From ∧ x.From < x.Until ∧ x.Until ≤ 100000) : ∀ (n : Nat) (t : Int), 0 ≤ t → t + n ≤ 100000 → (∀ s, t ≤ s → s < t + n → cl m list x s = true) → G m list x t = G m list x (t + n)
  | 0, t, _, _, _ => by simp
  | n + 1, t, h0, h1, h => by
    rw [G_step hp hx h0 (by omega), h t (by omega) (by omega), Bool.cond_true, G_jump hp hx n (t + 1) (by omega) (by omega) (fun s h2 h3 => h s (by omega) (by omega))]
    congr 1; omega
theorem G_late (hp : PmIn m.Airways.length list) (hx : 0 ≤ x.From ∧ x.From < x.Until ∧ x.Until ≤ 100000) : ∀ (n : Nat) (t : Int), 0 ≤ t → t ≤ 100000 → (100000 - t).toNat ≤ n → 100000 < t + (x.Until - x.From) → G m list x t = (0, 3)
  | 0, t, h0, h1, hn, h => by
    rw [G_step hp hx h0 h1]
    cases hc : cl m list x t with
    | true => have := cl_lt hp hc; omega
    | false =>
      have hn : ¬ (t + (x.Until - x.From) ≤ 100000) := by omega
      simp [kF, m_impl_orNotFound, hn]
  | n + 1, t, h0, h1, hn, h => by
    rw [G_step hp hx h0 h1]
    cases hc : cl m list x t with
    | true =>
      have := cl_lt hp hc
      simp only [Bool.cond_true]
      exact G_late hp hx n (t + 1) (by omega) (by omega) (by omega) (by omega)
    | false =>
      have hn : ¬ (t + (x.Until - x.From) ≤ 100000) := by omega
      simp [kF, m_impl_orNotFound, hn]
/-- the inner loop of the reference: an end of a permit that clashes, or none does -/
theorem next_spec (rec1 k1 : (Int × Int) → (Int × Int)) (t u : Int) (K : (Int × Int) → (Int × Int)) : ∀ (f : Nat) (nx i : Int), 0 ≤ i → i ≤ list.length → ((list.length : Int) - i).toNat < f →
    ∃ nx' : Int, LOOP (m_spec_FirstStart_b2 m list x rec1 k1 (t, u)) K f (nx, i) = K (nx', list.length) ∧
      ((nx' = nx ∧ (nx < 0 → ∀ j : Nat, i ≤ j → j < list.length → m_spec_l26Clash m (at' list j) (gPermit.mk x.Id x.Kind x.Airway t u) = false)) ∨ ∃ j : Nat, i ≤ j ∧ j < list.length ∧ m_spec_l26Clash m (at' list j) (gPermit.mk x.Id x.Kind x.Airway t u) = true ∧ nx' = (at' list j).Until)
  | 0, nx, i, _, _, h => by omega
  | f + 1, nx, i, h0, hn, hf => by
    simp only [LOOP, m_spec_FirstStart_b2]
    by_cases hi : i < (list.length : Int)
    · simp only [hi, decide_true, Bool.cond_true]
      have hii : ((i.toNat : Nat) : Int) = i := by omega
      cases hb : (m_spec_l26Clash m (at' list i) (gPermit.mk x.Id x.Kind x.Airway t u) && (decide (nx < 0) || decide ((at' list i).Until < nx))) with
      | true =>
        simp only [Bool.cond_true]
        simp only [Bool.and_eq_true] at hb
        obtain ⟨nx', h1, h2⟩ := next_spec rec1 k1 t u K f (at' list i).Until (i + 1) (by omega) (by omega) (by omega)
        refine ⟨nx', h1, .inr ?_⟩
        rcases h2 with ⟨h2, _⟩ | ⟨j, h3, h4, h5, h6⟩
        · exact ⟨i.toNat, by omega, by omega, by rw [hii]; exact hb.1, by rw [hii]; exact h2⟩
        · exact ⟨j, by omega, h4, h5, h6⟩
      | false =>
        simp only [Bool.cond_false]
        obtain ⟨nx', h1, h2⟩ := next_spec rec1 k1 t u K f nx (i + 1) (by omega) (by omega) (by omega)
        refine ⟨nx', h1, ?_⟩
        rcases h2 with ⟨h2, h3⟩ | ⟨j, h3, h4, h5, h6⟩
        · refine .inl ⟨h2, fun hneg j hj hjn => ?_⟩
          by_cases e : (j : Int) = i
          · rw [e]
            simp only [hneg, decide_true, Bool.true_or, Bool.and_true] at hb
            exact hb
          · exact h3 hneg j (by omega) hjn
        · exact .inr ⟨j, by omega, h4, h5, h6⟩
    · simp only [hi, decide_false, Bool.cond_false]
      have : i = list.length := by omega
      subst this
      exact ⟨nx, rfl, .inl ⟨rfl, fun _ j hj hjn => by omega⟩⟩
def near (m : gMine) (x y : gPermit) : Bool := ((m_impl_Airway_other (at' m.Airways y.Airway) (at' m.Airways x.Airway).From).2 || (m_impl_Airway_other (at' m.Airways y.Airway) (at' m.Airways x.Airway).To).2) && (m_impl_KindsClash x.Kind y.Kind (x.Airway == y.Airway))
theorem clash_at (y : gPermit) (t : Int) : m_impl_Mine_clash m (atT x t) y = bif (decide (y.Until ≤ t)) || (decide (t + (x.Until - x.From) ≤ y.From)) then false else near m x y := rfl
theorem clash_stays {y : gPermit} {t s : Int} (hts : t ≤ s) (hs : s < y.Until) (h : m_impl_Mine_clash m (atT x t) y = true) : m_impl_Mine_clash m (atT x s) y = true := by
  have h1 := clash_imp h
  simp only [atT] at h1
  rw [clash_at] at h ⊢
  have e1 : (decide (y.Until ≤ t) || decide (t + (x.Until - x.From) ≤ y.From)) = false := by simp; omega
  have e2 : (decide (y.Until ≤ s) || decide (s + (x.Until - x.From) ≤ y.From)) = false := by simp; omega
  rw [e1] at h; rw [e2]; exact h
theorem spec_G (hp : PmIn m.Airways.length list) (hx : 0 ≤ x.From ∧ x.From < x.Until ∧ x.Until ≤ 100000) (hk : m_spec_l00In x.Kind 1 4 = true) : ∀ (f : Nat) (t : Int), 0 ≤ t → t + (x.Until - x.From) ≤ 100000 → (100000 - t).toNat < f →
    LOOP (m_spec_FirstStart_b1 m list x) (fun _ => default) f (t, t + (x.Until - x.From)) = G m list x t
  | 0, t, _, _, h => by omega
  | f + 1, t, h0, h1, hf => by
    have ih := spec_G hp hx hk f
    simp only [LOOP]
    generalize LOOP (m_spec_FirstStart_b1 m list x) (fun _ => default) f = rec1 at ih ⊢
    simp only [m_spec_FirstStart_b1]
    obtain ⟨nx', e, h2⟩ := next_spec (m := m) (list := list) (x := x) rec1 (fun _ => default) t (t + (x.Until - x.From)) (fun (x2 : Int × Int) => bif decide (x2.1 < 0) then (t, 0) else bif decide (100000 < (IntKind.wrap .i64 (x2.1 + (IntKind.wrap .i64 (x.Until - x.From))))) then (0, 3) else rec1 (x2.1, IntKind.wrap .i64 (x2.1 + (IntKind.wrap .i64 (x.Until - x.From))))) (((list.length : Int) - 0 : Int).toNat + 1) (-1) 0 (by omega) (by omega) (by omega)
    rw [e]
    rcases h2 with ⟨h2, h3⟩ | ⟨j, h3, h4, h5, h6⟩
    · subst h2
      have hc : cl m list x t = false := by
        cases hc : cl m list x t with
        | false => rfl
        | true =>
          obtain ⟨y, hy, hcl⟩ := with_iff.1 hc
          obtain ⟨j, hj, e⟩ := List.mem_iff_getElem.1 hy
          have h := h3 (by omega) j (by omega) hj
          rw [clash_eq (x := atT x t) hk (hp y hy).2.2.2.2.2] at hcl
          rw [at_lt hj, e] at h
          rw [show (atT x t) = gPermit.mk x.Id x.Kind x.Airway t (t + (x.Until - x.From)) from rfl, h] at hcl
          simp at hcl
      rw [G_step hp hx h0 (by omega), hc]
      simp [kF, m_impl_orNotFound, h1]
    · have hm := at_mem (xs := list) (i := (j : Int)) ⟨by omega, by omega⟩
      have hy := hp _ hm
      have hcl : m_impl_Mine_clash m (atT x t) (at' list j) = true := by
        rw [clash_eq (x := atT x t) hk hy.2.2.2.2.2]; exact h5
      have hlt := clash_imp hcl
      simp only [atT] at hlt
      have hg : G m list x t = G m list x (at' list j).Until := by
        have := G_jump hp hx ((at' list j).Until - t).toNat t h0 (by omega) (fun s hs1 hs2 => with_iff.2 ⟨_, hm, clash_stays hs1 (by omega) hcl⟩)
        rw [this]; congr 1; omega
      subst h6
      have hneg : ¬ (at' list j).Until < 0 := by omega
      simp only [hneg, decide_false, Bool.cond_false]
      rw [wr64 (n := x.Until - x.From) (by omega), wr64 (by omega)]
      by_cases hl : 100000 < (at' list j).Until + (x.Until - x.From)
      · simp only [hl, decide_true, Bool.cond_true]
        rw [hg, G_late hp hx _ _ (by omega) (by omega) (Nat.le_refl _) hl]
      · simp only [hl, decide_false, Bool.cond_false]
        rw [hg]
        exact ih _ (by omega) (by omega) (by omega)
end
/-- the program's answer and the reference's -/
theorem FirstStart_eq (m : gMine) (list : List gPermit) (x : gPermit) : m_impl_FirstStart m list x = m_spec_FirstStart m list x := by
  simp only [m_impl_FirstStart, m_spec_FirstStart, permits_eq]
  cases hv : m_spec_l26Ok m list with
  | false => rfl
  | true =>
    simp only [Bool.not_true, Bool.cond_false]
    have e : (!m_impl_Permit_valid x || !m_impl_indexValid_impl_Airway m.Airways x.Airway) = (!m_spec_l26One x || decide ((m.Airways.length : Int) ≤ x.Airway)) := by
      rw [permit_eq, index_eq]
      cases ho : m_spec_l26One x with
      | false => rfl
      | true =>
        have h0 := (one_imp ho).1
        rw [Bool.eq_iff_iff]; simp; omega
    rw [e]
    cases hc : (!m_spec_l26One x || decide ((m.Airways.length : Int) ≤ x.Airway)) with
    | true => rfl
    | false =>
      simp only [Bool.or_eq_false_iff, Bool.not_eq_false', decide_eq_false_iff_not] at hc
      have hx := one_imp hc.1
      have hp := l26Ok_imp hv
      simp only [Bool.cond_false]
      have h2 := spec_G hp ⟨hx.2.1, hx.2.2.1, hx.2.2.2.1⟩ hx.2.2.2.2 ((100000 - x.From : Int).toNat + 1) x.From hx.2.1 (by omega) (by omega)
      rw [show x.From + (x.Until - x.From) = x.Until by omega] at h2
      rw [h2]
      show LOOP _ _ _ _ = LOOP _ _ _ _
      rw [show x.From + (x.Until - x.From) = x.Until by omega]
      rfl
/-- the law says true -/
theorem law_FirstStart (aM : gMine) (aList : List gPermit) (aX : gPermit) : m_laws_FnExactFirstStart aM aList aX = true := by
  simp only [m_laws_FnExactFirstStart, FirstStart_eq, toMine_eq, toPermitS_eq, m_laws_toPermit, eqMine_refl, eqPermitS_refl, bne_self_eq_false, Bool.or_self, Bool.not_true, Bool.cond_false]
  cases decide (m_laws_szMine aM 1048576 < 0) <;> cases decide (m_laws_szPermitS aList (m_laws_szMine aM 1048576) < 0) <;> cases decide (m_laws_szPermit aX (m_laws_szPermitS aList (m_laws_szMine aM 1048576)) < 0) <;> rfl
theorem law_FnExactFirstStart (aM : gMine) (aList : List gPermit) (aX : gPermit) (_ : gMine.ok aM) (_ : aList.length ≤ 9223372036854775807 ∧ ∀ y ∈ aList, gPermit.ok y) (_ : gPermit.ok aX) : m_laws_FnExactFirstStart aM aList aX = true := law_FirstStart aM aList aX

end Go.Proofs.Ytpkkmkbafdadoaa
