/-
  PLAIN LAWS about the models: no program in sight. Conditions: as each theorem states them.
-/
import Derived.Test.YtibbfdojcdkopaaGreatRefugesPlain5
set_option linter.unusedVariables false
set_option linter.unusedSimpArgs false
set_option linter.unusedSectionVars false
set_option linter.unnecessarySimpa false
namespace Go.Proofs.YtibbfdojcdkopaaGreat
open Go Go.RowKit Go.Proofs Go.Proofs.YtibbfdojcdkopaaGreat.E
/-! ## Crews and refuges: what the program's own checks let through -/
def CrewsIn (m : AH) (list : List Bi) : Prop := list.length ≤ 8 ∧ ∀ c ∈ list, CrewIn m c
theorem list_imp {α : Type} [Inhabited α] {list : List α} {ok : Bool} {b : (Int → Bool) → (Int → Bool) → Int → Bool} (v : α → Bool) (id : α → List UInt8)
    (hb : ∀ rec k i, 0 ≤ i → b rec k i = bif decide (i < (list.length : Int)) then (bif (!(v (at' list i))) || ((decide (0 < i)) && (strB .leq (id (at' list i)) (id (at' list (i - 1))))) then false else rec (i + 1)) else k i)
    (h : (bif !ok || decide ((8 : Int) < (list.length : Int)) then false else LOOP b (fun _ => true) (((list.length : Int) - 0 : Int).toNat + 1) 0) = true) : ok = true ∧ list.length ≤ 8 ∧ ∀ x ∈ list, v x = true := by
  cases ok with
  | false => simp at h
  | true =>
    by_cases hl : (8 : Int) < list.length
    · simp [hl] at h
    · simp only [Bool.not_true, Bool.false_or, hl, decide_false, Bool.cond_false] at h
      have h1 := (valid_iff v id (fun rec k i h => by rw [hb rec k i h, strleq_geq])).1 h
      exact ⟨rfl, by omega, all_at.2 fun j hj => (h1.1 j (by omega)).1⟩
theorem ValidCrews_imp {m : AH} {list : List Bi} (h : Ce m list = true) : AO m = true ∧ list.length ≤ 8 ∧ ∀ c ∈ list, (B7 c && !decide (m.Junctions ≤ c.Junction)) = true := by
  simp only [Ce, mine_eq] at h
  have h1 := list_imp (fun c => Cd c && A2 m c.Junction) (fun c => c.Id) (fun rec k i _ => by simp only [Dl, Bool.not_and]) h
  exact ⟨h1.1, h1.2.1, fun c hc => by rw [← crewOk_eq (l04Ok_imp h1.1)]; exact h1.2.2 c hc⟩
theorem l17Time_imp {t : Int} (h : CK t = true) : 0 ≤ t ∧ t ≤ 36000 := l00In_imp h
theorem l19Arr_imp {m : AH} {arr : List Int} (h : B8 m arr = true) : (arr.length : Int) = m.Junctions := by
  rw [l19Arr_eq, Bool.and_eq_true] at h; simpa using h.1
theorem escX {m : AH} {arr : List Int} {blocked : Int} {l : List Bi} {start : Int} {exits : List Int} (h : (AA m arr blocked l start exits).2 = 0) : (AA m arr blocked l start exits).1 = Cb.mk m arr blocked ∧ Ce m l = true ∧ A0 blocked (-1) ((m.Airways.length : Int) - 1) = true ∧ CK start = true ∧ B8 m arr = true := by
  have ht : CK start = A0 start 0 36000 := rfl
  simp only [AA, within_eq, l19Arr_eq, ht] at h ⊢
  cases h1 : Ce m l <;> cases h4 : A0 blocked (-1) ((m.Airways.length : Int) - 1) <;> cases h5 : A0 start 0 36000 <;> cases h6 : ((arr.length : Int) == m.Junctions) <;> cases h7 : Bn arr (-1) 1000000000000 <;> cases h8 : Cn m exits <;> simp [h1, h4, h5, h6, h7, h8, bne] at h ⊢
theorem escapeN_imp {m : AH} {arr : List Int} {blocked : Int} {l : List Bi} {start : Int} (h : (AA m arr blocked l start []).2 = 0) : (AA m arr blocked l start []).1 = Cb.mk m arr blocked ∧ MineIn m ∧ CrewsIn m l ∧ (0 ≤ start ∧ start ≤ 36000) ∧ (arr.length : Int) = m.Junctions := by
  have g := escX h
  have hc := ValidCrews_imp g.2.1
  refine ⟨g.1, l04Ok_imp hc.1, ⟨hc.2.1, fun c hm => ?_⟩, l17Time_imp g.2.2.2.1, l19Arr_imp g.2.2.2.2⟩
  have h2 := hc.2.2 c hm
  simp only [Bool.and_eq_true, Bool.not_eq_true', decide_eq_false_iff_not] at h2
  have := one19_imp h2.1
  exact (⟨⟨this.1, by have := h2.2; omega⟩, this.2⟩ : CrewIn m c)
theorem ask_of {m : AH} {arr : List Int} {blocked : Int} {l : List Bi} {start : Int} (h : (AA m arr blocked l start []).2 = 0) {c : Bi} (hc : c ∈ l) : BZ m arr blocked c start = 0 := by
  have g := escX h
  have hv := ValidCrews_imp g.2.1
  have h2 := hv.2.2 c hc
  rw [Bool.and_eq_true] at h2
  simp only [BZ, hv.1, h2.1, g.2.2.1, g.2.2.2.1, g.2.2.2.2, show decide (m.Junctions ≤ c.Junction) = false by simpa using h2.2, Bool.not_true, Bool.or_self, Bool.cond_false]
section
variable {m : AH} {arr : List Int} {blocked : Int} {l : List Bi} {start : Int}
theorem escT_M (h : (AA m arr blocked l start []).2 = 0) : MineIn (AA m arr blocked l start []).1.mine := by
  have g := escapeN_imp h
  rw [g.1]; exact g.2.1
theorem escT_L (h : (AA m arr blocked l start []).2 = 0) : ((AA m arr blocked l start []).1.arrivals.length : Int) = (AA m arr blocked l start []).1.mine.Junctions := by
  have g := escapeN_imp h
  rw [g.1]; exact g.2.2.2.2
theorem escT_S (h : (AA m arr blocked l start []).2 = 0) : 0 ≤ start ∧ start ≤ 36000 := (escapeN_imp h).2.2.2.1
theorem escT_N (h : (AA m arr blocked l start []).2 = 0) : l.length ≤ 8 := (escapeN_imp h).2.2.1.1
theorem escT_C (h : (AA m arr blocked l start []).2 = 0) {i : Int} (hi : 0 ≤ i ∧ i < l.length) : CrewIn (AA m arr blocked l start []).1.mine (at' l i) := by
  have g := escapeN_imp h
  rw [g.1]; exact at_all g.2.2.1.2 hi
end
theorem l19Ask_imp {m : AH} {arr : List Int} {blocked : Int} {c : Bi} {start : Int} (h : BZ m arr blocked c start = 0) : MineIn m ∧ CrewIn m c ∧ (0 ≤ start ∧ start ≤ 36000) ∧ (arr.length : Int) = m.Junctions := by
  simp only [BZ, l19Arr_eq, CK] at h
  cases h1 : AO m <;> cases h2 : B7 c <;> cases h3 : decide (m.Junctions ≤ c.Junction) <;> cases h4 : A0 blocked (-1) ((m.Airways.length : Int) - 1) <;> cases h5 : A0 start 0 36000 <;> cases h6 : ((arr.length : Int) == m.Junctions) <;> cases h7 : Bn arr (-1) 1000000000000 <;> simp [h1, h2, h3, h4, h5, h6, h7] at h
  have hc := one19_imp h2
  simp only [decide_eq_false_iff_not] at h3
  exact ⟨l04Ok_imp h1, ⟨⟨hc.1, by omega⟩, hc.2⟩, l00In_imp h5, by simpa using h6⟩
theorem l19Ask_impM {m : AH} {arr : List Int} {blocked : Int} {c : Bi} {start : Int} (h : BZ m arr blocked c start = 0) : MineIn m := (l19Ask_imp h).1
theorem l19Ask_impC {m : AH} {arr : List Int} {blocked : Int} {c : Bi} {start : Int} (h : BZ m arr blocked c start = 0) : CrewIn m c := (l19Ask_imp h).2.1
theorem l19Ask_impS {m : AH} {arr : List Int} {blocked : Int} {c : Bi} {start : Int} (h : BZ m arr blocked c start = 0) : 0 ≤ start ∧ start ≤ 36000 := (l19Ask_imp h).2.2.1
theorem l19Ask_impL {m : AH} {arr : List Int} {blocked : Int} {c : Bi} {start : Int} (h : BZ m arr blocked c start = 0) : (arr.length : Int) = m.Junctions := (l19Ask_imp h).2.2.2
/-! ### Refuges -/
def RefugeIn (m : AH) (list : List AI) : Prop := list.length ≤ 8 ∧ ∀ x ∈ list, 0 ≤ x.Junction ∧ x.Junction < m.Junctions
theorem ref_imp {x : AI} (h : BB x = true) : (1 ≤ x.Places ∧ x.Places ≤ 200) ∧ 0 ≤ x.Air ∧ x.Air ≤ 10000000 := by
  simp only [BB, Bf, Bool.and_eq_true, decide_eq_true_eq] at h
  omega
theorem refs_ok {m : AH} {list : List AI} (h : Bk m list = true) : AO m = true ∧ list.length ≤ 8 ∧ ∀ x ∈ list, (BB x && A2 m x.Junction) = true := by
  simp only [Bk, mine_eq] at h
  exact list_imp (fun c => BB c && A2 m c.Junction) (fun c => c.Id) (fun rec k i _ => by simp only [C6, Bool.not_and]) h
theorem ValidRefuges_imp {m : AH} {list : List AI} (h : Bk m list = true) : RefugeIn m list := by
  have h1 := refs_ok h
  refine ⟨h1.2.1, fun x hx => ?_⟩
  have h2 := h1.2.2 x hx
  rw [Bool.and_eq_true, hasJunction_eq (l04Ok_imp h1.1), Bool.and_eq_true, decide_eq_true_eq, decide_eq_true_eq] at h2
  exact h2.2
theorem refs_valid {m : AH} {list : List AI} (h : Bk m list = true) : ∀ x ∈ list, BB x = true := fun x hx => by
  have h2 := (refs_ok h).2.2 x hx
  rw [Bool.and_eq_true] at h2; exact h2.1
theorem places_inI {m : AH} {list : List AI} (h : Bk m list = true) {i : Int} (hi : 0 ≤ i ∧ i < list.length) : 0 ≤ (at' list i).Places ∧ (at' list i).Places ≤ 200 := by
  have := (ref_imp (at_all (refs_valid h) hi)).1
  omega

end Go.Proofs.YtibbfdojcdkopaaGreat
