/-
  PLAIN LAWS about the models: no program in sight. Conditions: as each theorem states them.
-/
import Derived.Test.YtceonolphigfdaaDoorExactReadPermitPlain5
set_option linter.unusedVariables false
set_option linter.unusedSimpArgs false
set_option linter.unusedSectionVars false
set_option linter.unnecessarySimpa false
namespace Go.Proofs.YtceonolphigfdaaDoor
open Go Go.RowKit Go.Proofs Go.Proofs.YtceonolphigfdaaDoor.E
/-! ## A text cut at each byte c -/
def spl (c : UInt8) : List UInt8 → List (List UInt8)
  | [] => [[]]
  | b :: r => if b = c then [] :: spl c r else match spl c r with
    | [] => [[b]]
    | h :: t => (b :: h) :: t
theorem spl_ne (c : UInt8) : ∀ s, spl c s ≠ []
  | [] => by simp [spl]
  | b :: r => by
    simp only [spl]
    split
    · simp
    · split <;> simp
theorem spl_cons {c b : UInt8} {r h : List UInt8} {t : List (List UInt8)} (hb : ¬ b = c) (e : spl c r = h :: t) : spl c (b :: r) = (b :: h) :: t := by
  simp only [spl, hb, if_false, e]
/-- text without c ahead of the first cut -/
theorem spl_app {c : UInt8} : ∀ {p : List UInt8} (_ : c ∉ p) (r : List UInt8), spl c (p ++ c :: r) = p :: spl c r
  | [], _, r => by simp [spl]
  | b :: p, h, r => by
    have hb : ¬ b = c := fun e => h (by simp [e])
    have ih := spl_app (c := c) (p := p) (fun h' => h (List.mem_cons_of_mem _ h')) r
    exact spl_cons hb ih
theorem spl_none {c : UInt8} : ∀ {p : List UInt8}, c ∉ p → spl c p = [p]
  | [], _ => rfl
  | b :: p, h => by
    have hb : ¬ b = c := fun e => h (by simp [e])
    exact spl_cons hb (spl_none (c := c) (p := p) (fun h' => h (List.mem_cons_of_mem _ h')))
theorem spl_first {c : UInt8} (s : List UInt8) : (c ∉ s ∧ spl c s = [s]) ∨ ∃ p r, s = p ++ c :: r ∧ c ∉ p ∧ spl c s = p :: spl c r := by
  induction s with
  | nil => exact .inl ⟨by simp, rfl⟩
  | cons b s ih =>
    by_cases hb : b = c
    · subst hb; exact .inr ⟨[], s, rfl, by simp, by simp [spl]⟩
    · rcases ih with ⟨h1, h2⟩ | ⟨p, r, h1, h2, h3⟩
      · have : c ∉ b :: s := by simp [h1]; exact fun e => hb e.symm
        exact .inl ⟨this, spl_none this⟩
      · have : c ∉ b :: p := by simp [h2]; exact fun e => hb e.symm
        exact .inr ⟨b :: p, r, by rw [h1]; rfl, this, by rw [h1]; exact spl_app this r⟩
theorem spl_len (c : UInt8) : ∀ s, (spl c s).length ≤ s.length + 1
  | [] => by simp [spl]
  | b :: r => by
    have ih := spl_len c r
    simp only [spl]
    split
    · simp; omega
    · split
      · simp
      · rename_i h t e; rw [e] at ih; simp at ih ⊢; omega
theorem spl_join (c : UInt8) (s : List UInt8) : Lib.join (spl c s) [c] = s := by
  generalize hn : s.length = n
  induction n using Nat.strongRecOn generalizing s with
  | ind n ih =>
    rcases spl_first (c := c) s with ⟨_, h2⟩ | ⟨p, r, h1, _, h3⟩
    · rw [h2, Lib.join_one]
    · rw [h3]
      have hr := ih r.length (by rw [← hn, h1]; simp; omega) r rfl
      obtain ⟨x, t, e⟩ : ∃ x t, spl c r = x :: t := by
        cases e : spl c r with
        | nil => exact absurd e (spl_ne c r)
        | cons x t => exact ⟨x, t, rfl⟩
      rw [e] at hr ⊢
      rw [Lib.join_cons] at hr ⊢
      rw [Lib.joinTail, List.map_cons, List.flatten_cons]
      rw [Lib.joinTail] at hr
      rw [h1, ← hr]; simp
theorem spl_no {c : UInt8} (s : List UInt8) : ∀ p ∈ spl c s, c ∉ p := by
  generalize hn : s.length = n
  induction n using Nat.strongRecOn generalizing s with
  | ind n ih =>
    rcases spl_first (c := c) s with ⟨h1, h2⟩ | ⟨p, r, h1, h4, h3⟩
    · rw [h2]; simpa using h1
    · rw [h3]
      intro q hq
      rcases List.mem_cons.1 hq with rfl | hq
      · exact h4
      · exact ih r.length (by rw [← hn, h1]; simp; omega) r rfl q hq
theorem idx_none {c : UInt8} : ∀ {s : List UInt8}, c ∉ s → Lib.index s [c] = -1
  | [], _ => rfl
  | b :: s, h => by
    have hb : ¬ c = b := fun e => h (by simp [e])
    have ih := idx_none (c := c) (s := s) (fun h' => h (by simp [h']))
    have hp : List.isPrefixOf [c] (b :: s) = false := by simp [List.isPrefixOf, hb]
    simp [Lib.index, hp, ih]
theorem idx_some {c : UInt8} : ∀ {p r : List UInt8}, c ∉ p → Lib.index (p ++ c :: r) [c] = p.length
  | [], r, _ => by simp [Lib.index, List.isPrefixOf]
  | b :: p, r, h => by
    have hb : ¬ c = b := fun e => h (by simp [e])
    have ih := idx_some (c := c) (p := p) (r := r) (fun h' => h (by simp [h']))
    have hp : List.isPrefixOf [c] (b :: (p ++ c :: r)) = false := by simp [List.isPrefixOf, hb]
    simp only [List.cons_append, Lib.index, hp, ih]
    have : ¬ ((p.length : Int) == -1) = true := by simp
    simp [this]
theorem splitK_spl {c : UInt8} : ∀ (k : Nat) (s : List UInt8), (spl c s).length ≤ k + 1 → Lib.splitK [c] 0 k s = spl c s
  | 0, s, h => by
    rcases spl_first (c := c) s with ⟨_, h2⟩ | ⟨p, r, _, _, h3⟩
    · rw [h2]; rfl
    · rw [h3] at h
      have := List.length_pos_iff.2 (spl_ne c r)
      rw [List.length_cons] at h; omega
  | k + 1, s, h => by
    rcases spl_first (c := c) s with ⟨h1, h2⟩ | ⟨p, r, h1, h4, h3⟩
    · rw [h2, Lib.splitK, idx_none h1]; simp
    · rw [h3] at h ⊢
      have hr := splitK_spl k r (by simp at h; omega)
      subst h1
      rw [Lib.splitK, idx_some h4]
      have hm : ¬ ((p.length : Int) == -1) = true := by simp
      rw [if_neg hm]
      simp only [Int.toNat_natCast, Nat.add_zero, List.length_cons, List.length_nil]
      have e1 : (p ++ c :: r).take p.length = p := by simp
      have e2 : (p ++ c :: r).drop (p.length + (0 + 1)) = r := by rw [List.drop_append]; simp
      rw [e1, e2, hr]
theorem splitK_len {c : UInt8} : ∀ (k : Nat) (s : List UInt8), k + 1 < (spl c s).length → (Lib.splitK [c] 0 k s).length = k + 1
  | 0, s, _ => rfl
  | k + 1, s, h => by
    rcases spl_first (c := c) s with ⟨h1, h2⟩ | ⟨p, r, h1, h4, h3⟩
    · rw [h2] at h; simp at h
    · rw [h3] at h
      have hr := splitK_len (c := c) k r (by simp at h; omega)
      subst h1
      rw [Lib.splitK, idx_some h4]
      have hm : ¬ ((p.length : Int) == -1) = true := by simp
      rw [if_neg hm]
      have e2 : (p ++ c :: r).drop (((p.length : Int)).toNat + ([c] : List UInt8).length) = r := by simp [List.drop_append]
      rw [e2, List.length_cons, hr]
theorem splitN_spl {c : UInt8} {n : Nat} (hn : 1 ≤ n) (s : List UInt8) (h : (spl c s).length ≤ n) : Lib.splitN s [c] n = spl c s :=
  splitK_spl _ s (by have := spl_len c s; omega)
theorem splitN_len {c : UInt8} {n : Nat} (hn : 1 ≤ n) (s : List UInt8) (h : n < (spl c s).length) : (Lib.splitN s [c] n).length = n := by
  have h1 := spl_len c s
  have := splitK_len (c := c) (min n (s.length + 1) - 1) s (by omega)
  simp only [Lib.splitN]; omega
theorem cut_none {c : UInt8} {s : List UInt8} (h : c ∉ s) : Lib.cut s [c] = (s, [], false) := by
  simp [Lib.cut, idx_none h]
theorem cut_some {c : UInt8} {p r : List UInt8} (h : c ∉ p) : Lib.cut (p ++ c :: r) [c] = (p, r, true) := by
  simp only [Lib.cut, idx_some h]
  rw [if_pos (by omega)]
  simp [List.drop_append]
theorem spl_mem {c : UInt8} (s : List UInt8) : ∀ p ∈ spl c s, p.length ≤ s.length := by
  generalize hn : s.length = n
  induction n using Nat.strongRecOn generalizing s with
  | ind n ih =>
    rcases spl_first (c := c) s with ⟨h1, h2⟩ | ⟨p, r, h1, h4, h3⟩
    · rw [h2]; intro p hp; rw [List.mem_singleton] at hp; rw [hp]; omega
    · rw [h3]
      have hl : s.length = p.length + (r.length + 1) := by rw [h1]; simp
      intro q hq
      rcases List.mem_cons.1 hq with rfl | hq
      · omega
      · have := ih r.length (by omega) r rfl q hq; omega
theorem splitK_mem {c : UInt8} : ∀ (k : Nat) (s : List UInt8), ∀ p ∈ Lib.splitK [c] 0 k s, p.length ≤ s.length
  | 0, s, p, hp => by rw [Lib.splitK, List.mem_singleton] at hp; rw [hp]; exact Nat.le_refl _
  | k + 1, s, p, hp => by
    rw [Lib.splitK] at hp
    split at hp
    · rw [List.mem_singleton] at hp; rw [hp]; exact Nat.le_refl _
    · rcases List.mem_cons.1 hp with h | h
      · rw [h]; rw [List.length_take]; exact Nat.min_le_right _ _
      · have := splitK_mem k _ p h
        rw [List.length_drop] at this; omega

end Go.Proofs.YtceonolphigfdaaDoor
