/-
  PLAIN LAWS about the models: no program in sight. Conditions: as each theorem states them.
-/
import Derived.Test.YtchjibndocnnhaaCrewsPlain24
set_option linter.unusedVariables false
set_option linter.unusedSimpArgs false
set_option linter.unusedSectionVars false
set_option linter.unnecessarySimpa false
namespace Go.Proofs.Ytchjibndocnnhaa
open Go Go.RowKit Go.Proofs Go.Proofs.Ytchjibndocnnhaa.E
/-! ## FnCrews: the law -/
theorem has8_iff (list : List Int) (n : Int) : m_laws_r8Has list n = decide (n ∈ list) := by
  rw [Bool.eq_iff_iff, decide_eq_true_eq]
  simp only [m_laws_r8Has]
  have key : ∀ (f : Nat) (x : Int), 0 ≤ x → x ≤ list.length → ((list.length : Int) - x).toNat < f → (LOOP (m_laws_r8Has_b1 list n) (fun (x1 : Int) => false) f x = true ↔ n ∈ list.drop x.toNat) := fun f x h0 h1 h2 => by
    refine LOOP_post (b := m_laws_r8Has_b1 list n) (fun (x : Int) => 0 ≤ x ∧ x ≤ list.length) (fun x => ((list.length : Int) - x).toNat) (fun x (r : Bool) => r = true ↔ n ∈ list.drop x.toNat) (fun rec x hI ih => ?_) f x ⟨h0, h1⟩ h2
    obtain ⟨g0, g1⟩ := hI
    simp only [m_laws_r8Has_b1]
    by_cases hi : x < (list.length : Int)
    · simp only [hi, decide_true, Bool.cond_true]
      have hlt : x.toNat < list.length := by omega
      have hat : at' list x = list[x.toNat] := by
        have := at_lt (xs := list) (j := x.toNat) hlt
        rwa [Int.toNat_of_nonneg g0] at this
      have hd : list.drop x.toNat = at' list x :: list.drop (x + 1).toNat := by
        rw [hat, show (x + 1).toNat = x.toNat + 1 by omega]
        exact List.drop_eq_getElem_cons hlt
      rw [hd, List.mem_cons]
      cases he : (at' list x == n) with
      | true => simp only [Bool.cond_true, true_iff]; exact .inl ((by simpa using he : at' list x = n).symm)
      | false =>
        simp only [Bool.cond_false]
        have hne : ¬ n = at' list x := fun e => by rw [e] at he; simp at he
        rw [ih (x + 1) ⟨by omega, by omega⟩ (by omega)]
        simp [hne]
    · simp only [hi, decide_false, Bool.cond_false]
      rw [List.drop_eq_nil_of_le (by omega)]
      simp
  have := key (((list.length : Int) - 0 : Int).toNat + 1) 0 (by omega) (by omega) (by omega)
  simpa using this
theorem someOk_up {list : List gJob} {S : List Int} (h : Up 0 list.length S) : m_impl_someOk list S = true := by
  rw [someOk_eq]
  have h2 := LOOP_all (b := m_spec_l00Rises_b1 S 0 ((list.length : Int) - 1)) (n := S.length) (fun rec k i _ => rfl) (k := fun _ => true) (((S.length : Int) - 0 : Int).toNat + 1) 0 (by omega) (by omega) (by omega)
  simp only [m_spec_l00Rises]
  rw [h2]
  refine ⟨fun j _ hj => ?_, rfl⟩
  have h3 := h.2 _ (List.getElem_mem hj)
  simp only [Bool.or_eq_false_iff, Bool.not_eq_false', Bool.and_eq_false_iff, decide_eq_false_iff_not, m_spec_l00In, Bool.and_eq_true, decide_eq_true_eq]
  rw [at_lt hj]
  refine ⟨by omega, ?_⟩
  by_cases h0 : (0 : Int) < j
  · right
    rw [show ((j : Int) - 1) = ((j - 1 : Nat) : Int) by omega, at_lt (by omega)]
    have := List.pairwise_iff_getElem.1 h.1 (j - 1) j (by omega) hj (by omega)
    omega
  · exact .inl h0
theorem fitsI {m : gMine} {flows : List Int} {list : List gJob} (hc : m_impl_jobsCode m flows list = 0) {S : List Int} (h : Up 0 list.length S) (hf : FitW m flows list S) : m_impl_ShiftFits m flows list S = true := by
  have hj := (jobsCode_imp hc).2.2
  have hl := up_len h (by omega)
  have hn := hj.1
  simp only [m_impl_ShiftFits, hc, someOk_up h, beq_self_eq_true, Bool.and_self, Bool.cond_true, Bool.true_and, jobsOf_map]
  exact (fit_w hj (h.inR (by omega)) (by omega)).2 hf
/-- persons of some jobs -/
def ppl (list : List gJob) (i : Int) : Int := (at' list i).People
theorem tot_rng {g : Int → Int} {c : Int} : ∀ {A : List Int}, (∀ i ∈ A, 0 ≤ g i ∧ g i ≤ c) → 0 ≤ tot g A ∧ tot g A ≤ c * A.length
  | [], _ => by simp [tot]
  | x :: A, h => by
    have h1 := h x List.mem_cons_self
    have h2 := tot_rng fun i hi => h i (List.mem_cons_of_mem _ hi)
    simp only [tot, List.length_cons]
    have : c * ((A.length + 1 : Nat) : Int) = c * A.length + c := by push_cast; rw [Int.mul_add, Int.mul_one]
    omega
/-- a sum that is taken in turn, with bounds -/
theorem sum_loop {ρ : Type} {g : Int → Int} {n : Nat} {c : Int} {sg : Int} {b : (Int × Int → ρ) → (Int × Int → ρ) → Int × Int → ρ} {k : Int × Int → ρ} (hg : ∀ i : Int, 0 ≤ i → i < n → 0 ≤ g i ∧ g i ≤ c) {a0 : Int} (hs : sg = 1 ∨ sg = -1) (hb0 : -1000000000 ≤ a0 ∧ a0 ≤ 1000000000) (hc : c * n ≤ 1000000000)
    (hb : ∀ rec a (i : Int), 0 ≤ i → i < n → -2000000000 ≤ a ∧ a ≤ 2000000000 → b rec k (a, i) = rec (a + sg * g i, i + 1)) (he : ∀ rec a, b rec k (a, (n : Int)) = k (a, (n : Int))) :
    LOOP b k (((n : Int) - 0 : Int).toNat + 1) (a0, 0) = k (a0 + sg * tot g (irange 0 n), (n : Int)) := by
  refine LOOP_is (fun (x : Int × Int) => (0 ≤ x.2 ∧ x.2 ≤ n) ∧ x.1 = a0 + sg * tot g (irange 0 x.2.toNat)) (fun x => ((n : Int) - x.2).toNat) (fun _ => k (a0 + sg * tot g (irange 0 n), (n : Int))) (fun rec x hI ih => ?_) ⟨⟨by simp, by simp⟩, by simp [irange, tot]⟩ (by simp)
  obtain ⟨a, i⟩ := x
  obtain ⟨⟨h0, h1⟩, h2⟩ := hI
  simp only at h0 h1 h2
  by_cases hi : i < (n : Int)
  · have hr := tot_rng (g := g) (c := c) (A := irange 0 i.toNat) (fun j hj => by rw [mem_irange] at hj; exact hg j hj.1 (by omega))
    rw [irange_len] at hr
    have hc0 : 0 ≤ c := by have := hg i h0 hi; omega
    have hle : c * ((i.toNat : Nat) : Int) ≤ c * n := Int.mul_le_mul_of_nonneg_left (by omega) hc0
    have hab : -2000000000 ≤ a ∧ a ≤ 2000000000 := by rcases hs with e | e <;> rw [e] at h2 <;> omega
    rw [hb rec a i h0 hi hab]
    refine ih _ ⟨⟨by simp only; omega, by simp only; omega⟩, ?_⟩ (by simp only; omega)
    simp only
    rw [show (i + 1).toNat = i.toNat + 1 by omega, irange_succ, tot_app, h2]
    simp only [tot]
    rw [show (0 : Int) + ((i.toNat : Nat) : Int) = i by omega]
    rcases hs with e | e <;> rw [e] <;> omega
  · have e : i = n := by omega
    subst e
    rw [he, h2, Int.toNat_natCast]
theorem people_in {m : gMine} {flows : List Int} {list : List gJob} (hc : m_impl_jobsCode m flows list = 0) {S : List Int} (h : Up 0 list.length S) : m_impl_PeopleIn m list S = (tot (ppl list) S, 0) := by
  have hj := (jobsCode_imp hc).2.2
  have hn := hj.1
  have hl := up_len h (by omega)
  have hv : m_impl_ValidJobs m list = true := by
    cases e : m_impl_ValidJobs m list with
    | true => rfl
    | false => simp only [m_impl_jobsCode, e, Bool.not_false, Bool.cond_true] at hc; exact absurd hc (by decide)
  simp only [m_impl_PeopleIn, hv, someOk_up h, Bool.not_true, Bool.cond_false, jobsOf_len]
  have hp : ∀ i : Int, 0 ≤ i → i < S.length → 0 ≤ ppl list (at' S i) ∧ ppl list (at' S i) ≤ 40 := fun i h0 h1 => by
    have h2 := at_all h.2 (i := i) ⟨h0, h1⟩
    have h3 := at_all hj.2 (i := at' S i) h2
    simp only [ppl]; omega
  have hs := sum_loop (b := m_impl_PeopleIn_b1 m list S) (k := fun (x1 : Int × Int) => (x1.1, (0 : Int))) (g := fun i => ppl list (at' S i)) (n := S.length) (c := 40) (sg := 1) (a0 := 0) hp (.inl rfl) (by omega) (by omega) (fun rec a i h0 h1 hab => by
    have hq := hp i h0 h1
    have e : (at' (m_impl_jobsOf list S) i).People = ppl list (at' S i) := by rw [jobsOf_map, at_map' ⟨h0, h1⟩]; rfl
    simp only [m_impl_PeopleIn_b1, jobsOf_len, h1, decide_true, Bool.cond_true, e]
    rw [wr64 (by omega), Int.one_mul]) (fun rec a => by simp [m_impl_PeopleIn_b1, jobsOf_len])
  rw [hs]
  simp only [Prod.mk.injEq, and_true, Int.zero_add, Int.one_mul]
  have h2 : ∀ A : List Int, tot (fun i => ppl list (at' S i)) A = tot (ppl list) (A.map (at' S)) := fun A => by
    induction A with
    | nil => rfl
    | cons x A ih => simp only [tot, List.map_cons, ih]
  rw [h2, ← list_irange]

/-! ### the parts of the law -/
theorem need_ok {m : gMine} {list : List gJob} (hv : m_spec_l23List m list = true) : ∀ i : Int, 0 ≤ i → i < list.length → m_impl_NeedOf (at' list i) = (m_impl_Job_need (at' list i), 0) := fun i h0 h1 => by
  have h := valid_imp (fun t => m_spec_l23One t && !decide ((m.Airways.length : Int) ≤ t.Airway)) (fun t => t.Id) (fun rec k i _ => by simp only [m_spec_l23List_b1, Bool.not_and, Bool.not_not]) hv
  have h2 := h.2 (at' list i) (at_mem ⟨h0, h1⟩)
  simp only [Bool.and_eq_true] at h2
  simp only [m_impl_NeedOf, job_eq, h2.1, Bool.not_true, Bool.cond_false]
def needG (list : List gJob) (i : Int) : Int := m_impl_Job_need (at' list i)
theorem tot_map {g : Int → Int} (h : gJob → Int) {list : List gJob} (e : ∀ i, g i = h (at' list i)) : ∀ A : List Int, tot g A = ((A.map (at' list)).map h).foldr (· + ·) 0
  | [] => rfl
  | x :: A => by simp only [tot, List.map_cons, List.foldr_cons, tot_map h e A, e]
theorem need_sum {m : gMine} : ∀ (l : List gJob), (∀ t ∈ l, JobOk m t) → tot (fun k => SN k l) (irange 0 m.Airways.length) = (l.map m_impl_Job_need).foldr (· + ·) 0
  | [], _ => by
    have : ∀ A : List Int, tot (fun k => SN k []) A = 0 := fun A => by
      induction A with
      | nil => rfl
      | cons x A ih => show SN x [] + tot (fun k => SN k []) A = 0; rw [ih]; rfl
    rw [this]; rfl
  | t :: l, h => by
    have e : tot (fun k => SN k (t :: l)) (irange 0 m.Airways.length) = tot (fun k => (if t.Airway = k then m_impl_Job_need t else 0) + SN k l) (irange 0 m.Airways.length) := rfl
    have ht := (h t List.mem_cons_self).1
    rw [e, tot_add (fun k => if t.Airway = k then m_impl_Job_need t else 0) (fun k => SN k l), tot_pt, if_pos ht, need_sum l fun x hx => h x (List.mem_cons_of_mem _ hx)]
    rfl
theorem need_tot {m : gMine} {list : List gJob} (hj : JobsIn m list) : tot (fun k => at' (m_impl_Mine_airNeeds m list) k) (irange 0 m.Airways.length) = tot (needG list) (irange 0 list.length) := by
  have hn := hj.1
  rw [tot_map (g := needG list) m_impl_Job_need (fun i => rfl) (irange 0 list.length), list_map_irange, ← need_sum list hj.2]
  exact tot_congr fun k hk => by
    rw [mem_irange] at hk
    exact needs_at hj.2 (by omega) k hk.1 (by omega)
theorem short_is {m : gMine} {flows : List Int} {list : List gJob} (hc : m_impl_jobsCode m flows list = 0) : m_impl_ShortAirways m flows list = ((irange 0 m.Airways.length).filter (fun i => decide (m_impl_abs (at' flows i) < at' (m_impl_Mine_airNeeds m list) i)), 0) := by
  have e0 : ((0 : Int) != 0) = false := by decide
  simp only [m_impl_ShortAirways, hc, e0, Bool.cond_false]
  have h := LOOP_fori (b := m_impl_ShortAirways_b1 m flows list) (k := fun (x1 : (List Int) × Int) => (x1.1, (0 : Int))) (n := ((m_impl_Mine_airNeeds m list).length : Int)) (fun i xs => bif decide (m_impl_abs (at' flows i) < at' (m_impl_Mine_airNeeds m list) i) then xs ++ [i] else xs) (fun rec xs i h0 h1 => by
    simp only [m_impl_ShortAirways_b1, h1, decide_true, Bool.cond_true]
    cases decide (m_impl_abs (at' flows i) < at' (m_impl_Mine_airNeeds m list) i) <;> rfl) (fun rec xs => by simp [m_impl_ShortAirways_b1]) ((((m_impl_Mine_airNeeds m list).length : Int) - 0 : Int).toNat + 1) 0 [] (by omega) (by omega) (by omega)
  rw [h, needs_len, show ((m.Airways.length : Int) - 0).toNat = m.Airways.length by omega, fori_collect (f := fun i => i)]
  simp
theorem short_nil {m : gMine} {flows : List Int} {list : List gJob} (hc : m_impl_jobsCode m flows list = 0) : (((m_impl_ShortAirways m flows list).1.length : Int) == 0) = true ↔ FitW m flows list (irange 0 list.length) := by
  rw [short_is hc, fit_all (jobsCode_imp hc).2.2]
  simp only [beq_iff_eq]
  constructor
  · intro h k hk
    have h2 := List.eq_nil_of_length_eq_zero (by omega : ((irange 0 m.Airways.length).filter (fun i => decide (m_impl_abs (at' flows i) < at' (m_impl_Mine_airNeeds m list) i))).length = 0)
    rw [List.filter_eq_nil_iff] at h2
    have := h2 (k : Int) (by rw [mem_irange]; omega)
    simp only [decide_eq_true_eq] at this
    omega
  · intro h
    have : (irange 0 m.Airways.length).filter (fun i => decide (m_impl_abs (at' flows i) < at' (m_impl_Mine_airNeeds m list) i)) = [] := by
      rw [List.filter_eq_nil_iff]
      intro i hi
      rw [mem_irange] at hi
      have := h i.toNat (by omega)
      rw [show ((i.toNat : Nat) : Int) = i by omega] at this
      simp only [decide_eq_true_eq]; omega
    rw [this]; rfl
theorem short_has {m : gMine} {flows : List Int} {list : List gJob} (hc : m_impl_jobsCode m flows list = 0) {k : Int} (hk : 0 ≤ k ∧ k < m.Airways.length) (hp : m_impl_abs (at' flows k) = at' flows k) : m_laws_r8Has (m_impl_ShortAirways m flows list).1 k = decide (at' flows k < at' (m_impl_Mine_airNeeds m list) k) := by
  rw [has8_iff, short_is hc, Bool.eq_iff_iff]
  simp only [decide_eq_true_eq, List.mem_filter, mem_irange, hp]
  exact ⟨fun h => h.2, fun h => ⟨by omega, h⟩⟩
theorem wide_rng {code : List Int} (hc : ∀ y ∈ code, 0 ≤ y ∧ y ≤ 255) {k n : Int} (hk : 0 ≤ k ∧ k ≤ 1000) (hn : 1 ≤ n) : 0 ≤ m_laws_r8Wide code k n ∧ m_laws_r8Wide code k n < n := by
  have h1 := r8At_rng hc (k := k) (n := 256) (by omega)
  have h2 := r8At_rng hc (k := k + 1) (n := 256) (by omega)
  simp only [m_laws_r8Wide]
  rw [wr64 (n := k + 1) (by omega), wr64 (n := 256 * m_laws_r8At code k 256) (by omega), wr64 (by omega), Int.tmod_eq_emod_of_nonneg (by omega)]
  exact ⟨Int.emod_nonneg _ (by omega), Int.emod_lt_of_pos _ (by omega)⟩

end Go.Proofs.Ytchjibndocnnhaa
