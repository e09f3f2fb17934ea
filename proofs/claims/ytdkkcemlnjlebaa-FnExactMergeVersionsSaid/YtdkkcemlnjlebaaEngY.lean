/-
  THE ENGINE, part Y: rows whose elements hold rows of the call's own (nests): from a plain row to a nest, stores, a row within taken out and put back, append.
  Conditions: none; all of it is over any program.
-/
import Derived.Test.YtdkkcemlnjlebaaEngU
set_option linter.unusedVariables false
set_option linter.unusedSimpArgs false
set_option linter.unusedSectionVars false
set_option linter.unnecessarySimpa false
namespace Go.Proofs.Ytdkkcemlnjlebaa.E
open Go Go.RowKit
section
variable {ρ : Type} {P : Program} {fn : Func} {n : Nat} {out : ρ → V × List (Nat × Option O)} {k : List (It ρ)} {r : ρ} {s s' : S}
theorem ro_sub {ops : Array Oper} {rest : List Oper} (hs : Sub s s') (h : RO P fn n out k r ops rest s') : RO P fn n out k r ops rest s :=
  fun c κ a w Q hc hsat hq => by
    obtain ⟨κ', h'⟩ := hs n c κ a w hsat
    exact h c κ' a w Q hc h' hq
end
theorem get_kill {H kill : List (Nat × Option O)} (hk : ∀ p ∈ kill, p.2 = none) {l : Nat} {o : O} (h : get (kill ++ H) l = some o) : get H l = some o ∧ ∀ p ∈ kill, p.1 ≠ l := by
  induction kill with
  | nil => exact ⟨h, by simp⟩
  | cons p r ih =>
    obtain ⟨a, v⟩ := p
    have hv : v = none := hk (a, v) List.mem_cons_self
    subst hv
    rw [List.cons_append, get_cons] at h
    split at h
    · simp at h
    · rename_i hne
      obtain ⟨h1, h2⟩ := ih (fun p hp => hk p (List.mem_cons_of_mem _ hp)) h
      refine ⟨h1, fun p hp => ?_⟩
      rcases List.mem_cons.1 hp with e | hp
      · subst e; exact hne
      · exact h2 p hp
theorem get_nokill {H kill : List (Nat × Option O)} {l : Nat} (hk : ∀ q ∈ kill, q.1 ≠ l) : get (kill ++ H) l = get H l := by
  induction kill with
  | nil => rfl
  | cons a r ih =>
    rw [List.cons_append, get_cons, if_neg (hk a List.mem_cons_self)]
    exact ih (fun q hq => hk q (List.mem_cons_of_mem _ hq))
/-- One label's object changes; its block may be written; labels go. -/
theorem Mem.writeN {c : Cx} {κ : Ka} {H kill : List (Nat × Option O)} {w w' : World} {l : Nat} {o o' : O} (h : Mem c κ H w) (hl : get H l = some o) (hk : ∀ p ∈ kill, p.2 = none) (hx : Ext (fun i => ∃ k, κ l = some (i, k)) w w') (ho : Holds c κ w' l o')
    (hns : ∃ φ, Ns c κ φ ((l, some o') :: (kill ++ H)) w') : Mem c κ ((l, some o') :: (kill ++ H)) w' := by
  have live : ∀ l' o2, get ((l, some o') :: (kill ++ H)) l' = some o2 → ∃ o3, get H l' = some o3 ∧ (l' ≠ l → o3 = o2) := fun l' o2 h' => by
    rw [get_cons] at h'
    split at h'
    · rename_i e; subst e; exact ⟨o, hl, fun h => absurd rfl h⟩
    · exact ⟨o2, (get_kill hk h').1, fun _ => rfl⟩
  refine ⟨h.ext.trans' hx (fun i ⟨k, hi⟩ => (h.ow l o i k hl hi).1), fun l' o2 hl' => ?_, fun l' o2 b k hl' hk' => ?_, fun l1 l2 o1 o2 b k1 k2 h1 h2 hk1 hk2 => ?_, h.pin, hns⟩
  · rw [get_cons] at hl'
    split at hl'
    · rename_i e; subst e; injection hl' with hl'; subst hl'; exact ho
    · rename_i e
      have hl2 := (get_kill hk hl').1
      refine (h.hp l' o2 hl2).turn rfl (fun _ _ => rfl) (fun b k hk' => hx.block b (h.lt hl2 hk') fun ⟨k2, hk2⟩ => e (h.ij l l' o o2 b k2 k hl hl2 hk2 hk'))
  · obtain ⟨o3, h3, _⟩ := live l' o2 hl'
    exact h.ow l' o3 b k h3 hk'
  · obtain ⟨p1, g1, _⟩ := live l1 o1 h1
    obtain ⟨p2, g2, _⟩ := live l2 o2 h2
    exact h.ij l1 l2 p1 p2 b k1 k2 g1 g2 hk1 hk2

/-! ### From a plain row to a nest -/
theorem mem_rowN {c : Cx} {κ : Ka} {H : List (Nat × Option O)} {w : World} {l sz q ze : Nat} {el te : TypeId} {es es' : List V} (hm : Mem c κ H w) (ho : get H l = some (.row el sz es)) (hl : es.length = es'.length)
    (he : ∀ (i : Nat) e e', es[i]? = some e → es'[i]? = some e' → e.cells[q]? = some .nls ∧ e'.cells = e.cells.set q (.sl ze [])) : Mem c κ ((l, some (.nest el sz q te ze none es')) :: ([] ++ H)) w := by
  have hh := hm.hp l _ ho
  have pair : ∀ (i : Nat) e', es'[i]? = some e' → ∃ e, es[i]? = some e ∧ e.cells[q]? = some .nls ∧ e'.cells = e.cells.set q (.sl ze []) := fun i e' h => by
    have hi : i < es.length := by rw [hl]; exact (List.getElem?_eq_some_iff.1 h).1
    exact ⟨es[i], List.getElem?_eq_getElem hi, he i _ e' (List.getElem?_eq_getElem hi) h⟩
  refine hm.writeN ho (by simp) ((Ext.refl _ _)) ?_ ?_
  · simp only [Holds] at hh ⊢
    cases hk : κ l with
    | none =>
      simp only [hk] at hh ⊢
      subst hh
      exact List.eq_nil_of_length_eq_zero hl.symm
    | some bk =>
      obtain ⟨b, cap⟩ := bk
      simp only [hk] at hh ⊢
      obtain ⟨cur, h1, h2, h3, h4, h5, h6⟩ := hh
      have hz' : ∀ e ∈ es', e.cells.length = sz := fun e' he' => by
        obtain ⟨i, hi⟩ := List.mem_iff_getElem?.1 he'
        obtain ⟨e, g1, _, g3⟩ := pair i e' hi
        rw [g3, List.length_set]; exact h5 e (List.mem_of_getElem? g1)
      refine ⟨cur, h1, by omega, h3, h4, hz', fun j u hu hj => ?_⟩
      obtain ⟨e', g1, g2⟩ := flat_at hz' hu
      obtain ⟨e, g3, _, g4⟩ := pair _ e' g1
      rw [g4, List.getElem?_set_ne (fun h => hj h.symm)] at g2
      have hsz : j % sz < sz := by
        have := (List.getElem?_eq_some_iff.1 g2).1
        rw [h5 e (List.mem_of_getElem? g3)] at this; exact this
      have := flatMap_cells_get es h5 (j / sz) (j % sz) e g3 hsz
      rw [g2, Nat.mul_comm, Nat.div_add_mod] at this
      exact h6 j u this
  · obtain ⟨φ, N⟩ := hm.ns
    have nol : ∀ i, φ l i = none := fun i => by
      cases hp : φ l i with
      | none => rfl
      | some p =>
        obtain ⟨o, h1, h2⟩ := N.act l i p hp
        rw [ho] at h1; injection h1 with h1; subst h1; simp [O.isNest] at h2
    refine ⟨φ, fun l' el' sz' q' te' ze' g es2 hl' i e' he' => ?_, fun l' i p hp => ?_, N.own, fun l' i b k hp l2 o k' hl2 => ?_, N.inj⟩
    · rw [get_cons] at hl'
      split at hl'
      · rename_i e0; subst e0
        injection hl' with hl'
        injection hl' with e1 e2 e3 e4 e5 e6 e7
        subst e1; subst e2; subst e3; subst e4; subst e5; subst e6; subst e7
        obtain ⟨e, g1, g2, g3⟩ := pair i e' he'
        simp only [Holds] at hh
        cases hk : κ l with
        | none =>
          simp only [hk] at hh
          subst hh; simp at g1
        | some bk =>
          obtain ⟨b, cap⟩ := bk
          simp only [hk] at hh
          obtain ⟨cur, h1, h2, h3, h4, h5, h6⟩ := hh
          have hq : q < sz := by
            have := (List.getElem?_eq_some_iff.1 g2).1
            rw [h5 e (List.mem_of_getElem? g1)] at this; exact this
          have hfl := flatMap_cells_get es h5 i q e g1 hq
          rw [g2] at hfl
          obtain ⟨y, hy, hr⟩ := h6 _ _ hfl
          have hq' : q < e.cells.length := (List.getElem?_eq_some_iff.1 g2).1
          refine ⟨[], y, b, cap, by rw [g3, List.getElem?_set_self hq'], hk, by rw [cell_of_row w b _ cur el (0, 0) h1]; exact hy, fun L hL => by simp at hL, fun _ => ?_⟩
          cases hr
          rw [nol]
          exact ⟨⟨rfl, rfl⟩, rfl⟩
      · exact N.inn l' _ _ _ _ _ _ _ hl' i e' he'
    · obtain ⟨o, h1, h2⟩ := N.act l' i p hp
      have : l ≠ l' := fun e => by subst e; rw [nol] at hp; simp at hp
      exact ⟨o, by rw [get_cons, if_neg this]; exact h1, h2⟩
    · rw [get_cons] at hl2
      split at hl2
      · rename_i e0; subst e0; exact N.out l' i b k hp l _ k' ho
      · exact N.out l' i b k hp l2 o k' hl2
theorem sub_rowN {α : Type} {f : α → V} {s : S} {l sz q ze m : Nat} {el te : TypeId} {zv : V} (z : α) (ho : get s.H l = some (.row el sz (List.replicate m zv))) (hq : zv.cells[q]? = some .nls) (he : (f z).cells = zv.cells.set q (.sl ze [])) :
    Sub s ⟨s.T, (l, some (.nest el sz q te ze none ((List.replicate m z).map f))) :: s.H⟩ := by
  intro n c κ a w hs
  refine ⟨κ, hs.hd, hs.hn, hs.tm, mem_rowN hs.mem ho (by simp) fun i e e' h1 h2 => ?_⟩
  have e1 : e = zv := (List.mem_replicate.1 (List.mem_of_getElem? h1)).2
  rw [List.map_replicate] at h2
  have e2 : e' = f z := (List.mem_replicate.1 (List.mem_of_getElem? h2)).2
  subst e1; subst e2
  exact ⟨hq, he⟩
theorem sub_nilN {α : Type} {f : α → V} {s : S} {l sz q ze : Nat} {el te : TypeId} (ho : get s.H l = some (.row el sz [])) : Sub s ⟨s.T, (l, some (.nest el sz q te ze none (([] : List α).map f))) :: s.H⟩ := by
  intro n c κ a w hs
  exact ⟨κ, hs.hd, hs.hn, hs.tm, mem_rowN hs.mem ho (by simp) fun i e e' h1 h2 => by simp at h1⟩

/-! ### A row within that lies under a label is put back -/
theorem mem_fill {c : Cx} {κ : Ka} {H : List (Nat × Option O)} {w : World} {l sz q ze L i : Nat} {el te : TypeId} {es esL es0 : List V} {e0 e1 : V} (hm : Mem c κ H w) (ho : get H l = some (.nest el sz q te ze (some (i, L)) es)) (hL : get H L = some (.row te ze esL)) (h0 : es[i]? = some e0) (hq : e0.cells[q]? = some (.sl ze es0))
    (hlen : esL.length = es0.length) (h1 : e1.cells = e0.cells.set q (.sl ze esL)) : Mem c κ ((l, some (.nest el sz q te ze none (es.set i e1))) :: ([(L, none)] ++ H)) w := by
  have hlL : l ≠ L := fun e => by subst e; rw [ho] at hL; simp at hL
  have hh := hm.hp l _ ho
  have hi : i < es.length := (List.getElem?_eq_some_iff.1 h0).1
  have hql : q < e0.cells.length := (List.getElem?_eq_some_iff.1 hq).1
  refine hm.writeN ho (by simp) (Ext.refl _ _) ?_ ?_
  · simp only [Holds] at hh ⊢
    cases hk : κ l with
    | none => simp only [hk] at hh; subst hh; simp at h0
    | some bk =>
      obtain ⟨b, cap⟩ := bk
      simp only [hk] at hh ⊢
      obtain ⟨cur, g1, g2, g3, g4, g5, g6⟩ := hh
      have hz' : ∀ e ∈ es.set i e1, e.cells.length = sz := fun e he => by
        rcases List.mem_or_eq_of_mem_set he with h | h
        · exact g5 e h
        · subst h; rw [h1, List.length_set]; exact g5 e0 (List.mem_of_getElem? h0)
      refine ⟨cur, g1, by simpa using g2, g3, g4, hz', fun j u hu hj => ?_⟩
      obtain ⟨e, p1, p2⟩ := flat_at hz' hu
      have hold : ∃ e', es[j / sz]? = some e' ∧ e'.cells[j % sz]? = some u := by
        by_cases hji : i = j / sz
        · rw [← hji, List.getElem?_set_self hi] at p1
          injection p1 with p1; subst p1
          rw [h1, List.getElem?_set_ne (fun h => hj h.symm)] at p2
          exact ⟨e0, by rw [← hji]; exact h0, p2⟩
        · rw [List.getElem?_set_ne hji] at p1; exact ⟨e, p1, p2⟩
      obtain ⟨e', p3, p4⟩ := hold
      have hsz : j % sz < sz := by
        have := (List.getElem?_eq_some_iff.1 p4).1
        rw [g5 e' (List.mem_of_getElem? p3)] at this; exact this
      have := flatMap_cells_get es g5 (j / sz) (j % sz) e' p3 hsz
      rw [p4, Nat.mul_comm, Nat.div_add_mod] at this
      exact g6 j u this hj
  · obtain ⟨φ, N⟩ := hm.ns
    have hhL := hm.hp L _ hL
    have old : ∀ l' o, l' ≠ l → get ((l, some (O.nest el sz q te ze none (es.set i e1))) :: ([(L, none)] ++ H)) l' = some o → get H l' = some o ∧ l' ≠ L := fun l' o hne h => by
      rw [get_cons, if_neg (fun e => hne e.symm)] at h
      obtain ⟨h1, h2⟩ := get_kill (kill := [(L, none)]) (by simp) h
      exact ⟨h1, fun e => h2 (L, none) (by simp) e.symm⟩
    refine ⟨fun l' i' => if l' = l ∧ i' = i then κ L else φ l' i', fun l' el' sz' q' te' ze' g es2 hl' i' e' he' => ?_, fun l' i' p hp => ?_, fun l' i' b k hp => ?_, fun l' i' b k hp l2 o k' hl2 hk2 => ?_, fun l1 i1 b k1 l2 i2 k2 hp1 hp2 => ?_⟩
    · by_cases hl2 : l' = l
      · subst hl2
        rw [get_cons, if_pos rfl] at hl'
        injection hl' with hl'
        injection hl' with e1' e2 e3 e4 e5 e6 e7
        subst e1'; subst e2; subst e3; subst e4; subst e5; subst e6; subst e7
        by_cases hi2 : i' = i
        · subst hi2
          rw [List.getElem?_set_self hi] at he'
          injection he' with he'; subst he'
          obtain ⟨es3, y, b, cap, p1, p2, p3, p4, p5⟩ := N.inn l' _ _ _ _ _ _ _ ho i' e0 h0
          rw [hq] at p1; injection p1 with p1; injection p1 with _ p1; subst p1
          refine ⟨esL, y, b, cap, by rw [h1, List.getElem?_set_self hql], p2, p3, fun L' hL' => by simp at hL', fun _ => ?_⟩
          simp only [and_self, if_true]
          refine ⟨?_, hhL⟩
          have := p4 L rfl
          rw [hlen]; exact this
        · rw [List.getElem?_set_ne (fun e => hi2 e.symm)] at he'
          simp only [hi2, and_false, if_false]
          refine (N.inn l' _ _ _ _ _ _ _ ho i' e' he').move (fun _ _ _ _ _ h => h) rfl (fun _ _ _ => rfl) (fun _ _ _ => rfl) (fun L' hL' => by simp at hL') (fun _ L' e => ?_)
          injection e with e; injection e with e _; exact hi2 e.symm
      · simp only [hl2, false_and, if_false]
        exact N.inn l' _ _ _ _ _ _ _ (old l' _ hl2 hl').1 i' e' he'
    · by_cases hl2 : l' = l
      · subst hl2; exact ⟨_, by rw [get_cons, if_pos rfl], rfl⟩
      · simp only [hl2, false_and, if_false] at hp
        obtain ⟨o, p1, p2⟩ := N.act l' i' p hp
        have hne : L ≠ l' := fun e => by subst e; rw [hL] at p1; injection p1 with p1; subst p1; simp [O.isNest] at p2
        exact ⟨o, by rw [get_cons, if_neg (fun e => hl2 e.symm), List.singleton_append, get_cons, if_neg hne]; exact p1, p2⟩
    · by_cases hc : l' = l ∧ i' = i
      · simp only [hc, and_self, if_true] at hp
        exact ⟨hm.lt hL hp, hm.ow L _ b k hL hp⟩
      · simp only [hc, if_false] at hp; exact N.own l' i' b k hp
    · have hl2' : ∃ o', get H l2 = some o' ∧ l2 ≠ L := by
        by_cases e : l2 = l
        · subst e; exact ⟨_, ho, hlL⟩
        · exact ⟨o, old l2 o e hl2⟩
      obtain ⟨o', q1, q2⟩ := hl2'
      by_cases hc : l' = l ∧ i' = i
      · simp only [hc, and_self, if_true] at hp
        exact q2 (hm.ij L l2 _ o' b k k' hL q1 hp hk2).symm
      · simp only [hc, if_false] at hp; exact N.out l' i' b k hp l2 o' k' q1 hk2
    · by_cases hc1 : l1 = l ∧ i1 = i <;> by_cases hc2 : l2 = l ∧ i2 = i
      · exact ⟨hc1.1.trans hc2.1.symm, hc1.2.trans hc2.2.symm⟩
      · simp only [hc1, and_self, if_true] at hp1
        simp only [hc2, if_false] at hp2
        exact (N.out l2 i2 b k2 hp2 L _ k1 hL hp1).elim
      · simp only [hc2, and_self, if_true] at hp2
        simp only [hc1, if_false] at hp1
        exact (N.out l1 i1 b k1 hp1 L _ k2 hL hp2).elim
      · simp only [hc1, if_false] at hp1
        simp only [hc2, if_false] at hp2
        exact N.inj l1 i1 b k1 l2 i2 k2 hp1 hp2
theorem sub_fill {α β : Type} [Inhabited α] {f : α → V} {h : β → V} {s : S} {l sz q ze L : Nat} {el te : TypeId} {xs : List α} {ys y0 : List β} {m : Int} (w : α) (ho : get s.H l = some (.nest el sz q te ze (some (m.toNat, L)) (xs.map f))) (hL : get s.H L = some (.row te ze (ys.map h))) (hm : 0 ≤ m ∧ m < xs.length)
    (hq : (f (at' xs m)).cells[q]? = some (.sl ze (y0.map h))) (hlen : ys.length = y0.length) (h1 : (f w).cells = (f (at' xs m)).cells.set q (.sl ze (ys.map h))) : Sub s ⟨s.T, (l, some (.nest el sz q te ze none ((put' xs m w).map f))) :: (L, none) :: s.H⟩ := by
  intro n c κ a w' hs
  have := mem_fill hs.mem ho hL (idx_ok hm).2 hq (by simpa using hlen) h1
  rw [put_map] at this
  exact ⟨κ, hs.hd, hs.hn, hs.tm, this⟩

/-! ### Stores -/
theorem splice_get {cur ys : List Value} {o : Nat} (hfit : o + ys.length ≤ cur.length) (p : Nat) : (cur.take o ++ ys ++ cur.drop (o + ys.length))[p]? = if o ≤ p ∧ p < o + ys.length then ys[p - o]? else cur[p]? := by
  by_cases h1 : p < o
  · rw [List.append_assoc, List.getElem?_append_left (by rw [List.length_take]; omega), List.getElem?_take, if_pos h1, if_neg (by omega)]
  · by_cases h2 : p < o + ys.length
    · rw [List.append_assoc, List.getElem?_append_right (by rw [List.length_take]; omega), List.length_take, List.getElem?_append_left (by omega), if_pos ⟨by omega, h2⟩]
      congr 1; omega
    · rw [List.getElem?_append_right (by rw [List.length_append, List.length_take]; omega), List.length_append, List.length_take, List.getElem?_drop, if_neg (by omega)]
      congr 1; omega
/-- an element of a nest before and after its cells from j on are written -/
structure Wr (sz q j : Nat) (us : List V) (e0 e1 : V) : Prop where
  len : e1.cells.length = sz
  fit : j + us.length ≤ sz
  get : ∀ p, p ≠ q → e1.cells[p]? = if j ≤ p ∧ p < j + us.length then us[p - j]? else e0.cells[p]?
theorem holdsN {c : Cx} {κ : Ka} {w : World} {l sz q ze i j b cap : Nat} {el te : TypeId} {g g' : Option (Nat × Nat)} {es : List V} {e0 e1 : V} {us : List V} {ys : List Value} (hk : κ l = some (b, cap)) (hh : Holds c κ w l (.nest el sz q te ze g es)) (he : es[i]? = some e0) (hW : Wr sz q j us e0 e1)
    (hr : All2 (RepC c κ) us ys) (hro : ∀ p u, us[p]? = some u → j + p ≠ q → u.ro = true) : ∃ cur : Array Value, w.heap[b]? = some (.cells cur el (0, 0)) ∧ i * sz + j + us.length ≤ cur.size ∧ i < es.length ∧ (∀ e ∈ es, e.cells.length = sz) ∧
      Holds c κ (w.setRow b (cur.toList.take (i * sz + j) ++ ys ++ cur.toList.drop (i * sz + j + us.length)).toArray) l (.nest el sz q te ze g' (es.set i e1)) := by
  simp only [Holds, hk] at hh
  obtain ⟨cur, h1, h2, h3, h4, h5, h6⟩ := hh
  have hi : i < es.length := (List.getElem?_eq_some_iff.1 he).1
  have hyl : ys.length = us.length := hr.length.symm
  have hfit := hW.fit
  have hi1 : i * sz + sz ≤ es.length * sz := by have := Nat.mul_le_mul_right sz (show i + 1 ≤ es.length by omega); rw [Nat.add_mul] at this; omega
  have hi2 : es.length * sz ≤ cap * sz := Nat.mul_le_mul_right _ h2
  refine ⟨cur, h1, by omega, hi, h5, ?_⟩
  have hz' : ∀ e ∈ es.set i e1, e.cells.length = sz := fun e he' => by
    rcases List.mem_or_eq_of_mem_set he' with h | h
    · exact h5 e h
    · subst h; exact hW.len
  simp only [Holds, hk]
  have hcl : i * sz + j + ys.length ≤ cur.toList.length := by have := Array.length_toList (xs := cur); omega
  refine ⟨_, setRow_heap w b cur _ el _ h1, by simpa using h2, h3, ?_, hz', fun p u hu hp => ?_⟩
  · have hcl' := Array.length_toList (xs := cur)
    simp only [List.size_toArray, List.length_append, List.length_take, List.length_drop]; omega
  · have hcur : (cur.toList.take (i * sz + j) ++ ys ++ cur.toList.drop (i * sz + j + us.length)).toArray[p]? = if i * sz + j ≤ p ∧ p < i * sz + j + ys.length then ys[p - (i * sz + j)]? else cur[p]? := by
      rw [← hyl, List.getElem?_toArray, splice_get hcl]; simp
    rw [hcur]
    obtain ⟨e, p1, p2⟩ := flat_at hz' hu
    have hsz : p % sz < sz := by
      have := (List.getElem?_eq_some_iff.1 p2).1
      rw [hz' e (List.mem_of_getElem? p1)] at this; exact this
    have hdm : p / sz * sz + p % sz = p := by rw [Nat.mul_comm]; exact Nat.div_add_mod p sz
    have old : ∀ e', es[p / sz]? = some e' → e'.cells[p % sz]? = some u → ∃ y, cur[p]? = some y ∧ RepR c u y := fun e' p3 p4 => by
      have := flatMap_cells_get es h5 (p / sz) (p % sz) e' p3 hsz
      rw [p4, hdm] at this
      exact h6 p u this hp
    by_cases hji : i = p / sz
    · rw [← hji, List.getElem?_set_self hi] at p1
      injection p1 with p1; subst p1
      rw [hW.get _ hp] at p2
      rw [← hji] at hdm
      by_cases hin : j ≤ p % sz ∧ p % sz < j + us.length
      · rw [if_pos hin] at p2
        rw [if_pos (by omega), show p - (i * sz + j) = p % sz - j by omega]
        obtain ⟨y, hy, hry⟩ := hr.get _ u p2
        exact ⟨y, hy, repR_of_repC (hro _ u p2 (by omega)) hry⟩
      · rw [if_neg hin] at p2
        rw [if_neg (by omega)]
        exact old e0 (by rw [← hji]; exact he) p2
    · rw [List.getElem?_set_ne hji] at p1
      rw [if_neg (fun h => hji ?_)]
      · exact old e p1 p2
      · refine Nat.le_antisymm ((Nat.le_div_iff_mul_le (by omega)).2 (by omega)) (Nat.le_of_lt_succ ((Nat.div_lt_iff_lt_mul (by omega)).2 ?_))
        rw [Nat.succ_mul]; omega
theorem Inner.wr {c : Cx} {κ : Ka} {p : Option (Nat × Nat)} {w w' : World} {l sz q : Nat} {te : TypeId} {ze : Nat} {h h' : Option (Nat × Nat)} {i : Nat} {e e' : V} (hc : ∀ b k, κ l = some (b, k) → w'.cell? ⟨b, i * sz + q, none⟩ = w.cell? ⟨b, i * sz + q, none⟩) (hp : ∀ b k, p = some (b, k) → w'.heap[b]? = w.heap[b]?)
    (h1 : ∀ L, h' = some (i, L) → h = some (i, L)) (h2 : (∀ L, h' ≠ some (i, L)) → ∀ L, h ≠ some (i, L)) (he : e'.cells[q]? = e.cells[q]?) (hI : Inner c κ p w l sz q te ze h i e) : Inner c κ p w' l sz q te ze h' i e' := by
  obtain ⟨es, y, b, cap, g1, g2, g3, g4, g5⟩ := hI
  exact ⟨es, y, b, cap, he.trans g1, g2, (hc b cap g2).trans g3, fun L hL => g4 L (h1 L hL), fun hn => (g5 (h2 hn)).move (fun _ _ _ h => h) hp⟩
theorem cell_set {w : World} {b o k : Nat} {cur : Array Value} {ys : List Value} {el : TypeId} (hb : w.heap[b]? = some (.cells cur el (0, 0))) (hyl : ys.length = k) (hfit : o + k ≤ cur.size) (p : Nat) :
    (w.setRow b (cur.toList.take o ++ ys ++ cur.toList.drop (o + k)).toArray).cell? ⟨b, p, none⟩ = if o ≤ p ∧ p < o + k then ys[p - o]? else w.cell? ⟨b, p, none⟩ := by
  subst hyl
  rw [cell_of_row _ b p _ el (0, 0) (setRow_heap w b cur _ el _ hb), cell_of_row w b p cur el (0, 0) hb, List.getElem?_toArray, splice_get (by rw [Array.length_toList]; exact hfit)]
  simp
/-- cells of an element are written, the row within stays -/
theorem mem_stN {c : Cx} {κ : Ka} {H : List (Nat × Option O)} {w : World} {l sz q ze i j b cap : Nat} {el te : TypeId} {g : Option (Nat × Nat)} {es : List V} {e0 e1 : V} {us : List V} {ys : List Value} (hm : Mem c κ H w) (ho : get H l = some (.nest el sz q te ze g es)) (hk : κ l = some (b, cap)) (he : es[i]? = some e0) (hW : Wr sz q j us e0 e1)
    (hr : All2 (RepC c κ) us ys) (hro : us.all V.ro = true) (hq : q < j ∨ j + us.length ≤ q) (hqs : q < sz) (hqe : e1.cells[q]? = e0.cells[q]?) : ∃ cur : Array Value, w.heap[b]? = some (.cells cur el (0, 0)) ∧ i * sz + j + us.length ≤ cur.size ∧
      Mem c κ ((l, some (.nest el sz q te ze g (es.set i e1))) :: ([] ++ H)) (w.setRow b (cur.toList.take (i * sz + j) ++ ys ++ cur.toList.drop (i * sz + j + us.length)).toArray) := by
  obtain ⟨cur, hb, hfit, hi, hz, hH⟩ := holdsN (g' := g) hk (hm.hp l _ ho) he hW hr (fun p u hu _ => (List.all_eq_true.1 hro) u (List.mem_of_getElem? hu))
  have hx := ext_setRow w b (cur.toList.take (i * sz + j) ++ ys ++ cur.toList.drop (i * sz + j + us.length)).toArray el cur hb
  refine ⟨cur, hb, hfit, hm.writeN ho (by simp) (hx.mono fun i hi => ⟨cap, by rw [hi]; exact hk⟩) hH ?_⟩
  obtain ⟨φ, N⟩ := hm.ns
  have hyl : ys.length = us.length := hr.length.symm
  have hcell : ∀ i', i' < es.length → (w.setRow b (cur.toList.take (i * sz + j) ++ ys ++ cur.toList.drop (i * sz + j + us.length)).toArray).cell? ⟨b, i' * sz + q, none⟩ = w.cell? ⟨b, i' * sz + q, none⟩ := fun i' hi' => by
    have hjs := hW.fit
    rw [cell_set hb hyl hfit, if_neg]
    rintro ⟨h1, h2⟩
    rcases Nat.lt_trichotomy i i' with h | h | h
    · have := Nat.mul_le_mul_right sz (show i + 1 ≤ i' by omega); rw [Nat.add_mul] at this; omega
    · subst h; omega
    · have := Nat.mul_le_mul_right sz (show i' + 1 ≤ i by omega); rw [Nat.add_mul] at this; omega
  have inb : ∀ l' i' b' k', φ l' i' = some (b', k') → (w.setRow b (cur.toList.take (i * sz + j) ++ ys ++ cur.toList.drop (i * sz + j + us.length)).toArray).heap[b']? = w.heap[b']? := fun l' i' b' k' hp =>
    hx.block b' (N.own l' i' b' k' hp).1 fun e => by subst e; exact N.out l' i' b' k' hp l _ cap ho hk
  have keys : ∀ l' o, get ((l, some (O.nest el sz q te ze g (es.set i e1))) :: ([] ++ H)) l' = some o → ∃ o', get H l' = some o' := fun l' o h => by
    rw [get_cons] at h
    split at h
    · rename_i e; subst e; exact ⟨_, ho⟩
    · exact ⟨o, h⟩
  refine ⟨φ, fun l' el' sz' q' te' ze' g2 es2 hl' i' e' he' => ?_, fun l' i' p hp => ?_, fun l' i' b' k' hp => ?_, fun l' i' b' k' hp l2 o k2 hl2 => ?_, N.inj⟩
  · rw [get_cons] at hl'
    split at hl'
    · rename_i e0'; subst e0'
      injection hl' with hl'
      injection hl' with e1' e2 e3 e4 e5 e6 e7
      subst e1'; subst e2; subst e3; subst e4; subst e5; subst e6; subst e7
      have hi' : i' < es.length := by have := (List.getElem?_eq_some_iff.1 he').1; simpa using this
      by_cases hii : i = i'
      · subst hii
        rw [List.getElem?_set_self hi] at he'
        injection he' with he'; subst he'
        exact (N.inn l _ _ _ _ _ _ _ ho i e0 he).wr (fun b2 k2 hk2 => by rw [hk] at hk2; injection hk2 with hk2; injection hk2 with hk2 _; subst hk2; exact hcell i hi') (fun b2 k2 hp => inb _ _ _ _ hp) (fun _ h => h) (fun h => h) hqe
      · rw [List.getElem?_set_ne hii] at he'
        exact (N.inn l _ _ _ _ _ _ _ ho i' e' he').wr (fun b2 k2 hk2 => by rw [hk] at hk2; injection hk2 with hk2; injection hk2 with hk2 _; subst hk2; exact hcell i' hi') (fun b2 k2 hp => inb _ _ _ _ hp) (fun _ h => h) (fun h => h) rfl
    · rename_i hne
      refine (N.inn l' _ _ _ _ _ _ _ hl' i' e' he').move (fun _ _ _ _ _ h => h) rfl (fun b2 k2 hk2 => hx.block b2 (hm.lt hl' hk2) fun e => hne (hm.ij l l' _ _ b2 cap k2 ho hl' (by rw [e]; exact hk) hk2)) (fun b2 k2 hp => inb _ _ _ _ hp) (fun L hL => ⟨L, hL, rfl⟩) (fun h => h)
  · obtain ⟨o, p1, p2⟩ := N.act l' i' p hp
    by_cases hll : l = l'
    · subst hll; exact ⟨_, by rw [get_cons, if_pos rfl], rfl⟩
    · exact ⟨o, by rw [get_cons, if_neg hll]; exact p1, p2⟩
  · obtain ⟨p1, p2, p3⟩ := N.own l' i' b' k' hp
    exact ⟨Nat.lt_of_lt_of_le p1 hx.size, p2, p3⟩
  · obtain ⟨o', h'⟩ := keys l2 o hl2
    exact N.out l' i' b' k' hp l2 o' k2 h'
/-- cells of an element are written, among them the row within: it lies under a label from now on -/
theorem mem_stNh {c : Cx} {κ : Ka} {H : List (Nat × Option O)} {w : World} {l sz q ze i j b cap L m : Nat} {el te : TypeId} {es esL : List V} {e0 e1 : V} {us : List V} {ys : List Value} (hm : Mem c κ H w) (ho : get H l = some (.nest el sz q te ze none es)) (hk : κ l = some (b, cap)) (he : es[i]? = some e0) (hW : Wr sz q j us e0 e1)
    (hr : All2 (RepC c κ) us ys) (hro : (us.eraseIdx (q - j)).all V.ro = true) (hjq : j ≤ q) (hqu : us[q - j]? = some (.os L m)) (hqe : e1.cells[q]? = some (.sl ze esL)) (hml : esL.length = m) : ∃ cur : Array Value, w.heap[b]? = some (.cells cur el (0, 0)) ∧ i * sz + j + us.length ≤ cur.size ∧
      Mem c κ ((l, some (.nest el sz q te ze (some (i, L)) (es.set i e1))) :: ([] ++ H)) (w.setRow b (cur.toList.take (i * sz + j) ++ ys ++ cur.toList.drop (i * sz + j + us.length)).toArray) := by
  obtain ⟨cur, hb, hfit, hi, hz, hH⟩ := holdsN (g' := some (i, L)) hk (hm.hp l _ ho) he hW hr (fun p u hu hne => (List.all_eq_true.1 hro) u (mem_erase hu (by omega)))
  have hx := ext_setRow w b (cur.toList.take (i * sz + j) ++ ys ++ cur.toList.drop (i * sz + j + us.length)).toArray el cur hb
  refine ⟨cur, hb, hfit, hm.writeN ho (by simp) (hx.mono fun i hi => ⟨cap, by rw [hi]; exact hk⟩) hH ?_⟩
  obtain ⟨φ, N⟩ := hm.ns
  have hyl : ys.length = us.length := hr.length.symm
  have hqus : q - j < us.length := (List.getElem?_eq_some_iff.1 hqu).1
  have hjs := hW.fit
  have hcell : ∀ i', i' ≠ i → (w.setRow b (cur.toList.take (i * sz + j) ++ ys ++ cur.toList.drop (i * sz + j + us.length)).toArray).cell? ⟨b, i' * sz + q, none⟩ = w.cell? ⟨b, i' * sz + q, none⟩ := fun i' hi' => by
    rw [cell_set hb hyl hfit, if_neg]
    rintro ⟨h1, h2⟩
    rcases Nat.lt_trichotomy i i' with h | h | h
    · have := Nat.mul_le_mul_right sz (show i + 1 ≤ i' by omega); rw [Nat.add_mul] at this; omega
    · exact hi' h.symm
    · have := Nat.mul_le_mul_right sz (show i' + 1 ≤ i by omega); rw [Nat.add_mul] at this; omega
  have inb : ∀ l' i' b' k', φ l' i' = some (b', k') → (w.setRow b (cur.toList.take (i * sz + j) ++ ys ++ cur.toList.drop (i * sz + j + us.length)).toArray).heap[b']? = w.heap[b']? := fun l' i' b' k' hp =>
    hx.block b' (N.own l' i' b' k' hp).1 fun e => by subst e; exact N.out l' i' b' k' hp l _ cap ho hk
  have keys : ∀ l' o, get ((l, some (O.nest el sz q te ze (some (i, L)) (es.set i e1))) :: ([] ++ H)) l' = some o → ∃ o', get H l' = some o' := fun l' o h => by
    rw [get_cons] at h
    split at h
    · rename_i e; subst e; exact ⟨_, ho⟩
    · exact ⟨o, h⟩
  have φs : ∀ l' i' p, (if l' = l ∧ i' = i then none else φ l' i') = some p → ¬ (l' = l ∧ i' = i) ∧ φ l' i' = some p := fun l' i' p h => by
    split at h
    · simp at h
    · rename_i hn; exact ⟨hn, h⟩
  refine ⟨fun l' i' => if l' = l ∧ i' = i then none else φ l' i', fun l' el' sz' q' te' ze' g2 es2 hl' i' e' he' => ?_, fun l' i' p hp => ?_, fun l' i' b' k' hp => ?_, fun l' i' b' k' hp l2 o k2 hl2 => ?_, fun l1 i1 b' k1 l2 i2 k2 hp1 hp2 => N.inj _ _ _ _ _ _ _ (φs _ _ _ hp1).2 (φs _ _ _ hp2).2⟩
  · rw [get_cons] at hl'
    split at hl'
    · rename_i e0'; subst e0'
      injection hl' with hl'
      injection hl' with e1' e2 e3 e4 e5 e6 e7
      subst e1'; subst e2; subst e3; subst e4; subst e5; subst e6; subst e7
      by_cases hii : i = i'
      · subst hii
        rw [List.getElem?_set_self hi] at he'
        injection he' with he'; subst he'
        obtain ⟨y, hy, hry⟩ := hr.get _ _ hqu
        refine ⟨esL, y, b, cap, hqe, hk, ?_, fun L' hL' => ?_, fun hno => absurd rfl (hno L)⟩
        · rw [cell_set hb hyl hfit, if_pos (by omega), show i * sz + q - (i * sz + j) = q - j by omega]; exact hy
        · injection hL' with hL'; injection hL' with _ hL'; subst hL'
          rw [hml]; exact hry
      · rw [List.getElem?_set_ne hii] at he'
        have hn : ¬ (l = l ∧ i' = i) := fun h => hii h.2.symm
        show Inner c κ (if l = l ∧ i' = i then none else φ l i') _ _ _ _ _ _ _ _ _
        rw [if_neg hn]
        exact (N.inn l _ _ _ _ _ _ _ ho i' e' he').wr (fun b2 k2 hk2 => by rw [hk] at hk2; injection hk2 with hk2; injection hk2 with hk2 _; subst hk2; exact hcell i' (fun e => hii e.symm)) (fun b2 k2 hp => inb _ _ _ _ hp)
          (fun L' hL' => by injection hL' with hL'; injection hL' with e _; exact absurd e hii) (fun _ L' e => by simp at e) rfl
    · rename_i hne
      have hn : ¬ (l' = l ∧ i' = i) := fun h => hne h.1.symm
      show Inner c κ (if l' = l ∧ i' = i then none else φ l' i') _ _ _ _ _ _ _ _ _
      rw [if_neg hn]
      refine (N.inn l' _ _ _ _ _ _ _ hl' i' e' he').move (fun _ _ _ _ _ h => h) rfl (fun b2 k2 hk2 => hx.block b2 (hm.lt hl' hk2) fun e => hne (hm.ij l l' _ _ b2 cap k2 ho hl' (by rw [e]; exact hk) hk2)) (fun b2 k2 hp => inb _ _ _ _ hp) (fun L hL => ⟨L, hL, rfl⟩) (fun h => h)
  · obtain ⟨hn, hp⟩ := φs _ _ _ hp
    obtain ⟨o, p1, p2⟩ := N.act l' i' p hp
    by_cases hll : l = l'
    · subst hll; exact ⟨_, by rw [get_cons, if_pos rfl], rfl⟩
    · exact ⟨o, by rw [get_cons, if_neg hll]; exact p1, p2⟩
  · obtain ⟨p1, p2, p3⟩ := N.own l' i' b' k' (φs _ _ _ hp).2
    exact ⟨Nat.lt_of_lt_of_le p1 hx.size, p2, p3⟩
  · obtain ⟨o', h'⟩ := keys l2 o hl2
    exact N.out l' i' b' k' (φs _ _ _ hp).2 l2 o' k2 h'
section
variable {P : Program} {n : Nat} {ops : Array Oper}
variable {s s' : S} {r : List Oper} {bs : List A} {g : Bool} {gks : List Nat} {d : Nat} {ty : TypeId} {pos : String} {af : Array Edge} {gd : Option (Nat × Bool)}
variable {α : Type} {f : α → V} {xs : List α} {m : Int}
theorem nest_some {c : Cx} {κ : Ka} {w : World} {l sz q ze i : Nat} {el te : TypeId} {gg : Option (Nat × Nat)} {es : List V} {e : V} (h : Holds c κ w l (.nest el sz q te ze gg es)) (he : es[i]? = some e) : ∃ b cap, κ l = some (b, cap) := by
  simp only [Holds] at h
  cases hk : κ l with
  | none => simp only [hk] at h; subst h; simp at he
  | some p => exact ⟨p.1, p.2, rfl⟩
theorem q_stN [Inhabited α] {t el te : TypeId} {x y : Operand} {l sz q ze j k0 : Nat} {gg : Option (Nat × Nat)} {v : V} (w : α) {ks ks' : List Nat} (hgd : Gd ops s gd g gks) (hg : g = true) (hx : Od s g x (.op l sz m.toNat j) ks) (hy : Od s g y v ks') (ho : get s.H l = some (.nest el sz q te ze gg (xs.map f))) (ht1 : tySz P t = some k0)
    (hm : 0 ≤ m ∧ m < xs.length) (hz : (f (at' xs m)).cells.length = sz) (he1 : (f w).cells = splice (f (at' xs m)).cells j v.cells) (hok : (v.roc && v.notup && Nat.beq v.cells.length k0 && Nat.ble (j + k0) sz && Nat.blt q sz && (Nat.blt q j || Nat.ble (j + k0) q)) = true)
    (k : Lex P n ops r ⟨s.T, (l, some (.nest el sz q te ze gg ((put' xs m w).map f))) :: s.H⟩ bs s') :
    Lex P n ops (⟨none, .store t x y, ty, pos, af, gd⟩ :: r) s (⟨(ks ++ ks') ++ gks, [l], [], [], [(l, some (.nest el sz q te ze gg ((put' xs m w).map f)))]⟩ :: bs) s' := by
  refine q_skip (o := ⟨none, .store t x y, ty, pos, af, gd⟩) hgd hg rfl (fun s' ht hh c κ a w0 hc hs => ?_) k
  simp only [Bool.and_eq_true, Bool.or_eq_true] at hok
  obtain ⟨⟨⟨⟨⟨hro, hnt⟩, hq⟩, hj⟩, hqs⟩, hqj⟩ := hok
  have hq' : v.cells.length = k0 := Nat.eq_of_beq_eq_true hq
  have hj' : j + k0 ≤ sz := Nat.le_of_ble_eq_true hj
  have hqs' : q < sz := Nat.le_of_ble_eq_true hqs
  have hqj' : q < j ∨ j + v.cells.length ≤ q := by rw [hq']; exact hqj.imp (fun h => Nat.le_of_ble_eq_true h) (fun h => Nat.le_of_ble_eq_true h)
  obtain ⟨b, cap, hk, hpx⟩ := repT_op ((hx.agree (ag1 ht)).rep hs hg)
  obtain ⟨hcells, hone⟩ := repT_cells (roc_okc hro) hnt ((hy.agree (ag2 ht)).rep hs hg)
  have hgl := (hh l (by simp)).trans ho
  have hsg : ∀ p, (f w).cells[p]? = if j ≤ p ∧ p < j + v.cells.length then v.cells[p - j]? else (f (at' xs m)).cells[p]? := fun p => by
    rw [he1, splice]
    by_cases h1 : p < j
    · rw [List.append_assoc, List.getElem?_append_left (by rw [List.length_take]; omega), List.getElem?_take, if_pos h1, if_neg (by omega)]
    · by_cases h2 : p < j + v.cells.length
      · rw [List.append_assoc, List.getElem?_append_right (by rw [List.length_take]; omega), List.length_take, List.getElem?_append_left (by omega), if_pos ⟨by omega, h2⟩]
        congr 1; omega
      · rw [List.getElem?_append_right (by rw [List.length_append, List.length_take]; omega), List.length_append, List.length_take, List.getElem?_drop, if_neg (by omega)]
        congr 1; omega
  have hW : Wr sz q j v.cells (f (at' xs m)) (f w) := ⟨by rw [he1, splice]; simp only [List.length_append, List.length_take, List.length_drop]; omega, by omega, fun p _ => hsg p⟩
  have hxs : (a.eval y).cells.size = k0 := by have := hcells.length; simp at this; omega
  obtain ⟨cur, hb, hfit, hmem⟩ := mem_stN hs.mem hgl hk (idx_ok hm).2 hW hcells hro hqj' hqs' (by rw [hsg, if_neg (by omega)])
  have hrun := run_storeAt (P := P) (w := w0) (o := m.toNat * sz + j) ht1 hxs hone hb (by omega)
  rw [← hq'] at hrun
  refine ⟨w0.setRow b (cur.toList.take (m.toNat * sz + j) ++ (a.eval y).cells.toList ++ cur.toList.drop (m.toNat * sz + j + v.cells.length)).toArray, by simp only [execOp, hpx, Sem.run_bind, hrun, Result.andThen_ok, Sem.run_pure], ?_⟩
  rw [put_map] at hmem
  exact hmem
theorem q_stNh [Inhabited α] {t el te : TypeId} {x y : Operand} {l sz q ze L : Nat} {v : V} {β : Type} {h : β → V} {ys : List β} (w : α) {ks ks' : List Nat} (hgd : Gd ops s gd g gks) (hg : g = true) (hx : Od s g x (.op l sz m.toNat 0) ks) (hy : Od s g y v ks') (ho : get s.H l = some (.nest el sz q te ze none (xs.map f))) (ht1 : tySz P t = some sz)
    (hm : 0 ≤ m ∧ m < xs.length) (he1 : (f w).cells = v.cells.set q (.sl ze (ys.map h))) (hv : v.cells[q]? = some (.os L ys.length)) (hok : (v.okc && v.notup && Nat.beq v.cells.length sz && (v.cells.eraseIdx q).all V.ro) = true)
    (k : Lex P n ops r ⟨s.T, (l, some (.nest el sz q te ze (some (m.toNat, L)) ((put' xs m w).map f))) :: s.H⟩ bs s') :
    Lex P n ops (⟨none, .store t x y, ty, pos, af, gd⟩ :: r) s (⟨(ks ++ ks') ++ gks, [l], [], [], [(l, some (.nest el sz q te ze (some (m.toNat, L)) ((put' xs m w).map f)))]⟩ :: bs) s' := by
  refine q_skip (o := ⟨none, .store t x y, ty, pos, af, gd⟩) hgd hg rfl (fun s' ht hh c κ a w0 hc hs => ?_) k
  simp only [Bool.and_eq_true] at hok
  obtain ⟨⟨⟨hokc, hnt⟩, hq⟩, hro⟩ := hok
  have hq' : v.cells.length = sz := Nat.eq_of_beq_eq_true hq
  obtain ⟨b, cap, hk, hpx⟩ := repT_op ((hx.agree (ag1 ht)).rep hs hg)
  obtain ⟨hcells, hone⟩ := repT_cells hokc hnt ((hy.agree (ag2 ht)).rep hs hg)
  have hgl := (hh l (by simp)).trans ho
  have hql : q < v.cells.length := (List.getElem?_eq_some_iff.1 hv).1
  have hW : Wr sz q 0 v.cells (f (at' xs m)) (f w) := ⟨by rw [he1, List.length_set]; exact hq', by omega, fun p hp => by
    rw [he1, List.getElem?_set_ne (fun e => hp e.symm)]
    by_cases h1 : p < v.cells.length
    · rw [if_pos (by omega)]; rfl
    · rw [if_neg (by omega), List.getElem?_eq_none (by omega)]
      have hho := hs.mem.hp l _ hgl
      simp only [Holds, hk] at hho
      obtain ⟨_, _, _, _, _, hz, _⟩ := hho
      rw [List.getElem?_eq_none]
      rw [hz _ (List.mem_of_getElem? (idx_ok (f := f) hm).2)]; omega⟩
  have hxs : (a.eval y).cells.size = sz := by have := hcells.length; simp at this; omega
  obtain ⟨cur, hb, hfit, hmem⟩ := mem_stNh hs.mem hgl hk (idx_ok hm).2 hW hcells (by simpa using hro) (Nat.zero_le q) (by simpa using hv) (by rw [he1, List.getElem?_set_self hql]) (by simp)
  have hrun := run_storeAt (P := P) (w := w0) (o := m.toNat * sz + 0) ht1 hxs hone hb (by omega)
  refine ⟨w0.setRow b (cur.toList.take (m.toNat * sz + 0) ++ (a.eval y).cells.toList ++ cur.toList.drop (m.toNat * sz + 0 + sz)).toArray, by simp only [execOp, hpx, Sem.run_bind, hrun, Result.andThen_ok, Sem.run_pure], ?_⟩
  rw [put_map] at hmem
  rw [hq'] at hmem
  exact hmem

/-! ### A row within is taken out: it lies under a label until it is put back -/
theorem q_ldN [Inhabited α] {β : Type} {h : β → V} {ys : List β} {x : Operand} {l sz q ze L : Nat} {el te t1 : TypeId} {ks : List Nat} (hgd : Gd ops s gd g gks) (hg : g = true) (hx : Od s g x (.op l sz m.toNat q) ks) (ho : get s.H l = some (.nest el sz q te ze none (xs.map f))) (hm : 0 ≤ m ∧ m < xs.length)
    (hq : (f (at' xs m)).cells[q]? = some (.sl ze (ys.map h))) (ht1 : isCell P t1 = true) (hf : freshB L s = true) (hd : Nat.blt d n = true)
    (k : Lex P n ops r ⟨(d, some (true, .os L ys.length)) :: s.T, (L, some (.row te ze (ys.map h))) :: (l, some (.nest el sz q te ze (some (m.toNat, L)) (xs.map f))) :: s.H⟩ bs s') :
    Lex P n ops (⟨some d, .load t1 x, ty, pos, af, gd⟩ :: r) s (⟨ks ++ gks, [l], [L], [(d, some (true, .os L ys.length))], [(L, some (.row te ze (ys.map h))), (l, some (.nest el sz q te ze (some (m.toNat, L)) (xs.map f)))]⟩ :: bs) s' := by
  refine q_mem (o := ⟨some d, .load t1 x, ty, pos, af, gd⟩) hgd hg rfl hd (fun l' hl' => by simp at hl'; subst hl'; exact Fresh.of hf) (fun s' ht hh hfr c κ a w hc hs => ?_) k
  have hfl := hfr L (by simp)
  have hx' := hx.agree ht
  have hlL : l ≠ L := fun e => hx'.fresh hfl (by rw [e]; simp [V.labs, V.labS, V.labC, V.labB])
  obtain ⟨b, cap, hk, hpx⟩ := repT_op (hx'.rep hs hg)
  have hgl := (hh l (by simp)).trans ho
  have hmm := hs.mem
  obtain ⟨φ, N⟩ := hmm.ns
  obtain ⟨es0, y, b', cap', g1, g2, g3, _, g5⟩ := N.inn l _ _ _ _ _ _ _ hgl m.toNat _ (idx_ok (f := f) hm).2
  rw [hq] at g1; injection g1 with g1; injection g1 with _ g1; subst g1
  rw [hk] at g2; injection g2 with g2; injection g2 with g2 g2'; subst g2; subst g2'
  obtain ⟨o1, o2⟩ := g5 (by simp)
  have kL : ∀ l', l' ≠ L → (if l' = L then φ l m.toNat else κ l') = κ l' := fun l' h => by rw [if_neg h]
  have live : ∀ l' o, l' ≠ L → get ((L, some (O.row te ze (ys.map h))) :: (l, some (.nest el sz q te ze (some (m.toNat, L)) (xs.map f))) :: s'.H) l' = some o → ∃ o', get s'.H l' = some o' ∧ (l' ≠ l → o' = o) ∧ (l' = l → o = .nest el sz q te ze (some (m.toNat, L)) (xs.map f)) := fun l' o hne hl' => by
    rw [get_cons, if_neg (fun e => hne e.symm), get_cons] at hl'
    split at hl'
    · rename_i e; subst e; injection hl' with hl'; exact ⟨_, hgl, fun h => absurd rfl h, fun _ => hl'.symm⟩
    · rename_i e; exact ⟨o, hl', fun _ => rfl, fun h => absurd h.symm e⟩
  have labsNo : ∀ l' o, get s'.H l' = some o → ∀ i ∈ o.labs, i ≠ L := fun l' o ho i hi e => hfl.h _ (get_mem ho) o rfl (e ▸ hi)
  refine ⟨y, w, fun i => if i = L then φ l m.toNat else κ i, by simp only [execOp, hpx, Sem.run_bind, run_load1 ht1 g3, Result.andThen_ok, Sem.run_pure], ⟨fun _ => ?_, fun h => by simp at h⟩, lab_keep hfl, ?_⟩
  · have : RepB c (fun _ => φ l m.toNat) (.os 0 (ys.map h).length) y := o1
    show RepB c (fun i => if i = L then φ l m.toNat else κ i) (.os L ys.length) y
    simp only [RepB, if_true, List.length_map] at this ⊢
    exact this
  · refine ⟨hmm.ext, fun l' o hl' => ?_, fun l' o b1 k1 hl' hk1 => ?_, fun l1 l2 p1 p2 b1 k1 k2 h1 h2 hk1 hk2 => ?_, fun i hi => ?_, ?_⟩
    · by_cases e : l' = L
      · subst e
        rw [List.cons_append, get_cons, if_pos rfl] at hl'
        injection hl' with hl'; subst hl'
        simp only [Holds, if_true] at o2 ⊢
        exact o2
      · obtain ⟨o', q1, q2, q3⟩ := live l' o e hl'
        by_cases e2 : l' = l
        · rw [q3 e2]
          subst e2
          have := hmm.hp l' _ hgl
          simp only [Holds, kL l' e] at this ⊢
          exact this
        · rw [← q2 e2]
          exact (hmm.hp l' o' q1).turn (kL l' e) (fun i hi => kL i (labsNo l' o' q1 i hi)) (fun _ _ _ => rfl)
    · by_cases e : l' = L
      · subst e
        simp only [if_true] at hk1
        exact (N.own _ _ _ _ hk1).2
      · simp only [e, if_false] at hk1
        obtain ⟨o', q1, _⟩ := live l' o e hl'
        exact hmm.ow l' o' b1 k1 q1 hk1
    · by_cases e1 : l1 = L <;> by_cases e2 : l2 = L
      · rw [e1, e2]
      · simp only [e1, if_true] at hk1
        simp only [e2, if_false] at hk2
        obtain ⟨o', q1, _⟩ := live l2 p2 e2 h2
        exact (N.out _ _ _ _ hk1 l2 o' k2 q1 hk2).elim
      · simp only [e2, if_true] at hk2
        simp only [e1, if_false] at hk1
        obtain ⟨o', q1, _⟩ := live l1 p1 e1 h1
        exact (N.out _ _ _ _ hk2 l1 o' k1 q1 hk1).elim
      · simp only [e1, if_false] at hk1
        simp only [e2, if_false] at hk2
        obtain ⟨o1', q1, _⟩ := live l1 p1 e1 h1
        obtain ⟨o2', q2, _⟩ := live l2 p2 e2 h2
        exact hmm.ij l1 l2 o1' o2' b1 k1 k2 q1 q2 hk1 hk2
    · have : ¬ i = L := by have := hfl.ge; omega
      simp only [this, if_false]
      exact hmm.pin i hi
    · have φs : ∀ l' i' p, (if l' = L ∨ (l' = l ∧ i' = m.toNat) then none else φ l' i') = some p → ¬ (l' = L ∨ (l' = l ∧ i' = m.toNat)) ∧ φ l' i' = some p := fun l' i' p h => by
        split at h
        · simp at h
        · rename_i hn; exact ⟨hn, h⟩
      refine ⟨fun l' i' => if l' = L ∨ (l' = l ∧ i' = m.toNat) then none else φ l' i', fun l' el' sz' q' te' ze' g2 es2 hl' i' e' he' => ?_, fun l' i' p hp => ?_, fun l' i' b' k' hp => N.own l' i' b' k' (φs _ _ _ hp).2, fun l' i' b' k' hp l2 o k2 hl2 hk2 => ?_, fun l1 i1 b' k1 l2 i2 k2 hp1 hp2 => N.inj _ _ _ _ _ _ _ (φs _ _ _ hp1).2 (φs _ _ _ hp2).2⟩
      · have hne : l' ≠ L := fun e => by
          subst e
          rw [List.cons_append, get_cons, if_pos rfl] at hl'
          simp at hl'
        obtain ⟨o', q1, q2, q3⟩ := live l' _ hne hl'
        by_cases e2 : l' = l
        · have hq3 := q3 e2
          subst e2
          injection hq3 with e1' e2 e3 e4 e5 e6 e7
          subst e1'; subst e2; subst e3; subst e4; subst e5; subst e6; subst e7
          by_cases hii : i' = m.toNat
          · subst hii
            rw [(idx_ok (f := f) hm).2] at he'
            injection he' with he'; subst he'
            refine ⟨ys.map h, y, b, cap, hq, by simp only [hne, if_false]; exact hk, g3, fun L' hL' => ?_, fun hno => absurd rfl (hno L)⟩
            injection hL' with hL'; injection hL' with _ hL'; subst hL'
            have : RepB c (fun _ => φ l' m.toNat) (.os 0 (ys.map h).length) y := o1
            simp only [RepB, if_true, List.length_map] at this ⊢
            exact this
          · have hn : ¬ (l' = L ∨ (l' = l' ∧ i' = m.toNat)) := fun h => h.elim hne fun h => hii h.2
            show Inner c _ (if l' = L ∨ (l' = l' ∧ i' = m.toNat) then none else φ l' i') _ _ _ _ _ _ _ _ _
            rw [if_neg hn]
            exact (N.inn l' _ _ _ _ _ _ _ hgl i' e' he').move (fun _ _ _ _ _ h => h) (kL l' hne) (fun _ _ _ => rfl) (fun _ _ _ => rfl) (fun L' hL' => by injection hL' with hL'; injection hL' with e _; exact absurd e.symm hii) (fun _ L' e => by simp at e)
        · have := q2 e2
          subst this
          have hn : ¬ (l' = L ∨ (l' = l ∧ i' = m.toNat)) := fun h => h.elim hne fun h => e2 h.1
          show Inner c _ (if l' = L ∨ (l' = l ∧ i' = m.toNat) then none else φ l' i') _ _ _ _ _ _ _ _ _
          rw [if_neg hn]
          exact (N.inn l' _ _ _ _ _ _ _ q1 i' e' he').move (fun _ _ _ _ _ h => h) (kL l' hne) (fun _ _ _ => rfl) (fun _ _ _ => rfl) (fun L' hL' => ⟨L', hL', kL L' (labsNo l' _ q1 L' (by subst hL'; simp [O.labs]))⟩) (fun h => h)
      · obtain ⟨hn, hp⟩ := φs _ _ _ hp
        obtain ⟨o, p1, p2⟩ := N.act l' i' p hp
        have hne : l' ≠ L := fun e => hn (.inl e)
        by_cases hll : l = l'
        · subst hll; exact ⟨_, by rw [List.cons_append, get_cons, if_neg (fun e => hne e.symm), List.cons_append, get_cons, if_pos rfl], rfl⟩
        · exact ⟨o, by rw [List.cons_append, get_cons, if_neg (fun e => hne e.symm), List.cons_append, get_cons, if_neg hll]; exact p1, p2⟩
      · obtain ⟨hn, hpp⟩ := φs _ _ _ hp
        by_cases e : l2 = L
        · simp only [e, if_true] at hk2
          obtain ⟨e1, e2⟩ := N.inj _ _ _ _ _ _ _ hpp hk2
          exact hn (.inr ⟨e1, e2⟩)
        · simp only [e, if_false] at hk2
          obtain ⟨o', q1, _⟩ := live l2 o e hl2
          exact N.out l' i' b' k' hpp l2 o' k2 q1 hk2

/-! ### A slice of one element, and its append to a nest -/
/-- a new slice of one element, whose cells may be the call's own: it lies in a box -/
theorem q_bsl1 {t el : TypeId} {l sz by' : Nat} {x : Operand} {v z : V} {ks : List Nat} (hgd : Gd ops s gd g gks) (hg : g = true) (hx : Od s g x v ks) (ht1 : slInfo P t = some (el, sz, by')) (hz : zeroV P el = some z)
    (hok : (v.okc && v.notup && Nat.beq v.cells.length sz && Nat.ble 1 sz && Nat.ble sz 65536) = true) (hf : freshB l s = true) (hd : Nat.blt d n = true)
    (k : Lex P n ops r ⟨(d, some (true, .os l 1)) :: s.T, (l, some (.box el v.cells)) :: s.H⟩ bs s') :
    Lex P n ops (⟨some d, .buildSlice t 1 ⟨[(0, x)]⟩, ty, pos, af, gd⟩ :: r) s (⟨ks ++ gks, [], [l], [(d, some (true, .os l 1))], [(l, some (.box el v.cells))]⟩ :: bs) s' := by
  refine q_mem (o := ⟨some d, .buildSlice t 1 ⟨[(0, x)]⟩, ty, pos, af, gd⟩) hgd hg rfl hd (fun l' hl' => by simp at hl'; subst hl'; exact Fresh.of hf) (fun s' ht hh hfr c κ a w hc hs => ?_) k
  have hfl := hfr l (by simp)
  simp only [Bool.and_eq_true] at hok
  obtain ⟨⟨⟨⟨hokc, hnt⟩, hcl⟩, hs1⟩, hsm⟩ := hok
  have hcl' : v.cells.length = sz := Nat.eq_of_beq_eq_true hcl
  have hs1' : 1 ≤ sz := Nat.le_of_ble_eq_true hs1
  have hsm' : sz ≤ 65536 := Nat.le_of_ble_eq_true hsm
  obtain ⟨hu, i, hi, hisz, _⟩ := slInfo_spec ht1
  obtain ⟨i', zv, hi', hzi, hcz⟩ := zeroV_spec hz
  have : i' = i := by rw [hi] at hi'; exact (Option.some.inj hi').symm
  subst this
  have hx' := hx.agree ht
  have hrep := (repT_cells hokc hnt (hx'.rep hs hg)).1
  have hysz : (a.eval x).cells.size = sz := by have := hrep.length; simp at this; omega
  have hrun : (Instr.buildSlice t 1 ((⟨[(0, x)]⟩ : Array (Nat × Operand)).map fun x => match x with | (i, x) => (i, a.eval x))).run P w = .ok (.slice (some ⟨w.heap.size, 0, none⟩) 1 1) (w.alloc (.cells (a.eval x).cells.toList.toArray el)) := by
    have e1 : ((⟨[(0, x)]⟩ : Array (Nat × Operand)).map fun x => match x with | (i, x) => (i, a.eval x)) = ⟨([a.eval x].zipIdx 0).map fun x => (x.2, x.1)⟩ := by simp
    have e2 : (a.eval x).cells.toList.toArray = ([a.eval x].flatMap fun v => v.cells.toList).toArray := by simp
    rw [e1, e2]
    refine run_buildSlice w t el 1 _ _ i' zv hu hi hzi (by rw [hisz]; omega) (by rw [hisz]; omega) ?_
    rw [hisz]
    refine Go.Great.fill_whole (by omega) [a.eval x] _ (fun y hy => by simp at hy; subst hy; exact hysz) ?_
    simp
  refine ⟨.slice (some ⟨w.heap.size, 0, none⟩) 1 1, w.alloc (.cells (a.eval x).cells.toList.toArray el), fun i => if i = l then some (w.heap.size, 1) else κ i, by simp only [execOp, Sem.run_bind, hrun, Result.andThen_ok, Sem.run_pure], ⟨fun _ => repT_os (b := w.heap.size) (cap := 1) (if_pos rfl) ⟨Nat.le_refl _, by unfold maxLen; omega, rfl⟩, fun h => by simp at h⟩, lab_keep hfl,
    new_box hc hs.mem hfl (fun u hu hl => hx'.fresh hfl (labC_cells hu hl hnt)) (by simpa using hrep)⟩

/-- what it is appended to -/
inductive BsN (s : S) (g : Bool) (el : TypeId) (sz q : Nat) (te : TypeId) (ze : Nat) : Operand → List V → List (Nat × Option O) → List Nat → List Nat → Prop
  | nil {x : Operand} {ks : List Nat} (h : Od s g x .nls ks) : BsN s g el sz q te ze x [] [] ks []
  | ow {x : Operand} {l m : Nat} {es : List V} {ks : List Nat} (h : Od s g x (.os l m) ks) (ho : get s.H l = some (.nest el sz q te ze none es)) (hl : es.length = m) : BsN s g el sz q te ze x es [(l, none)] ks [l]
theorem BsN.agree {s s' : S} {g : Bool} {el : TypeId} {sz q : Nat} {te : TypeId} {ze : Nat} {x : Operand} {es : List V} {kill : List (Nat × Option O)} {ks kh : List Nat} (h : BsN s g el sz q te ze x es kill ks kh) (ha : ∀ t ∈ ks, get s'.T t = get s.T t) (hb : ∀ l ∈ kh, get s'.H l = get s.H l) : BsN s' g el sz q te ze x es kill ks kh := by
  cases h with
  | nil h => exact .nil (h.agree ha)
  | ow h ho hl => exact .ow (h.agree ha) ((hb _ (by simp)).trans ho) hl
/-- the old nest as an owned row, and its rows within -/
theorem BsN.rep {s : S} {g : Bool} {el : TypeId} {sz q : Nat} {te : TypeId} {ze : Nat} {x : Operand} {old : List V} {kill : List (Nat × Option O)} {ks kh : List Nat} (h : BsN s g el sz q te ze x old kill ks kh) {c : Cx} {κ : Ka} {a : Act} {w : World} {φ : Nat → Ka} (hs : Sat n c κ s a w) (N : Ns c κ φ s.H w) (hg : g = true) (hsz : 1 ≤ sz) :
    ∃ (v : Value) (zs : List Value) (ψ : Ka), a.eval x = v ∧ w.ownsRow 0 el sz v old.length zs ∧ (∀ e ∈ old, e.cells.length = sz) ∧ (∀ p ∈ kill, p.2 = none) ∧
      (∀ (j : Nat) u, (old.flatMap V.cells)[j]? = some u → j % sz ≠ q → ∃ y, zs[j]? = some y ∧ RepR c u y) ∧
      (∀ (i : Nat) e, old[i]? = some e → ∃ es y, e.cells[q]? = some (.sl ze es) ∧ zs[i * sz + q]? = some y ∧ OwnIn c (ψ i) w te ze es y) ∧
      (∀ b, v.ownBlock = some b → ∃ l o k, kill = [(l, none)] ∧ get s.H l = some o ∧ κ l = some (b, k)) ∧
      (∀ i p, ψ i = some p → ∃ l, kill = [(l, none)] ∧ φ l i = some p) := by
  cases h with
  | nil h =>
    have h1 : RepR c .nls (a.eval x) := h.rep hs hg
    generalize hx' : a.eval x = y' at h1
    cases h1
    exact ⟨_, [], fun _ => none, rfl, World.ownsRow_nil w 0 el sz, by simp, by simp, by simp, by simp, fun b hb => by simp [Value.ownBlock] at hb, by simp⟩
  | ow h ho hl =>
    rename_i l0 m
    have h1 : RepB c κ (.os l0 m) (a.eval x) := h.rep hs hg
    have hho := hs.mem.hp l0 _ ho
    simp only [RepB] at h1
    cases hk : κ l0 with
    | none =>
      simp only [hk] at h1
      obtain ⟨h0, hxv⟩ := h1
      subst h0
      have : old = [] := List.eq_nil_of_length_eq_zero hl
      subst this
      exact ⟨_, [], fun _ => none, hxv, World.ownsRow_nil w 0 el sz, by simp, by simp, by simp, by simp, fun b hb => by simp [Value.ownBlock] at hb, by simp⟩
    | some p =>
      obtain ⟨b, cap⟩ := p
      simp only [Holds, hk] at h1 hho
      obtain ⟨hqc, hcm, hxv⟩ := h1
      obtain ⟨cur, hb, hec, _, hcs, hz0, hrep⟩ := hho
      have hfl' := flatMap_length old hz0
      have hmc : m * sz ≤ cap * sz := Nat.mul_le_mul_right _ hqc
      have htk : ∀ j, j < m * sz → (cur.toList.take (m * sz))[j]? = cur[j]? := fun j hj => by rw [List.getElem?_take, if_pos hj]; simp
      refine ⟨_, cur.toList.take (m * sz), φ l0, hxv, ?_, hz0, by simp, fun j u hu hj => ?_, fun i e he => ?_, fun b' hb' => ?_, fun i p hp => ⟨l0, rfl, hp⟩⟩
      · rw [hl]
        exact ⟨by simp; omega, .inr ⟨b, cap, cur, rfl, Nat.zero_le _, hb, hqc, hcm, hcs, rfl⟩⟩
      · obtain ⟨y', hy', hr⟩ := hrep j u hu hj
        have hjl : j < m * sz := by have := (List.getElem?_eq_some_iff.1 hu).1; rw [hfl', hl] at this; exact this
        exact ⟨y', by rw [htk j hjl]; exact hy', hr⟩
      · obtain ⟨es, y, b', cap', g1, g2, g3, _, g5⟩ := N.inn l0 _ _ _ _ _ _ _ ho i e he
        rw [hk] at g2; injection g2 with g2; injection g2 with g2 _; subst g2
        have hq : q < sz := by rw [← hz0 e (List.mem_of_getElem? he)]; exact (List.getElem?_eq_some_iff.1 g1).1
        have hi : i < m := by rw [← hl]; exact (List.getElem?_eq_some_iff.1 he).1
        have hj : i * sz + q < m * sz := by have := Nat.mul_le_mul_right sz (show i + 1 ≤ m by omega); rw [Nat.add_mul] at this; omega
        rw [cell_of_row w b _ cur el (0, 0) hb] at g3
        exact ⟨es, y, g1, by rw [htk _ hj]; exact g3, g5 (by simp)⟩
      · simp [Value.ownBlock] at hb'
        subst hb'
        exact ⟨l0, _, cap, rfl, ho, hk⟩
theorem q_appN {β : Type} {h : β → V} {ys : List β} {t el te : TypeId} {lN l2 L sz q ze by' : Nat} {x y : Operand} {z : V} {cs : List V} (w : α) {kill : List (Nat × Option O)} {k1 k2 h1 : List Nat} (hgd : Gd ops s gd g gks) (hg : g = true) (hx : BsN s g el sz q te ze x (xs.map f) kill k1 h1) (hy : Od s g y (.os l2 1) k2) (ho2 : get s.H l2 = some (.box el cs))
    (hcs : cs[q]? = some (.os L ys.length)) (he : (f w).cells = cs.set q (.sl ze (ys.map h))) (ht1 : slInfo P t = some (el, sz, by')) (hz : zeroV P el = some z) (hok : (Nat.beq z.cells.length sz && Nat.ble 1 sz && Nat.ble by' 65536 && Nat.beq cs.length sz && cs.all V.one && (cs.eraseIdx q).all V.ro) = true)
    (hroom : xs.length + 1 ≤ 1073741824) (hf : freshB lN s = true) (hd : Nat.blt d n = true)
    (k : Lex P n ops r ⟨(d, some (true, .os lN (xs ++ [w]).length)) :: s.T, (lN, some (.nest el sz q te ze (some (xs.length, L)) ((xs ++ [w]).map f))) :: (kill ++ s.H)⟩ bs s') :
    Lex P n ops (⟨some d, .call ⟨.builtin .append, #[x, y], #[t, t]⟩, ty, pos, af, gd⟩ :: r) s (⟨(k1 ++ k2) ++ gks, h1 ++ [l2], [lN], [(d, some (true, .os lN (xs ++ [w]).length))], (lN, some (.nest el sz q te ze (some (xs.length, L)) ((xs ++ [w]).map f))) :: kill⟩ :: bs) s' := by
  refine q_mem (o := ⟨some d, .call ⟨.builtin .append, #[x, y], #[t, t]⟩, ty, pos, af, gd⟩) hgd hg rfl hd (fun l' hl' => by simp at hl'; subst hl'; exact Fresh.of hf) (fun s' ht hh hfr c κ a w0 hc hs => ?_) k
  have hfl := hfr lN (by simp)
  simp only [Bool.and_eq_true] at hok
  obtain ⟨⟨⟨⟨⟨hzl, hs1⟩, hby⟩, hcl⟩, hone⟩, hro⟩ := hok
  have hzl' : z.cells.length = sz := Nat.eq_of_beq_eq_true hzl
  have hs1' : 1 ≤ sz := Nat.le_of_ble_eq_true hs1
  have hby' : by' ≤ 65536 := Nat.le_of_ble_eq_true hby
  have hcl' : cs.length = sz := Nat.eq_of_beq_eq_true hcl
  obtain ⟨hu, i, hi, hisz, hiby⟩ := slInfo_spec ht1
  obtain ⟨i', zv, hi', hzi, hcz⟩ := zeroV_spec hz
  have : i' = i := by rw [hi] at hi'; exact (Option.some.inj hi').symm
  subst this
  obtain ⟨hlab, hnt, hokc⟩ := const_labs hcz
  have hzs : zv.cells.size = sz := by have := ((repT_cells hokc hnt (constV_rep (c := c) (κ := κ) hcz)).1).length; simp at this; omega
  have hmm := hs.mem
  obtain ⟨φ, N⟩ := hmm.ns
  obtain ⟨v, zs, ψ, hev, hown, hoz, hkn, hor, hin, hkb, hψ⟩ := (hx.agree (s' := s') (fun t hm => ht t (by simp [hm])) (fun l hl => hh l (by simp [hl]))).rep hs N hg hs1'
  have hcq : q < sz := by rw [← hcl']; exact (List.getElem?_eq_some_iff.1 hcs).1
  -- the slice of one element
  have hgl2 := (hh l2 (by simp)).trans ho2
  have hy1 : RepB c κ (.os l2 1) (a.eval y) := (hy.agree (fun t hm => ht t (by simp [hm]))).rep hs hg
  obtain ⟨b2, cur2, hk2, hb2, hall2⟩ := hmm.hp l2 _ hgl2
  simp only [RepB, hk2] at hy1
  obtain ⟨_, _, hey⟩ := hy1
  have hysl : cur2.toList.length = 1 * sz := by rw [← hall2.length]; omega
  have hyone : ∀ u ∈ cur2.toList, u.oneCell' = true := by
    intro u hu
    obtain ⟨j, hj⟩ := List.mem_iff_getElem?.1 hu
    have hlt : j < cs.length := by rw [hall2.length]; exact (List.getElem?_eq_some_iff.1 hj).1
    obtain ⟨y', hy', hr⟩ := hall2.get j _ (List.getElem?_eq_getElem hlt)
    rw [hj] at hy'; injection hy' with hy'; subst hy'
    exact (repC_one ((List.all_eq_true.1 hone) _ (List.getElem_mem hlt)) hr).2
  have hml : (1073741824 : Nat) ≤ maxLen := by unfold maxLen; omega
  have hol : (xs.map f).length = xs.length := List.length_map ..
  rw [hol] at hown
  have hbytes : (xs.length + 1) * by' ≤ 140737488355328 := by
    have := Nat.mul_le_mul hroom hby'
    omega
  obtain ⟨v', w', hrun, hown', hgr, _, hblk⟩ := run_append_own_at (P := P) w0 0 t ty el i' zv sz by' hu hi hzi hisz hiby hzs (by omega) v xs.length zs hown ⟨b2, 0, none⟩ 1 1 cur2.toList hysl (fun j u hu => by rw [add_lit, cell_of_row w0 b2 _ cur2 el (0, 0) hb2]; simpa using hu) hyone (by omega) hbytes (Nat.zero_le _)
  have hexec : (execOp a.eval ⟨some d, .call ⟨.builtin .append, #[x, y], #[t, t]⟩, ty, pos, af, gd⟩).run P w0 = .ok (.value v') w' := by
    simp only [execOp, resolve, invoke, builtin, Sem.run_bind, Sem.run_pure, Result.andThen_ok, List.map_toArray, List.map_cons, List.map_nil, hev, hey, hrun]
  have hzsl : zs.length = xs.length * sz := hown.1
  have hlen : ((xs ++ [w]).map f).length = xs.length + 1 := by simp
  have hlen' : (xs ++ [w]).length = xs.length + 1 := by simp
  have hwl : (f w).cells.length = sz := by rw [he, List.length_set, hcl']
  have hallz : ∀ e ∈ (xs ++ [w]).map f, e.cells.length = sz := fun e he' => by
    rw [List.map_append, List.mem_append] at he'
    rcases he' with he' | he'
    · exact hoz e he'
    · simp at he'; subst he'; exact hwl
  have hgx : Ext (fun b => v.ownBlock = some b) w0 w' := Ext.of_grown hgr
  rcases hown'.2 with ⟨_, hn0⟩ | ⟨b', cap', cur', rfl, _, hb', hnc, hcm, hcs', htk⟩
  · omega
  · have hget : ∀ j, j < (xs.length + 1) * sz → cur'[j]? = (zs ++ cur2.toList)[j]? := fun j hj => by
      rw [← htk, List.getElem?_take, if_pos hj]; simp
    have hsum : (xs.length + 1) * sz = xs.length * sz + sz := Nat.succ_mul _ _
    have hget1 : ∀ j, j < xs.length * sz → cur'[j]? = zs[j]? := fun j hj => by
      rw [hget j (by omega), List.getElem?_append_left (by omega)]
    have hget2 : ∀ j, j < sz → cur'[xs.length * sz + j]? = cur2.toList[j]? := fun j hj => by
      rw [hget _ (by omega), List.getElem?_append_right (by omega), hzsl]
      congr 1; omega
    have hnew : ∀ b k, (some (b', cap') : Option (Nat × Nat)) = some (b, k) → v.ownBlock = some b ∨ w0.heap.size ≤ b := fun b k hb => by
      injection hb with hb; injection hb with hb _; subst hb
      simp only [Value.ownBlock] at hblk
      rcases hblk with h | h
      · exact .inl h.symm
      · injection h with h; exact .inr (by omega)
    have hno : ∀ l' o b k, get (kill ++ s'.H) l' = some o → κ l' = some (b, k) → v.ownBlock ≠ some b := fun l' o b k hl' hk' hb => by
      obtain ⟨l3, o3, k3, e3, h3, h4⟩ := hkb b hb
      obtain ⟨g1, g2⟩ := get_kill hkn hl'
      have := hmm.ij l3 l' o3 o b k3 k h3 g1 h4 hk'
      exact g2 (l3, none) (by rw [e3]; simp) this
    have kN : ∀ l', l' ≠ lN → (if l' = lN then some (b', cap') else κ l') = κ l' := fun l' h => by rw [if_neg h]
    have labsNo : ∀ l' o, get s'.H l' = some o → ∀ i ∈ o.labs, i ≠ lN := fun l' o ho i hi e => hfl.h _ (get_mem ho) o rfl (e ▸ hi)
    have hLN : L ≠ lN := labsNo l2 _ hgl2 L (by simp only [O.labs, List.mem_flatMap]; exact ⟨_, List.mem_of_getElem? hcs, by simp [V.labC, V.labB]⟩)
    have hbl : b' < w'.heap.size := (Array.getElem?_eq_some_iff.1 hb').1
    have live : ∀ l' o, l' ≠ lN → get ((lN, some (O.nest el sz q te ze (some (xs.length, L)) ((xs ++ [w]).map f))) :: (kill ++ s'.H)) l' = some o → get (kill ++ s'.H) l' = some o := fun l' o hne hl' => by
      rw [get_cons, if_neg (fun e => hne e.symm)] at hl'; exact hl'
    refine ⟨.slice (some ⟨b', 0, none⟩) (xs.length + 1) cap', w', fun i => if i = lN then some (b', cap') else κ i, hexec, ⟨fun _ => repT_os (b := b') (cap := cap') (if_pos rfl) ⟨by rw [hlen']; exact hnc, hcm, by rw [hlen']⟩, fun h => by simp at h⟩, lab_keep hfl, ?_⟩
    refine ⟨hmm.ext.trans' hgx (fun b hb => by obtain ⟨l3, o3, k3, _, h3, h4⟩ := hkb b hb; exact (hmm.ow l3 o3 b k3 h3 h4).1), fun l' o hl' => ?_, fun l' o b1 k1 hl' hk1 => ?_, fun l1 l3 p1 p2 b1 k1 k3 h1 h3 hk1 hk3 => ?_, fun i hi => ?_, ?_⟩
    · by_cases e : l' = lN
      · subst e
        rw [List.cons_append, get_cons, if_pos rfl] at hl'
        injection hl' with hl'; subst hl'
        simp only [Holds, if_true]
        refine ⟨cur', hb', by rw [hlen]; exact hnc, hcm, hcs', hallz, fun j u hu hj => ?_⟩
        obtain ⟨e1, p1, p2⟩ := flat_at hallz hu
        have hsz : j % sz < sz := Nat.mod_lt _ (by omega)
        have hdm : j / sz * sz + j % sz = j := by rw [Nat.mul_comm]; exact Nat.div_add_mod j sz
        rw [List.map_append] at p1
        by_cases hjx : j / sz < xs.length
        · rw [List.getElem?_append_left (by rw [hol]; exact hjx)] at p1
          have hjl : j < xs.length * sz := by have := Nat.mul_le_mul_right sz (show j / sz + 1 ≤ xs.length by omega); rw [Nat.add_mul] at this; omega
          have := flatMap_cells_get (xs.map f) hoz (j / sz) (j % sz) e1 p1 hsz
          rw [p2, hdm] at this
          obtain ⟨y', hy', hr⟩ := hor j u this hj
          exact ⟨y', by rw [hget1 j hjl]; exact hy', hr⟩
        · rw [List.getElem?_append_right (by rw [hol]; omega), hol] at p1
          have h0 : j / sz - xs.length = 0 := by have := (List.getElem?_eq_some_iff.1 p1).1; simp at this; omega
          rw [h0] at p1; simp at p1; subst p1
          have hjx' : j / sz = xs.length := by omega
          rw [he, List.getElem?_set_ne (fun e => hj e.symm)] at p2
          obtain ⟨y', hy', hr⟩ := hall2.get _ u p2
          rw [hjx'] at hdm
          refine ⟨y', by rw [← hdm, hget2 _ hsz]; exact hy', repR_of_repC ((List.all_eq_true.1 hro) u (mem_erase p2 hj)) hr⟩
      · have hl2 := live l' o e hl'
        have hl3 := (get_kill hkn hl2).1
        exact (hmm.hp l' o hl3).turn (kN l' e) (fun i hi => kN i (labsNo l' o hl3 i hi)) (fun b k hk => hgx.block b (hmm.lt hl3 hk) (hno l' o b k hl2 hk))
    · by_cases e : l' = lN
      · subst e
        simp only [if_true] at hk1
        rcases hnew b1 k1 hk1 with hb | hb
        · obtain ⟨l3, o3, k3, _, h3, h4⟩ := hkb b1 hb
          exact hmm.ow l3 o3 b1 k3 h3 h4
        · exact ⟨.inl (Nat.le_trans hmm.ext.size hb), fun hD => by have := hc.ok.lt b1 hD; have := hmm.ext.size; omega⟩
      · simp only [e, if_false] at hk1
        exact hmm.ow l' o b1 k1 (get_kill hkn (live l' o e hl')).1 hk1
    · have cross : ∀ l' o b k k', l' ≠ lN → get (kill ++ s'.H) l' = some o → κ l' = some (b, k') → (some (b', cap') : Option (Nat × Nat)) = some (b, k) → False := fun l' o b k k' hne hl' hk' hb => by
        rcases hnew b k hb with h | h
        · exact hno l' o b k' hl' hk' h
        · have := hmm.lt (get_kill hkn hl').1 hk'; omega
      by_cases e1 : l1 = lN <;> by_cases e2 : l3 = lN
      · rw [e1, e2]
      · simp only [e1, if_true] at hk1
        simp only [e2, if_false] at hk3
        exact (cross l3 p2 b1 k1 k3 e2 (live l3 p2 e2 h3) hk3 hk1).elim
      · simp only [e2, if_true] at hk3
        simp only [e1, if_false] at hk1
        exact (cross l1 p1 b1 k3 k1 e1 (live l1 p1 e1 h1) hk1 hk3).elim
      · simp only [e1, if_false] at hk1
        simp only [e2, if_false] at hk3
        exact hmm.ij l1 l3 p1 p2 b1 k1 k3 (get_kill hkn (live l1 p1 e1 h1)).1 (get_kill hkn (live l3 p2 e2 h3)).1 hk1 hk3
    · have : ¬ i = lN := by have := hfl.ge; omega
      simp only [this, if_false]
      exact hmm.pin i hi
    · -- the rows within
      have inb : ∀ l' i' b1 k1, φ l' i' = some (b1, k1) → w'.heap[b1]? = w0.heap[b1]? := fun l' i' b1 k1 hp => hgx.block b1 (N.own _ _ _ _ hp).1 fun hb => by
        obtain ⟨l3, o3, k3, _, h3, h4⟩ := hkb b1 hb
        exact N.out _ _ _ _ hp l3 o3 k3 h3 h4
      refine ⟨fun l' i' => if l' = lN then (if i' < xs.length then ψ i' else none) else if kill.any (fun p => p.1 == l') then none else φ l' i', ?_⟩
      have cas : ∀ l' i' p, (if l' = lN then (if i' < xs.length then ψ i' else none) else if kill.any (fun p => p.1 == l') then none else φ l' i') = some p → (l' = lN ∧ i' < xs.length ∧ ∃ l3, kill = [(l3, (none : Option O))] ∧ φ l3 i' = some p) ∨ (l' ≠ lN ∧ (∀ q ∈ kill, q.1 ≠ l') ∧ φ l' i' = some p) := fun l' i' p hp => by
        by_cases e : l' = lN
        · rw [if_pos e] at hp
          split at hp
          · rename_i hlt
            exact .inl ⟨e, hlt, hψ i' p hp⟩
          · simp at hp
        · rw [if_neg e] at hp
          split at hp
          · simp at hp
          · rename_i hk
            refine .inr ⟨e, fun q hq e2 => hk ?_, hp⟩
            rw [List.any_eq_true]
            exact ⟨q, hq, by simp [e2]⟩
      refine ⟨fun l' el' sz' q' te' ze' g2 es2 hl' i' e' he' => ?_, fun l' i' p hp => ?_, fun l' i' b1 k1 hp => ?_, fun l' i' b1 k1 hp l3 o k3 hl3 hk3 => ?_, fun l1 i1 b1 k1 l3 i3 k3 hp1 hp3 => ?_⟩
      · by_cases e : l' = lN
        · subst e
          rw [List.cons_append, get_cons, if_pos rfl] at hl'
          injection hl' with hl'
          injection hl' with e1' e2 e3 e4 e5 e6 e7
          subst e1'; subst e2; subst e3; subst e4; subst e5; subst e6; subst e7
          rw [List.map_append] at he'
          by_cases hix : i' < xs.length
          · rw [List.getElem?_append_left (by rw [hol]; exact hix)] at he'
            obtain ⟨es3, y3, r1, r2, r3⟩ := hin i' e' he'
            have hjl : i' * sz + q < xs.length * sz := by have := Nat.mul_le_mul_right sz (show i' + 1 ≤ xs.length by omega); rw [Nat.add_mul] at this; omega
            refine ⟨es3, y3, b', cap', r1, if_pos rfl, by rw [cell_of_row w' b' _ cur' el (0, 0) hb', hget1 _ hjl]; exact r2, fun L' hL' => ?_, fun _ => ?_⟩
            · injection hL' with hL'; injection hL' with hL' _; omega
            · simp only [if_true, hix]
              refine r3.move (fun _ _ _ h => h) (fun b1 k1 hp => ?_)
              obtain ⟨l3, _, h3⟩ := hψ i' _ hp
              exact inb _ _ _ _ h3
          · rw [List.getElem?_append_right (by rw [hol]; omega), hol] at he'
            have h0 : i' - xs.length = 0 := by have := (List.getElem?_eq_some_iff.1 he').1; simp at this; omega
            have hii : i' = xs.length := by omega
            rw [h0] at he'; simp at he'; subst he'
            obtain ⟨y3, hy3, hr3⟩ := hall2.get _ _ hcs
            refine ⟨ys.map h, y3, b', cap', by rw [he, List.getElem?_set_self (by omega)], if_pos rfl, by rw [cell_of_row w' b' _ cur' el (0, 0) hb', hii, hget2 _ hcq]; exact hy3, fun L' hL' => ?_, fun hno2 => absurd (by rw [hii]) (hno2 L)⟩
            injection hL' with hL'; injection hL' with _ hL'; subst hL'
            have h5 : RepB c κ (.os L ys.length) y3 := hr3
            simp only [RepB, hLN, if_false, List.length_map] at h5 ⊢
            exact h5
        · have hl2 := live l' _ e hl'
          obtain ⟨hl3, hl4⟩ := get_kill hkn hl2
          have hnk : ¬ (kill.any (fun p => p.1 == l') = true) := fun hk => by
            obtain ⟨p, hp, e2⟩ := List.any_eq_true.1 hk
            exact hl4 p hp (by simpa using e2)
          show Inner c _ (if l' = lN then (if i' < xs.length then ψ i' else none) else if kill.any (fun p => p.1 == l') then none else φ l' i') _ _ _ _ _ _ _ _ _
          rw [if_neg e, if_neg hnk]
          exact (N.inn l' _ _ _ _ _ _ _ hl3 i' e' he').move (fun _ _ _ _ _ h => h) (kN l' e) (fun b1 k1 hk1 => hgx.block b1 (hmm.lt hl3 hk1) (hno l' _ b1 k1 hl2 hk1)) (fun b1 k1 hp => inb _ _ _ _ hp) (fun L' hL' => ⟨L', hL', kN L' (labsNo l' _ hl3 L' (by subst hL'; simp [O.labs]))⟩) (fun h => h)
      · rcases cas l' i' p hp with ⟨e, _⟩ | ⟨e, hk, hp⟩
        · subst e; exact ⟨_, by rw [List.cons_append, get_cons, if_pos rfl], rfl⟩
        · obtain ⟨o, p1, p2⟩ := N.act l' i' p hp
          refine ⟨o, ?_, p2⟩
          rw [List.cons_append, get_cons, if_neg (fun e2 => e e2.symm)]
          rw [get_nokill hk]; exact p1
      · rcases cas l' i' _ hp with ⟨_, _, l3, _, h3⟩ | ⟨_, _, h3⟩
        · obtain ⟨r1, r2, r3⟩ := N.own _ _ _ _ h3
          exact ⟨Nat.lt_of_lt_of_le r1 hgx.size, r2, r3⟩
        · obtain ⟨r1, r2, r3⟩ := N.own _ _ _ _ h3
          exact ⟨Nat.lt_of_lt_of_le r1 hgx.size, r2, r3⟩
      · have key : ∃ l4, φ l4 i' = some (b1, k1) := by
          rcases cas l' i' _ hp with ⟨_, _, l4, _, h3⟩ | ⟨_, _, h3⟩
          · exact ⟨l4, h3⟩
          · exact ⟨l', h3⟩
        obtain ⟨l4, h4⟩ := key
        by_cases e : l3 = lN
        · simp only [e, if_true] at hk3
          rcases hnew b1 k3 hk3 with h5 | h5
          · obtain ⟨l5, o5, k5, _, r1, r2⟩ := hkb b1 h5
            exact N.out _ _ _ _ h4 l5 o5 k5 r1 r2
          · exact absurd (N.own _ _ _ _ h4).1 (Nat.not_lt.2 h5)
        · simp only [e, if_false] at hk3
          exact N.out _ _ _ _ h4 l3 o k3 (get_kill hkn (live l3 o e hl3)).1 hk3
      · rcases cas l1 i1 _ hp1 with ⟨e1, _, l4, hk4, h4⟩ | ⟨e1, hk1, h4⟩ <;> rcases cas l3 i3 _ hp3 with ⟨e3, _, l5, hk5, h5⟩ | ⟨e3, hk3, h5⟩
        · exact ⟨e1.trans e3.symm, (N.inj _ _ _ _ _ _ _ h4 h5).2⟩
        · have := (N.inj _ _ _ _ _ _ _ h4 h5).1
          exact absurd (by rw [hk4]; simp [this]) (fun hm : (l3, (none : Option O)) ∈ kill => hk3 _ hm rfl)
        · have := (N.inj _ _ _ _ _ _ _ h4 h5).1
          exact absurd (by rw [hk5]; simp [this]) (fun hm : (l1, (none : Option O)) ∈ kill => hk1 _ hm rfl)
        · exact N.inj _ _ _ _ _ _ _ h4 h5

/-- stores into an element that has just been written -/
theorem q_stNp [Inhabited α] {t el te : TypeId} {x y : Operand} {l sz q ze j k0 : Nat} {gg : Option (Nat × Nat)} {v : V} (w0 w : α) {ks ks' : List Nat} (hgd : Gd ops s gd g gks) (hg : g = true) (hx : Od s g x (.op l sz m.toNat j) ks) (hy : Od s g y v ks') (ho : get s.H l = some (.nest el sz q te ze gg ((put' xs m w0).map f))) (ht1 : tySz P t = some k0)
    (hm : 0 ≤ m ∧ m < xs.length) (hz : (f w0).cells.length = sz) (he1 : (f w).cells = splice (f w0).cells j v.cells) (hok : (v.roc && v.notup && Nat.beq v.cells.length k0 && Nat.ble (j + k0) sz && Nat.blt q sz && (Nat.blt q j || Nat.ble (j + k0) q)) = true)
    (k : Lex P n ops r ⟨s.T, (l, some (.nest el sz q te ze gg ((put' xs m w).map f))) :: s.H⟩ bs s') :
    Lex P n ops (⟨none, .store t x y, ty, pos, af, gd⟩ :: r) s (⟨(ks ++ ks') ++ gks, [l], [], [], [(l, some (.nest el sz q te ze gg ((put' xs m w).map f)))]⟩ :: bs) s' := by
  have h := q_stN (ty := ty) (pos := pos) (af := af) (n := n) (s' := s') (r := r) (bs := bs) (xs := put' xs m w0) (m := m) w hgd hg hx hy ho ht1 (by rw [put_len]; exact hm) (by rw [put_at hm]; exact hz) (by rw [put_at hm]; exact he1) hok
  rw [put_put] at h
  exact h k
theorem q_ldNp [Inhabited α] {β : Type} {h : β → V} {ys : List β} {x : Operand} {l sz q ze L : Nat} {el te t1 : TypeId} (w0 : α) {ks : List Nat} (hgd : Gd ops s gd g gks) (hg : g = true) (hx : Od s g x (.op l sz m.toNat q) ks) (ho : get s.H l = some (.nest el sz q te ze none ((put' xs m w0).map f))) (hm : 0 ≤ m ∧ m < xs.length)
    (hq : (f w0).cells[q]? = some (.sl ze (ys.map h))) (ht1 : isCell P t1 = true) (hf : freshB L s = true) (hd : Nat.blt d n = true)
    (k : Lex P n ops r ⟨(d, some (true, .os L ys.length)) :: s.T, (L, some (.row te ze (ys.map h))) :: (l, some (.nest el sz q te ze (some (m.toNat, L)) ((put' xs m w0).map f))) :: s.H⟩ bs s') :
    Lex P n ops (⟨some d, .load t1 x, ty, pos, af, gd⟩ :: r) s (⟨ks ++ gks, [l], [L], [(d, some (true, .os L ys.length))], [(L, some (.row te ze (ys.map h))), (l, some (.nest el sz q te ze (some (m.toNat, L)) ((put' xs m w0).map f)))]⟩ :: bs) s' :=
  q_ldN hgd hg hx ho (by rw [put_len]; exact hm) (by rw [put_at hm]; exact hq) ht1 hf hd k
end
theorem sub_fillp {α β : Type} [Inhabited α] {f : α → V} {h : β → V} {s : S} {l sz q ze L : Nat} {el te : TypeId} {xs : List α} {ys y0 : List β} {m : Int} (w0 w : α) (ho : get s.H l = some (.nest el sz q te ze (some (m.toNat, L)) ((put' xs m w0).map f))) (hL : get s.H L = some (.row te ze (ys.map h))) (hm : 0 ≤ m ∧ m < xs.length)
    (hq : (f w0).cells[q]? = some (.sl ze (y0.map h))) (hlen : ys.length = y0.length) (h1 : (f w).cells = (f w0).cells.set q (.sl ze (ys.map h))) : Sub s ⟨s.T, (l, some (.nest el sz q te ze none ((put' xs m w).map f))) :: (L, none) :: s.H⟩ := by
  have := sub_fill (xs := put' xs m w0) (m := m) w ho hL (by rw [put_len]; exact hm) (by rw [put_at hm]; exact hq) hlen (by rw [put_at hm]; exact h1)
  rw [put_put] at this
  exact this
/-- the row put back is as it was when it was stored -/
theorem sub_fill0 {s : S} {l sz q ze L i : Nat} {el te : TypeId} {es esL : List V} (e0 : V) (ho : get s.H l = some (.nest el sz q te ze (some (i, L)) es)) (hL : get s.H L = some (.row te ze esL)) (h0 : es[i]? = some e0) (hq : e0.cells[q]? = some (.sl ze esL)) : Sub s ⟨s.T, (l, some (.nest el sz q te ze none es)) :: (L, none) :: s.H⟩ := by
  intro n c κ a w' hs
  have h1 : e0.cells = e0.cells.set q (.sl ze esL) := by
    apply List.ext_getElem?
    intro j
    by_cases hj : q = j
    · subst hj; rw [List.getElem?_set_self (List.getElem?_eq_some_iff.1 hq).1]; exact hq
    · rw [List.getElem?_set_ne hj]
  have := mem_fill hs.mem ho hL h0 hq rfl h1
  have h2 : es.set i e0 = es := by
    apply List.ext_getElem?
    intro j
    by_cases hj : i = j
    · subst hj; rw [List.getElem?_set_self (List.getElem?_eq_some_iff.1 h0).1]; exact h0.symm
    · rw [List.getElem?_set_ne hj]
  rw [h2] at this
  exact ⟨κ, hs.hd, hs.hn, hs.tm, this⟩
theorem app_get {α : Type} {f : α → V} {xs : List α} {w : α} : ((xs ++ [w]).map f)[xs.length]? = some (f w) := by simp
theorem put_get {α : Type} {f : α → V} {xs : List α} {m : Int} {w : α} (h : 0 ≤ m ∧ m < xs.length) : ((put' xs m w).map f)[m.toNat]? = some (f w) := by
  have hl : m.toNat < xs.length := by omega
  simp [put', hl]
/-- what a nest hands out is plain, where all its parts are -/
theorem hr_nest {α β : Type} {f : α → V} {h : β → V} {pr : α → List β} {xs : List α} {l sz q ze : Nat} {el te : TypeId} {hd : Option (Nat × Nat)} {r : List (Nat × Option O)} (h0 : ∀ x, (f x).cells[q]? = some (.sl ze ((pr x).map h))) (h1 : ∀ x, ((f x).cells.eraseIdx q).all V.noro = true) (h2 : ∀ b, (h b).cells.all V.noro = true) (hr : HR r) : HR ((l, some (.nest el sz q te ze hd (xs.map f))) :: r) := by
  intro p hp o ho u hu
  rcases List.mem_cons.1 hp with e | hp
  · subst e
    injection ho with ho; subst ho
    simp only [O.at_, List.mem_flatMap, List.mem_map] at hu
    obtain ⟨e, ⟨x, _, rfl⟩, hu⟩ := hu
    simp only [nestAt, h0, List.mem_append, List.mem_flatMap, List.mem_map] at hu
    rcases hu with hu | ⟨e, ⟨b, _, rfl⟩, hu⟩
    · exact (List.all_eq_true.1 (h1 x)) u hu
    · exact (List.all_eq_true.1 (h2 b)) u hu
  · exact hr p hp o ho u hu
section
variable {ρ : Type} {P : Program} {fn : Func} {n : Nat} {out : ρ → V × List (Nat × Option O)} {k : List (It ρ)} {r : ρ} {s s' : S}
theorem run_factN {l sz q ze : Nat} {el te : TypeId} {h : Option (Nat × Nat)} {es : List V} (ho : get s.H l = some (.nest el sz q te ze h es)) (hk : es.length ≤ 9223372036854775807 → Run P fn n out k r s) : Run P fn n out k r s := by
  intro c κ a w hc hs
  refine hk ?_ c κ a w hc hs
  have hh := hs.mem.hp l _ ho
  simp only [Holds] at hh
  cases hk : κ l with
  | none => rw [hk] at hh; simp only at hh; rw [hh]; simp
  | some p =>
    obtain ⟨b, cap⟩ := p
    rw [hk] at hh
    obtain ⟨cur, _, h1, h2, _⟩ := hh
    unfold maxLen at h2; omega
end
section
variable {P : Program} {n : Nat} {ops : Array Oper} {s s' : S}
/-- a step, and a row that goes back behind it: one step in any order -/
theorem q_fill0 {o : Oper} {r : List Oper} {b : A} {bs : List A} {lN sz q ze L i : Nat} {el te : TypeId} {kill : List (Nat × Option O)} {es esL : List V} (e0 : V) (h : Lex P n ops [o] s [b] (s.upd b)) (hb : b.wh = (lN, some (.nest el sz q te ze (some (i, L)) es)) :: kill) (hL : get s.H L = some (.row te ze esL))
    (hk : (kill.all (fun p => !Nat.beq p.1 L) && !Nat.beq lN L) = true) (h0 : es[i]? = some e0) (hq : e0.cells[q]? = some (.sl ze esL)) (k : Lex P n ops r ⟨b.wt ++ s.T, (lN, some (.nest el sz q te ze none es)) :: (L, none) :: (kill ++ s.H)⟩ bs s') :
    Lex P n ops (o :: r) s (⟨b.kt, b.kh ++ [L], b.nw, b.wt, (lN, some (.nest el sz q te ze none es)) :: (L, none) :: kill⟩ :: bs) s' := by
  have hl := loc_of h
  obtain ⟨b', bs', e, _, hf, _⟩ := h
  injection e with e _
  subst e
  refine Lex.cons ?_ hf k
  intro s1 ht hh hnw c κ a w hc hs K Q hK
  refine hl s1 ht (fun l hl => hh l (List.mem_append_left _ hl)) hnw c κ a w hc hs K Q fun a' w' κ' hs' => hK a' w' κ' ?_
  refine ⟨hs'.hd, hs'.hn, hs'.tm, ?_⟩
  have hm : Mem c κ' (b.wh ++ s1.H) w' := hs'.mem
  rw [hb] at hm
  simp only [Bool.and_eq_true, List.all_eq_true, Bool.not_eq_true'] at hk
  have hlN : lN ≠ L := fun e => by have := hk.2; rw [e, Nat.beq_refl] at this; simp at this
  have hgL : get ((lN, some (O.nest el sz q te ze (some (i, L)) es)) :: (kill ++ s1.H)) L = some (.row te ze esL) := by
    rw [get_cons, if_neg hlN, get_nokill (fun p hp e => by have := hk.1 p hp; rw [e, Nat.beq_refl] at this; simp at this)]
    exact (hh L (by simp)).trans hL
  have h1 : e0.cells = e0.cells.set q (.sl ze esL) := by
    apply List.ext_getElem?
    intro j
    by_cases hj : q = j
    · subst hj; rw [List.getElem?_set_self (List.getElem?_eq_some_iff.1 hq).1]; exact hq
    · rw [List.getElem?_set_ne hj]
  have h2 : es.set i e0 = es := by
    apply List.ext_getElem?
    intro j
    by_cases hj : i = j
    · subst hj; rw [List.getElem?_set_self (List.getElem?_eq_some_iff.1 h0).1]; exact h0.symm
    · rw [List.getElem?_set_ne hj]
  have hfill := mem_fill (l := lN) hm (by rw [List.cons_append, get_cons, if_pos rfl]) hgL h0 hq rfl h1
  rw [h2] at hfill
  refine hfill.congr fun l => ?_
  show get ((lN, some (O.nest el sz q te ze none es)) :: (L, none) :: (kill ++ s1.H)) l = get ((lN, some (O.nest el sz q te ze none es)) :: (L, none) :: (lN, some (O.nest el sz q te ze (some (i, L)) es)) :: (kill ++ s1.H)) l
  simp only [get_cons]
  split
  · rfl
  · split
    · rfl
    · rfl
/-- an empty row of the call's own is as well one that is only read -/
theorem sub_osnil {t l sz m : Nat} (ht : get s.T t = some (true, .os l m)) (hm : m = 0) : Sub s ⟨(t, some (true, .sl sz [])) :: s.T, s.H⟩ := by
  subst hm
  intro n c κ a w hs
  refine ⟨κ, hs.hd, hs.hn, fun t' e ht' => ?_, hs.mem⟩
  rw [get_cons] at ht'
  split at ht'
  · rename_i e0; subst e0
    injection ht' with ht'; subst ht'
    refine ⟨fun _ => ?_, fun h => by simp at h⟩
    have h1 : RepB c κ (.os l 0) (a.tmps.getD t undef) := (hs.tm t _ ht).1 rfl
    show RepR c (.sl sz []) (a.tmps.getD t undef)
    simp only [RepB] at h1
    cases hk : κ l with
    | none => simp only [hk] at h1; rw [h1.2]; exact .nil sz
    | some p =>
      obtain ⟨b, cap⟩ := p
      simp only [hk] at h1
      rw [h1.2.2]
      exact RepR.sl sz [] ⟨b, 0, none⟩ cap (fun _ => undef) (fun h => absurd rfl h) (by simp) h1.2.1 (by simp) (by simp) (by simp)
  · exact hs.tm t' e ht'
end
section
variable {P : Program} {n : Nat} {ops : Array Oper}
variable {s s' : S} {r : List Oper} {bs : List A} {g : Bool} {gks : List Nat} {d : Nat} {ty : TypeId} {pos : String} {af : Array Edge} {gd : Option (Nat × Bool)}
/-- 'make', where the slot's length is to be that of the nest that the row turns into -/
theorem q_makeN {α : Type} {t el : TypeId} {l sz by' : Nat} {x y : Operand} {i1 i2 : IntKind} {a b : Int} {z : V} (w : α) {ks ks' : List Nat} (hgd : Gd ops s gd g gks) (hg : g = true) (hx : Od s g x (.int i1 a) ks) (hy : Od s g y (.int i2 b) ks') (ht1 : slInfo P t = some (el, sz, by')) (hz : zeroV P el = some z)
    (hab : 0 ≤ a ∧ a ≤ b ∧ b ≤ 1073741824) (hok : (z.roc && Nat.beq z.cells.length sz && Nat.ble 1 sz && Nat.ble by' 65536) = true) (hf : freshB l s = true) (hd : Nat.blt d n = true)
    (k : Lex P n ops r ⟨(d, some (true, .os l (List.replicate a.toNat w).length)) :: s.T, (l, some (.row el sz (List.replicate a.toNat z))) :: s.H⟩ bs s') :
    Lex P n ops (⟨some d, .makeSlice t x y, ty, pos, af, gd⟩ :: r) s (⟨(ks ++ ks') ++ gks, [], [l], [(d, some (true, .os l (List.replicate a.toNat w).length))], [(l, some (.row el sz (List.replicate a.toNat z)))]⟩ :: bs) s' := by
  rw [List.length_replicate] at k ⊢
  exact q_make hgd hg hx hy ht1 hz hab hok hf hd k
end
end Go.Proofs.Ytdkkcemlnjlebaa.E
