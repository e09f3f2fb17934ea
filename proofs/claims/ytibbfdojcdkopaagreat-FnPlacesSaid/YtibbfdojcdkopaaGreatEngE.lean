/-
  THE ENGINE, part E: append to a slice of the call's own; contracts of functions ('Con') and the rule of a call.
  Conditions: none; all of it is over any program.
-/
import Derived.Test.YtibbfdojcdkopaaGreatEngD
import Derived.Maps.AppendAt
set_option linter.unusedVariables false
set_option linter.unusedSimpArgs false
set_option linter.unusedSectionVars false
set_option linter.unnecessarySimpa false
namespace Go.Proofs.YtibbfdojcdkopaaGreat.E
open Go Go.RowKit

/-- A label goes, another comes: its block is the old one's or new. -/
theorem Mem.move {c : Cx} {κ : Ka} {s : S} {w w' : World} {l' : Nat} {o' : O} {p : Option (Nat × Nat)} {kill : List (Nat × Option O)} (row : Option Nat) (hc : c.ok) (h : Mem c κ s.H w) (hf : Fresh l' s)
    (hx : Ext (fun b => row = some b) w w') (hk : kill = [] ∨ ∃ l, kill = [(l, none)]) (hkill : ∀ b, row = some b → ∃ l o k, kill = [(l, none)] ∧ get s.H l = some o ∧ κ l = some (b, k) ∧ o.isNest = false)
    (hp : ∀ b k, p = some (b, k) → row = some b ∨ w.heap.size ≤ b) (ho : Holds c (fun i => if i = l' then p else κ i) w' l' o') (hno : o'.isNest = false := by rfl) :
    Mem c (fun i => if i = l' then p else κ i) ((l', some o') :: (kill ++ s.H)) w' := by
  have hext : Ext c.X c.w w' := h.ext.trans' hx (fun b hb => by obtain ⟨l, o, k, _, hl, hkl, _⟩ := hkill b hb; exact (h.ow l o b k hl hkl).1)
  have live : ∀ l2 o2, get (kill ++ s.H) l2 = some o2 → get s.H l2 = some o2 ∧ ∀ b k, κ l2 = some (b, k) → row ≠ some b := by
    intro l2 o2 hl2
    rcases hk with rfl | ⟨l, rfl⟩
    · refine ⟨hl2, fun b k hk2 hr => ?_⟩
      obtain ⟨_, _, _, hne, _⟩ := hkill b hr
      simp at hne
    · rw [List.singleton_append, get_cons] at hl2
      split at hl2
      · simp at hl2
      · rename_i hne
        refine ⟨hl2, fun b k hk2 hr => ?_⟩
        obtain ⟨l3, o3, k3, he, hl3, hk3, _⟩ := hkill b hr
        simp at he
        subst he
        exact hne (h.ij l l2 o3 o2 b k3 k hl3 hl2 hk3 hk2)
  refine ⟨hext, fun l2 o2 hl2 => ?_, fun l2 o2 b k hl2 hk2 => ?_, fun l1 l2 o1 o2 b k k' h1 h2 hk1 hk2 => ?_, fun i hi => ?_, ?_⟩
  · rw [get_cons] at hl2
    by_cases e : l' = l2
    · subst e; simp at hl2; subst hl2; exact ho
    · simp only [e, if_false] at hl2
      have e' : ¬ l2 = l' := fun h => e h.symm
      obtain ⟨hl2, hne⟩ := live l2 o2 hl2
      refine (h.hp l2 o2 hl2).turn (by simp [e']) (fun i hi => ?_) (fun b k hk2 => hx.block b (h.lt hl2 hk2) (hne b k hk2))
      have : i ≠ l' := fun e2 => hf.h _ (get_mem hl2) o2 rfl (e2 ▸ hi)
      simp [this]
  · rw [get_cons] at hl2
    by_cases e : l' = l2
    · subst e
      simp only [if_true] at hk2
      rcases hp b k hk2 with hr | hr
      · obtain ⟨l3, o3, k3, _, hl3, hk3, _⟩ := hkill b hr
        exact h.ow l3 o3 b k3 hl3 hk3
      · exact ⟨.inl (Nat.le_trans h.ext.size hr), fun hD => by have := hc.lt b hD; have := h.ext.size; omega⟩
    · have e' : ¬ l2 = l' := fun h => e h.symm
      simp only [e, if_false] at hl2
      simp only [e', if_false] at hk2
      exact h.ow l2 o2 b k (live l2 o2 hl2).1 hk2
  · have cross : ∀ l2 o2 b k k', get (kill ++ s.H) l2 = some o2 → κ l2 = some (b, k') → p = some (b, k) → False := by
      intro l2 o2 b k k' hl2 hk2 hpb
      obtain ⟨hl2, hne⟩ := live l2 o2 hl2
      rcases hp b k hpb with hr | hr
      · exact hne b k' hk2 hr
      · have := h.lt hl2 hk2; omega
    rw [get_cons] at h1 h2
    by_cases e1 : l' = l1 <;> by_cases e2 : l' = l2
    · exact e1.symm.trans e2
    · subst e1
      have e2' : ¬ l2 = l' := fun h => e2 h.symm
      simp only [e2, if_false] at h2
      simp only [if_true] at hk1
      simp only [e2', if_false] at hk2
      exact (cross l2 o2 b k k' h2 hk2 hk1).elim
    · subst e2
      have e1' : ¬ l1 = l' := fun h => e1 h.symm
      simp only [e1, if_false] at h1
      simp only [if_true] at hk2
      simp only [e1', if_false] at hk1
      exact (cross l1 o1 b k' k h1 hk1 hk2).elim
    · have e1' : ¬ l1 = l' := fun h => e1 h.symm
      have e2' : ¬ l2 = l' := fun h => e2 h.symm
      simp only [e1, if_false] at h1
      simp only [e2, if_false] at h2
      simp only [e1', if_false] at hk1
      simp only [e2', if_false] at hk2
      exact h.ij l1 l2 o1 o2 b k k' (live l1 o1 h1).1 (live l2 o2 h2).1 hk1 hk2
  · have : ¬ i = l' := by have := hf.ge; omega
    simp only [this, if_false]
    exact h.pin i hi
  · refine h.nsi (fun l2 o2 hl2 hN => ?_) (fun l2 o2 b k hl2 hk2 => ?_) (fun b hb' => ?_) hx.size
    · rw [get_cons] at hl2
      split at hl2
      · injection hl2 with hl2; subst hl2; rw [hno] at hN; simp at hN
      · rename_i e
        have e' : ¬ l2 = l' := fun h => e h.symm
        have hl3 := (live l2 o2 hl2).1
        refine ⟨hl3, by simp [e'], fun x hx => ?_⟩
        have : x ≠ l' := fun e2 => hf.h _ (get_mem hl3) o2 rfl (e2 ▸ hx)
        simp [this]
    · rw [get_cons] at hl2
      by_cases e : l' = l2
      · subst e
        simp only [if_true] at hk2
        rcases hp b k hk2 with hr | hr
        · obtain ⟨l3, o3, k3, _, hl3, hk3, _⟩ := hkill b hr
          exact .inr ⟨l3, o3, k3, hl3, hk3⟩
        · exact .inl hr
      · have e' : ¬ l2 = l' := fun h => e h.symm
        simp only [e, if_false] at hl2
        simp only [e', if_false] at hk2
        exact .inr ⟨l2, o2, k, (live l2 o2 hl2).1, hk2⟩
    · by_cases hr : row = some b
      · obtain ⟨l3, o3, k3, _, hl3, hk3, hn3⟩ := hkill b hr
        exact .inr ⟨l3, o3, k3, hl3, hn3, hk3⟩
      · exact .inl (hx.block b hb' hr)

section
variable {P : Program} {n : Nat} {ops : Array Oper}
variable {s s' : S} {r : List Oper} {bs : List A} {g : Bool} {gks : List Nat} {d : Nat} {ty : TypeId} {pos : String} {af : Array Edge} {gd : Option (Nat × Bool)}

/-- what is appended -/
inductive Src (s : S) (g : Bool) (sz : Nat) : Operand → List V → List Nat → List Nat → Prop
  | ro {x : Operand} {es : List V} {ks : List Nat} (h : Od s g x (.sl sz es) ks) : Src s g sz x es ks []
  | ow {x : Operand} {l q : Nat} {el : TypeId} {es news : List V} {ks : List Nat} (h : Od s g x (.os l q) ks) (ho : get s.H l = some (.row el sz es)) (hq : es.take q = news) (hl : news.length = q) : Src s g sz x news ks [l]
  | nil {x : Operand} {ks : List Nat} (h : Od s g x .nls ks) : Src s g sz x [] ks []
  | ows {x : Operand} {l q off : Nat} {el : TypeId} {es news : List V} {ks : List Nat} (h : Od s g x (.oss l sz off q) ks) (ho : get s.H l = some (.row el sz es)) (hq : (es.drop off).take q = news) (hl : news.length = q) : Src s g sz x news ks [l]
theorem Src.agree {s s' : S} {g : Bool} {sz : Nat} {x : Operand} {es : List V} {ks kh : List Nat} (h : Src s g sz x es ks kh) (ha : ∀ t ∈ ks, get s'.T t = get s.T t) (hb : ∀ l ∈ kh, get s'.H l = get s.H l) : Src s' g sz x es ks kh := by
  cases h with
  | ro h => exact .ro (h.agree ha)
  | ow h ho hq hl => exact .ow (h.agree ha) ((hb _ (by simp)).trans ho) hq hl
  | nil h => exact .nil (h.agree ha)
  | ows h ho hq hl => exact .ows (h.agree ha) ((hb _ (by simp)).trans ho) hq hl
theorem Src.rep {sz : Nat} {x : Operand} {es : List V} {ks kh : List Nat} (h : Src s g sz x es ks kh) {c : Cx} {κ : Ka} {a : Act} {w : World} (hc : c.ok) (hs : Sat n c κ s a w) (hg : g = true) :
    ∃ (A : Option Addr) (cap : Nat) (ys : List Value), a.eval x = .slice A es.length cap ∧ (∀ e ∈ es, e.cells.length = sz) ∧ All2 (RepR c) (es.flatMap V.cells) ys ∧ (A = none → es = []) ∧ ∀ ad, A = some ad → ∀ (j : Nat) y, ys[j]? = some y → w.cell? (ad.add j) = some y := by
  have mk : ∀ (us : List V) (f : Nat → Value), (∀ j u, us[j]? = some u → RepR c u (f j)) → All2 (RepR c) us ((List.range us.length).map f) := fun us f hf =>
    All2.of_get (by simp) fun j u y hu hy => by
      have hj : j < us.length := (List.getElem?_eq_some_iff.1 hu).1
      simp only [List.getElem?_map, List.getElem?_range hj, Option.map_some, Option.some.injEq] at hy
      subst hy; exact hf j u hu
  cases h with
  | ro h =>
    have h1 : RepR c (.sl sz es) (a.eval x) := h.rep hs hg
    generalize hx' : a.eval x = y at h1
    cases h1 with
    | nil => exact ⟨none, 0, [], rfl, by simp, trivial, fun _ => rfl, fun ad h => by simp at h⟩
    | sl _ _ ad cap f hD hl hcp hz h1 h2 =>
      refine ⟨some ad, cap, _, rfl, hz, mk _ f h2, fun h => by simp at h, fun ad' had j y hy => ?_⟩
      injection had with had; subst had
      have hj : j < (es.flatMap V.cells).length := by have := (List.getElem?_eq_some_iff.1 hy).1; simpa using this
      simp only [List.getElem?_map, List.getElem?_range hj, Option.map_some, Option.some.injEq] at hy
      subst hy
      exact (hs.mem.cell hc (by rw [block_add]; exact hD (ne_cell (List.getElem?_eq_getElem hj)))).trans (h1 j _ (List.getElem?_eq_getElem hj))
  | ow h ho hq hl =>
    rename_i l q el es0
    have h1 : RepB c κ (.os l q) (a.eval x) := h.rep hs hg
    have hho := hs.mem.hp l _ ho
    simp only [RepB] at h1
    simp only [Holds] at hho
    cases hk : κ l with
    | none =>
      simp only [hk] at h1 hho
      obtain ⟨h0, hx⟩ := h1
      subst h0
      have : es = [] := List.eq_nil_of_length_eq_zero hl
      subst this
      exact ⟨none, 0, [], hx, by simp, trivial, fun _ => rfl, fun ad h => by simp at h⟩
    | some p =>
      obtain ⟨b, cap⟩ := p
      simp only [hk] at h1 hho
      obtain ⟨hqc, hcm, hx⟩ := h1
      obtain ⟨cur, hb, hec, _, hcs, hz, hrep⟩ := hho
      have hz' : ∀ e ∈ es, e.cells.length = sz := fun e he => hz e (by rw [← hq] at he; exact List.mem_of_mem_take he)
      have hget : ∀ (j : Nat) u, (es.flatMap V.cells)[j]? = some u → (es0.flatMap V.cells)[j]? = some u := by
        intro j u hu
        have hsplit : es0.flatMap V.cells = es.flatMap V.cells ++ (es0.drop q).flatMap V.cells := by
          rw [← hq, ← List.flatMap_append, List.take_append_drop]
        rw [hsplit, List.getElem?_append_left (List.getElem?_eq_some_iff.1 hu).1]
        exact hu
      have hlen : (es.flatMap V.cells).length ≤ cur.size := by
        rw [flatMap_length es hz', hcs, hl]
        exact Nat.mul_le_mul_right _ hqc
      refine ⟨some ⟨b, 0, none⟩, cap, cur.toList.take (es.flatMap V.cells).length, by rw [hx, hl], hz', All2.of_get (by have h := Array.length_toList (xs := cur); rw [List.length_take]; omega) fun j u y hu hy => ?_, fun h => by simp at h, fun ad had j y hy => ?_⟩
      · obtain ⟨y', hy', hr⟩ := hrep j u (hget j u hu)
        have hj : j < (es.flatMap V.cells).length := (List.getElem?_eq_some_iff.1 hu).1
        rw [List.getElem?_take, if_pos hj] at hy
        have : y = y' := by simp at hy; rw [hy'] at hy; exact (Option.some.inj hy).symm
        subst this; exact hr
      · injection had with had; subst had
        have hj : j < (es.flatMap V.cells).length := by have := (List.getElem?_eq_some_iff.1 hy).1; rw [List.length_take] at this; omega
        rw [List.getElem?_take, if_pos hj] at hy
        rw [add_lit, cell_of_row w b _ cur el (0, 0) hb]
        simpa using hy
  | nil h =>
    have h1 : RepR c .nls (a.eval x) := h.rep hs hg
    generalize hx' : a.eval x = y at h1
    cases h1
    exact ⟨none, 0, [], rfl, by simp, trivial, fun _ => rfl, fun ad h => by simp at h⟩
  | ows h ho hq hl =>
    rename_i l q off el es0
    have h1 : RepB c κ (.oss l sz off q) (a.eval x) := h.rep hs hg
    have hho := hs.mem.hp l _ ho
    simp only [RepB] at h1
    simp only [Holds] at hho
    cases hk : κ l with
    | none =>
      simp only [hk] at h1 hho
      obtain ⟨_, h0, hx⟩ := h1
      subst h0
      have : es = [] := List.eq_nil_of_length_eq_zero hl
      subst this
      exact ⟨none, 0, [], hx, by simp, trivial, fun _ => rfl, fun ad h => by simp at h⟩
    | some p =>
      obtain ⟨b, cap⟩ := p
      simp only [hk] at h1 hho
      obtain ⟨hqc, hcm, hx⟩ := h1
      obtain ⟨cur, hb, hec, _, hcs, hz, hrep⟩ := hho
      have hz' : ∀ e ∈ es, e.cells.length = sz := fun e he => hz e (by rw [← hq] at he; exact List.mem_of_mem_drop (List.mem_of_mem_take he))
      have hget : ∀ (j : Nat) u, (es.flatMap V.cells)[j]? = some u → (es0.flatMap V.cells)[off * sz + j]? = some u := by
        intro j u hu
        have hne : es ≠ [] := by rintro rfl; simp at hu
        have hoff : off ≤ es0.length := by
          rcases Nat.le_total off es0.length with h | h
          · exact h
          · exfalso; apply hne; rw [← hq, List.drop_eq_nil_of_le h]; simp
        have h2 : ((es0.take off).flatMap V.cells).length = off * sz := by
          rw [flatMap_length _ (fun e he => hz e (List.mem_of_mem_take he)), List.length_take, Nat.min_eq_left hoff]
        have hsplit : es0.flatMap V.cells = (es0.take off).flatMap V.cells ++ (es.flatMap V.cells ++ ((es0.drop off).drop q).flatMap V.cells) := by
          rw [← hq, ← List.flatMap_append, List.take_append_drop, ← List.flatMap_append, List.take_append_drop]
        rw [hsplit, List.getElem?_append_right (by omega), h2, Nat.add_sub_cancel_left, List.getElem?_append_left (List.getElem?_eq_some_iff.1 hu).1]
        exact hu
      by_cases hco : cap = off
      · have : es = [] := List.eq_nil_of_length_eq_zero (by omega)
        subst this
        exact ⟨_, _, [], by rw [hx, ← hl], by simp, trivial, fun h => by simp at h, fun ad _ j y hy => by simp at hy⟩
      · rw [if_neg hco] at hx
        have hlen : off * sz + (es.flatMap V.cells).length ≤ cur.size := by
          rw [flatMap_length es hz', hcs, hl, ← Nat.add_mul]
          exact Nat.mul_le_mul_right _ hqc
        refine ⟨some ⟨b, off * sz, none⟩, cap - off, (cur.toList.drop (off * sz)).take (es.flatMap V.cells).length, by rw [hx, hl], hz', All2.of_get (by have h := Array.length_toList (xs := cur); rw [List.length_take, List.length_drop]; omega) fun j u y hu hy => ?_, fun h => by simp at h, fun ad had j y hy => ?_⟩
        · obtain ⟨y', hy', hr⟩ := hrep _ u (hget j u hu)
          have hj := (List.getElem?_eq_some_iff.1 hu).1
          rw [List.getElem?_take, if_pos hj, List.getElem?_drop] at hy
          have : y = y' := by simp at hy; rw [hy'] at hy; exact (Option.some.inj hy).symm
          subst this; exact hr
        · injection had with had; subst had
          have hj : j < (es.flatMap V.cells).length := by have := (List.getElem?_eq_some_iff.1 hy).1; rw [List.length_take] at this; omega
          rw [List.getElem?_take, if_pos hj, List.getElem?_drop] at hy
          rw [add_lit, cell_of_row w b _ cur el (0, 0) hb]
          simpa using hy

/-- what it is appended to -/
inductive Bse (s : S) (g : Bool) (el : TypeId) (sz : Nat) : Operand → List V → List (Nat × Option O) → List Nat → List Nat → Prop
  | nil {x : Operand} {ks : List Nat} (h : Od s g x .nls ks) : Bse s g el sz x [] [] ks []
  | ow {x : Operand} {l m : Nat} {es old : List V} {ks : List Nat} (h : Od s g x (.os l m) ks) (ho : get s.H l = some (.row el sz es)) (hq : es.take m = old) (hl : old.length = m) : Bse s g el sz x old [(l, none)] ks [l]
theorem Bse.agree {s s' : S} {g : Bool} {el : TypeId} {sz : Nat} {x : Operand} {es : List V} {kill : List (Nat × Option O)} {ks kh : List Nat} (h : Bse s g el sz x es kill ks kh) (ha : ∀ t ∈ ks, get s'.T t = get s.T t) (hb : ∀ l ∈ kh, get s'.H l = get s.H l) : Bse s' g el sz x es kill ks kh := by
  cases h with
  | nil h => exact .nil (h.agree ha)
  | ow h ho hq hl => exact .ow (h.agree ha) ((hb _ (by simp)).trans ho) hq hl

theorem run_append_nil' {w : World} {base : Nat} {t ty e : TypeId} {i : TypeInfo} {size : Nat} (ht : P.underlying t = some (.slice e)) (hi : P.info? e = some i)
    {v : Value} {m : Nat} {xs : List Value} (hown : w.ownsRow base e size v m xs) (c : Nat) : (Builtin.append_ #[t, t] ty #[v, .slice none 0 c]).run P w = .ok v w := by
  rcases hown.2 with ⟨rfl, rfl⟩ | ⟨g, cap, cur, rfl, _, _, hnc, _⟩
  · simp [Builtin.append_, run_underlying ht, sizeOf, typeInfo, hi, Builtin.lenOf, Builtin.firstCells]
  · simp [Builtin.append_, run_underlying ht, sizeOf, typeInfo, hi, Builtin.lenOf, Builtin.firstCells, hnc, storeCells]

theorem Ext.of_grown {w w' : World} {row : Option Nat} (h : w.grownBy w' row) : Ext (fun b => row = some b) w w' :=
  ⟨h.os, h.tape, h.output, h.size, fun b hb hr => h.block b hb (fun e => hr e.symm)⟩

theorem q_app {t el : TypeId} {l sz by' q : Nat} {x y : Operand} {old news tot : List V} {z : V} {kill : List (Nat × Option O)} {k1 k2 h1 h2 : List Nat} (hgd : Gd ops s gd g gks) (hg : g = true) (hx : Bse s g el sz x old kill k1 h1) (hy : Src s g sz y news k2 h2)
    (ht1 : slInfo P t = some (el, sz, by')) (hz : zeroV P el = some z) (hok : (Nat.beq z.cells.length sz && Nat.ble 1 sz && Nat.ble by' 65536) = true) (htot : old ++ news = tot) (hq : tot.length = q) (hroom : q ≤ 1073741824) (hf : freshB l s = true) (hd : Nat.blt d n = true)
    (k : Lex P n ops r ⟨(d, some (true, .os l q)) :: s.T, (l, some (.row el sz tot)) :: (kill ++ s.H)⟩ bs s') :
    Lex P n ops (⟨some d, .call ⟨.builtin .append, #[x, y], #[t, t]⟩, ty, pos, af, gd⟩ :: r) s (⟨(k1 ++ k2) ++ gks, h1 ++ h2, [l], [(d, some (true, .os l q))], (l, some (.row el sz tot)) :: kill⟩ :: bs) s' := by
  subst htot
  subst hq
  refine q_mem (o := ⟨some d, .call ⟨.builtin .append, #[x, y], #[t, t]⟩, ty, pos, af, gd⟩) hgd hg rfl hd (fun l' hl' => by simp at hl'; subst hl'; exact Fresh.of hf) (fun s' ht hh hfr c κ a w hc hs => ?_) k
  have hfl := hfr l (by simp)
  simp only [Bool.and_eq_true] at hok
  obtain ⟨⟨hzl, hs1⟩, hby⟩ := hok
  have hzl' : z.cells.length = sz := Nat.eq_of_beq_eq_true hzl
  have hs1' : 1 ≤ sz := Nat.le_of_ble_eq_true hs1
  have hby' : by' ≤ 65536 := Nat.le_of_ble_eq_true hby
  obtain ⟨hu, i, hi, hisz, hiby⟩ := slInfo_spec ht1
  obtain ⟨i', zv, hi', hzi, hcz⟩ := zeroV_spec hz
  have : i' = i := by rw [hi] at hi'; exact (Option.some.inj hi').symm
  subst this
  obtain ⟨hlab, hnt, hokc⟩ := const_labs hcz
  have hzs : zv.cells.size = sz := by have := ((repT_cells hokc hnt (constV_rep (c := c) (κ := κ) hcz)).1).length; simp at this; omega
  obtain ⟨A, cap2, ys, hey, hnz, hnr, hAn, hAc⟩ := (hy.agree (ag2 ht) (fun l hl => hh l (by simp [hl]))).rep hc hs hg
  have hx' := hx.agree (s' := s') (fun t hm => ht t (by simp [hm])) (fun l hl => hh l (by simp [hl]))
  -- the old slice as an owned row
  have hown : ∃ (v : Value) (xs : List Value), a.eval x = v ∧ w.ownsRow 0 el sz v old.length xs ∧ All2 (RepR c) (old.flatMap V.cells) xs ∧ (∀ e ∈ old, e.cells.length = sz) ∧ (kill = [] ∨ ∃ l, kill = [(l, none)]) ∧
      (∀ b, v.ownBlock = some b → ∃ l o k, kill = [(l, none)] ∧ get s'.H l = some o ∧ κ l = some (b, k) ∧ o.isNest = false) := by
    cases hx' with
    | nil h =>
      have h1 : RepR c .nls (a.eval x) := h.rep hs hg
      generalize hx' : a.eval x = y' at h1
      cases h1
      exact ⟨_, [], rfl, World.ownsRow_nil w 0 el sz, trivial, by simp, .inl rfl, fun b hb => by simp [Value.ownBlock] at hb⟩
    | ow h ho hq hl =>
      rename_i l0 m es0
      have h1 : RepB c κ (.os l0 m) (a.eval x) := h.rep hs hg
      have hho := hs.mem.hp l0 _ ho
      simp only [RepB] at h1
      simp only [Holds] at hho
      cases hk : κ l0 with
      | none =>
        simp only [hk] at h1
        obtain ⟨h0, hxv⟩ := h1
        subst h0
        have : old = [] := List.eq_nil_of_length_eq_zero hl
        subst this
        exact ⟨_, [], hxv, World.ownsRow_nil w 0 el sz, trivial, by simp, .inr ⟨l0, rfl⟩, fun b hb => by simp [Value.ownBlock] at hb⟩
      | some p =>
        obtain ⟨b, cap⟩ := p
        simp only [hk] at h1 hho
        obtain ⟨hqc, hcm, hxv⟩ := h1
        obtain ⟨cur, hb, hec, _, hcs, hz0, hrep⟩ := hho
        have hz' : ∀ e ∈ old, e.cells.length = sz := fun e he => hz0 e (by rw [← hq] at he; exact List.mem_of_mem_take he)
        have hfl' := flatMap_length old hz'
        have hmc : m * sz ≤ cap * sz := Nat.mul_le_mul_right _ hqc
        have hget : ∀ (j : Nat) u, (old.flatMap V.cells)[j]? = some u → (es0.flatMap V.cells)[j]? = some u := by
          intro j u hu
          have hsplit : es0.flatMap V.cells = old.flatMap V.cells ++ (es0.drop m).flatMap V.cells := by
            rw [← hq, ← List.flatMap_append, List.take_append_drop]
          rw [hsplit, List.getElem?_append_left (List.getElem?_eq_some_iff.1 hu).1]
          exact hu
        refine ⟨_, cur.toList.take (m * sz), hxv, ?_, All2.of_get (by have h := Array.length_toList (xs := cur); rw [List.length_take, hfl', hl]; omega) fun j u y hu hy => ?_, hz', .inr ⟨l0, rfl⟩, fun b' hb' => ?_⟩
        · rw [hl]
          exact ⟨by simp; omega, .inr ⟨b, cap, cur, rfl, Nat.zero_le _, hb, hqc, hcm, hcs, rfl⟩⟩
        · obtain ⟨y', hy', hr⟩ := hrep j u (hget j u hu)
          have hj : j < m * sz := by have := (List.getElem?_eq_some_iff.1 hu).1; rw [hfl', hl] at this; exact this
          rw [List.getElem?_take, if_pos hj] at hy
          have : y = y' := by simp at hy; rw [hy'] at hy; exact (Option.some.inj hy).symm
          subst this; exact hr
        · simp [Value.ownBlock] at hb'
          subst hb'
          exact ⟨l0, _, cap, rfl, ho, hk, rfl⟩
  obtain ⟨v, xs, hev, hown, hor, hoz, hkl, hkb⟩ := hown
  have hysl : ys.length = news.length * sz := by rw [← hnr.length, flatMap_length news hnz]
  have hyone : ∀ u ∈ ys, u.oneCell' = true := by
    intro u hu
    obtain ⟨j, hj⟩ := List.mem_iff_getElem?.1 hu
    have hlt : j < (news.flatMap V.cells).length := by rw [hnr.length]; exact (List.getElem?_eq_some_iff.1 hj).1
    obtain ⟨y', hy', hr⟩ := hnr.get j _ (List.getElem?_eq_getElem hlt)
    rw [hj] at hy'; injection hy' with hy'; subst hy'
    generalize (news.flatMap V.cells)[j] = e0 at hr
    cases hr <;> first | rfl | (rename_i h; exact h.2)
  have hlen : (old ++ news).length = old.length + news.length := List.length_append
  rw [hlen] at hroom
  have hml : (1073741824 : Nat) ≤ maxLen := by unfold maxLen; omega
  have hbytes : (old.length + news.length) * by' ≤ 140737488355328 := by
    have := Nat.mul_le_mul hroom hby'
    omega
  have key : ∃ v' w', (Builtin.append_ #[t, t] ty #[v, .slice A news.length cap2]).run P w = .ok v' w' ∧ w'.ownsRow 0 el sz v' (old.length + news.length) (xs ++ ys) ∧ w.grownBy w' v.ownBlock ∧ (v'.ownBlock = v.ownBlock ∨ v'.ownBlock = some w.heap.size) := by
    cases A with
    | none =>
      have hn := hAn rfl
      subst hn
      have hy0 : ys = [] := List.eq_nil_of_length_eq_zero (by simpa using hysl)
      subst hy0
      exact ⟨v, w, run_append_nil' hu hi hown cap2, by simpa using hown, ⟨rfl, rfl, rfl, Nat.le_refl _, fun _ _ _ => rfl⟩, .inl rfl⟩
    | some ad =>
      obtain ⟨v', w', h1, h2, h3, _, h5⟩ := run_append_own_at (P := P) w 0 t ty el i' zv sz by' hu hi hzi hisz hiby hzs (by omega) v old.length xs hown ad news.length cap2 ys hysl (hAc ad rfl) hyone (by omega) hbytes (Nat.zero_le _)
      exact ⟨v', w', h1, h2, h3, h5⟩
  obtain ⟨v', w', hrun, hown', hgr, hblk⟩ := key
  have hexec : (execOp a.eval ⟨some d, .call ⟨.builtin .append, #[x, y], #[t, t]⟩, ty, pos, af, gd⟩).run P w = .ok (.value v') w' := by
    simp only [execOp, resolve, invoke, builtin, Sem.run_bind, Sem.run_pure, Result.andThen_ok, List.map_toArray, List.map_cons, List.map_nil, hev, hey, hrun]
  have hall : All2 (RepR c) ((old ++ news).flatMap V.cells) (xs ++ ys) := by rw [List.flatMap_append]; exact hor.append hnr
  have hallz : ∀ e ∈ old ++ news, e.cells.length = sz := fun e he => (List.mem_append.1 he).elim (hoz e) (hnz e)
  rcases hown'.2 with ⟨rfl, hn0⟩ | ⟨b', cap', cur', rfl, _, hb', hnc, hcm, hcs, htk⟩
  · have hnil : old ++ news = [] := List.eq_nil_of_length_eq_zero (by rw [hlen]; exact hn0)
    refine ⟨.slice none 0 0, w', fun i => if i = l then none else κ i, hexec, ⟨fun _ => ?_, fun h => by simp at h⟩, lab_keep hfl, Mem.move v.ownBlock hc hs.mem hfl (Ext.of_grown hgr) hkl hkb (fun b k hb => by simp at hb) ?_⟩
    · rw [hnil]; exact repT_os0 (if_pos rfl)
    · simp only [Holds, if_true]; exact hnil
  · refine ⟨.slice (some ⟨b', 0, none⟩) (old.length + news.length) cap', w', fun i => if i = l then some (b', cap') else κ i, hexec, ⟨fun _ => repT_os (b := b') (cap := cap') (if_pos rfl) ⟨by rw [hlen]; exact hnc, hcm, by rw [hlen]⟩, fun h => by simp at h⟩, lab_keep hfl, Mem.move v.ownBlock hc hs.mem hfl (Ext.of_grown hgr) hkl hkb (fun b k hb => ?_) ?_⟩
    · injection hb with hb; injection hb with hb _; subst hb
      simp only [Value.ownBlock] at hblk
      rcases hblk with h | h
      · exact .inl h.symm
      · injection h with h; exact .inr (by omega)
    · simp only [Holds, if_true]
      refine ⟨cur', hb', by rw [hlen]; exact hnc, hcm, hcs, hallz, fun j u hu => ?_⟩
      obtain ⟨y', hy', hr⟩ := hall.get j u hu
      refine ⟨y', ?_, hr⟩
      rw [← htk, List.getElem?_take] at hy'
      split at hy'
      · simpa using hy'
      · simp at hy'
end
end Go.Proofs.YtibbfdojcdkopaaGreat.E
