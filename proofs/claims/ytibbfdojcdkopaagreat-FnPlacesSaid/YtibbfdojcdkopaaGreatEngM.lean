/-
  THE ROW'S TOOLS: an argument of any shape of ints, bools, strings, slices and structs reads as a plain value; the row's last step.
  Conditions: none; all of it is over any program.
-/
import Derived.Test.YtibbfdojcdkopaaGreatEngL
import Derived.ProofKit
import Derived.OpenShut
import Derived.Deep.Slices
import Derived.Deep.Fields
import Derived.ChangeSame
set_option linter.unusedVariables false
set_option linter.unusedSimpArgs false
set_option linter.unusedSectionVars false
set_option linter.unnecessarySimpa false
namespace Go.Proofs.YtibbfdojcdkopaaGreat.E
open Go Go.RowKit Go.WideShapes Go.ChangeShapes Go.Deep

/-- the start of a row's call: all that was there is only read -/
def cx0 (W : World) : Cx := ⟨W, fun b => b < W.heap.size, fun _ => False, fun _ => none⟩
theorem cx0_ok (W : World) : (cx0 W).ok := ⟨fun _ h => h, fun _ _ h => h⟩
theorem cx0_okP {P : Program} {W : World} (h : Given P W) : (cx0 W).okP P := ⟨cx0_ok W, W, h, Ext.refl _ _, fun _ h => h⟩
theorem mem0 (W : World) : Mem (cx0 W) (cx0 W).κ [] W := ⟨Ext.refl _ _, fun l o h => by simp [get] at h, fun l o b k h _ => by simp [get] at h, fun l l' o o' b k k' h _ _ _ => by simp [get] at h, fun _ _ => rfl, Ns.nil fun l o h => by simp [get] at h⟩

section
variable {H : Type} {enc : TypeId × Value → H} {P : Program}
/-- cells that read at type t are those of a plain value -/
def Opens (enc : TypeId × Value → H) (P : Program) (t : TypeId) {α : Type} (f : α → V) (ok : α → Prop) : Prop :=
  ∀ (W : World) (spare : Nat → Bool) (held : Bool) (n : Nat) (cs : List Value) (x : DataW H × List MemPlace), DataW.trod enc P W 0 spare held n t cs = some x → ∃ a : α, All2 (RepR (cx0 W)) (f a).cells cs ∧ ok a
theorem opens_int {t : TypeId} {k : IntKind} (h : P.underlying t = some (.int k)) : Opens enc P t (V.int k) (fun n => (Lit.int k n).wf = true) := by
  intro W spare held n cs x hx
  obtain ⟨m, rfl, _, hw⟩ := DataW.trod_int h hx
  exact ⟨m, ⟨.int k m, trivial⟩, hw⟩
theorem opens_u8 {t : TypeId} (h : P.underlying t = some (.int .u8)) : Opens enc P t (V.int .u8) (fun n => 0 ≤ n ∧ n ≤ 255) := by
  intro W spare held n cs x hx
  obtain ⟨a, h1, h2⟩ := opens_int h W spare held n cs x hx
  refine ⟨a, h1, ?_⟩
  simp only [Lit.wf, Bool.and_eq_true, decide_eq_true_eq] at h2
  have e1 : IntKind.u8.min = 0 := by decide
  have e2 : IntKind.u8.max = 255 := by decide
  omega
theorem opens_slice {t e : TypeId} {α : Type} [Inhabited α] {f : α → V} {ok : α → Prop} {sz : Nat} (ht : P.underlying t = some (.slice e)) (hC : P.cellsOf e = sz) (hz : ∀ a, (f a).cells.length = sz) (h1 : 1 ≤ sz) (ho : Opens enc P e f ok) :
    Opens enc P t (slv sz f) (fun xs => xs.length ≤ 9223372036854775807 ∧ ∀ x ∈ xs, ok x) := by
  intro W spare held n cs x hx
  rcases open_slice ht hx with ⟨rfl, _⟩ | ⟨a, len, cap, m, n', D, Pl, rfl, _, hl, hm, hmm, _, hi⟩
  · exact ⟨[], ⟨RepR.nil sz, trivial⟩, by simp, by simp⟩
  · have hle : len ≤ m := by rw [hmm]; split <;> omega
    have key : ∀ k : Nat, k ≤ len → ∃ xs : List α, xs.length = k ∧ (∀ x ∈ xs, ok x) ∧ ∀ (j : Nat) u, ((xs.map f).flatMap V.cells)[j]? = some u → ∃ y, W.cell? (a.add j) = some y ∧ RepR (cx0 W) u y := by
      intro k
      induction k with
      | zero => intro _; exact ⟨[], rfl, by simp, by simp⟩
      | succ k ih =>
        intro hk
        obtain ⟨xs, hxl, hok, hc⟩ := ih (by omega)
        obtain ⟨cs', hcs, htr⟩ := hi k (by omega)
        obtain ⟨y, hy, hoy⟩ := ho W spare held n' cs' _ htr
        rw [hC] at hcs
        obtain ⟨_, hcl, hat⟩ := World.cells?_some hcs
        refine ⟨xs ++ [y], by simp [hxl], ?_, ?_⟩
        · intro z hz'
          rcases List.mem_append.1 hz' with h | h
          · exact hok z h
          · simp at h; subst h; exact hoy
        · intro j u hu
          rw [List.map_append, List.flatMap_append] at hu
          have hfl : ((xs.map f).flatMap V.cells).length = k * sz := by
            rw [flatMap_length (sz := sz) _ (fun e he => by obtain ⟨a, _, rfl⟩ := List.mem_map.1 he; exact hz a)]
            simp [hxl]
          by_cases hj : j < k * sz
          · rw [List.getElem?_append_left (by omega)] at hu
            exact hc j u hu
          · rw [List.getElem?_append_right (by omega), hfl] at hu
            have hu' : (f y).cells[j - k * sz]? = some u := by simpa using hu
            obtain ⟨v, hv, hr⟩ := hy.get _ u hu'
            have hjl : j - k * sz < sz := by have h := (List.getElem?_eq_some_iff.1 hu').1; rw [hz y] at h; exact h
            refine ⟨v, ?_, hr⟩
            have := hat (j - k * sz) hjl
            rw [hv] at this
            rw [show j = k * sz + (j - k * sz) by omega, ← add_add']
            exact this
    obtain ⟨xs, hxl, hok, hc⟩ := key len (Nat.le_refl _)
    refine ⟨xs, ⟨?_, trivial⟩, by unfold maxLen at hm; omega, hok⟩
    have hlen : (xs.map f).length = len := by simp [hxl]
    rw [← hlen]
    refine RepR.sl sz (xs.map f) a cap (fun j => (W.cell? (a.add j)).getD undef) (fun hne => ?_) (by omega) hm (fun e he => by obtain ⟨a, _, rfl⟩ := List.mem_map.1 he; exact hz a) (fun j u hu => ?_) (fun j u hu => ?_)
    · -- the first cell is there: so its block is
      have hx : xs ≠ [] := fun e => hne (by rw [e]; rfl)
      obtain ⟨x0, xr, rfl⟩ : ∃ x0 xr, xs = x0 :: xr := by cases xs with | nil => exact absurd rfl hx | cons a b => exact ⟨a, b, rfl⟩
      have hl0 : 0 < (f x0).cells.length := by rw [hz]; omega
      obtain ⟨y, hy, _⟩ := hc 0 ((f x0).cells[0]) (by
        rw [List.map_cons, List.flatMap_cons, List.getElem?_append_left hl0]
        exact List.getElem?_eq_getElem hl0)
      show a.block < W.heap.size
      have hb : (a.add 0).block = a.block := block_add a 0
      rw [← hb]
      exact World.block_lt_of_cell? W _ hy
    · obtain ⟨y, hy, _⟩ := hc j u hu
      show W.cell? _ = _
      rw [hy]; rfl
    · obtain ⟨y, hy, hr⟩ := hc j u hu
      rw [hy]; exact hr
theorem trodAll_c {w : World} {b : Nat} {sp : Nat → Bool} {hd : Bool} {t : TypeId} {ts : List TypeId} {L : List Value} {ds : List (DataW H)} {p : List MemPlace} (h : DataW.TrodAll enc P w b sp hd (t :: ts) L ds p) :
    ∃ v L' d ds' p1 p2, L = v :: L' ∧ ds = d :: ds' ∧ p = p1 ++ p2 ∧ DataW.Trod enc P w b sp hd t v d p1 ∧ DataW.TrodAll enc P w b sp hd ts L' ds' p2 := by
  match L, ds, h with
  | v :: L', d :: ds', h => obtain ⟨p1, p2, h1, h2, h3⟩ := h; exact ⟨v, L', d, ds', p1, p2, rfl, rfl, h3, h1, h2⟩
theorem trodAll_n {w : World} {b : Nat} {sp : Nat → Bool} {hd : Bool} {L : List Value} {ds : List (DataW H)} {p : List MemPlace} (h : DataW.TrodAll enc P w b sp hd [] L ds p) : L = [] ∧ ds = [] ∧ p = [] := by
  match L, ds, h with
  | [], [], h => exact ⟨rfl, rfl, h⟩
/-- an argument -/
theorem opens_arg {t : TypeId} {α : Type} {f : α → V} {ok : α → Prop} (ho : Opens enc P t f ok) {W : World} {spare : Nat → Bool} {held : Bool} {v : Value} {d : DataW H} {ps : List MemPlace} (h : DataW.Trod enc P W 0 spare held t v d ps) : ∃ a : α, All2 (RepR (cx0 W)) (f a).cells v.cells.toList ∧ ok a := by
  obtain ⟨n, h⟩ := h
  exact ho W spare held n _ _ h
theorem rep_one {W : World} {u : V} {v : Value} (hv : v.cells = #[v]) (hu : u.cells = [u]) (h : All2 (RepR (cx0 W)) u.cells v.cells.toList) : RepR (cx0 W) u v := by
  rw [hv, hu] at h; exact h.1
theorem trodAll_carry (hl : laidOutB P = true) {W W' : World} (hb : Below W.heap.size W W') {sp : Nat → Bool} : ∀ {ts : List TypeId} {vs : List Value} {ds : List (DataW H)} {p : List MemPlace}, (∀ t ∈ ts, P.readableRec t = true ∧ t < P.types.size) → DataW.TrodAll enc P W 0 (fun _ => true) true ts vs ds p → (∀ x ∈ p, x.block < W.heap.size) → (∀ x ∈ p, sp x.block = true) → DataW.TrodAll enc P W' 0 sp true ts vs ds p
  | [], [], [], p, _, h, _, _ => h
  | t :: ts, v :: vs, d :: ds, p, hr, h, hlt, hsp => by
    obtain ⟨p1, q1, h1, h2, rfl⟩ := h
    refine ⟨p1, q1, WideElems.Trod_stays hl (hr t List.mem_cons_self).1 (hr t List.mem_cons_self).2 h1 (fun x hx => hb.same (hlt x (List.mem_append_left _ hx))) (fun x hx => hsp x (List.mem_append_left _ hx)), ?_, rfl⟩
    exact trodAll_carry hl hb (fun t ht => hr t (List.mem_cons_of_mem _ ht)) h2 (fun x hx => hlt x (List.mem_append_right _ hx)) (fun x hx => hsp x (List.mem_append_right _ hx))
  | [], _ :: _, _, _, _, h, _, _ => h.elim
  | [], [], _ :: _, _, _, h, _, _ => h.elim
  | _ :: _, [], _, _, _, h, _, _ => h.elim
  | _ :: _, _ :: _, [], _, _, h, _, _ => h.elim
/-- the row's last step: the law said true, and below the old heap nothing has turned -/
theorem post_true {f : Func} {s : ChangeSpec} {apart fresh handsOn again : Bool} {W W' : World} {args : Array Value} {ds : List (DataW H)} {before : List MemPlace} {tb : TypeId} (hl : laidOutB P = true) (htb : P.underlying tb = some .bool) (hrt : f.resultTypes = #[tb]) (hvs : s.vars = [])
    (hr : ∀ t ∈ f.params.toList, P.readableRec t = true ∧ t < P.types.size) (hfn : s.fn H ds = { results := [.lit (.bool true)], args := ds, vars := [] }) (hW : DataW.Whole enc P f.params.toList s.vars apart W args.toList ds [] before) (hb : Below W.heap.size W W') :
    s.post enc P f apart fresh handsOn again W args (.bool true) W' := by
  have hlt : ∀ p ∈ before, p.block < W.heap.size := fun p hp => hW.lt p hp
  have hW' := hW
  obtain ⟨p, q, hA, hV, hpq, hz, hn⟩ := hW'
  have hq : q = [] := by rw [hvs] at hV; exact hV
  subst hq
  rw [List.append_nil] at hpq
  subst hpq
  have hfn' : s.fn H (ds ++ []) = { results := [.lit (.bool true)], args := ds, vars := [] } := by rw [List.append_nil]; exact hfn
  have hres : ∀ (b : Nat) (sp : Nat → Bool) (hd : Bool), DataW.TrodAll enc P W' b sp hd f.resultTypes.toList ((Value.bool true).resultList f.resultTypes.size) (s.fn H (ds ++ [])).results [] := fun b sp hd => by
    rw [hfn', hrt]
    exact trodAll_mk1 (shut_bool htb true)
  have hargs : ∀ sp : Nat → Bool, (∀ x ∈ before, sp x.block = true) → DataW.TrodAll enc P W' 0 sp true f.params.toList args.toList (s.fn H (ds ++ [])).args before := fun sp hsp => by
    rw [hfn']
    exact trodAll_carry hl hb hr hA hlt hsp
  have hvars : ∀ sp : Nat → Bool, DataW.TrodVars enc P W' sp s.vars (s.fn H (ds ++ [])).vars [] := fun sp => by
    rw [hfn', hvs]; rfl
  refine ⟨ds, [], before, [], before, [], hW, hres _ _ _, hargs _ (fun x hx => by simpa using hlt x hx), hvars _, World.keptBut_mono (fun x hx => ⟨hx, ?_⟩) (hb.frame (· ∈ before)), fun _ => ⟨?_, _, _, ([] ++ before) ++ [], ⟨[] ++ before, [], trodAll_append (hargs _ (fun _ _ => rfl)) (hres _ _ _), hvars _, rfl, ?_, ?_⟩, ?_⟩⟩
  · exact Or.inr (Or.inl hx)
  · intro j t r hj hv
    rw [hrt] at hj hv
    match j, hj, hv with
    | 0, hj, hv =>
      simp [Value.resultList] at hj hv
      subst hj; subst hv
      exact okWide_bool_mk htb true
  · intro b off hp
    have hin : MemPlace.cell b off ∈ before := by simpa using hp
    rw [hb.frozen (hlt _ hin)]
    exact hz b off hin
  · intro ha; simpa using hn ha
  · intro x hx _; simpa using hx
end
end Go.Proofs.YtibbfdojcdkopaaGreat.E
