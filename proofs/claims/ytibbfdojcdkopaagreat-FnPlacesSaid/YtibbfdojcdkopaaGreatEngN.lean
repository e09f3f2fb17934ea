/-
  THE ENGINE, part N: parts of a slice of the call's own; copy into them.
  Conditions: none; all of it is over any program.
-/
import Derived.Test.YtibbfdojcdkopaaGreatEngL
import Derived.Laws.CopyRow
import Derived.Laws.Tables
set_option linter.unusedVariables false
set_option linter.unusedSimpArgs false
set_option linter.unusedSectionVars false
set_option linter.unnecessarySimpa false
namespace Go.Proofs.YtibbfdojcdkopaaGreat.E
open Go Go.RowKit

section
variable {P : Program} {n : Nat} {ops : Array Oper}
variable {s s' : S} {r : List Oper} {bs : List A} {g : Bool} {gks : List Nat} {d : Nat} {ty : TypeId} {pos : String} {af : Array Edge} {gd : Option (Nat × Bool)}
theorem repT_oss {c : Cx} {κ : Ka} {l sz off m : Nat} {x : Value} {b cap : Nat} (hk : κ l = some (b, cap)) (h : off + m ≤ cap ∧ cap ≤ maxLen ∧ x = .slice (some ⟨b, if cap = off then 0 else off * sz, none⟩) m (cap - off)) : RepT c κ (.oss l sz off m) x := by
  have h' : RepB c κ (.oss l sz off m) x := by simp only [RepB, hk]; exact h
  exact h'
theorem repT_oss0 {c : Cx} {κ : Ka} {l sz : Nat} (hk : κ l = none) : RepT c κ (.oss l sz 0 0) (.slice none 0 0) := by
  have h' : RepB c κ (.oss l sz 0 0) (.slice none 0 0) := by simp only [RepB, hk]; exact ⟨trivial, trivial, trivial⟩
  exact h'
/-- a part of a slice of the call's own, from a place on -/
theorem q_cut_oss {x : Operand} {lo hi : Option Operand} {l m : Nat} {ma : Int} {mh : Option Int} {t1 el : TypeId} {sz : Nat} (b : Int) {ks ks' ks'' : List Nat} (hgd : Gd ops s gd g gks) (hx : Od s g x (.os l m) ks) (hlo : Bd s g lo (some ma) ks') (hhi : Bd s g hi mh ks'') (ht1 : slEl P t1 = some (el, sz)) (hb : mh.getD m = b)
    (hm : g = true → 0 ≤ ma ∧ ma ≤ b ∧ b ≤ m) (hd : Nat.blt d n = true)
    (k : Lex P n ops r ⟨(d, some (g, .oss l sz ma.toNat (b.toNat - ma.toNat))) :: s.T, s.H⟩ bs s') :
    Lex P n ops (⟨some d, .slice t1 x lo hi none, ty, pos, af, gd⟩ :: r) s (⟨((ks ++ ks') ++ ks'') ++ gks, [], [], [(d, some (g, .oss l sz ma.toNat (b.toNat - ma.toNat)))], []⟩ :: bs) s' := by
  subst hb
  refine C0 (o := ⟨some d, .slice t1 x lo hi none, ty, pos, af, gd⟩) hgd rfl hd (fun s' ht _ c κ e w _ hs hg => ?_) k
  have h1 : RepB c κ (.os l m) (e.eval x) := (hx.agree (ag1 (ag1 ht))).rep hs hg
  obtain ⟨i1, h2⟩ := (hlo.agree (ag2 (ag1 ht))).rep hs hg
  obtain ⟨i2, h3⟩ := (hhi.agree (ag2 ht)).rep hs hg
  obtain ⟨h0, hl, hh⟩ := hm hg
  obtain ⟨hu, i, hi', hsz⟩ := slEl_spec ht1
  simp only [RepB] at h1
  generalize hA : ma.toNat = A
  generalize hB : (mh.getD m).toNat = B
  have hA' : ma = (A : Int) := by omega
  have hB' : mh.getD m = (B : Int) := by omega
  subst hA'
  have key : ∀ (a : Option Addr) (cap : Nat), m ≤ cap → (Instr.sliceAt t1 (.slice a m cap) (lo.map e.eval) (hi.map e.eval) (Option.map e.eval none)).run P w = .ok (.slice (if cap = A then a else a.map (·.add (A * sz))) (B - A) (cap - A)) w := by
    intro a cap hcap
    rw [h2, h3]
    have hABi : A ≤ B := by omega
    have hBc : B ≤ cap := by omega
    cases mh with
    | none =>
      simp only [Option.getD_none] at hB'
      have hb : B = m := by omega
      subst hb
      simp [Instr.sliceAt, run_underlying hu, Instr.slice, Instr.sliceBounds, Instr.sliceBound, asIntOf, sizeOf, typeInfo, hi', hsz, hABi]
    | some b =>
      simp only [Option.getD_some] at hB'
      subst hB'
      simp [Instr.sliceAt, run_underlying hu, Instr.slice, Instr.sliceBounds, Instr.sliceBound, asIntOf, sizeOf, typeInfo, hi', hsz, hBc, hABi]
  cases hk : κ l with
  | none =>
    simp only [hk] at h1
    obtain ⟨hm0, hxe⟩ := h1
    have hA0 : A = 0 := by omega
    have hB0 : B = 0 := by omega
    subst hA0; subst hB0; subst hm0
    refine ⟨.slice none 0 0, ?_, repT_oss0 hk⟩
    simp only [execOp, hxe, Sem.run_bind]
    rw [key none 0 (by omega)]
    rfl
  | some p =>
    obtain ⟨b, cap⟩ := p
    simp only [hk] at h1
    obtain ⟨hmc, hcm, hx'⟩ := h1
    refine ⟨_, by simp only [execOp, hx', Sem.run_bind]; rw [key (some ⟨b, 0, none⟩) cap hmc]; rfl, repT_oss hk ⟨by omega, hcm, ?_⟩⟩
    by_cases hcA : cap = A
    · simp [hcA]
    · simp only [hcA, if_false, Option.map_some]
      rw [add_lit, Nat.zero_add]
/-- where a copy goes -/
inductive Dst (s : S) (g : Bool) (sz : Nat) : Operand → Nat → Nat → Nat → List Nat → Prop
  | os {x : Operand} {l m : Nat} {ks : List Nat} (h : Od s g x (.os l m) ks) : Dst s g sz x l 0 m ks
  | oss {x : Operand} {l off m : Nat} {ks : List Nat} (h : Od s g x (.oss l sz off m) ks) : Dst s g sz x l off m ks
theorem Dst.agree {s s' : S} {g : Bool} {sz : Nat} {x : Operand} {l off m : Nat} {ks : List Nat} (h : Dst s g sz x l off m ks) (ha : ∀ t ∈ ks, get s'.T t = get s.T t) : Dst s' g sz x l off m ks := by
  cases h with
  | os h => exact .os (h.agree ha)
  | oss h => exact .oss (h.agree ha)
theorem Dst.rep {sz : Nat} {x : Operand} {l off m : Nat} {ks : List Nat} (h : Dst s g sz x l off m ks) {c : Cx} {κ : Ka} {a : Act} {w : World} (hs : Sat n c κ s a w) (hg : g = true) :
    (κ l = none ∧ off = 0 ∧ m = 0 ∧ a.eval x = .slice none 0 0) ∨ ∃ b cap, κ l = some (b, cap) ∧ off + m ≤ cap ∧ cap ≤ maxLen ∧ ((m = 0 ∧ ∃ A, a.eval x = .slice (some A) 0 (cap - off)) ∨ a.eval x = .slice (some ⟨b, off * sz, none⟩) m (cap - off)) := by
  cases h with
  | os h =>
    have h1 : RepB c κ (.os l m) (a.eval x) := h.rep hs hg
    simp only [RepB] at h1
    cases hk : κ l with
    | none => simp only [hk] at h1; exact .inl ⟨rfl, rfl, h1.1, h1.2⟩
    | some p =>
      obtain ⟨b, cap⟩ := p
      simp only [hk] at h1
      exact .inr ⟨b, cap, rfl, by omega, h1.2.1, .inr (by rw [Nat.zero_mul]; exact h1.2.2)⟩
  | oss h =>
    have h1 : RepB c κ (.oss l sz off m) (a.eval x) := h.rep hs hg
    simp only [RepB] at h1
    cases hk : κ l with
    | none => simp only [hk] at h1; exact .inl ⟨rfl, h1⟩
    | some p =>
      obtain ⟨b, cap⟩ := p
      simp only [hk] at h1
      obtain ⟨h2, h3, h4⟩ := h1
      refine .inr ⟨b, cap, rfl, h2, h3, ?_⟩
      by_cases hc : cap = off
      · have : m = 0 := by omega
        subst this
        exact .inl ⟨rfl, _, h4⟩
      · rw [if_neg hc] at h4; exact .inr h4
theorem run_copyN (w : World) (dT sT ty elem : TypeId) (b o dLen dCap sLen sCap sz : Nat) (a : Addr) (cur : Array Value) (t : TypeId) (cs : List Value)
    (hu : P.underlying dT = some (.slice elem)) (hs : (P.info? elem).map (·.size) = some sz)
    (hg : w.heap[b]? = some (.cells cur t (0, 0))) (hn : cs.length = min sLen dLen * sz)
    (hsrc : ∀ (j : Nat) v, cs[j]? = some v → w.cell? (a.add j) = some v) (hfit : o + cs.length ≤ cur.size) (h1 : ∀ v ∈ cs, v.oneCell' = true) :
    (Builtin.copy_ #[dT, sT] ty #[.slice (some ⟨b, o, none⟩) dLen dCap, .slice (some a) sLen sCap]).run P w =
      .ok (goInt ((min sLen dLen : Nat) : Int)) (w.setRow b (cur.toList.take o ++ cs ++ cur.toList.drop (o + cs.length)).toArray) := by
  have hl := run_loadCells_list (P := P) w a cs hsrc
  have hst := run_storeCells_at P b o t cs 0 cur w hg (by simpa using hfit) h1
  cases hq : P.info? elem with
  | none => simp [hq] at hs
  | some i =>
    have hi : i.size = sz := by simpa [hq] using hs
    have hn' : (sLen.min dLen) * sz = cs.length := hn.symm
    simp [Builtin.copy_, run_underlying hu, Builtin.lenOf, Builtin.firstCells, sizeOf, typeInfo, hq, hi, hn', hl, hst]
theorem run_copy0 (w : World) (dT sT ty elem : TypeId) (A B : Option Addr) (dLen dCap sLen sCap : Nat) (h0 : min sLen dLen = 0)
    (hu : P.underlying dT = some (.slice elem)) (hs : ((P.info? elem).map (·.size)).isSome = true) :
    (Builtin.copy_ #[dT, sT] ty #[.slice A dLen dCap, .slice B sLen sCap]).run P w = .ok (goInt 0) w := by
  have h0' : Nat.min sLen dLen = 0 := h0
  cases hq : P.info? elem with
  | none => simp [hq] at hs
  | some i =>
    have hl : ∀ a : Addr, (loadCells a 0).run P w = .ok #[] w := fun a => by
      have := run_loadCells_list (P := P) w a [] (by simp)
      simpa using this
    cases A <;> cases B <;> simp [Builtin.copy_, run_underlying hu, Builtin.lenOf, Builtin.firstCells, sizeOf, typeInfo, hq, h0', storeCells, hl]
theorem Mem.congr {c : Cx} {κ : Ka} {H H' : List (Nat × Option O)} {w : World} (hm : Mem c κ H w) (h : ∀ l, get H' l = get H l) : Mem c κ H' w :=
  ⟨hm.ext, fun l o hl => hm.hp l o (by rw [← h]; exact hl), fun l o b k hl => hm.ow l o b k (by rw [← h]; exact hl), fun l l' o o' b k k' hl hl' => hm.ij l l' o o' b k k' (by rw [← h]; exact hl) (by rw [← h]; exact hl'), hm.pin, hm.ns.imp fun _ g => g.congr h⟩
/-- a row with a part of it written over -/
def cpy {α : Type} (es : List α) (off : Nat) (news : List α) : List α := es.take off ++ news ++ es.drop (off + news.length)
theorem cpy_len {α : Type} {es : List α} {off : Nat} {news : List α} (h : off + news.length ≤ es.length) : (cpy es off news).length = es.length := by
  simp only [cpy, List.length_append, List.length_take, List.length_drop]; omega
theorem cpy_map {α : Type} {f : α → V} {es : List α} {off : Nat} {news : List α} : cpy (es.map f) off (news.map f) = (cpy es off news).map f := by
  simp [cpy, List.map_take, List.map_drop]
theorem q_copy {x y : Operand} {l sz off m : Nat} {el e1 : TypeId} {es news : List V} {t t2 : TypeId} {k1 k2 h2 : List Nat} (hgd : Gd ops s gd g gks) (hg : g = true) (hx : Dst s g sz x l off m k1) (ho : get s.H l = some (.row el sz es)) (hm : off + m ≤ es.length) (hy : Src s g sz y news k2 h2)
    (ht : slEl P t = some (e1, sz)) (hz1 : Nat.ble 1 sz = true) (hd : Nat.blt d n = true)
    (k : Lex P n ops r ⟨(d, some (true, .int .i64 (min news.length m : Nat))) :: s.T, (l, some (.row el sz (cpy es off (news.take (min news.length m))))) :: s.H⟩ bs s') :
    Lex P n ops (⟨some d, .call ⟨.builtin .copy, #[x, y], #[t, t2]⟩, ty, pos, af, gd⟩ :: r) s (⟨(k1 ++ k2) ++ gks, l :: h2, [], [(d, some (true, .int .i64 (min news.length m : Nat)))], [(l, some (.row el sz (cpy es off (news.take (min news.length m)))))]⟩ :: bs) s' := by
  refine q_mem (o := ⟨some d, .call ⟨.builtin .copy, #[x, y], #[t, t2]⟩, ty, pos, af, gd⟩) hgd hg rfl hd (by simp) (fun s' htt hhh _ c κ a w hc hs => ?_) k
  obtain ⟨hu, i, hi, hsz⟩ := slEl_spec ht
  have hsize : (P.info? e1).map (·.size) = some sz := by rw [hi]; simp [hsz]
  obtain ⟨A, cap2, ys, hv, hcz, hall, hn, hcell⟩ := (hy.agree (ag2 htt) (fun l' hl' => hhh l' (by simp [hl']))).rep hc hs hg
  have hgl := (hhh l (by simp)).trans ho
  have hho := hs.mem.hp l _ hgl
  generalize hq : min news.length m = q
  have hql : (news.take q).length = q := by rw [List.length_take]; omega
  have hdst := (hx.agree (ag1 htt)).rep hs hg
  by_cases hq0 : q = 0
  · have hsame : cpy es off (news.take q) = es := by subst hq0; simp [cpy]
    have hxe : ∃ A' c', a.eval x = .slice A' m c' := by
      rcases hdst with ⟨_, _, hm0, hxe⟩ | ⟨b, cap, _, _, _, ⟨hm0, A', hxe⟩ | hxe⟩
      · exact ⟨_, _, by rw [hm0]; exact hxe⟩
      · exact ⟨_, _, by rw [hm0]; exact hxe⟩
      · exact ⟨_, _, hxe⟩
    obtain ⟨A', c', hxe⟩ := hxe
    refine ⟨.int .i64 (q : Nat), w, κ, ?_, ⟨fun _ => .int _ _, fun h => by simp at h⟩, fun _ _ _ _ _ _ => rfl, ?_⟩
    · have := run_copy0 (P := P) (ty := ty) w t t2 e1 A' A m c' news.length cap2 (by omega) hu (by rw [hi]; rfl)
      simp [execOp, resolve, invoke, builtin, hxe, hv, this, goInt, hq0]
    · rw [hsame]
      refine hs.mem.congr fun l' => ?_
      show get ((l, some (.row el sz es)) :: s'.H) l' = _
      rw [get_cons]; split
      · rename_i e; subst e; exact hgl.symm
      · rfl
  · rcases hdst with ⟨_, _, hm0, _⟩ | ⟨b, cap, hk, hcap, hcm, ⟨hm0, _⟩ | hxe⟩
    · omega
    · omega
    · obtain ⟨ad, rfl⟩ : ∃ ad, A = some ad := by
        cases A with
        | none => have := hn rfl; subst this; simp at hq; omega
        | some ad => exact ⟨ad, rfl⟩
      simp only [Holds, hk] at hho
      obtain ⟨cur, hb, hec, _, hcs, hz, hrep⟩ := hho
      have hyl : ys.length = news.length * sz := by rw [← hall.length]; exact flatMap_length news hcz
      have hqn : q * sz ≤ news.length * sz := Nat.mul_le_mul_right _ (by omega)
      have hcl : (ys.take (q * sz)).length = q * sz := by rw [List.length_take]; omega
      have hon : ∀ v ∈ ys.take (q * sz), v.oneCell' = true := fun v hv' => by
        obtain ⟨j, hj, e⟩ := List.mem_iff_getElem.1 (List.mem_of_mem_take hv')
        have hjl : j < (news.flatMap V.cells).length := by rw [hall.length]; exact hj
        obtain ⟨y', hy', hr⟩ := hall.get j _ (List.getElem?_eq_getElem hjl)
        rw [List.getElem?_eq_getElem hj, e] at hy'
        injection hy' with hy'; subst hy'
        generalize (news.flatMap V.cells)[j] = u at hr
        cases hr <;> first | rfl | (rename_i h; exact h.2)
      have hoff : (off + q) * sz ≤ cap * sz := Nat.mul_le_mul_right _ (by omega)
      have hoff' : (off + q) * sz = off * sz + q * sz := Nat.add_mul ..
      have hrun := run_copyN (P := P) (ty := ty) w t t2 e1 b (off * sz) m (cap - off) news.length cap2 sz ad cur el (ys.take (q * sz)) hu hsize hb (by rw [hcl, hq]) (fun j v hj => by
        rw [List.getElem?_take] at hj
        split at hj
        · exact hcell ad rfl j v hj
        · simp at hj) (by rw [hcl]; omega) hon
      rw [hq, hcl] at hrun
      refine ⟨.int .i64 (q : Nat), _, κ, by simp only [execOp, resolve, invoke, builtin]; simp [hxe, hv, hrun, goInt]; rfl, ⟨fun _ => .int _ _, fun h => by simp at h⟩, fun _ _ _ _ _ _ => rfl, hs.mem.write hgl hk (ext_setRow w b _ el cur hb) ?_⟩
      simp only [Holds, hk]
      refine ⟨_, setRow_heap w b cur _ el _ hb, by rw [cpy_len (by omega)]; exact hec, hcm, ?_, fun e' he' => ?_, fun p u hu' => ?_⟩
      · simp only [List.size_toArray, List.length_append, List.length_take, List.length_drop, Array.length_toList]
        omega
      · simp only [cpy, List.mem_append] at he'
        rcases he' with (h | h) | h
        · exact hz _ (List.mem_of_mem_take h)
        · exact hcz _ (List.mem_of_mem_take h)
        · exact hz _ (List.mem_of_mem_drop h)
      · have hfA : ((es.take off).flatMap V.cells).length = off * sz := by
          rw [flatMap_length (sz := sz) _ (fun e he => hz e (List.mem_of_mem_take he)), List.length_take]; congr 1; omega
        have hfB : ((news.take q).flatMap V.cells).length = q * sz := by
          rw [flatMap_length (sz := sz) _ (fun e he => hcz e (List.mem_of_mem_take he)), hql]
        have hfD : ((es.take (off + q)).flatMap V.cells).length = (off + q) * sz := by
          rw [flatMap_length (sz := sz) _ (fun e he => hz e (List.mem_of_mem_take he)), List.length_take]; congr 1; omega
        have hck : (cur.toList.take (off * sz)).length = off * sz := by rw [List.length_take, Array.length_toList]; omega
        have hcur : (cur.toList.take (off * sz) ++ (ys.take (q * sz) ++ cur.toList.drop (off * sz + q * sz))).toArray[p]? = (cur.toList.take (off * sz) ++ (ys.take (q * sz) ++ cur.toList.drop (off * sz + q * sz)))[p]? := by simp
        rw [hcur]
        simp only [cpy, hql, List.flatMap_append] at hu'
        rw [List.append_assoc] at hu'
        by_cases hp1 : p < off * sz
        · rw [List.getElem?_append_left (by omega)] at hu'
          have : (es.flatMap V.cells)[p]? = some u := by
            conv => lhs; rw [← List.take_append_drop off es, List.flatMap_append]
            rw [List.getElem?_append_left (by omega)]; exact hu'
          obtain ⟨y', hy', hr⟩ := hrep p u this
          exact ⟨y', by rw [List.getElem?_append_left (by omega), List.getElem?_take, if_pos hp1]; simpa using hy', hr⟩
        · rw [List.getElem?_append_right (by omega), hfA] at hu'
          by_cases hp2 : p < off * sz + q * sz
          · rw [List.getElem?_append_left (by omega)] at hu'
            have : (news.flatMap V.cells)[p - off * sz]? = some u := by
              conv => lhs; rw [← List.take_append_drop q news, List.flatMap_append]
              rw [List.getElem?_append_left (by omega)]; exact hu'
            obtain ⟨y', hy', hr⟩ := hall.get _ u this
            exact ⟨y', by rw [List.getElem?_append_right (by omega), hck, List.getElem?_append_left (by omega), List.getElem?_take, if_pos (by omega)]; exact hy', hr⟩
          · rw [List.getElem?_append_right (by omega), hfB] at hu'
            have : (es.flatMap V.cells)[p]? = some u := by
              conv => lhs; rw [← List.take_append_drop (off + q) es, List.flatMap_append]
              rw [List.getElem?_append_right (by omega), hfD]
              rw [← hu']; congr 1; omega
            obtain ⟨y', hy', hr⟩ := hrep p u this
            refine ⟨y', ?_, hr⟩
            rw [List.getElem?_append_right (by omega), hck, List.getElem?_append_right (by omega), hcl, List.getElem?_drop]
            rw [show off * sz + q * sz + (p - off * sz - q * sz) = p by omega]
            simpa using hy'
/-- the first places of a list -/
def pre' {α : Type} (xs : List α) (b : Int) : List α := xs.take b.toNat
theorem pre_map {α : Type} {f : α → V} {xs : List α} {b : Int} : (xs.map f).take (pre' xs b).length = (pre' xs b).map f := by
  simp only [pre', List.map_take, List.length_take]
  apply List.ext_getElem?
  intro j
  simp only [List.getElem?_take, List.getElem?_map]
  by_cases h : j < xs.length
  · by_cases h2 : j < b.toNat
    · rw [if_pos (by omega), if_pos h2]
    · rw [if_neg (by omega), if_neg h2]
  · have : xs[j]? = none := List.getElem?_eq_none (by omega)
    simp [this]
theorem pre_len {α : Type} {xs : List α} {b : Int} (h : 0 ≤ b ∧ b ≤ xs.length) : ((pre' xs b).length : Int) = b := by
  simp only [pre', List.length_take]; omega
theorem q_cut_owm {α : Type} {xs zs : List α} {x : Operand} {hi : Option Operand} {l : Nat} {b : Int} {t1 el : TypeId} {sz : Nat} {ks ks'' : List Nat} (hgd : Gd ops s gd g gks) (hx : Od s g x (.os l zs.length) ks) (hhi : Bd s g hi (some b) ks'') (ht1 : slEl P t1 = some (el, sz))
    (hm : g = true → 0 ≤ b ∧ b ≤ zs.length ∧ zs.length ≤ xs.length) (hd : Nat.blt d n = true)
    (k : Lex P n ops r ⟨(d, some (g, .os l (pre' zs b).length)) :: s.T, s.H⟩ bs s') :
    Lex P n ops (⟨some d, .slice t1 x none hi none, ty, pos, af, gd⟩ :: r) s (⟨(ks ++ ks'') ++ gks, [], [], [(d, some (g, .os l (pre' zs b).length))], []⟩ :: bs) s' := by
  cases hg : g with
  | true =>
    have e : (pre' zs b).length = b.toNat := by have := pre_len (xs := zs) (b := b) ⟨(hm hg).1, (hm hg).2.1⟩; omega
    rw [e] at k ⊢
    rw [hg] at hgd hx hhi k
    exact q_cut_ow hgd hx hhi ht1 (fun _ => ⟨(hm hg).1, (hm hg).2.1⟩) hd k
  | false =>
    rw [hg] at hgd hx hhi k
    refine C0 (kt := ks ++ ks'') (kh := []) (o := ⟨some d, .slice t1 x none hi none, ty, pos, af, gd⟩) hgd rfl hd (fun _ _ _ _ _ _ _ _ _ h => by simp at h) k
theorem q_copym {α : Type} {f : α → V} {xs ys : List α} {x y : Operand} {l sz off m : Nat} {el e1 : TypeId} {t t2 : TypeId} {k1 k2 h2 : List Nat} (hgd : Gd ops s gd g gks) (hg : g = true) (hx : Dst s g sz x l off m k1) (ho : get s.H l = some (.row el sz (xs.map f))) (hm : off + m ≤ xs.length) (hy : Src s g sz y (ys.map f) k2 h2)
    (ht : slEl P t = some (e1, sz)) (hz1 : Nat.ble 1 sz = true) (hd : Nat.blt d n = true)
    (k : Lex P n ops r ⟨(d, some (true, .int .i64 (min ys.length m : Nat))) :: s.T, (l, some (.row el sz ((cpy xs off (ys.take (min ys.length m))).map f))) :: s.H⟩ bs s') :
    Lex P n ops (⟨some d, .call ⟨.builtin .copy, #[x, y], #[t, t2]⟩, ty, pos, af, gd⟩ :: r) s (⟨(k1 ++ k2) ++ gks, l :: h2, [], [(d, some (true, .int .i64 (min ys.length m : Nat)))], [(l, some (.row el sz ((cpy xs off (ys.take (min ys.length m))).map f)))]⟩ :: bs) s' := by
  have h := q_copy (ty := ty) (pos := pos) (af := af) (n := n) (s' := s') (r := r) (bs := bs) (t2 := t2) hgd hg hx ho (by rw [len_map]; exact hm) hy ht hz1 hd
  rw [len_map, ← List.map_take, cpy_map] at h
  exact h k
/-! ### Arrays -/
def arrEl (P : Program) (t : TypeId) : Option (Nat × TypeId × Nat) := match P.underlying t with
  | some (.array m e) => (P.info? e).map fun i => (m, e, i.size)
  | _ => none
theorem arrEl_spec {t e : TypeId} {m sz : Nat} (h : arrEl P t = some (m, e, sz)) : P.underlying t = some (.array m e) ∧ ∃ i, P.info? e = some i ∧ i.size = sz := by
  unfold arrEl at h
  split at h
  · rename_i m' e' hu
    cases hi : P.info? e' with
    | none => simp [hi] at h
    | some i => simp [hi] at h; obtain ⟨rfl, rfl, rfl⟩ := h; exact ⟨hu, i, hi, rfl⟩
  · simp at h
theorem q_builda {t e1 : TypeId} {m sz : Nat} {parts : List (Nat × Operand)} {vs us : List V} {z : V} {ks : List Nat} (hgd : Gd ops s gd g gks) (hx : Ods s g (parts.map (·.2)) vs ks) (hz : zeroV P t = some z) (hp : arrEl P t = some (m, e1, sz))
    (hok : (vs.all V.okc && vs.all V.notup) = true) (hf : vfill (fun i => some (i * sz, sz)) z.cells ((parts.map (·.1)).zip vs) = some us) (hd : Nat.blt d n = true)
    (k : Lex P n ops r ⟨(d, some (g, .st us)) :: s.T, s.H⟩ bs s') :
    Lex P n ops (⟨some d, .build t ⟨parts⟩, ty, pos, af, gd⟩ :: r) s (⟨ks ++ gks, [], [], [(d, some (g, .st us))], []⟩ :: bs) s' := by
  refine C0 (o := ⟨some d, .build t ⟨parts⟩, ty, pos, af, gd⟩) hgd rfl hd (fun s' ht _ c κ e w hc hs hg => ?_) k
  obtain ⟨i, zv, hi, hzi, hcz⟩ := zeroV_spec hz
  obtain ⟨hlab, hnt, hok'⟩ := const_labs hcz
  have hrep := (repT_cells hok' hnt (constV_rep (c := c) (κ := κ) hcz)).1
  simp only [Bool.and_eq_true] at hok
  obtain ⟨r, hr, hr2⟩ := fill_sim (fun i => some (i * sz, sz)) (parts.map (·.1)) vs _ z.cells us zv.cells ((hx.agree ht).rep hs hg) hok.1 hok.2 hrep hf
  obtain ⟨hu, ie, hie, hsz⟩ := arrEl_spec hp
  have hb : P.built t ((parts.map (·.1)).zip ((parts.map (·.2)).map e.eval)) = some r := by
    simp only [Program.built, hi, hu, hzi, hie, hsz]
    simpa using hr
  have hparts : (parts.map fun x => (x.1, e.eval x.2)) = (parts.map (·.1)).zip ((parts.map (·.2)).map e.eval) := by
    rw [List.map_map, ← List.zip_map']; rfl
  exact ⟨.agg r, by
    have := run_build (P := P) w t ⟨parts.map fun x => (x.1, e.eval x.2)⟩ r (by rw [show ((⟨parts.map fun x => (x.1, e.eval x.2)⟩ : Array (Nat × Value)).toList) = parts.map fun x => (x.1, e.eval x.2) from rfl, hparts]; exact hb)
    simp only [execOp, Sem.run_bind]
    rw [show ((⟨parts⟩ : Array (Nat × Operand)).map fun x => match x with | (i, x) => (i, e.eval x)) = ⟨parts.map fun x => (x.1, e.eval x.2)⟩ by simp, this]
    rfl, ⟨r.toList, by simp, hr2⟩⟩
/-- the address of an array's place -/
theorem q_idxa_ow {x y : Operand} {l sz0 i j m sz : Nat} {ik : IntKind} {q : Int} {t1 e1 : TypeId} {ks ks' : List Nat} (hgd : Gd ops s gd g gks) (hx : Od s g x (.op l sz0 i j) ks) (hy : Od s g y (.int ik q) ks') (ht1 : arrEl P t1 = some (m, e1, sz)) (hq : 0 ≤ q ∧ q < m) (off : Nat) (ho : j + q.toNat * sz = off) (hd : Nat.blt d n = true)
    (k : Lex P n ops r ⟨(d, some (g, .op l sz0 i off)) :: s.T, s.H⟩ bs s') :
    Lex P n ops (⟨some d, .indexAddr t1 x y, ty, pos, af, gd⟩ :: r) s (⟨(ks ++ ks') ++ gks, [], [], [(d, some (g, .op l sz0 i off))], []⟩ :: bs) s' := by
  subst ho
  refine C0 (o := ⟨some d, .indexAddr t1 x y, ty, pos, af, gd⟩) hgd rfl hd (fun s' ht _ c κ e w _ hs hg => ?_) k
  have h1 := (hx.agree (ag1 ht)).rep hs hg
  have h2 := repT_int ((hy.agree (ag2 ht)).rep hs hg)
  obtain ⟨b, cap, hk, hv⟩ := repT_op h1
  obtain ⟨hu, ie, hie, hsz⟩ := arrEl_spec ht1
  refine ⟨.pointer (some ⟨b, i * sz0 + (j + q.toNat * sz), none⟩), ?_, ⟨b, cap, hk, rfl⟩⟩
  simp [execOp, Instr.indexAt, asIntOf, run_underlying hu, Instr.sureAddr, hv, h2, hq.1, hq.2, sizeOf, typeInfo, hie, hsz, add_lit, Nat.add_assoc]
theorem extract_take {α : Type} (xs : List α) (i k : Nat) : ((⟨xs⟩ : Array α).extract i (i + k)).toList = (xs.drop i).take k := by simp
/-- an array's place, where the place is an array or a struct -/
theorem q_indexa {x y : Operand} {cs : List V} {m sz : Nat} {ik : IntKind} {q : Int} {t1 e1 : TypeId} (us : List V) {ks ks' : List Nat} (hgd : Gd ops s gd g gks) (hx : Od s g x (.st cs) ks) (hy : Od s g y (.int ik q) ks') (ht1 : arrEl P t1 = some (m, e1, sz)) (he : aggSz P e1 = some sz) (hl : cs.length = m * sz)
    (hq : g = true → 0 ≤ q ∧ q < m) (hv : g = true → (cs.drop (q.toNat * sz)).take sz = us) (hd : Nat.blt d n = true)
    (k : Lex P n ops r ⟨(d, some (g, .st us)) :: s.T, s.H⟩ bs s') :
    Lex P n ops (⟨some d, .index t1 x y, ty, pos, af, gd⟩ :: r) s (⟨(ks ++ ks') ++ gks, [], [], [(d, some (g, .st us))], []⟩ :: bs) s' := by
  refine C0 (o := ⟨some d, .index t1 x y, ty, pos, af, gd⟩) hgd rfl hd (fun s' ht _ c κ e w _ hs hg => ?_) k
  obtain ⟨ys, hy', hall⟩ : ∃ ys, e.eval x = .agg ⟨ys⟩ ∧ All2 (RepC c κ) cs ys := (hx.agree (ag1 ht)).rep hs hg
  have h2 := repT_int ((hy.agree (ag2 ht)).rep hs hg)
  obtain ⟨hu, ie, hie, hsz⟩ := arrEl_spec ht1
  obtain ⟨h3, h4⟩ := aggSz_spec he w
  obtain ⟨q0, q1⟩ := hq hg
  have hyl : ys.length = m * sz := by rw [← hall.length]; exact hl
  have hq2 : (q.toNat + 1) * sz ≤ m * sz := Nat.mul_le_mul_right _ (by omega)
  have hq3 : (q.toNat + 1) * sz = q.toNat * sz + sz := by rw [Nat.add_mul]; omega
  refine ⟨.agg ⟨(ys.drop (q.toNat * sz)).take sz⟩, ?_, ⟨_, rfl, by rw [← hv hg]; exact (hall.drop _).take _⟩⟩
  have hex : (⟨ys⟩ : Array Value).extract (q.toNat * sz) (q.toNat * sz + sz) = ⟨(ys.drop (q.toNat * sz)).take sz⟩ := by
    apply Array.ext'; rw [extract_take]
  have hle : q.toNat * sz + sz ≤ ys.length := by omega
  simp [execOp, Instr.index, hy', h2, asIntOf, run_underlying hu, q0, q1, sizeOf, typeInfo, hie, hsz, part, h3, h4, hex, hle]
/-- nil slices inside a struct read as empty ones -/
def NlsSl : List V → List V → Prop := All2 (fun a b => b = a ∨ (a = .nls ∧ ∃ sz, b = .sl sz []))
theorem nls_rep {c : Cx} {κ : Ka} {cs cs' : List V} {ys : List Value} (hn : NlsSl cs cs') (hall : All2 (RepC c κ) cs ys) : All2 (RepC c κ) cs' ys := by
  refine All2.of_get (by rw [← hall.length]; exact (All2.length hn).symm) fun j u y hu hy' => ?_
  have hj : j < cs.length := by rw [All2.length hn]; exact (List.getElem?_eq_some_iff.1 hu).1
  obtain ⟨u', hu', hr⟩ := All2.get hn j _ (List.getElem?_eq_getElem hj)
  rw [hu] at hu'; injection hu' with hu'; subst hu'
  obtain ⟨y', hy2, hr2⟩ := hall.get j _ (List.getElem?_eq_getElem hj)
  rw [hy'] at hy2; injection hy2 with hy2; subst hy2
  rcases hr with hr | ⟨hr, sz, e⟩
  · rw [hr]; exact hr2
  · rw [hr] at hr2
    subst e
    have h3 : RepR c .nls y := hr2
    cases h3
    exact repC_of_repR (RepR.nil ..)
theorem sub_nlsB {b : Nat} {el : TypeId} {cs : List V} (cs' : List V) (hb : get s.H b = some (.box el cs)) (hn : NlsSl cs cs') : Sub s ⟨s.T, (b, some (.box el cs')) :: s.H⟩ := by
  intro n c κ a w hs
  obtain ⟨b', cur, h0, h1, h2⟩ := hs.mem.hp b _ hb
  exact ⟨κ, hs.hd, hs.hn, hs.tm, hs.mem.write hb h0 (Ext.refl _ _) ⟨b', cur, h0, h1, nls_rep hn h2⟩⟩
end
end Go.Proofs.YtibbfdojcdkopaaGreat.E
