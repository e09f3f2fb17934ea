/-
  THE ENGINE, part P: '==' and '!=' of structs whose fields have one cell each.
  Conditions: none; all of it is over any program.
-/
import Derived.Test.YtdkkcemlnjlebaaEngN
import Derived.Laws.StructEq
import Derived.Laws.CopyRow
import Derived.ChangeKeysEq
set_option linter.unusedVariables false
set_option linter.unusedSimpArgs false
set_option linter.unusedSectionVars false
set_option linter.unnecessarySimpa false
namespace Go.Proofs.Ytdkkcemlnjlebaa.E
open Go Go.RowKit
def eqC : V → V → Bool
  | .int k a, .int k2 b => a == b
  | .bool a, .bool b => a == b
  | .str a, .str b => a == b
  | _, _ => false
def stEq : List V → List V → Bool
  | u :: us, v :: vs => eqC u v && stEq us vs
  | _, _ => true
def kindC (P : Program) (t : TypeId) : V → Bool
  | .int k _ => match P.underlying t with | some (.int k') => k == k' | _ => false
  | .bool _ => match P.underlying t with | some .bool => true | _ => false
  | .str _ => match P.underlying t with | some .string => true | _ => false
  | _ => false
def eqFlds (P : Program) : List Field → Nat → List V → List V → Bool
  | [], _, [], [] => true
  | f :: fs, j, u :: us, v :: vs => !(f.name == "_") && (Nat.beq f.offset j && (P.plainKey f.type && (kindC P f.type u && (kindC P f.type v && eqFlds P fs (j + 1) us vs))))
  | _, _, _, _ => false
def stOk (P : Program) (t : TypeId) (us vs : List V) : Bool :=
  match P.underlying t with
  | some (.struct fs) => !(P.stoodInHeld t) && (!(P.eqGuardType P.depth t) && eqFlds P fs.toList 0 us vs)
  | _ => false
section
variable {P : Program} {c : Cx} {w : World}
theorem run_eqC {d : Nat} {t : TypeId} {u v : V} {x y : Value} (hu : kindC P t u = true) (hv : kindC P t v = true) (h1 : RepR c u x) (h2 : RepR c v y) : (Op.equalIn (d + 1) t x y).run P w = .ok (eqC u v) w := by
  cases h1 <;> simp only [kindC, Bool.false_eq_true] at hu
  case int k n =>
    split at hu
    · rename_i k' ht
      cases h2 <;> simp only [kindC, Bool.false_eq_true] at hv
      case int k2 m =>
        rw [ht] at hv
        have e1 : k = k' := by simpa using hu
        have e2 : k2 = k' := by simpa using hv
        subst e1; subst e2
        exact run_equalIn_int w d t _ _ _ _ ht
      all_goals (rw [ht] at hv; simp at hv)
    · simp at hu
  case bool a =>
    split at hu
    · rename_i ht
      cases h2 <;> simp only [kindC, Bool.false_eq_true] at hv
      case bool b => exact run_equalIn_bool' w d t _ _ ht
      all_goals (rw [ht] at hv; simp at hv)
    · simp at hu
  case str a =>
    split at hu
    · rename_i ht
      cases h2 <;> simp only [kindC, Bool.false_eq_true] at hv
      case str b =>
        rw [run_equalIn_string w d t _ _ ht, mk_toList, mk_toList]; rfl
      all_goals (rw [ht] at hv; simp at hv)
    · simp at hu
theorem run_eqFlds {d : Nat} {xs ys : Array Value} : ∀ {fs : List Field} {j : Nat} {us vs : List V}, eqFlds P fs j us vs = true →
    (∀ (i : Nat) u, us[i]? = some u → ∃ x, xs[j + i]? = some x ∧ RepR c u x) → (∀ (i : Nat) v, vs[i]? = some v → ∃ y, ys[j + i]? = some y ∧ RepR c v y) →
    (Op.eqFields (d + 1) xs ys fs).run P w = .ok (stEq us vs) w
  | [], j, [], [], _, _, _ => by simp [Op.eqFields, stEq]
  | [], _, [], _ :: _, h, _, _ => by simp [eqFlds] at h
  | [], _, _ :: _, _, h, _, _ => by simp [eqFlds] at h
  | _ :: _, _, [], _, h, _, _ => by simp [eqFlds] at h
  | _ :: _, _, _ :: _, [], h, _, _ => by simp [eqFlds] at h
  | f :: fs, j, u :: us, v :: vs, h, hx, hy => by
    simp only [eqFlds, Bool.and_eq_true, Bool.not_eq_true', beq_eq_false_iff_ne, ne_eq] at h
    obtain ⟨hn, ho, hp, ku, kv, hr⟩ := h
    have ho' : f.offset = j := Nat.eq_of_beq_eq_true ho
    obtain ⟨x, hx0, rx⟩ := hx 0 u rfl
    obtain ⟨y, hy0, ry⟩ := hy 0 v rfl
    rw [Nat.add_zero] at hx0 hy0
    have ih := run_eqFlds (d := d) hr (fun i u' hu' => by have := hx (i + 1) u' hu'; rwa [← Nat.add_assoc, Nat.add_right_comm] at this) (fun i v' hv' => by have := hy (i + 1) v' hv'; rwa [← Nat.add_assoc, Nat.add_right_comm] at this)
    simp only [Op.eqFields, ne_eq, hn, not_false_eq_true, if_true, Sem.run_bind, ho', run_part_plain _ hp hx0, run_part_plain _ hp hy0, Result.andThen_ok, run_eqC ku kv rx ry, stEq, Sem.run_ite]
    cases eqC u v with
    | true => simpa using ih
    | false => simp
theorem run_stEq {t : TypeId} {us vs : List V} {xs ys : Array Value} (h : stOk P t us vs = true) (hx : ∀ (i : Nat) u, us[i]? = some u → ∃ x, xs[i]? = some x ∧ RepR c u x) (hy : ∀ (i : Nat) v, vs[i]? = some v → ∃ y, ys[i]? = some y ∧ RepR c v y) :
    (Op.equalIn 10000 t (.agg xs) (.agg ys)).run P w = .ok (stEq us vs) w ∧ P.eqGuardType P.depth t = false := by
  unfold stOk at h
  split at h
  · rename_i fs ht
    simp only [Bool.and_eq_true, Bool.not_eq_true'] at h
    have hf : P.fieldsOf t = fs := by simp only [Program.fieldsOf, ht]
    refine ⟨?_, h.2.1⟩
    rw [show (10000 : Nat) = 9999 + 1 from rfl, run_equalIn_agg w 9999 t xs ys (by rw [hf]; exact ht) h.1, hf]
    exact run_eqFlds (d := 9998) h.2.2 (fun i u hu => by rw [Nat.zero_add]; exact hx i u hu) (fun i v hv => by rw [Nat.zero_add]; exact hy i v hv)
  · simp at h
end
theorem all2_at {R : V → Value → Prop} : ∀ {l : List V} {m : List Value}, All2 R l m → ∀ (i : Nat) u, l[i]? = some u → ∃ x, m[i]? = some x ∧ R u x
  | [], _, _, i, u, h => by simp at h
  | a :: l, [], h, _, _, _ => h.elim
  | a :: l, b :: m, h, 0, u, hu => by simp at hu; subst hu; exact ⟨b, rfl, h.1⟩
  | a :: l, b :: m, h, i + 1, u, hu => by simpa using all2_at h.2 i u (by simpa using hu)
section
variable {P : Program} {n : Nat} {ops : Array Oper}
variable {s s' : S} {r : List Oper} {bs : List A} {g : Bool} {gks : List Nat} {d : Nat} {ty : TypeId} {pos : String} {af : Array Edge} {gd : Option (Nat × Bool)}
theorem rep_cells {c : Cx} {κ : Ka} {us : List V} {xs : List Value} (hr : us.all V.ro = true) (h : All2 (RepC c κ) us xs) : ∀ (i : Nat) u, us[i]? = some u → ∃ x, xs.toArray[i]? = some x ∧ RepR c u x := by
  intro i u hu
  obtain ⟨x, hx, hr'⟩ := all2_at h i u hu
  refine ⟨x, by simpa using hx, repR_of_repC (List.all_eq_true.1 hr u (List.mem_of_getElem? hu)) hr'⟩
theorem q_steq {x y : Operand} {us vs : List V} {t1 t2 : TypeId} {ks ks' : List Nat} (b : Bool) (hgd : Gd ops s gd g gks) (hx : Od s g x (.st us) ks) (hy : Od s g y (.st vs) ks') (hok : (us.all V.ro && (vs.all V.ro && stOk P t1 us vs)) = true) (hb : stEq us vs = b) (hd : Nat.blt d n = true)
    (k : Lex P n ops r ⟨(d, some (g, .bool b)) :: s.T, s.H⟩ bs s') :
    Lex P n ops (⟨some d, .binOp .eql t1 x y t2, ty, pos, af, gd⟩ :: r) s (⟨(ks ++ ks') ++ gks, [], [], [(d, some (g, .bool b))], []⟩ :: bs) s' := by
  subst hb
  simp only [Bool.and_eq_true] at hok
  refine q_val (o := ⟨some d, .binOp .eql t1 x y t2, ty, pos, af, gd⟩) hgd rfl hd (fun s' ht _ c κ e w _ hs hg => ?_) k
  have h1 : RepS c κ (.st us) (e.eval x) := (hx.agree (ag1 ht)).rep hs hg
  have h2 : RepS c κ (.st vs) (e.eval y) := (hy.agree (ag2 ht)).rep hs hg
  obtain ⟨xs, hvx, ha⟩ := h1
  obtain ⟨ys, hvy, hb⟩ := h2
  have hq := run_stEq (w := w) hok.2.2 (rep_cells hok.1 ha) (rep_cells hok.2.1 hb)
  exact ⟨.bool (stEq us vs), by simp only [execOp, hvx, hvy, Sem.run_bind]; rw [run_eqGuard_agg w .eql t1 x y _ _ hq.2]; simp only [Result.andThen_ok, run_eql_struct]; rw [hq.1]; rfl, .bool _⟩
theorem q_stne {x y : Operand} {us vs : List V} {t1 t2 : TypeId} {ks ks' : List Nat} (b : Bool) (hgd : Gd ops s gd g gks) (hx : Od s g x (.st us) ks) (hy : Od s g y (.st vs) ks') (hok : (us.all V.ro && (vs.all V.ro && stOk P t1 us vs)) = true) (hb : (!(stEq us vs)) = b) (hd : Nat.blt d n = true)
    (k : Lex P n ops r ⟨(d, some (g, .bool b)) :: s.T, s.H⟩ bs s') :
    Lex P n ops (⟨some d, .binOp .neq t1 x y t2, ty, pos, af, gd⟩ :: r) s (⟨(ks ++ ks') ++ gks, [], [], [(d, some (g, .bool b))], []⟩ :: bs) s' := by
  subst hb
  simp only [Bool.and_eq_true] at hok
  refine q_val (o := ⟨some d, .binOp .neq t1 x y t2, ty, pos, af, gd⟩) hgd rfl hd (fun s' ht _ c κ e w _ hs hg => ?_) k
  have h1 : RepS c κ (.st us) (e.eval x) := (hx.agree (ag1 ht)).rep hs hg
  have h2 : RepS c κ (.st vs) (e.eval y) := (hy.agree (ag2 ht)).rep hs hg
  obtain ⟨xs, hvx, ha⟩ := h1
  obtain ⟨ys, hvy, hb⟩ := h2
  have hq := run_stEq (w := w) hok.2.2 (rep_cells hok.1 ha) (rep_cells hok.2.1 hb)
  exact ⟨.bool (!(stEq us vs)), by simp only [execOp, hvx, hvy, Sem.run_bind]; rw [run_eqGuard_agg w .neq t1 x y _ _ hq.2]; simp only [Result.andThen_ok, run_neq_struct]; rw [hq.1]; rfl, .bool _⟩
/-! ### 'clear' of a part of an own row -/
theorem q_skipv {o : Oper} {kt kh : List Nat} {wh : List (Nat × Option O)} (hgd : Gd ops s o.guard g gks) (hg : g = true) (ho : o.dst = none)
    (h : ∀ s' : S, (∀ t ∈ kt, get s'.T t = get s.T t) → (∀ l ∈ kh, get s'.H l = get s.H l) → ∀ (c : Cx) (κ : Ka) (a : Act) (w : World), c.okP P → Sat n c κ s' a w →
      ∃ v w', (execOp a.eval o).run P w = .ok (.value v) w' ∧ Mem c κ (wh ++ s'.H) w')
    (k : Lex P n ops r ⟨s.T, wh ++ s.H⟩ bs s') : Lex P n ops (o :: r) s (⟨kt ++ gks, kh, [], [], wh⟩ :: bs) s' := by
  refine Lex.cons ?_ (by simp) k
  intro s' ht hh hf' c κ a w hc hs K Q hK
  have hgd' := hgd.agree (s' := s') (fun t hm => ht t (by simp [hm]))
  rw [hgd'.wanted hs rfl, hg]
  simp only [if_true]
  obtain ⟨v, w', hr, hm⟩ := h s' (fun t hm => ht t (by simp [hm])) hh c κ a w hc hs
  unfold Oper.wp
  rw [hr]
  simp only [Oper.upon, ho]
  exact hK _ _ κ ⟨hs.hd, hs.hn, hs.tm, hm⟩
theorem run_clear0 (w : World) (t ty elem : TypeId) (A : Option Addr) (m cap : Nat) (h0 : m = 0 ∨ A = none) (hu : P.underlying t = some (.slice elem)) :
    (Builtin.clear_ #[t] ty #[.slice A m cap]).run P w = .ok (.tuple #[]) w := by
  rcases h0 with rfl | rfl
  · cases A <;> simp [Builtin.clear_, run_underlying hu]
  · simp [Builtin.clear_, run_underlying hu]
theorem run_clearN (w : World) (t ty elem : TypeId) (b o m cap : Nat) (cur : Array Value) (tt : TypeId) (zv : Value) (i : TypeInfo) (hu : P.underlying t = some (.slice elem)) (hi : P.info? elem = some i) (hzi : i.zero = some zv)
    (hgc : w.heap[b]? = some (.cells cur tt (0, 0))) (hm : 0 < m) (hfit : o + (Builtin.zeroCells zv.cells m).toList.length ≤ cur.size) (h1 : ∀ v ∈ (Builtin.zeroCells zv.cells m).toList, v.oneCell' = true) :
    (Builtin.clear_ #[t] ty #[.slice (some ⟨b, o, none⟩) m cap]).run P w = .ok (.tuple #[]) (w.setRow b (cur.toList.take o ++ (Builtin.zeroCells zv.cells m).toList ++ cur.toList.drop (o + (Builtin.zeroCells zv.cells m).toList.length)).toArray) := by
  have hst := run_storeCells_at P b o tt (Builtin.zeroCells zv.cells m).toList 0 cur w hgc (by simpa using hfit) h1
  rw [Nat.add_zero] at hst
  have hzv : (zeroValue elem).run P w = .ok zv w := by simp [zeroValue, typeInfo, hi, hzi]
  obtain ⟨q, rfl⟩ : ∃ q, m = q + 1 := ⟨m - 1, by omega⟩
  simp [Builtin.clear_, run_underlying hu, hzv, hst]
theorem q_clear {x : Operand} {l sz off m : Nat} {el e1 : TypeId} {es : List V} {z : V} {t : TypeId} {ks : List Nat} (hgd : Gd ops s gd g gks) (hg : g = true) (hx : Od s g x (.oss l sz off m) ks) (ho : get s.H l = some (.row el sz es)) (hm : off + m ≤ es.length)
    (ht : slEl P t = some (e1, sz)) (hz : zeroV P e1 = some z) (hok : (z.roc && Nat.beq z.cells.length sz && Nat.ble 1 sz) = true)
    (k : Lex P n ops r ⟨s.T, (l, some (.row el sz (cpy es off (List.replicate m z)))) :: s.H⟩ bs s') :
    Lex P n ops (⟨none, .call ⟨.builtin .clear, #[x], #[t]⟩, ty, pos, af, gd⟩ :: r) s (⟨ks ++ gks, [l], [], [], [(l, some (.row el sz (cpy es off (List.replicate m z))))]⟩ :: bs) s' := by
  refine q_skipv (o := ⟨none, .call ⟨.builtin .clear, #[x], #[t]⟩, ty, pos, af, gd⟩) hgd hg rfl (fun s' htt hhh c κ a w hc hs => ?_) k
  simp only [Bool.and_eq_true] at hok
  obtain ⟨⟨hro, hzl⟩, hs1⟩ := hok
  have hzl' : z.cells.length = sz := Nat.eq_of_beq_eq_true hzl
  have hs1' : 1 ≤ sz := Nat.le_of_ble_eq_true hs1
  obtain ⟨hu, i, hi, hisz⟩ := slEl_spec ht
  obtain ⟨i', zv, hi', hzi, hcz⟩ := zeroV_spec hz
  have : i' = i := by rw [hi] at hi'; exact (Option.some.inj hi').symm
  subst this
  have hgl := (hhh l (by simp)).trans ho
  have hho := hs.mem.hp l _ hgl
  have h1 : RepB c κ (.oss l sz off m) (a.eval x) := (hx.agree htt).rep hs hg
  simp only [RepB] at h1
  have same : m = 0 → Mem c κ ((l, some (.row el sz (cpy es off (List.replicate m z)))) :: s'.H) w := fun h0 => by
    have hsame : cpy es off (List.replicate m z) = es := by subst h0; simp [cpy]
    rw [hsame]
    refine hs.mem.congr fun l' => ?_
    show get ((l, some (.row el sz es)) :: s'.H) l' = _
    rw [get_cons]; split
    · rename_i e; subst e; exact hgl.symm
    · rfl
  cases hk : κ l with
  | none =>
    simp only [hk] at h1
    obtain ⟨_, h0, hxe⟩ := h1
    exact ⟨.tuple #[], w, by simp only [execOp, resolve, invoke, builtin]; simp [hxe, run_clear0 (P := P) (ty := ty) w t e1 none 0 0 (.inl rfl) hu], same h0⟩
  | some bk =>
    obtain ⟨b, cap⟩ := bk
    simp only [hk] at h1
    obtain ⟨hcap, hcm, hxe⟩ := h1
    by_cases h0 : m = 0
    · exact ⟨.tuple #[], w, by simp only [execOp, resolve, invoke, builtin]; simp [hxe, run_clear0 (P := P) (ty := ty) w t e1 (some ⟨b, if cap = off then 0 else off * sz, none⟩) m (cap - off) (.inl h0) hu], same h0⟩
    · rw [if_neg (by omega)] at hxe
      simp only [Holds, hk] at hho
      obtain ⟨cur, hb, hec, _, hcs, hze, hrep⟩ := hho
      obtain ⟨hlab, hnt, hokc⟩ := const_labs hcz
      have hzc := repT_cells hokc hnt (constV_rep (c := c) (κ := κ) hcz)
      have hzrep := hzc.1.mono fun u hu y' hy' => repR_of_repC ((List.all_eq_true.1 hro) u hu) hy'
      have hzs : zv.cells.size = sz := by have := hzrep.length; simp at this; omega
      generalize hcsd : (Builtin.zeroCells zv.cells m).toList = cs
      have hcl : cs.length = m * sz := by rw [← hcsd]; simp [Builtin.zeroCells, hzs]
      have hget : ∀ j, j < m * sz → cs[j]? = zv.cells.toList[j % sz]? := fun j hj => by
        have hjm : j % sz < zv.cells.size := by rw [hzs]; exact Nat.mod_lt _ hs1'
        have e : cs[j]? = some (zv.cells[j % zv.cells.size]!) := by
          rw [← hcsd]; simp [Builtin.zeroCells, hzs, hj]
        rw [e, hzs, getElem!_pos zv.cells (j % sz) hjm]
        simp [hjm]
      have hall : All2 (RepR c) ((List.replicate m z).flatMap V.cells) cs := All2.of_get (by
          rw [flatMap_length (sz := sz) _ (fun e' he => by rw [(List.mem_replicate.1 he).2]; exact hzl'), List.length_replicate, hcl]) fun j u y hu' hy' => by
        have hj : j < m * sz := by have := (List.getElem?_eq_some_iff.1 hy').1; omega
        rw [flat_replicate hzl' _ j hj] at hu'
        rw [hget j hj] at hy'
        obtain ⟨y2, hy2, hr⟩ := hzrep.get _ _ hu'
        rw [hy2] at hy'; cases hy'; exact hr
      have hon : ∀ v ∈ cs, v.oneCell' = true := fun v hv' => by
        obtain ⟨j, hj, e⟩ := List.mem_iff_getElem.1 hv'
        have hj2 : j < m * sz := by omega
        have := hget j hj2
        rw [List.getElem?_eq_getElem hj, e] at this
        exact hzc.2 v (List.mem_of_getElem? this.symm)
      have hoff : (off + m) * sz ≤ cap * sz := Nat.mul_le_mul_right _ (by omega)
      have hoff' : (off + m) * sz = off * sz + m * sz := Nat.add_mul ..
      have hrun := run_clearN (P := P) (ty := ty) w t e1 b (off * sz) m (cap - off) cur el zv i' hu hi hzi hb (by omega) (by rw [hcsd, hcl]; omega) (by rw [hcsd]; exact hon)
      rw [hcsd, hcl] at hrun
      refine ⟨.tuple #[], _, by simp only [execOp, resolve, invoke, builtin]; simp [hxe, hrun]; rfl, hs.mem.write hgl hk (ext_setRow w b _ el cur hb) ?_⟩
      simp only [Holds, hk]
      have hrl : (List.replicate m z).length = m := List.length_replicate
      refine ⟨_, setRow_heap w b cur _ el _ hb, by rw [cpy_len (by omega)]; exact hec, hcm, ?_, fun e' he' => ?_, fun p u hu' => ?_⟩
      · simp only [List.size_toArray, List.length_append, List.length_take, List.length_drop, Array.length_toList]
        omega
      · simp only [cpy, List.mem_append] at he'
        rcases he' with (h | h) | h
        · exact hze _ (List.mem_of_mem_take h)
        · rw [(List.mem_replicate.1 h).2]; exact hzl'
        · exact hze _ (List.mem_of_mem_drop h)
      · have hfA : ((es.take off).flatMap V.cells).length = off * sz := by
          rw [flatMap_length (sz := sz) _ (fun e he => hze e (List.mem_of_mem_take he)), List.length_take]; congr 1; omega
        have hfB : ((List.replicate m z).flatMap V.cells).length = m * sz := by rw [hall.length, hcl]
        have hfD : ((es.take (off + m)).flatMap V.cells).length = (off + m) * sz := by
          rw [flatMap_length (sz := sz) _ (fun e he => hze e (List.mem_of_mem_take he)), List.length_take]; congr 1; omega
        have hck : (cur.toList.take (off * sz)).length = off * sz := by rw [List.length_take, Array.length_toList]; omega
        have hcur : (cur.toList.take (off * sz) ++ (cs ++ cur.toList.drop (off * sz + m * sz))).toArray[p]? = (cur.toList.take (off * sz) ++ (cs ++ cur.toList.drop (off * sz + m * sz)))[p]? := by simp
        rw [hcur]
        simp only [cpy, hrl, List.flatMap_append] at hu'
        rw [List.append_assoc] at hu'
        by_cases hp1 : p < off * sz
        · rw [List.getElem?_append_left (by omega)] at hu'
          have : (es.flatMap V.cells)[p]? = some u := by
            conv => lhs; rw [← List.take_append_drop off es, List.flatMap_append]
            rw [List.getElem?_append_left (by omega)]; exact hu'
          obtain ⟨y', hy', hr⟩ := hrep p u this
          exact ⟨y', by rw [List.getElem?_append_left (by omega), List.getElem?_take, if_pos hp1]; simpa using hy', hr⟩
        · rw [List.getElem?_append_right (by omega), hfA] at hu'
          by_cases hp2 : p < off * sz + m * sz
          · rw [List.getElem?_append_left (by omega)] at hu'
            obtain ⟨y', hy', hr⟩ := hall.get _ u hu'
            exact ⟨y', by rw [List.getElem?_append_right (by omega), hck, List.getElem?_append_left (by omega)]; exact hy', hr⟩
          · rw [List.getElem?_append_right (by omega), hfB] at hu'
            have : (es.flatMap V.cells)[p]? = some u := by
              conv => lhs; rw [← List.take_append_drop (off + m) es, List.flatMap_append]
              rw [List.getElem?_append_right (by omega), hfD]
              rw [← hu']; congr 1; omega
            obtain ⟨y', hy', hr⟩ := hrep p u this
            refine ⟨y', ?_, hr⟩
            rw [List.getElem?_append_right (by omega), hck, List.getElem?_append_right (by omega), hcl, List.getElem?_drop]
            rw [show off * sz + m * sz + (p - off * sz - m * sz) = p by omega]
            simpa using hy'
theorem q_clearm {α : Type} {f : α → V} {xs : List α} (zx : α) {x : Operand} {l sz off m : Nat} {el e1 : TypeId} {t : TypeId} {ks : List Nat} (hgd : Gd ops s gd g gks) (hg : g = true) (hx : Od s g x (.oss l sz off m) ks) (ho : get s.H l = some (.row el sz (xs.map f))) (hm : off + m ≤ xs.length)
    (ht : slEl P t = some (e1, sz)) (hz : zeroV P e1 = some (f zx)) (hok : ((f zx).roc && Nat.beq (f zx).cells.length sz && Nat.ble 1 sz) = true)
    (k : Lex P n ops r ⟨s.T, (l, some (.row el sz ((cpy xs off (List.replicate m zx)).map f))) :: s.H⟩ bs s') :
    Lex P n ops (⟨none, .call ⟨.builtin .clear, #[x], #[t]⟩, ty, pos, af, gd⟩ :: r) s (⟨ks ++ gks, [l], [], [], [(l, some (.row el sz ((cpy xs off (List.replicate m zx)).map f)))]⟩ :: bs) s' := by
  have h := q_clear (ty := ty) (pos := pos) (af := af) (n := n) (s' := s') (r := r) (bs := bs) hgd hg hx ho (by rw [len_map]; exact hm) ht hz hok
  rw [show List.replicate m (f zx) = (List.replicate m zx).map f from (List.map_replicate ..).symm, cpy_map] at h
  exact h k
end
/-! ### Only the head of an own row is kept in view -/
theorem holds_shrink {α : Type} {f : α → V} {xs : List α} {c : Cx} {κ : Ka} {w : World} {l sz : Nat} {el : TypeId} (b : Int) (h : Holds c κ w l (.row el sz (xs.map f))) : Holds c κ w l (.row el sz ((pre' xs b).map f)) := by
  simp only [Holds] at h ⊢
  cases hk : κ l with
  | none =>
    simp only [hk] at h ⊢
    have : xs = [] := by simpa using h
    subst this; simp [pre']
  | some bk =>
    obtain ⟨b', cap⟩ := bk
    simp only [hk] at h ⊢
    obtain ⟨cur, hb, hl, hm, hsz, hz, hr⟩ := h
    have hsub : (pre' xs b).map f = (xs.map f).take b.toNat := by simp [pre', List.map_take]
    refine ⟨cur, hb, ?_, hm, hsz, fun e he => hz e (by rw [hsub] at he; exact List.mem_of_mem_take he), fun j u hu => hr j u ?_⟩
    · rw [hsub, List.length_take]; omega
    · rw [hsub] at hu
      conv => lhs; rw [← List.take_append_drop b.toNat (xs.map f), List.flatMap_append]
      rw [List.getElem?_append_left (List.getElem?_eq_some_iff.1 hu).1]; exact hu
theorem mem_shrink {α : Type} {f : α → V} {xs : List α} {c : Cx} {κ : Ka} {H : List (Nat × Option O)} {w : World} {l sz : Nat} {el : TypeId} (b : Int) (ho : get H l = some (.row el sz (xs.map f))) (h : Mem c κ H w) : Mem c κ ((l, some (.row el sz ((pre' xs b).map f))) :: H) w := by
  have back : ∀ l' o', get ((l, some (O.row el sz ((pre' xs b).map f))) :: H) l' = some o' → ∃ o2, get H l' = some o2 := by
    intro l' o' h'
    rw [get_cons] at h'
    by_cases hl : l = l'
    · subst hl; exact ⟨_, ho⟩
    · rw [if_neg hl] at h'; exact ⟨_, h'⟩
  refine ⟨h.ext, fun l' o' h' => ?_, fun l' o' b' k' h' hk => ?_, fun l1 l2 o1 o2 b' k1 k2 h1 h2 e1 e2 => ?_, h.pin, ?_⟩
  · rw [get_cons] at h'
    by_cases hl : l = l'
    · subst hl; rw [if_pos rfl] at h'
      have : o' = O.row el sz ((pre' xs b).map f) := (Option.some.inj h').symm
      subst this; exact holds_shrink b (h.hp l _ ho)
    · rw [if_neg hl] at h'; exact h.hp l' o' h'
  · obtain ⟨o2, h2⟩ := back l' o' h'
    exact h.ow l' o2 b' k' h2 hk
  · obtain ⟨p1, g1⟩ := back l1 o1 h1
    obtain ⟨p2, g2⟩ := back l2 o2 h2
    exact h.ij l1 l2 p1 p2 b' k1 k2 g1 g2 e1 e2
  · refine h.nsi (fun l' o' h' hN => ?_) (fun l' o' b' k' h' hk => ?_) (fun _ _ => .inl rfl) (Nat.le_refl _)
    · rw [get_cons] at h'
      split at h'
      · injection h' with h'; subst h'; simp [O.isNest] at hN
      · exact ⟨h', rfl, fun _ _ => rfl⟩
    · obtain ⟨o2, h2⟩ := back l' o' h'
      exact .inr ⟨l', o2, k', h2, hk⟩
theorem run_shrink {ρ α : Type} {P : Program} {fn : Func} {n : Nat} {out : ρ → V × List (Nat × Option O)} {k : List (It ρ)} {r : ρ} {s : S} {f : α → V} {xs : List α} {l sz : Nat} {el : TypeId} (b : Int) (ho : get s.H l = some (.row el sz (xs.map f)))
    (h : Run P fn n out k r ⟨s.T, (l, some (.row el sz ((pre' xs b).map f))) :: s.H⟩) : Run P fn n out k r s :=
  fun c κ a w hc hs => h c κ a w hc ⟨hs.hd, hs.hn, hs.tm, mem_shrink b ho hs.mem⟩
section
end
end Go.Proofs.Ytdkkcemlnjlebaa.E
