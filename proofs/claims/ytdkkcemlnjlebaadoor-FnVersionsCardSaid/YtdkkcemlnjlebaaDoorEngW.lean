/-
  THE ENGINE, part W: what slices.Insert needs: the capacity of an own row, a longer slice where there is room, an append of zeros where there is none, a copy of a row onto itself.
  Conditions: none; all of it is over any program.
-/
import Derived.Test.YtdkkcemlnjlebaaDoorEngN
import Derived.Lib.Overlaps
import Derived.Lib.Bytealg
import Derived.Lib.AppendZerosOnto
import Derived.Laws.Externs
set_option linter.unusedVariables false
set_option linter.unusedSimpArgs false
set_option linter.unusedSectionVars false
set_option linter.unnecessarySimpa false
namespace Go.Proofs.YtdkkcemlnjlebaaDoor.E
open Go Go.RowKit

theorem repT_cp {c : Cx} {κ : Ka} {m l k : Nat} {x : Value} (h : RepT c κ (.cp m l k) x) : RepCap κ m l k x := h
theorem cap_of_os {c : Cx} {κ : Ka} {l m : Nat} {x : Value} (h : RepT c κ (.os l m) x) : m ≤ capOf κ l ∧ capOf κ l ≤ maxLen ∧ ∃ A, x = .slice A m (capOf κ l) := by
  have h1 : RepB c κ (.os l m) x := h
  simp only [RepB] at h1
  unfold capOf
  cases hk : κ l with
  | none => simp only [hk] at h1; exact ⟨by simp [h1.1], by simp [maxLen], none, by rw [h1.2, h1.1]⟩
  | some p => obtain ⟨b, cap⟩ := p; simp only [hk] at h1; exact ⟨h1.1, h1.2.1, _, h1.2.2⟩

section
variable {P : Program} {n : Nat} {ops : Array Oper}
variable {s s' : S} {r : List Oper} {bs : List A} {g : Bool} {gks : List Nat} {d : Nat} {ty : TypeId} {pos : String} {af : Array Edge} {gd : Option (Nat × Bool)}

theorem q_cap {x : Operand} {t1 el : TypeId} {l m sz : Nat} {ks : List Nat} (hgd : Gd ops s gd g gks) (hx : Od s g x (.os l m) ks) (ht1 : slEl P t1 = some (el, sz)) (hd : Nat.blt d n = true)
    (k : Lex P n ops r ⟨(d, some (g, .cp 0 l 0)) :: s.T, s.H⟩ bs s') :
    Lex P n ops (⟨some d, .call ⟨.builtin .cap, #[x], #[t1]⟩, ty, pos, af, gd⟩ :: r) s (⟨ks ++ gks, [], [], [(d, some (g, .cp 0 l 0))], []⟩ :: bs) s' := by
  refine q_val (o := ⟨some d, .call ⟨.builtin .cap, #[x], #[t1]⟩, ty, pos, af, gd⟩) hgd rfl hd (fun s' ht _ c κ e w _ hs hg => ⟨.int .i64 (capOf κ l), ?_, rfl⟩) k
  obtain ⟨_, _, A, hv⟩ := cap_of_os ((hx.agree ht).rep hs hg)
  obtain ⟨hu, _⟩ := slEl_spec ht1
  simp [execOp, resolve, invoke, builtin, Builtin.cap_, hv, run_underlying hu, goInt]

theorem q_gtrcap {x y : Operand} {K : Int} (kk : Nat) {l k0 : Nat} {t1 t2 : TypeId} {ks ks' : List Nat} (hgd : Gd ops s gd g gks) (hx : Od s g x (.int .i64 K) ks) (hy : Od s g y (.cp 0 l k0) ks') (hK : g = true → K = (kk : Int)) (hd : Nat.blt d n = true)
    (k : Lex P n ops r ⟨(d, some (g, .cp 1 l kk)) :: s.T, s.H⟩ bs s') :
    Lex P n ops (⟨some d, .binOp .gtr t1 x y t2, ty, pos, af, gd⟩ :: r) s (⟨(ks ++ ks') ++ gks, [], [], [(d, some (g, .cp 1 l kk))], []⟩ :: bs) s' := by
  refine q_val (o := ⟨some d, .binOp .gtr t1 x y t2, ty, pos, af, gd⟩) hgd rfl hd (fun s' ht _ c κ e w _ hs hg => ⟨.bool (decide (capOf κ l < kk)), ?_, rfl⟩) k
  have h1 := repT_int ((hx.agree (ag1 ht)).rep hs hg)
  have h2 : e.eval y = .int .i64 (capOf κ l) := repT_cp ((hy.agree (ag2 ht)).rep hs hg)
  have hr := run_int (P := P) (op := .gtr) rfl t1 .i64 K (capOf κ l) w
  simp only [execOp, h1, h2, Sem.run_bind, run_eqGuard_int, Result.andThen_ok, hr, Sem.run_pure]
  simp only [intX, intV, hK hg, Int.ofNat_lt]

/-- a longer slice, where there is room -/
theorem q_cutgrow {α : Type} (zs : List α) {x : Operand} {hi : Option Operand} {l m kk t : Nat} {b : Int} {t1 el : TypeId} {sz : Nat} {ks ks'' : List Nat} (hgd : Gd ops s gd g gks) (hx : Od s g x (.os l m) ks) (hhi : Bd s g hi (some b) ks'') (hev : get s.T t = some (true, .cp 2 l kk)) (ht1 : slEl P t1 = some (el, sz))
    (hm : g = true → b = (zs.length : Int) ∧ 1 ≤ zs.length ∧ zs.length ≤ kk) (hd : Nat.blt d n = true)
    (k : Lex P n ops r ⟨(d, some (g, .os l zs.length)) :: s.T, s.H⟩ bs s') :
    Lex P n ops (⟨some d, .slice t1 x none hi none, ty, pos, af, gd⟩ :: r) s (⟨((ks ++ ks'') ++ [t]) ++ gks, [], [], [(d, some (g, .os l zs.length))], []⟩ :: bs) s' := by
  refine q_val (o := ⟨some d, .slice t1 x none hi none, ty, pos, af, gd⟩) hgd rfl hd (fun s' ht _ c κ e w _ hs hg => ?_) k
  have h1 : RepB c κ (.os l m) (e.eval x) := (hx.agree (ag1 (ag1 ht))).rep hs hg
  obtain ⟨i2, h3⟩ := (hhi.agree (ag2 (ag1 ht))).rep hs hg
  obtain ⟨hb, hz1, hzk⟩ := hm hg
  obtain ⟨hu, i, hi', hsz⟩ := slEl_spec ht1
  have hev' : get s'.T t = some (true, .cp 2 l kk) := (ht t (by simp)).trans hev
  obtain ⟨_, hc2⟩ : e.tmps.getD t undef = .bool false ∧ kk ≤ capOf κ l := repT_cp ((hs.tm t _ hev').1 rfl)
  simp only [RepB] at h1
  cases hk : κ l with
  | none => simp [capOf, hk] at hc2; omega
  | some p =>
    obtain ⟨bb, cap⟩ := p
    simp only [hk] at h1
    obtain ⟨hmc, hcm, hx'⟩ := h1
    have hc3 : kk ≤ cap := by simpa [capOf, hk] using hc2
    have hcap : b ≤ cap := by omega
    have h0 : 0 ≤ b := by omega
    have hbn : b.toNat = zs.length := by omega
    refine ⟨.slice (some ⟨bb, 0, none⟩) zs.length cap, ?_, repT_os hk ⟨by omega, hcm, rfl⟩⟩
    simp only [execOp, hx', h3, Sem.run_bind]
    have hadd : (⟨bb, 0, none⟩ : Addr).add 0 = ⟨bb, 0, none⟩ := rfl
    simp [Instr.sliceAt, run_underlying hu, Instr.slice, Instr.sliceBounds, Instr.sliceBound, asIntOf, sizeOf, typeInfo, hi', h0, hcap, hadd, hbn]

/-- the library's test whether two slices share memory: an entry of the model -/
def ovE (P : Program) (f : FuncId) : Option (Array Value → Sem Value) := match P.funcs[f]? with
  | some fn => bif !(fn.name == "runtime.NumGoroutine") && fn.body.isNone && (Extern.findNext fn).isNone then Extern.find fn else none
  | none => none
theorem ov_spec {f : FuncId} {e : Array Value → Sem Value} (h : ovE P f = some e) (args : Array Value) (w : World) : (callFunc f args).run P w = ((e args).run P w).andThen fun v w' => .ok (.value v) w' := by
  unfold ovE at h
  split at h
  · rename_i fn hf
    cases hb : (!(fn.name == "runtime.NumGoroutine") && fn.body.isNone && (Extern.findNext fn).isNone) with
    | false => simp [hb] at h
    | true =>
      simp only [hb, cond_true] at h
      simp only [Bool.and_eq_true, Bool.not_eq_true'] at hb
      exact run_callFunc_extern hf hb.1.1 hb.1.2 (by simpa using hb.2) h args w
  · simp at h

theorem q_overlaps {f : FuncId} {x y : Operand} {l1 m1 l2 sz off q : Nat} {o1 o2 : List V} {tS tR el e1 e2 : TypeId} {sz1 : Nat} {ts : Array TypeId} {ks ks' : List Nat} (hgd : Gd ops s gd g gks) (hg : g = true) (he : ovE P f = some (Extern.SlicesOverlaps.overlaps #[tS, tS] #[tR])) (hx : Od s g x (.os l1 m1) ks) (hy : Od s g y (.oss l2 sz off q) ks')
    (ht1 : slEl P tS = some (el, sz)) (h1 : get s.H l1 = some (.row e1 sz1 o1)) (h2 : get s.H l2 = some (.row e2 sz o2)) (hne : Nat.beq l1 l2 = false) (hm : g = true → 1 ≤ m1 ∧ 1 ≤ o2.length) (hz : Nat.ble 1 sz = true) (hd : Nat.blt d n = true)
    (k : Lex P n ops r ⟨(d, some (g, .bool false)) :: s.T, s.H⟩ bs s') :
    Lex P n ops (⟨some d, .call ⟨.value (.func f), #[x, y], ts⟩, ty, pos, af, gd⟩ :: r) s (⟨(ks ++ ks') ++ gks, [l1, l2], [], [(d, some (g, .bool false))], []⟩ :: bs) s' := by
  refine q_val (o := ⟨some d, .call ⟨.value (.func f), #[x, y], ts⟩, ty, pos, af, gd⟩) (kh := [l1, l2]) hgd rfl hd (fun s' ht hh c κ a w _ hs hg => ⟨.bool false, ?_, .bool _⟩) k
  have r1 : RepB c κ (.os l1 m1) (a.eval x) := (hx.agree (ag1 ht)).rep hs hg
  have r2 : RepB c κ (.oss l2 sz off q) (a.eval y) := (hy.agree (ag2 ht)).rep hs hg
  obtain ⟨hm1, hm2⟩ := hm hg
  obtain ⟨hu, i, hi, hsz⟩ := slEl_spec ht1
  have g1 := (hh l1 (by simp)).trans h1
  have g2 := (hh l2 (by simp)).trans h2
  have k1 := hs.mem.hp l1 _ g1
  have k2 := hs.mem.hp l2 _ g2
  have hz' : 1 ≤ sz := Nat.le_of_ble_eq_true hz
  simp only [RepB] at r1 r2
  simp only [Holds] at k1 k2
  cases e1' : κ l1 with
  | none => simp only [e1'] at r1; omega
  | some p1 =>
    obtain ⟨b1, c1⟩ := p1
    cases e2' : κ l2 with
    | none => simp only [e2'] at k2; subst k2; simp at hm2
    | some p2 =>
      obtain ⟨b2, c2⟩ := p2
      simp only [e1'] at r1 k1
      simp only [e2'] at r2 k2
      obtain ⟨cur1, hb1, _⟩ := k1
      obtain ⟨cur2, hb2, hle2, _, hcs2, _⟩ := k2
      have hbne : b1 ≠ b2 := fun e => by
        subst e
        have := hs.mem.ij l1 l2 _ _ b1 c1 c2 g1 g2 e1' e2'
        rw [this, Nat.beq_refl] at hne
        simp at hne
      have hov := Lib.run_overlaps_apart (P := P) w tS tR el hu sz (fun w => by simp [sizeOf, typeInfo, hi, hsz]) ⟨b1, 0, none⟩ ⟨b2, if c2 = off then 0 else off * sz, none⟩ m1 c1 q (c2 - off) hbne e1 e2 cur1.size cur2.size (by simp [World.shape?, hb1]) (by simp [World.shape?, hb2]) (by
        rw [hcs2]
        have : 1 * 1 ≤ c2 * sz := Nat.mul_le_mul (by omega) hz'
        omega) (by simp [World.frozen?, hb1]) (by simp [World.frozen?, hb1])
      have hcall := ov_spec he #[.slice (some ⟨b1, 0, none⟩) m1 c1, .slice (some ⟨b2, if c2 = off then 0 else off * sz, none⟩) q (c2 - off)] w
      rw [hov] at hcall
      have hfv : a.eval (.func f) = .func (.func f) #[] ⟨[]⟩ := rfl
      simp [execOp, resolve, hfv, Deferred.ofValue, invoke, hcall, r1.2.2, r2.2.2, Result.andThen]

/-- the library's order of two strings: an entry of the model -/
theorem q_cmpstr {f : FuncId} {x y : Operand} {a b : List UInt8} {ts : Array TypeId} {ks ks' : List Nat} (hgd : Gd ops s gd g gks) (he : ovE P f = some Extern.BytealgCompare.compare) (hx : Od s g x (.str a) ks) (hy : Od s g y (.str b) ks') (hd : Nat.blt d n = true)
    (k : Lex P n ops r ⟨(d, some (g, .int .i64 (Lib.compareBytes a b))) :: s.T, s.H⟩ bs s') :
    Lex P n ops (⟨some d, .call ⟨.value (.func f), #[x, y], ts⟩, ty, pos, af, gd⟩ :: r) s (⟨(ks ++ ks') ++ gks, [], [], [(d, some (g, .int .i64 (Lib.compareBytes a b)))], []⟩ :: bs) s' := by
  refine q_val (o := ⟨some d, .call ⟨.value (.func f), #[x, y], ts⟩, ty, pos, af, gd⟩) hgd rfl hd (fun s' ht _ c κ e w _ hs hg => ⟨.int .i64 (Lib.compareBytes a b), ?_, .int _ _⟩) k
  have h1 := repT_str ((hx.agree (ag1 ht)).rep hs hg)
  have h2 := repT_str ((hy.agree (ag2 ht)).rep hs hg)
  have hcall := ov_spec he #[.string ⟨⟨a⟩⟩, .string ⟨⟨b⟩⟩] w
  rw [Lib.run_compareString] at hcall
  have hfv : e.eval (.func f) = .func (.func f) #[] ⟨[]⟩ := rfl
  simp [execOp, resolve, hfv, Deferred.ofValue, invoke, hcall, h1, h2, Result.andThen]

/-! ### A row's part, shifted within the row -/
theorem drop_cells {sz : Nat} {es : List V} (hz : ∀ e ∈ es, e.cells.length = sz) (i : Nat) : (es.flatMap V.cells).drop (i * sz) = (es.drop i).flatMap V.cells := by
  rcases Nat.le_total i es.length with h | h
  · conv => lhs; rw [← List.take_append_drop i es, List.flatMap_append]
    have : ((es.take i).flatMap V.cells).length = i * sz := by
      rw [flatMap_length (sz := sz) _ (fun e he => hz e (List.mem_of_mem_take he)), List.length_take, Nat.min_eq_left h]
    rw [← this, List.drop_left]
  · rw [List.drop_eq_nil_of_le h, List.drop_eq_nil_of_le (by rw [flatMap_length es hz]; exact Nat.mul_le_mul_right _ h)]; rfl
theorem take_cells {sz : Nat} {es : List V} (hz : ∀ e ∈ es, e.cells.length = sz) (i : Nat) : (es.flatMap V.cells).take (i * sz) = (es.take i).flatMap V.cells := by
  rcases Nat.le_total i es.length with h | h
  · conv => lhs; rw [← List.take_append_drop i es, List.flatMap_append]
    have : ((es.take i).flatMap V.cells).length = i * sz := by
      rw [flatMap_length (sz := sz) _ (fun e he => hz e (List.mem_of_mem_take he)), List.length_take, Nat.min_eq_left h]
    rw [← this, List.take_left]
  · rw [List.take_of_length_le h, List.take_of_length_le (by rw [flatMap_length es hz]; exact Nat.mul_le_mul_right _ h)]

/-- a list with a gap laid open at i: the places from i on stand m places further -/
def sft {α : Type} (xs : List α) (i m : Nat) : List α := xs.take (i + m) ++ xs.drop i
theorem sft_len {α : Type} {xs : List α} {i m : Nat} (h : i + m ≤ xs.length) : (sft xs i m).length = xs.length + m := by
  simp only [sft, List.length_append, List.length_take, List.length_drop]; omega
theorem sft_map {α : Type} {f : α → V} {xs : List α} {i m : Nat} : sft (xs.map f) i m = (sft xs i m).map f := by simp [sft, List.map_take, List.map_drop]

theorem q_shift {x y : Operand} {l sz i j q q2 : Nat} {el e1 : TypeId} {es : List V} {t t2 : TypeId} {k1 k2 : List Nat} (m : Nat) (hgd : Gd ops s gd g gks) (hg : g = true) (hx : Od s g x (.oss l sz j q) k1) (hy : Od s g y (.oss l sz i q2) k2) (ho : get s.H l = some (.row el sz es))
    (hm : j = i + m ∧ q + i = es.length ∧ q2 = q + m ∧ j ≤ es.length ∧ 1 ≤ q) (ht : slEl P t = some (e1, sz)) (hz1 : Nat.ble 1 sz = true) (hd : Nat.blt d n = true)
    (k : Lex P n ops r ⟨(d, some (true, .int .i64 q)) :: s.T, (l, some (.row el sz (sft es i m))) :: s.H⟩ bs s') :
    Lex P n ops (⟨some d, .call ⟨.builtin .copy, #[x, y], #[t, t2]⟩, ty, pos, af, gd⟩ :: r) s (⟨(k1 ++ k2) ++ gks, [l], [], [(d, some (true, .int .i64 q))], [(l, some (.row el sz (sft es i m)))]⟩ :: bs) s' := by
  obtain ⟨rfl, hqe, rfl, hj, hq1⟩ := hm
  refine q_mem (o := ⟨some d, .call ⟨.builtin .copy, #[x, y], #[t, t2]⟩, ty, pos, af, gd⟩) hgd hg rfl hd (by simp) (fun s' htt hhh _ c κ a w hc hs => ?_) k
  obtain ⟨hu, ii, hi, hsz⟩ := slEl_spec ht
  have hsize : (P.info? e1).map (·.size) = some sz := by rw [hi]; simp [hsz]
  have hgl := (hhh l (by simp)).trans ho
  have hho := hs.mem.hp l _ hgl
  have r1 : RepB c κ (.oss l sz (i + m) q) (a.eval x) := (hx.agree (ag1 htt)).rep hs hg
  have r2 : RepB c κ (.oss l sz i (q + m)) (a.eval y) := (hy.agree (ag2 htt)).rep hs hg
  simp only [RepB] at r1 r2
  simp only [Holds] at hho
  cases hk : κ l with
  | none => simp only [hk] at r1; omega
  | some p =>
    obtain ⟨b, cap⟩ := p
    simp only [hk] at r1 r2 hho
    obtain ⟨cur, hb, hec, hcm, hcs, hz, hrep⟩ := hho
    obtain ⟨c1, _, v1⟩ := r1
    obtain ⟨c2, _, v2⟩ := r2
    rw [if_neg (by omega)] at v1 v2
    have hz' : 1 ≤ sz := Nat.le_of_ble_eq_true hz1
    have hfl := flatMap_length es hz
    have hel : es.length * sz = i * sz + q * sz := by rw [← hqe, Nat.add_mul, Nat.add_comm]
    have hcap : (i + m + q) * sz ≤ cap * sz := Nat.mul_le_mul_right _ c1
    have hexp : (i + m + q) * sz = (i + m) * sz + q * sz := Nat.add_mul ..
    have hexp2 : (i + m) * sz = i * sz + m * sz := Nat.add_mul ..
    have hcsl : ((cur.toList.drop (i * sz)).take (q * sz)).length = q * sz := by rw [List.length_take, List.length_drop, Array.length_toList]; omega
    have hcur : ∀ (j : Nat) y, ((cur.toList.drop (i * sz)).take (q * sz))[j]? = some y → j < q * sz ∧ cur[i * sz + j]? = some y := fun j y hj => by
      have hlt : j < q * sz := by have := (List.getElem?_eq_some_iff.1 hj).1; omega
      rw [List.getElem?_take, if_pos hlt, List.getElem?_drop] at hj
      exact ⟨hlt, by simpa using hj⟩
    have hon : ∀ v ∈ (cur.toList.drop (i * sz)).take (q * sz), v.oneCell' = true := fun v hv' => by
      obtain ⟨j, hj⟩ := List.mem_iff_getElem?.1 hv'
      obtain ⟨hlt, hcj⟩ := hcur j v hj
      have hjl : i * sz + j < (es.flatMap V.cells).length := by rw [hfl]; omega
      obtain ⟨y', hy', hr⟩ := hrep _ _ (List.getElem?_eq_getElem hjl)
      rw [hcj] at hy'
      injection hy' with hy'; subst hy'
      generalize (es.flatMap V.cells)[i * sz + j] = u at hr
      cases hr <;> first | rfl | (rename_i h; exact h.2)
    have hrun := run_copyN (P := P) (ty := ty) w t t2 e1 b ((i + m) * sz) q (cap - (i + m)) (q + m) (cap - i) sz ⟨b, i * sz, none⟩ cur el ((cur.toList.drop (i * sz)).take (q * sz)) hu hsize hb (by rw [hcsl, Nat.min_eq_right (by omega)]) (fun j v hj => by
      obtain ⟨hlt, hcj⟩ := hcur j v hj
      rw [add_lit, cell_of_row w b _ cur el (0, 0) hb]; exact hcj) (by rw [hcsl]; omega) hon
    rw [hcsl, Nat.min_eq_right (show q ≤ q + m by omega)] at hrun
    refine ⟨.int .i64 q, _, κ, by simp only [execOp, resolve, invoke, builtin]; simp [v1, v2, hrun, goInt]; rfl, ⟨fun _ => .int _ _, fun h => by simp at h⟩, fun _ _ _ _ _ _ => rfl, hs.mem.write hgl hk (ext_setRow w b _ el cur hb) ?_⟩
    simp only [Holds, hk]
    refine ⟨_, setRow_heap w b cur _ el _ hb, by rw [sft_len hj]; omega, hcm, ?_, fun e' he' => ?_, fun p u hu' => ?_⟩
    · simp only [List.size_toArray, List.length_append, List.length_take, List.length_drop, Array.length_toList]
      omega
    · simp only [sft, List.mem_append] at he'
      rcases he' with h | h
      · exact hz _ (List.mem_of_mem_take h)
      · exact hz _ (List.mem_of_mem_drop h)
    · have hfA : ((es.take (i + m)).flatMap V.cells).length = (i + m) * sz := by
        rw [flatMap_length (sz := sz) _ (fun e he => hz e (List.mem_of_mem_take he)), List.length_take, Nat.min_eq_left hj]
      have hck : (cur.toList.take ((i + m) * sz)).length = (i + m) * sz := by rw [List.length_take, Array.length_toList]; omega
      rw [show (cur.toList.take ((i + m) * sz) ++ ((cur.toList.drop (i * sz)).take (q * sz) ++ cur.toList.drop ((i + m) * sz + q * sz))).toArray[p]? = (cur.toList.take ((i + m) * sz) ++ ((cur.toList.drop (i * sz)).take (q * sz) ++ cur.toList.drop ((i + m) * sz + q * sz)))[p]? by simp]
      simp only [sft, List.flatMap_append] at hu'
      by_cases hp1 : p < (i + m) * sz
      · rw [List.getElem?_append_left (by omega)] at hu'
        rw [← take_cells hz, List.getElem?_take, if_pos hp1] at hu'
        obtain ⟨y', hy', hr⟩ := hrep p u hu'
        exact ⟨y', by rw [List.getElem?_append_left (by omega), List.getElem?_take, if_pos hp1]; simpa using hy', hr⟩
      · rw [List.getElem?_append_right (by omega), hfA] at hu'
        rw [← drop_cells hz, List.getElem?_drop] at hu'
        obtain ⟨y', hy', hr⟩ := hrep _ u hu'
        have hlt : i * sz + (p - (i + m) * sz) < es.length * sz := by have := (List.getElem?_eq_some_iff.1 hu').1; omega
        refine ⟨y', ?_, hr⟩
        rw [List.getElem?_append_right (by omega), hck, List.getElem?_append_left (by omega), List.getElem?_take, if_pos (by omega), List.getElem?_drop]
        simpa using hy'
theorem q_shiftm {α : Type} {f : α → V} {xs : List α} {x y : Operand} {l sz i j q q2 : Nat} {el e1 : TypeId} {t t2 : TypeId} {k1 k2 : List Nat} (m : Nat) (hgd : Gd ops s gd g gks) (hg : g = true) (hx : Od s g x (.oss l sz j q) k1) (hy : Od s g y (.oss l sz i q2) k2) (ho : get s.H l = some (.row el sz (xs.map f)))
    (hm : j = i + m ∧ q + i = xs.length ∧ q2 = q + m ∧ j ≤ xs.length ∧ 1 ≤ q) (ht : slEl P t = some (e1, sz)) (hz1 : Nat.ble 1 sz = true) (hd : Nat.blt d n = true)
    (k : Lex P n ops r ⟨(d, some (true, .int .i64 q)) :: s.T, (l, some (.row el sz ((sft xs i m).map f))) :: s.H⟩ bs s') :
    Lex P n ops (⟨some d, .call ⟨.builtin .copy, #[x, y], #[t, t2]⟩, ty, pos, af, gd⟩ :: r) s (⟨(k1 ++ k2) ++ gks, [l], [], [(d, some (true, .int .i64 q))], [(l, some (.row el sz ((sft xs i m).map f)))]⟩ :: bs) s' := by
  have h := q_shift (ty := ty) (pos := pos) (af := af) (n := n) (s' := s') (r := r) (bs := bs) (t2 := t2) m hgd hg hx hy ho (by rw [len_map]; exact hm) ht hz1 hd
  rw [sft_map] at h
  exact h k
/-- a copy, where what it leaves has a name -/
theorem q_copye {α : Type} {f : α → V} {xs ys : List α} (out : List α) {x y : Operand} {l sz off m : Nat} {el e1 : TypeId} {t t2 : TypeId} {k1 k2 h2 : List Nat} (hgd : Gd ops s gd g gks) (hg : g = true) (hx : Dst s g sz x l off m k1) (ho : get s.H l = some (.row el sz (xs.map f))) (hm : off + m ≤ xs.length) (hy : Src s g sz y (ys.map f) k2 h2)
    (ht : slEl P t = some (e1, sz)) (hz1 : Nat.ble 1 sz = true) (he : cpy xs off (ys.take (min ys.length m)) = out) (hd : Nat.blt d n = true)
    (k : Lex P n ops r ⟨(d, some (true, .int .i64 (min ys.length m : Nat))) :: s.T, (l, some (.row el sz (out.map f))) :: s.H⟩ bs s') :
    Lex P n ops (⟨some d, .call ⟨.builtin .copy, #[x, y], #[t, t2]⟩, ty, pos, af, gd⟩ :: r) s (⟨(k1 ++ k2) ++ gks, l :: h2, [], [(d, some (true, .int .i64 (min ys.length m : Nat)))], [(l, some (.row el sz (out.map f)))]⟩ :: bs) s' := by
  subst he
  exact q_copym hgd hg hx ho hm hy ht hz1 hd k
/-! ### zeros behind the first places of a row, in a block of its own -/
def zr {α : Type} (xs : List α) (i nn : Nat) (z : α) : List α := xs.take i ++ List.replicate nn z
theorem zr_len {α : Type} {xs : List α} {i nn : Nat} {z : α} (h : i ≤ xs.length) : (zr xs i nn z).length = i + nn := by
  simp only [zr, List.length_append, List.length_take, List.length_replicate]; omega
theorem zr_map {α : Type} {f : α → V} {xs : List α} {i nn : Nat} {z : α} : zr (xs.map f) i nn (f z) = (zr xs i nn z).map f := by simp [zr, List.map_take]
theorem zeroCells_get {z : Array Value} {k j : Nat} (h : j < k * z.size) : (Builtin.zeroCells z k)[j]? = z[j % z.size]? := by
  have hz : 0 < z.size := by
    rcases Nat.eq_zero_or_pos z.size with h0 | h0
    · rw [h0] at h; simp at h
    · exact h0
  have hm : j % z.size < z.size := Nat.mod_lt _ hz
  simp only [Builtin.zeroCells, Array.getElem?_map, Array.getElem?_range, h, if_true, Option.map_some]
  rw [getElem!_pos z _ hm, Array.getElem?_eq_getElem hm]
theorem q_appz {t tn el : TypeId} {l l0 i N nn kk te sz by' : Nat} {x y : Operand} {es : List V} {z : V} {k1 k2 : List Nat} (hgd : Gd ops s gd g gks) (hg : g = true) (hx : Od s g x (.os l0 i) k1) (ho : get s.H l0 = some (.row el sz es)) (hy : Od s g y (.int .i64 (N : Nat)) k2)
    (hev : get s.T te = some (true, .cp 3 l0 kk)) (ht1 : slInfo P t = some (el, sz, by')) (htn : P.underlying tn = some (.int .i64)) (hz : zeroV P el = some z) (hok : (Nat.beq z.cells.length sz && Nat.ble 1 sz && Nat.ble by' 65536 && z.roc) = true)
    (hN : N = nn ∧ kk = i + nn ∧ 1 ≤ nn ∧ i ≤ es.length) (hroom : i + nn ≤ 1073741824) (hf : freshB l s = true) (hd : Nat.blt d n = true)
    (k : Lex P n ops r ⟨(d, some (true, .os l (i + nn))) :: s.T, (l, some (.row el sz (zr es i nn z))) :: s.H⟩ bs s') :
    Lex P n ops (⟨some d, .call ⟨.builtin .append, #[x, y], #[t, tn]⟩, ty, pos, af, gd⟩ :: r) s (⟨((k1 ++ k2) ++ [te]) ++ gks, [l0], [l], [(d, some (true, .os l (i + nn)))], [(l, some (.row el sz (zr es i nn z)))]⟩ :: bs) s' := by
  obtain ⟨rfl, rfl, hn1, hie⟩ := hN
  refine q_mem (o := ⟨some d, .call ⟨.builtin .append, #[x, y], #[t, tn]⟩, ty, pos, af, gd⟩) hgd hg rfl hd (fun l' hl' => by simp at hl'; subst hl'; exact Fresh.of hf) (fun s' ht hh hfr c κ a w hc hs => ?_) k
  have hfl := hfr l (by simp)
  simp only [Bool.and_eq_true] at hok
  obtain ⟨⟨⟨hzl, hs1⟩, hby⟩, hro⟩ := hok
  have hzl' : z.cells.length = sz := Nat.eq_of_beq_eq_true hzl
  have hs1' : 1 ≤ sz := Nat.le_of_ble_eq_true hs1
  have hby' : by' ≤ 65536 := Nat.le_of_ble_eq_true hby
  obtain ⟨hu, ii, hi, hisz, hiby⟩ := slInfo_spec ht1
  obtain ⟨i', zv, hi', hzi, hcz⟩ := zeroV_spec hz
  have : i' = ii := by rw [hi] at hi'; exact (Option.some.inj hi').symm
  subst this
  obtain ⟨hlab, hnt, hokc⟩ := const_labs hcz
  have hzrep := ((repT_cells hokc hnt (constV_rep (c := c) (κ := κ) hcz)).1).mono fun u hu y' hy' => repR_of_repC ((List.all_eq_true.1 hro) u hu) hy'
  have hzs : zv.cells.size = sz := by have := hzrep.length; simp at this; omega
  have r1 : RepB c κ (.os l0 i) (a.eval x) := (hx.agree (ag1 (ag1 ht))).rep hs hg
  have r2 := repT_int ((hy.agree (ag2 (ag1 ht))).rep hs hg)
  have hev' : get s'.T te = some (true, .cp 3 l0 (i + N)) := (ht te (by simp)).trans hev
  obtain ⟨_, hlt⟩ : a.tmps.getD te undef = .bool true ∧ capOf κ l0 < i + N := repT_cp ((hs.tm te _ hev').1 rfl)
  have hgl := (hh l0 (by simp)).trans ho
  have hho := hs.mem.hp l0 _ hgl
  have hml : (1073741824 : Nat) ≤ maxLen := by unfold maxLen; omega
  have hby2 : (i + N) * i'.bytes ≤ 140737488355328 := by
    rw [hiby]
    have := Nat.mul_le_mul hroom hby'
    omega
  -- the old places as cells
  have hold : ∃ (A : Option Addr) (cap : Nat) (olds : List Value), a.eval x = .slice A i cap ∧ cap = capOf κ l0 ∧ (Builtin.firstCells i'.size i (.slice A i cap)).run P w.drew = .ok olds.toArray w.drew ∧ olds.length = i * sz ∧
      ∀ (j : Nat) u, ((es.take i).flatMap V.cells)[j]? = some u → ∃ y, olds[j]? = some y ∧ RepR c u y := by
    simp only [RepB] at r1
    simp only [Holds] at hho
    cases hk : κ l0 with
    | none =>
      simp only [hk] at r1
      obtain ⟨h0, hv⟩ := r1
      subst h0
      exact ⟨none, 0, [], hv, by simp [capOf, hk], run_firstCells_none w.drew _ _ _ _, by simp, fun j u hu => by simp at hu⟩
    | some p =>
      obtain ⟨b, cap⟩ := p
      simp only [hk] at r1 hho
      obtain ⟨hic, hcm, hv⟩ := r1
      obtain ⟨cur, hb, hec, _, hcs, hz0, hrep⟩ := hho
      have hmc : i * sz ≤ cap * sz := Nat.mul_le_mul_right _ hic
      have hol : (cur.toList.take (i * sz)).length = i * sz := by rw [List.length_take, Array.length_toList]; omega
      refine ⟨_, cap, cur.toList.take (i * sz), hv, by simp [capOf, hk], run_firstCells_some w.drew _ i ⟨b, 0, none⟩ i cap _ (by rw [hol, hisz]) (fun j v hj => ?_), hol, fun j u hu => ?_⟩
      · have hj2 : j < i * sz := by have := (List.getElem?_eq_some_iff.1 hj).1; omega
        rw [List.getElem?_take, if_pos hj2] at hj
        rw [add_lit, show w.drew.cell? ⟨b, 0 + j, none⟩ = w.cell? ⟨b, 0 + j, none⟩ from rfl, cell_of_row w b _ cur el (0, 0) hb]
        simpa using hj
      · rw [← take_cells hz0] at hu
        have hj2 : j < i * sz := by have := (List.getElem?_eq_some_iff.1 hu).1; rw [List.length_take] at this; omega
        rw [List.getElem?_take, if_pos hj2] at hu
        obtain ⟨y, hy', hr⟩ := hrep j u hu
        exact ⟨y, by rw [List.getElem?_take, if_pos hj2]; simpa using hy', hr⟩
  obtain ⟨A, cap, olds, hv, hcap, hfc, holl, horep⟩ := hold
  have hrun := Lib.run_append_grow_zeros (P := P) w t tn ty el i' zv .i64 .i64 hu htn hi hzi A i cap olds hfc N (by omega) (by omega) (by omega) (by omega) (by
      have := Nat.mul_le_mul_right i'.bytes (show N ≤ i + N by omega)
      omega) (growslice_fits (by omega) hby2)
  have hG : i + N ≤ grownCap w (i + N) cap el := grownCap_ge w _ _ _
  have hG2 : grownCap w (i + N) cap el ≤ maxLen := grownCap_le_maxLen w _ _ _ (by omega)
  generalize grownCap w (i + N) cap el = G at hrun hG hG2
  have hrep1 : ∀ e ∈ zr es i N z, e.cells.length = sz := fun e he => by
    simp only [zr, List.mem_append] at he
    rcases he with h | h
    · simp only [Holds] at hho
      cases hk : κ l0 with
      | none => simp only [hk] at hho; subst hho; simp at h
      | some p => simp only [hk] at hho; obtain ⟨_, _, _, _, _, hz0, _⟩ := hho; exact hz0 _ (List.mem_of_mem_take h)
    · rw [(List.mem_replicate.1 h).2]; exact hzl'
  have hftl : ((es.take i).flatMap V.cells).length = i * sz := by
    rw [flatMap_length (sz := sz) _ (fun e he => hrep1 e (by simp only [zr, List.mem_append]; exact .inl he)), List.length_take, Nat.min_eq_left hie]
  have hexec : (execOp a.eval ⟨some d, .call ⟨.builtin .append, #[x, y], #[t, tn]⟩, ty, pos, af, gd⟩).run P w = .ok (.value (.slice (some ⟨w.heap.size, 0, none⟩) (i + N) G)) (w.drew.alloc (.cells (olds.toArray ++ Builtin.zeroCells zv.cells N ++ Builtin.zeroCells zv.cells (G - (i + N))) el)) := by
    simp only [execOp, resolve, invoke, builtin, Sem.run_bind, Sem.run_pure, Result.andThen_ok, List.map_toArray, List.map_cons, List.map_nil, hv, r2, hrun]
  refine ⟨.slice (some ⟨w.heap.size, 0, none⟩) (i + N) G, _, fun q => if q = l then some (w.heap.size, G) else κ q, hexec, ?_, lab_keep hfl, new_row (w := w.drew) (cap := G) hc (hs.mem.world (Ext.drew (Ext.refl _ w))) hfl (by rw [zr_len hie]; exact hG) hG2 ?_ hrep1 fun j u hu => ?_⟩
  · exact ⟨fun _ => repT_os (b := w.heap.size) (cap := G) (if_pos rfl) ⟨hG, hG2, rfl⟩, fun h => by simp at h⟩
  · have : G * sz = i * sz + N * sz + (G - (i + N)) * sz := by rw [← Nat.add_mul, ← Nat.add_mul]; congr 1; omega
    simp only [Array.size_append, size_zeroCells, List.size_toArray, holl, hzs, this]
  · simp only [zr, List.flatMap_append] at hu
    by_cases hj : j < i * sz
    · rw [List.getElem?_append_left (by omega)] at hu
      obtain ⟨y, hy', hr⟩ := horep j u hu
      refine ⟨y, ?_, hr⟩
      rw [Array.append_assoc, Array.getElem?_append_left (by simp [holl]; exact hj)]
      simpa using hy'
    · rw [List.getElem?_append_right (by omega), hftl] at hu
      have hj2 : j - i * sz < N * sz := by
        have := (List.getElem?_eq_some_iff.1 hu).1
        rw [flatMap_length (sz := sz) _ (fun e' he => by rw [(List.mem_replicate.1 he).2]; exact hzl'), List.length_replicate] at this
        exact this
      rw [flat_replicate hzl' _ _ hj2] at hu
      obtain ⟨y, hy', hr⟩ := hzrep.get _ _ hu
      refine ⟨y, ?_, hr⟩
      have hsz1 : (Builtin.zeroCells zv.cells N).size = N * sz := by rw [size_zeroCells, hzs]
      rw [Array.getElem?_append_left (by simp only [Array.size_append, List.size_toArray, holl, hsz1]; omega), Array.getElem?_append_right (by simp only [List.size_toArray, holl]; omega)]
      rw [List.size_toArray, holl, zeroCells_get (by rw [hzs]; exact hj2), hzs]
      simpa using hy'
theorem q_appzm {α : Type} {f : α → V} {xs : List α} (zx : α) (l : Nat) (i' : Nat) {t tn el : TypeId} {l0 i kk te sz by' : Nat} {NI : Int} (nn : Nat) {x y : Operand} {z : V} {k1 k2 : List Nat} (hgd : Gd ops s gd g gks) (hg : g = true) (hx : Od s g x (.os l0 i) k1) (ho : get s.H l0 = some (.row el sz (xs.map f))) (hy : Od s g y (.int .i64 NI) k2)
    (hev : get s.T te = some (true, .cp 3 l0 kk)) (ht1 : slInfo P t = some (el, sz, by')) (htn : P.underlying tn = some (.int .i64)) (hz : zeroV P el = some z) (hzx : z = f zx) (hok : (Nat.beq z.cells.length sz && Nat.ble 1 sz && Nat.ble by' 65536 && z.roc) = true)
    (hN : NI = (nn : Int) ∧ kk = i + nn ∧ 1 ≤ nn ∧ i ≤ xs.length) (hroom : i + nn ≤ 1073741824) (out : Nat) (hout : i + nn = out ∧ i = i') (hf : freshB l s = true) (hd : Nat.blt d n = true)
    (k : Lex P n ops r ⟨(d, some (true, .os l out)) :: s.T, (l, some (.row el sz ((zr xs i' nn zx).map f))) :: s.H⟩ bs s') :
    Lex P n ops (⟨some d, .call ⟨.builtin .append, #[x, y], #[t, tn]⟩, ty, pos, af, gd⟩ :: r) s (⟨((k1 ++ k2) ++ [te]) ++ gks, [l0], [l], [(d, some (true, .os l out))], [(l, some (.row el sz ((zr xs i' nn zx).map f)))]⟩ :: bs) s' := by
  obtain ⟨hNI, hkk, hn1, hie⟩ := hN
  obtain ⟨hout, hii⟩ := hout
  subst hNI; subst hzx; subst hout; subst hii
  have h := q_appz (ty := ty) (pos := pos) (af := af) (n := n) (s' := s') (r := r) (bs := bs) hgd hg hx ho hy hev ht1 htn hz hok ⟨rfl, hkk, hn1, by rw [len_map]; exact hie⟩ hroom hf hd
  rw [zr_map] at h
  exact h k

/-! ### the list with ys laid in ahead of place i, and the lists on the way -/
def ins {α : Type} (xs : List α) (i : Int) (ys : List α) : List α := xs.take i.toNat ++ ys ++ xs.drop i.toNat
def z1 {α : Type} (xs : List α) (i : Int) (ys : List α) (nn : Nat) (z : α) : List α := xs.take i.toNat ++ ys ++ List.replicate nn z
theorem ins_len {α : Type} {xs : List α} {i : Int} {ys : List α} : (ins xs i ys).length = xs.length + ys.length := by
  simp only [ins, List.length_append, List.length_take, List.length_drop]; omega
theorem cut_drop {α : Type} {xs : List α} {i : Int} : cut' xs i (xs.length : Int) = xs.drop i.toNat := by
  simp only [cut', Int.toNat_natCast]
  rw [List.take_of_length_le (by rw [List.length_drop]; omega)]
theorem z1_len {α : Type} {xs : List α} {i : Int} {ys : List α} {nn : Nat} {z : α} (h : i.toNat ≤ xs.length) : (z1 xs i ys nn z).length = i.toNat + ys.length + nn := by
  simp only [z1, List.length_append, List.length_take, List.length_replicate]; omega
theorem cpy_zr {α : Type} {xs ys : List α} {i : Int} {off nn m k : Nat} {z : α} (hi : i.toNat ≤ xs.length) (ho : off = i.toNat) (hm : min ys.length m = ys.length) (hk : nn = ys.length + k) : cpy (zr xs i.toNat nn z) off (ys.take (min ys.length m)) = z1 xs i ys k z := by
  subst ho
  have hl : (xs.take i.toNat).length = i.toNat := by rw [List.length_take]; omega
  rw [hm, List.take_length]
  simp only [cpy, zr, z1]
  rw [List.take_left' hl, ← List.drop_drop, List.drop_left' hl, List.drop_replicate, hk, Nat.add_sub_cancel_left]
theorem cpy_z1 {α : Type} {xs ys news : List α} {i : Int} {off k m : Nat} {z : α} (hi : i.toNat ≤ xs.length) (ho : off = i.toNat + ys.length) (hn : news = xs.drop i.toNat) (hk : k = news.length) (hm : min news.length m = news.length) : cpy (z1 xs i ys k z) off (news.take (min news.length m)) = ins xs i ys := by
  subst ho
  have hl : (xs.take i.toNat ++ ys).length = i.toNat + ys.length := by rw [List.length_append, List.length_take]; omega
  rw [hm, List.take_length]
  simp only [cpy, z1, ins]
  rw [List.take_left' hl, ← List.drop_drop, List.drop_left' hl, List.drop_replicate, hk, Nat.sub_self, List.replicate_zero, List.append_nil, hn]
theorem cpy_sft {α : Type} {xs ys : List α} {i : Int} {off m : Nat} (hi : i.toNat + ys.length ≤ xs.length) (ho : off = i.toNat) (hm : min ys.length m = ys.length) : cpy (sft xs i.toNat ys.length) off (ys.take (min ys.length m)) = ins xs i ys := by
  subst ho
  have hl : (xs.take (i.toNat + ys.length)).length = i.toNat + ys.length := by rw [List.length_take]; omega
  rw [hm, List.take_length]
  simp only [cpy, sft, ins]
  rw [List.take_append_of_le_length (by omega), List.take_take, Nat.min_eq_left (by omega), List.drop_left' hl]
end

/-- a test of a capacity: each side knows what it has shown -/
theorem run_cond_cap {ρ : Type} {P : Program} {fn : Func} {n : Nat} {out : ρ → V × List (Nat × Option O)} {k : List (It ρ)} {r : ρ} {s : S} {t l kk : Nat} {c1 c2 : Code} (hx : get s.T t = some (true, .cp 1 l kk))
    (h1 : Run P fn n out (.code c1 :: k) r ⟨(t, some (true, .cp 3 l kk)) :: s.T, s.H⟩) (h2 : Run P fn n out (.code c2 :: k) r ⟨(t, some (true, .cp 2 l kk)) :: s.T, s.H⟩) :
    Run P fn n out (.code (.cond (.tmp t) c1 c2) :: k) r s := by
  intro c κ a w hc hs
  have hv : a.tmps.getD t undef = .bool (decide (capOf κ l < kk)) := repT_cp ((hs.tm t _ hx).1 rfl)
  have up : ∀ m, RepCap κ m l kk (a.tmps.getD t undef) → Sat n c κ ⟨(t, some (true, .cp m l kk)) :: s.T, s.H⟩ a w := fun m hm => by
    refine ⟨hs.hd, hs.hn, fun t' e' ht' => ?_, hs.mem⟩
    rw [get_cons] at ht'
    split at ht'
    · rename_i e; subst e
      injection ht' with ht'; subst ht'
      exact ⟨fun _ => hm, fun h => by simp at h⟩
    · exact hs.tm t' e' ht'
  by_cases hlt : capOf κ l < kk
  · have hv' : a.eval (.tmp t) = .bool true := by rw [show a.eval (.tmp t) = a.tmps.getD t undef from rfl, hv, decide_eq_true hlt]
    exact wp_cond_true hv' (h1 c κ a w hc (up 3 ⟨hv', hlt⟩))
  · have hv' : a.eval (.tmp t) = .bool false := by rw [show a.eval (.tmp t) = a.tmps.getD t undef from rfl, hv, decide_eq_false hlt]
    exact wp_cond_false hv' (h2 c κ a w hc (up 2 ⟨hv', by omega⟩))
end Go.Proofs.YtdkkcemlnjlebaaDoor.E
