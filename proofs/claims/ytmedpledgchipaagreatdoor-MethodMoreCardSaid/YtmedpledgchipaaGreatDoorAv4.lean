import Derived.Test.YtmedpledgchipaaGreatDoorAv3
import Derived.Orders
import Derived.Laws.Externs
set_option linter.unusedSectionVars false
set_option linter.unusedVariables false
set_option linter.unusedSimpArgs false
set_option linter.unnecessarySimpa false
namespace Go.Av
open Go
variable [Lay]
abbrev St := List AV × Heap
inductive T (P : Program) (nb : Nat) (d : Bool) (all : List Oper) (o : Oper) : St → St → Prop
 | op {tm : List AV} {hp : Heap} (hw : Wanted all o tm) (hc : ∀ c, (opM P all o tm hp).c = some c → c) : T P nb d all o (tm, hp) (put (opM P all o tm hp).tm o.dst (opM P all o tm hp).v, (opM P all o tm hp).hp)
 | skip {tm : List AV} {hp : Heap} (hw : Unwanted all o tm) : T P nb d all o (tm, hp) (put tm o.dst (.tup []), hp)
 | call {tm : List AV} {hp : Heap} {fo : Operand} {args : Array Operand} {tys : Array TypeId} {f : FuncId} {as : List AV} {r : AV} (hw : Wanted all o tm) (hop : o.op = .call { callee := .value fo, args, argTypes := tys })
   (hcal : calleeOf (opv tm fo) (allOp tm args) = some (f, as)) (hn : ltRL 0 as = true) (hA : ACall P f as [] r []) : T P nb d all o (tm, hp) (put tm o.dst r, hp)
 | callF {tm : List AV} {hp : Heap} {fo : Operand} {args : Array Operand} {tys : Array TypeId} {f : FuncId} {as : List AV} {r : AV} {hp1 : Heap} {ids : List Nat} (hd : d = false) (hw : Wanted all o tm) (hop : o.op = .call { callee := .value fo, args, argTypes := tys })
   (hcal : calleeOf (opv tm fo) (allOp tm args) = some (f, as)) (hfc : fcOk ids hp as = true) (hA : ACall P f (renL (idx ids) as) (focus ids hp) r hp1) : T P nb d all o (tm, hp) (put tm o.dst (ren (nth ids) r), wb (nth ids) ids hp1 hp)
 | callO {tm : List AV} {hp : Heap} {fo : Operand} {args : Array Operand} {tys : Array TypeId} {f : FuncId} {as : List AV} {r : AV} (hw : Wanted all o tm) (hop : o.op = .call { callee := .value fo, args, argTypes := tys })
   (hcal : calleeK (opv tm fo) (allOp tm args) = some (f, as)) (hn : ltRL 0 as = true) (hA : ACallO P f as r) : T P nb d all o (tm, hp) (put tm o.dst r, hp)
 | callB {tm : List AV} {hp : Heap} {fo : Operand} {args : Array Operand} {tys : Array TypeId} {f : FuncId} {as : List AV} {r : AV} {cs : List AV} (hd : d = false) (hw : Wanted all o tm) (hop : o.op = .call { callee := .value fo, args, argTypes := tys })
   (hcal : calleeK (opv tm fo) (allOp tm args) = some (f, as)) (hn : ltRL 0 as = true) (hA : ACallB P f as r cs) : T P nb d all o (tm, hp) (put tm o.dst (ren (fun _ => hp.length) r), hp ++ [some (renL (fun _ => hp.length) cs)])
 | opx {tm : List AV} {hp : Heap} {tm' : List AV} {hp' : Heap} (hd : d = false) (hw : Wanted all o tm) (hs : ∀ (gd : Option (Nat × Bool)) (g : Gh) (a : Array Value) (w : World), LayOk g w → Rel g tm hp a w → nb ≤ hp.length → OpN P nb { o with guard := gd } tm' hp' g a w) : T P nb d all o (tm, hp) (tm', hp')
def isCallOp : Op → Bool
 | .call _ => true
 | _ => false
def mustB (ops : Array Oper) : Nat → Nat → Nat → Bool
 | 0, _, _ => false
 | f+1, i, j => match ops[i]? with
  | some o => o.after.toList.any fun e => Region.binds .any e && Nat.ble j e.on && (Nat.beq e.on j || mustB ops f e.on j)
  | none => false
def barD (all : List Oper) (d : Option Nat) : Bool :=
 (List.range all.length).all fun i => match all.toArray[i]? with
  | some o => !(decide (o.dst = d)) || (isCallOp o.op && (List.range all.length).all fun j => Nat.beq i j || (bif Nat.ble j i then mustB all.toArray 12 i j else mustB all.toArray 12 j i))
  | none => true
def refOf : AV → Option Nat
 | .ptr id _ => some id
 | .rs id _ _ _ _ _ => some id
 | _ => none
def memFn (P : Program) (fn : Func) : Bool :=
 fn.name == "slices.Compact[[]int,int]" || (match fn.params[0]? with
  | some t => match P.underlying t with
   | some (.pointer _) => true
   | _ => false
  | none => false)
def memF (P : Program) (o : Oper) : Bool := match o.op with
 | .call { callee := .value (.func f), args, .. } => (match args.toList with | .tmp _ :: _ => true | _ => false) && (match P.funcs[f]? with | some fn => memFn P fn | none => false)
 | _ => false
def memD (P : Program) (all : List Oper) (d : Option Nat) : Bool := all.all fun o => !(decide (o.dst = d)) || memF P o
structure MidT (P : Program) (nb : Nat) (all : List Oper) (o : Oper) (id : Nat) (S S1 : St) : Prop where
 ex : ∃ (fo : Operand) (args : Array Operand) (tys : Array TypeId) (f : FuncId) (as : List AV) (r : AV) (hp1 : Heap) (x : AV) (l : List AV), Wanted all o S.1 ∧ o.op = .call { callee := .value fo, args, argTypes := tys } ∧ calleeOf (opv S.1 fo) (allOp S.1 args) = some (f, as) ∧
  as = x :: l ∧ refOf x = some id ∧ fcOk [id] S.2 as = true ∧ ACall P f (renL (idx [id]) as) (focus [id] S.2) r hp1 ∧ S1 = (put S.1 o.dst (ren (nth [id]) r), wb (nth [id]) [id] hp1 S.2)
def KeepT (d : Option Nat) (tm tm' : List AV) : Prop := ∀ t, d ≠ some t → lget tm' t = lget tm t ∨ lget tm' t = .any
inductive Run (P : Program) (nb : Nat) (d : Bool) (all : List Oper) : List Oper → St → St → Prop
 | nil {S} : Run P nb d all [] S S
 | cons {o os S S1 S'} (h : T P nb d all o S S1) (h' : Run P nb d all os S1 S') : Run P nb d all (o :: os) S S'
 | bar {o os S S1 S'} (hb : barD all o.dst = true) (hk : KeepT o.dst S.1 S1.1) (h : T P nb false all o S S1) (h' : Run P nb d all os S1 S') : Run P nb d all (o :: os) S S'
 | mid {o os id S S1 S'} (hm : memD P all o.dst = true) (h : MidT P nb all o id S S1) (h' : Run P nb d all os S1 S') : Run P nb d all (o :: os) S S'
theorem MidT.t {P : Program} {nb : Nat} {all : List Oper} {o : Oper} {id : Nat} {S S1 : St} (h : MidT P nb all o id S S1) : T P nb false all o S S1 := by
 obtain ⟨fo, args, tys, f, as, r, hp1, x, l, h1, h2, h3, h4, h5, h6, h7, h8⟩ := h.ex
 obtain ⟨tm, hp⟩ := S
 subst h8
 exact T.callF (tm := tm) (hp := hp) rfl h1 h2 h3 h6 h7
theorem T.sim {P : Program} {nb : Nat} {d : Bool} {ops : Array Oper} {i : Nat} {o : Oper} {S S' : St} (ho : ops[i]? = some o) (hok : okOper o = true) (h : T P nb d ops.toList o S S') : SimN P nb ops i S.1 S.2 S'.1 S'.2 := by
 cases h with
 | op hw hc => exact (sim_op ho hok hw hc).toN
 | skip hw => exact (sim_skip ho hw).toN
 | call hw hop hcal hn hA => exact (sim_call ho hop hok hw hcal hn hA).toN
 | callF hd hw hop hcal hfc hA => exact (sim_callF ho hop hok hw hcal hfc hA).toN
 | callO hw hop hcal hn hA => exact (sim_callO ho hop hok hw hcal hn hA).toN
 | callB hd hw hop hcal hn hA => exact (sim_callB ho hop hok hw hcal hn hA).toN
 | opx hd hw hs => exact sim_opx ho hw fun g a w hL hr hn => hs o.guard g a w hL hr hn
section
variable {P : Program} {nb : Nat} {R : Rt} {k : List Item}
theorem W0.run {d : Bool} {ops : Array Oper} (hok : ∀ o, o ∈ ops.toList → okOper o = true) {is : List Nat} {os : List Oper} (his : is.map (fun i => ops[i]?) = os.map some) {S S' : St} (h : Run P nb d ops.toList os S S') (hk : W0 P nb R k S'.1 S'.2) : W0 P nb R (.inRegion ops is :: k) S.1 S.2 := by
 induction h generalizing is with
 | nil =>
  have : is = [] := by simpa using his
  subst this
  exact W0.regionEnd hk
 | cons h h' ih =>
  cases is with
  | nil => simp at his
  | cons i is =>
   simp only [List.map_cons, List.cons.injEq] at his
   exact W0.simN (h.sim his.1 (hok _ (by simpa using Array.mem_of_getElem? his.1))) (ih his.2 hk)
 | bar hb hkp h h' ih =>
  cases is with
  | nil => simp at his
  | cons i is =>
   simp only [List.map_cons, List.cons.injEq] at his
   exact W0.simN (h.sim his.1 (hok _ (by simpa using Array.mem_of_getElem? his.1))) (ih his.2 hk)
 | mid hm h h' ih =>
  cases is with
  | nil => simp at his
  | cons i is =>
   simp only [List.map_cons, List.cons.injEq] at his
   exact W0.simN (h.t.sim his.1 (hok _ (by simpa using Array.mem_of_getElem? his.1))) (ih his.2 hk)
theorem W0.regionLex {d : Bool} {id : Nat} {ops : Array Oper} (hok : ∀ o, o ∈ ops.toList → okOper o = true) {S S' : St} (h : Run P nb d ops.toList ops.toList S S') (hk : W0 P nb R k S'.1 S'.2) : W0 P nb R (.code (.region id ops false) :: k) S.1 S.2 := by
 refine W0.region (W0.run hok ?_ h hk)
 apply List.ext_getElem?
 intro j
 simp only [List.getElem?_map]
 by_cases hj : j < ops.size
 ·simp [List.getElem?_range hj, hj]
 ·simp [hj]
end
end Go.Av

namespace Go.Av
open Go
variable [Lay]
def tmpOf : Operand → List Nat
 | .tmp t => [t]
 | _ => []
def rdT (o : Oper) : List Nat := o.op.operands.toList.flatMap tmpOf
def xT (all : List Oper) (o : Oper) : List Nat :=
 match o.op with
 | .move x => bif stolen all o.dst then tmpOf x else []
 | .assign x => tmpOf x
 | .store _ _ y => tmpOf y
 | .call { callee := .builtin .append, args, .. } => args.toList.flatMap tmpOf
 | _ => []
def rdH (o : Oper) : Bool :=
 match o.op with
 | .load _ _ | .store _ _ _ | .alloc _ | .box _ _ => true
 | _ => false
def wrH (all : List Oper) (o : Oper) : Bool :=
 match o.op with
 | .load _ _ => stolen all o.dst
 | .store _ _ _ | .alloc _ | .box _ _ => true
 | _ => false
structure Fr (P : Program) (all : List Oper) (o : Oper) (tm : List AV) (hp : Heap) (tm2 : List AV) (hp2 : Heap) : Prop where
 c : (opM P all o tm hp).c = (opM P all o tm2 hp2).c
 v : (opM P all o tm hp).v = (opM P all o tm2 hp2).v
 inn : ∀ t, t ∈ xT all o → lget (opM P all o tm hp).tm t = lget (opM P all o tm2 hp2).tm t
 out : ∀ t, t ∉ xT all o → lget (opM P all o tm hp).tm t = lget tm t
 len : (opM P all o tm hp).tm.length = tm.length
 hout : wrH all o = false → (opM P all o tm hp).hp = hp
 hin : rdH o = true → (opM P all o tm hp).hp = (opM P all o tm2 hp2).hp
theorem lset_len (l : List AV) (n : Nat) (v : AV) : (lset l n v).length = l.length := by simp [lset_eq]
theorem lget_lset_ne {l : List AV} {n m : Nat} {v : AV} (h : n ≠ m) : lget (lset l n v) m = lget l m := by simp [lget_eq, lset_eq, List.getD_eq_getElem?_getD, List.getElem?_set_ne h]
theorem lget_lset_eq {l : List AV} {n : Nat} {v : AV} : lget (lset l n v) n = if n < l.length then v else .any := by
  simp [lget_eq, lset_eq, List.getD_eq_getElem?_getD, List.getElem?_set]
  split <;> simp_all
theorem put_len (l : List AV) (d : Option Nat) (v : AV) : (put l d v).length = l.length := by cases d <;> simp [put, lset_len]
theorem lget_put_ne {l : List AV} {d : Option Nat} {m : Nat} {v : AV} (h : d ≠ some m) : lget (put l d v) m = lget l m := by
 cases d with
 | none => rfl
 | some d => exact lget_lset_ne (by simpa using h)
theorem lget_put_eq {l l2 : List AV} {d : Option Nat} {m : Nat} {v : AV} (h : d = some m) (hl : l.length = l2.length) : lget (put l d v) m = lget (put l2 d v) m := by
 subst h; simp [put, lget_lset_eq, hl]
section
variable {P : Program} {all : List Oper} {tm tm2 : List AV} {hp hp2 : Heap}
theorem opv_congr {x : Operand} (h : ∀ t, t ∈ tmpOf x → lget tm t = lget tm2 t) : opv tm x = opv tm2 x := by
 cases x with
 | tmp t => exact h t (by simp [tmpOf])
 | _ => rfl
theorem allOp_congr {xs : Array Operand} (h : ∀ x, x ∈ xs → opv tm x = opv tm2 x) : allOp tm xs = allOp tm2 xs := by
 unfold allOp
 exact List.map_congr_left fun x hx => h x (by simpa using hx)
theorem partsOf_congr {t : TypeId} {l : List (Nat × Operand)} (h : ∀ p, p ∈ l → opv tm p.2 = opv tm2 p.2) : partsOf P t tm l = partsOf P t tm2 l := by
 induction l with
 | nil => rfl
 | cons p l ih => obtain ⟨i, x⟩ := p; simp only [partsOf, ih fun p hp => h p (by simp [hp]), h (i, x) (by simp)]
theorem elemsOf_congr {i : Nat} {l : List (Nat × Operand)} (h : ∀ p, p ∈ l → opv tm p.2 = opv tm2 p.2) : elemsOf tm i l = elemsOf tm2 i l := by
 induction l generalizing i with
 | nil => rfl
 | cons p l ih => obtain ⟨j, x⟩ := p; simp only [elemsOf, ih fun p hp => h p (by simp [hp]), h (j, x) (by simp)]
theorem lowOf_congr {x : Option Operand} (h : ∀ y, x = some y → opv tm y = opv tm2 y) : lowOf tm x = lowOf tm2 x := by
 cases x with
 | none => rfl
 | some y => simp only [lowOf, h y rfl]
theorem highOf_congr {n : Nat} {x : Option Operand} (h : ∀ y, x = some y → opv tm y = opv tm2 y) : highOf tm n x = highOf tm2 n x := by
 cases x with
 | none => rfl
 | some y => simp only [highOf, h y rfl]
theorem Fr.calm {o : Oper} (h1 : (opM P all o tm hp).c = (opM P all o tm2 hp2).c ∧ (opM P all o tm hp).v = (opM P all o tm2 hp2).v ∧ (opM P all o tm hp).tm = tm ∧ (opM P all o tm hp).hp = hp) (hx : xT all o = []) (hr : rdH o = false) : Fr P all o tm hp tm2 hp2 :=
 ⟨h1.1, h1.2.1, fun t ht => by simp [hx] at ht, fun t _ => by rw [h1.2.2.1], by rw [h1.2.2.1], fun _ => h1.2.2.2, fun h => by simp [hr] at h⟩
theorem mvT_out {d : Option Nat} {x : Operand} {t : Nat} (h : t ∉ (bif stolen all d then tmpOf x else [])) : lget (mvT all d tm x) t = lget tm t := by
 unfold mvT
 split
 ·rename_i t'
  split
  ·cases hs : stolen all d with
   | false => rfl
   | true => simp [hs, tmpOf] at h; exact lget_lset_ne (by simp; omega)
  ·rfl
 ·rfl
theorem asT_out {x : Operand} {t : Nat} (h : t ∉ tmpOf x) : lget (asT tm x) t = lget tm t := by
 unfold asT
 split
 ·rename_i t'
  split
  ·simp [tmpOf] at h; exact lget_lset_ne (by omega)
  ·rfl
 ·rfl
theorem mvT_len {d : Option Nat} {x : Operand} : (mvT all d tm x).length = tm.length := by
  unfold mvT; split
  · split
    · cases stolen all d <;> simp [lset_len]
    · rfl
  · rfl
theorem asT_len {x : Operand} : (asT tm x).length = tm.length := by
  unfold asT; split
  · split <;> simp [lset_len]
  · rfl
theorem killT_len {x : Operand} : (killT x tm).length = tm.length := by
  unfold killT; split <;> simp [lset_len]
theorem mvT_in {d : Option Nat} {x : Operand} {t : Nat} (hl : tm.length = tm2.length) (hx : ∀ t, t ∈ tmpOf x → lget tm t = lget tm2 t) (h : t ∈ tmpOf x) : lget (mvT all d tm x) t = lget (mvT all d tm2 x) t := by
  cases x with
  | tmp t' =>
    have ht : t = t' := by simpa [tmpOf] using h
    subst ht
    have e := hx t (by simp [tmpOf])
    simp only [mvT, e]
    split
    · cases stolen all d <;> simp [lget_lset_eq, hl, e]
    · exact e
  | _ => simp [tmpOf] at h
theorem asT_in {x : Operand} {t : Nat} (hl : tm.length = tm2.length) (hx : ∀ t, t ∈ tmpOf x → lget tm t = lget tm2 t) (h : t ∈ tmpOf x) : lget (asT tm x) t = lget (asT tm2 x) t := by
 cases x with
 | tmp t' =>
  have ht : t = t' := by simpa [tmpOf] using h
  subst ht
  have e := hx t (by simp [tmpOf])
  simp only [asT, e]
  split
  ·simp [lget_lset_eq, hl]
  ·exact e
 | _ => simp [tmpOf] at h
theorem bif_nil {c : Bool} {l : List Nat} : (bif c then l else []) = if c = true then l else [] := by cases c <;> rfl
theorem opM_frame {o : Oper} (hl : tm.length = tm2.length) (hR : ∀ t, t ∈ rdT o → lget tm t = lget tm2 t) (hH : rdH o = true → hp = hp2) : Fr P all o tm hp tm2 hp2 := by
  obtain ⟨dst, op, ty, pos, after, gd⟩ := o
  have hx : ∀ x, x ∈ op.operands → ∀ t, t ∈ tmpOf x → lget tm t = lget tm2 t := fun x hx t ht => hR t (List.mem_flatMap.2 ⟨x, by simpa using hx, ht⟩)
  have e : ∀ x, x ∈ op.operands → opv tm x = opv tm2 x := fun x h => opv_congr (hx x h)
  cases op with
  | move x =>
    have hx' := hx x (by simp [Op.operands])
    have e' := e x (by simp [Op.operands])
    refine ⟨rfl, by simp only [opM, e'], fun t ht => ?_, fun t ht => mvT_out ht, mvT_len, fun _ => rfl, fun h => by simp [rdH] at h⟩
    refine mvT_in hl hx' ?_
    simp only [xT, bif_nil] at ht
    split at ht <;> simp_all
  | assign x =>
    have hx' := hx x (by simp [Op.operands])
    have e' := e x (by simp [Op.operands])
    exact ⟨rfl, by simp only [opM, e'], fun t ht => asT_in hl hx' ht, fun t ht => asT_out ht, asT_len, fun _ => rfl, fun h => by simp [rdH] at h⟩
  | pick c x y =>
    refine Fr.calm ?_ rfl rfl
    simp only [opM, e c (by simp [Op.operands]), e x (by simp [Op.operands]), e y (by simp [Op.operands]), and_self]
  | alloc t =>
    have := hH rfl
    subst this
    refine ⟨?_, ?_, fun t ht => by simp [xT] at ht, fun t ht => ?_, ?_, fun h => by simp [wrH] at h, fun _ => ?_⟩ <;> (simp only [opM]; split <;> rfl)
  | box t x =>
    have := hH rfl
    subst this
    have e' := e x (by simp [Op.operands])
    refine ⟨?_, ?_, fun t ht => by simp [xT] at ht, fun t ht => ?_, ?_, fun h => by simp [wrH] at h, fun _ => ?_⟩ <;> simp only [opM, e']
  | build t ps =>
    refine Fr.calm ?_ rfl rfl
    have e' : partsOf P t tm ps.toList = partsOf P t tm2 ps.toList := partsOf_congr fun p hp => e p.2 (by simp only [Op.operands]; exact List.mem_toArray.2 (List.mem_map.2 ⟨p, hp, rfl⟩))
    simp only [opM, e']
    split <;> simp
  | buildSlice t n ps =>
    refine Fr.calm ?_ rfl rfl
    have e' : elemsOf tm 0 ps.toList = elemsOf tm2 0 ps.toList := elemsOf_congr fun p hp => e p.2 (by simp only [Op.operands]; exact List.mem_toArray.2 (List.mem_map.2 ⟨p, hp, rfl⟩))
    simp only [opM, e']
    split <;> simp
  | load t x =>
    have := hH rfl
    subst this
    have e' := e x (by simp [Op.operands])
    refine ⟨by simp only [opM, e']; split <;> rfl, by simp only [opM, e']; split <;> rfl, fun t ht => by simp [xT] at ht, fun t ht => ?_, ?_, fun h => ?_, fun _ => by simp only [opM, e']; split <;> rfl⟩
    · simp only [opM]; split <;> rfl
    · simp only [opM]; split <;> rfl
    · simp only [wrH] at h
      simp only [opM]; split <;> first | rfl | (simp only [mvH, h]; split <;> rfl)
  | store t x y =>
    have := hH rfl
    subst this
    have e' := e x (by simp [Op.operands])
    have e2 := e y (by simp [Op.operands])
    have hy := hx y (by simp [Op.operands])
    refine ⟨by simp only [opM, e', e2]; split <;> rfl, by simp only [opM, e', e2]; split <;> rfl, fun t' ht => ?_, fun t' ht => ?_, ?_, fun h => by simp [wrH] at h, fun _ => by simp only [opM, e', e2]; split <;> rfl⟩
    · simp only [opM, e', e2]
      split
      · exact asT_in hl hy ht
      · exact hy t' ht
    · simp only [opM]
      split
      · exact asT_out ht
      · rfl
    · simp only [opM]
      split
      · exact asT_len
      · rfl
  | nilCheck x =>
    refine Fr.calm ?_ rfl rfl
    have e' := e x (by simp [Op.operands])
    simp only [opM, e']
    split <;> (try split) <;> simp
  | binOp op t x y t2 =>
    refine Fr.calm ?_ rfl rfl
    simp only [opM, e x (by simp [Op.operands]), e y (by simp [Op.operands]), and_self]
  | unOp op t x =>
    refine Fr.calm ?_ rfl rfl
    simp only [opM, e x (by simp [Op.operands]), and_self]
  | convert s d x =>
    refine Fr.calm ?_ rfl rfl
    simp only [opM, e x (by simp [Op.operands]), and_self]
  | makeInterface t x =>
    refine Fr.calm ?_ rfl rfl
    simp only [opM, e x (by simp [Op.operands]), and_self]
  | makeFunc f l1 l2 =>
    refine Fr.calm ?_ rfl rfl
    have e1 : allOp tm l1 = allOp tm2 l1 := allOp_congr fun x hx => e x (by simp [Op.operands, hx])
    have e2 : allOp tm l2 = allOp tm2 l2 := allOp_congr fun x hx => e x (by simp [Op.operands, hx])
    simp only [opM, e1, e2, and_self]
  | slice t x lo hi mx =>
    refine Fr.calm ?_ rfl rfl
    have e' := e x (by simp [Op.operands])
    have e1 : lowOf tm lo = lowOf tm2 lo := lowOf_congr fun z h => e z (by subst h; simp [Op.operands])
    have e2 : ∀ n, highOf tm n hi = highOf tm2 n hi := fun n => highOf_congr fun z h => e z (by subst h; simp [Op.operands])
    have e3 : ∀ n, highOf tm n mx = highOf tm2 n mx := fun n => highOf_congr fun z h => e z (by subst h; simp [Op.operands])
    cases mx with
    | none =>
      simp only [opM, e', e1, e2]
      split <;> (try split) <;> simp
    | some m =>
      cases hi with
      | none => simp [opM]
      | some hi =>
        simp only [opM, e', e1, e2, e3]
        split <;> (try split) <;> simp
  | fieldAddr t x f =>
    refine Fr.calm ?_ rfl rfl
    simp only [opM, e x (by simp [Op.operands])]
    split <;> simp
  | field t x f =>
    refine Fr.calm ?_ rfl rfl
    simp only [opM, e x (by simp [Op.operands])]
    split <;> simp
  | indexAddr t x i =>
    refine Fr.calm ?_ rfl rfl
    simp only [opM, e x (by simp [Op.operands]), e i (by simp [Op.operands])]
    split
    · simp
    · split <;> simp
  | index t x i =>
    refine Fr.calm ?_ rfl rfl
    simp only [opM, e x (by simp [Op.operands]), e i (by simp [Op.operands])]
    split <;> simp
  | extract x i =>
    refine Fr.calm ?_ rfl rfl
    simp only [opM, e x (by simp [Op.operands]), and_self]
  | call c =>
    obtain ⟨callee, args, argTypes⟩ := c
    cases callee with
    | value f => exact Fr.calm ⟨rfl, rfl, rfl, rfl⟩ rfl rfl
    | invoke r m => exact Fr.calm ⟨rfl, rfl, rfl, rfl⟩ rfl rfl
    | builtin b =>
      have ha : ∀ x, x ∈ args.toList → opv tm x = opv tm2 x := fun x hx => e x (by simp [Op.operands, Call.operands]; simpa using hx)
      have hxa : ∀ x, x ∈ args.toList → ∀ t, t ∈ tmpOf x → lget tm t = lget tm2 t := fun x h => hx x (by simp [Op.operands, Call.operands]; simpa using h)
      by_cases hap : b = .append
      · subst hap
        have hk : ∀ (x : Operand) t, t ∈ tmpOf x → lget (killT x tm) t = lget (killT x tm2) t := fun x t ht => by
          cases x with
          | tmp t' => simp only [killT, lget_lset_eq, hl]; simp [tmpOf] at ht; subst ht; simp [lget_lset_eq, hl]
          | _ => simp [tmpOf] at ht
        have hk2 : ∀ (x : Operand) (tm : List AV) t, t ∉ tmpOf x → lget (killT x tm) t = lget tm t := fun x tm t ht => by
          cases x with
          | tmp t' => exact lget_lset_ne (by simp [tmpOf] at ht; omega)
          | _ => rfl
        have hk3 : ∀ (x y : Operand) t, t ∈ tmpOf x ++ tmpOf y → opv tm x = opv tm2 x → (∀ t, t ∈ tmpOf y → lget tm t = lget tm2 t) → lget (killT x tm) t = lget (killT x tm2) t := fun x y t ht h1 h2 => by
          by_cases h : t ∈ tmpOf x
          · exact hk x t h
          · rw [hk2 x tm t h, hk2 x tm2 t h]; exact h2 t (by simpa [h] using ht)
        have hxt : xT all ⟨dst, .call { callee := .builtin .append, args, argTypes }, ty, pos, after, gd⟩ = args.toList.flatMap tmpOf := rfl
        have hin : ∀ t, t ∈ args.toList.flatMap tmpOf → lget tm t = lget tm2 t := fun t ht => by
          obtain ⟨x, h1, h2⟩ := List.mem_flatMap.1 ht
          exact hxa x h1 t h2
        by_cases hsh : ∃ x y t t2 r, args.toList = [x, y] ∧ argTypes.toList = t :: t2 :: r
        · obtain ⟨x, y, t, t2, r, e1, e2⟩ := hsh
          have ex := ha x (by rw [e1]; simp)
          have ey := ha y (by rw [e1]; simp)
          have hxt' : ∀ t, t ∈ args.toList.flatMap tmpOf ↔ t ∈ tmpOf x ∨ t ∈ tmpOf y := fun t => by rw [e1]; simp
          cases he : elOf P t with
          | none =>
            have h1 : ∀ tm hp, opM P all ⟨dst, .call { callee := .builtin .append, args, argTypes }, ty, pos, after, gd⟩ tm hp = ⟨some False, .any, tm, hp⟩ := fun tm hp => by simp only [opM, e1, e2, he]
            refine ⟨by rw [h1, h1], by rw [h1, h1], fun t ht => by rw [h1, h1]; exact hin t ht, fun t ht => by rw [h1], by rw [h1], fun _ => by rw [h1], fun h => by simp [rdH] at h⟩
          | some el =>
            have h1 : ∀ tm hp, opM P all ⟨dst, .call { callee := .builtin .append, args, argTypes }, ty, pos, after, gd⟩ tm hp = ⟨bif kindOf P t2 == 1 || kindOf P t2 == 2 then some (appc el (opv tm x) (opv tm y)) else some False, appv (opv tm x) (opv tm y), killT x tm, hp⟩ := fun tm hp => by simp only [opM, e1, e2, he]
            refine ⟨by rw [h1, h1, ex, ey], by rw [h1, h1, ex, ey], fun t ht => ?_, fun t ht => ?_, by rw [h1]; exact killT_len, fun _ => by rw [h1], fun h => by simp [rdH] at h⟩
            · rw [h1, h1]
              exact hk3 x y t (by simpa using (hxt' t).1 ht) ex (hxa y (by rw [e1]; simp))
            · rw [h1]
              rw [hxt, hxt' t] at ht
              exact hk2 x tm t (fun h => ht (.inl h))
        · have h1 : ∀ tm hp, opM P all ⟨dst, .call { callee := .builtin .append, args, argTypes }, ty, pos, after, gd⟩ tm hp = ⟨some False, .any, tm, hp⟩ := fun tm hp => by
            simp only [opM]
            split
            · contradiction
            · rename_i e1 e2; exact absurd ⟨_, _, _, _, _, e1, e2⟩ hsh
            all_goals first | rfl | contradiction
          refine ⟨by rw [h1, h1], by rw [h1, h1], fun t ht => by rw [h1, h1]; exact hin t ht, fun t ht => by rw [h1], by rw [h1], fun _ => by rw [h1], fun h => by simp [rdH] at h⟩
      · have hxt : xT all ⟨dst, .call { callee := .builtin b, args, argTypes }, ty, pos, after, gd⟩ = [] := by
          cases b <;> first | rfl | exact absurd rfl hap
        refine Fr.calm ?_ hxt rfl
        simp only [opM]
        split
        · rename_i x t e1 e2
          simp only [ha x (by rw [e1]; simp), and_self]
        · exact absurd rfl hap
        · rename_i x y e1
          simp only [ha x (by rw [e1]; simp), ha y (by rw [e1]; simp), and_self]
        · rename_i x y e1
          simp only [ha x (by rw [e1]; simp), ha y (by rw [e1]; simp), and_self]
        · simp
  | _ => exact Fr.calm ⟨rfl, rfl, rfl, rfl⟩ rfl rfl
end
end Go.Av

namespace Go.Av
open Go
variable [Lay]
def gT (all : List Oper) (o : Oper) : List Nat :=
 match o.guard with
 | some (j, _) => (gslot all j).toList
 | none => []
def rdA (all : List Oper) (o : Oper) : List Nat := rdT o ++ gT all o
def wrA (all : List Oper) (o : Oper) : List Nat := o.dst.toList ++ xT all o
def apart (xs ys : List Nat) : Bool := xs.all fun x => ys.all fun y => x != y
theorem apart_spec {xs ys : List Nat} (h : apart xs ys = true) {t : Nat} (h1 : t ∈ xs) (h2 : t ∈ ys) : False := by
 simp only [apart, List.all_eq_true] at h
 simpa using h t h1 t h2
def isLd (o : Oper) : Bool := match o.op with
 | .load _ _ => true
 | _ => false
def isAl (o : Oper) : Bool := match o.op with
 | .alloc _ | .box _ _ => true
 | _ => false
def ldP (all : List Oper) (o : Oper) : Bool := isLd o && !stolen all o.dst
def ldS (all : List Oper) (o : Oper) : Bool := isLd o && stolen all o.dst
def indep (all : List Oper) (a b : Oper) : Bool :=
 apart (wrA all a) (rdA all b) && apart (wrA all b) (rdA all a) && apart (wrA all a) (wrA all b) && ((!(wrH all a && rdH b) && !(wrH all b && rdH a)) || (ldP all a && ldS all b) || (ldS all a && ldP all b) || (isLd a && isAl b))
theorem wrH_rdH {all : List Oper} {o : Oper} (h : wrH all o = true) : rdH o = true := by
  unfold wrH at h; unfold rdH
  split at h <;> simp_all
section
variable {P : Program} {nb : Nat} {all : List Oper} {o : Oper}
theorem lget_ext {l l2 : List AV} (hl : l.length = l2.length) (h : ∀ t, lget l t = lget l2 t) : l = l2 := by
 apply List.ext_getElem hl
 intro i h1 h2
 have := h i
 rw [lget_eq, lget_eq] at this
 simpa [List.getD_eq_getElem?_getD, h1, h2] using this
theorem T.out {S S1 : St} (h : T P nb true all o S S1) : S1.1.length = S.1.length ∧ (∀ t, t ∉ wrA all o → lget S1.1 t = lget S.1 t) ∧ (wrH all o = false → S1.2 = S.2) := by
 cases h with
 | @op tm hp hw hc =>
  have hf := opM_frame (P := P) (all := all) (o := o) (tm := tm) (tm2 := tm) (hp := hp) (hp2 := hp) rfl (fun _ _ => rfl) (fun _ => rfl)
  refine ⟨by simp only [put_len, hf.len], fun t ht => ?_, hf.hout⟩
  simp only [wrA, List.mem_append, not_or, Option.mem_toList] at ht
  rw [lget_put_ne ht.1, hf.out t ht.2]
 | skip hw =>
  refine ⟨by simp only [put_len], fun t ht => ?_, fun _ => rfl⟩
  simp only [wrA, List.mem_append, not_or, Option.mem_toList] at ht
  rw [lget_put_ne ht.1]
 | call hw hop hcal hn hA =>
  refine ⟨by simp only [put_len], fun t ht => ?_, fun _ => rfl⟩
  simp only [wrA, List.mem_append, not_or, Option.mem_toList] at ht
  rw [lget_put_ne ht.1]
 | callF hd hw hop hcal hfc hA => cases hd
 | callB hd hw hop hcal hn hA => cases hd
 | callO hw hop hcal hn hA =>
  refine ⟨by simp only [put_len], fun t ht => ?_, fun _ => rfl⟩
  simp only [wrA, List.mem_append, not_or, Option.mem_toList] at ht
  rw [lget_put_ne ht.1]
 | opx hd hw hs => cases hd
theorem T.frame {S S1 S2 : St} (h : T P nb true all o S S1) (hl : S.1.length = S2.1.length) (hR : ∀ t, t ∈ rdA all o → lget S.1 t = lget S2.1 t) (hH : rdH o = true → S.2 = S2.2) :
    ∃ S3, T P nb true all o S2 S3 ∧ (∀ t, t ∈ wrA all o → lget S1.1 t = lget S3.1 t) ∧ (wrH all o = true → S3.2 = S1.2) := by
  have hg : ∀ t, t ∈ gT all o → lget S.1 t = lget S2.1 t := fun t ht => hR t (by simp [rdA, ht])
  have hwant : ∀ {tm tm2 : List AV}, (∀ t, t ∈ gT all o → lget tm t = lget tm2 t) → Wanted all o tm → Wanted all o tm2 := by
    intro tm tm2 hg hw
    unfold Wanted at *
    cases e : o.guard with
    | none => trivial
    | some p =>
      rw [e] at hw
      obtain ⟨t, h1, h2⟩ := hw
      exact ⟨t, h1, by rw [← hg t (by simp [gT, e, h1])]; exact h2⟩
  have hunw : ∀ {tm tm2 : List AV}, (∀ t, t ∈ gT all o → lget tm t = lget tm2 t) → Unwanted all o tm → Unwanted all o tm2 := by
    intro tm tm2 hg hw
    unfold Unwanted at *
    cases e : o.guard with
    | none => rw [e] at hw; exact hw.elim
    | some p =>
      rw [e] at hw
      obtain ⟨t, h1, h2⟩ := hw
      exact ⟨t, h1, by rw [← hg t (by simp [gT, e, h1])]; exact h2⟩
  obtain ⟨tm2, hp2⟩ := S2
  cases h with
  | @op tm hp hw hc =>
    have hf := opM_frame (P := P) (all := all) (o := o) (tm := tm) (tm2 := tm2) (hp := hp) (hp2 := hp2) hl (fun t ht => hR t (by simp [rdA, ht])) hH
    refine ⟨_, .op (hwant hg hw) (fun c h => hc c (by rw [hf.c]; exact h)), fun t ht => ?_, fun h => ?_⟩
    · dsimp only
      have hf2 := opM_frame (P := P) (all := all) (o := o) (tm := tm2) (tm2 := tm2) (hp := hp2) (hp2 := hp2) rfl (fun _ _ => rfl) (fun _ => rfl)
      rw [hf.v]
      by_cases hd : o.dst = some t
      · exact lget_put_eq hd (by rw [hf.len, hf2.len]; exact hl)
      · rw [lget_put_ne hd, lget_put_ne hd]
        simp only [wrA, List.mem_append, Option.mem_toList, hd, false_or] at ht
        exact hf.inn t ht
    · exact (hf.hin (wrH_rdH h)).symm
  | @skip tm hp hw =>
    refine ⟨_, .skip (hunw hg hw), fun t ht => ?_, fun h => (hH (wrH_rdH h)).symm⟩
    dsimp only
    by_cases hd : o.dst = some t
    · exact lget_put_eq hd hl
    · rw [lget_put_ne hd, lget_put_ne hd]
      simp only [wrA, List.mem_append, Option.mem_toList, hd, false_or] at ht
      have hx : t ∈ rdT o := by
        unfold xT at ht; unfold rdT
        split at ht
        · rename_i x e; rw [e]; simp only [Op.operands]; rw [bif_nil] at ht; split at ht <;> simp_all
        · rename_i x e; rw [e]; simp [Op.operands]; exact ht
        · rename_i x y z e; rw [e]; simp [Op.operands]; exact .inr ht
        · rename_i args e e2; rw [e2]; simp [Op.operands, Call.operands] at ht ⊢; exact ht
        · simp at ht
      exact hR t (by simp [rdA, hx])
  | @call tm hp fo args tys f as r hw hop hcal hn hA =>
    have hR' : ∀ x, x ∈ o.op.operands → opv tm x = opv tm2 x := fun x hx => opv_congr fun t ht => hR t (by simp only [rdA, List.mem_append]; exact .inl (List.mem_flatMap.2 ⟨x, by simpa using hx, ht⟩))
    rw [hop] at hR'
    have e1 : opv tm fo = opv tm2 fo := hR' fo (by simp [Op.operands, Call.operands])
    have e2 : allOp tm args = allOp tm2 args := allOp_congr fun x hx => hR' x (by simp [Op.operands, Call.operands]; exact .inr hx)
    refine ⟨_, .call (hwant hg hw) hop (by rw [← e1, ← e2]; exact hcal) hn hA, fun t ht => ?_, fun h => (hH (wrH_rdH h)).symm⟩
    dsimp only
    by_cases hd : o.dst = some t
    · exact lget_put_eq hd hl
    · simp only [wrA, List.mem_append, Option.mem_toList, hd, false_or, xT, hop] at ht
      simp at ht
  | callF hd hw hop hcal hfc hA => cases hd
  | callB hd hw hop hcal hn hA => cases hd
  | @callO tm hp fo args tys f as r hw hop hcal hn hA =>
    have hR' : ∀ x, x ∈ o.op.operands → opv tm x = opv tm2 x := fun x hx => opv_congr fun t ht => hR t (by simp only [rdA, List.mem_append]; exact .inl (List.mem_flatMap.2 ⟨x, by simpa using hx, ht⟩))
    rw [hop] at hR'
    have e1 : opv tm fo = opv tm2 fo := hR' fo (by simp [Op.operands, Call.operands])
    have e2 : allOp tm args = allOp tm2 args := allOp_congr fun x hx => hR' x (by simp [Op.operands, Call.operands]; exact .inr hx)
    refine ⟨_, .callO (hwant hg hw) hop (by rw [← e1, ← e2]; exact hcal) hn hA, fun t ht => ?_, fun h => (hH (wrH_rdH h)).symm⟩
    dsimp only
    by_cases hd : o.dst = some t
    · exact lget_put_eq hd hl
    · simp only [wrA, List.mem_append, Option.mem_toList, hd, false_or, xT, hop] at ht
      simp at ht
  | opx hd hw hs => cases hd
def unE (h h2 : Heap) : Prop := ∀ id, (hget h id).map un = (hget h2 id).map un
theorem fix_un (x : AV) : fix x = un x := by cases x <;> rfl
theorem mvV_un {d : Option Nat} (hs : stolen all d = false) (x : AV) : mvV all d x = un x := by
  cases x with
  | sl o l => cases o <;> simp [mvV, un, hs]
  | _ => rfl
theorem unE.len {h h2 : Heap} (he : unE h h2) (id : Nat) : (hget h id).length = (hget h2 id).length := by
 have := congrArg List.length (he id); simpa using this
theorem unE.get {h h2 : Heap} (he : unE h h2) (id off : Nat) : un (lget (hget h id) off) = un (lget (hget h2 id) off) := by
  have h0 : ∀ (l : List AV), un (lget l off) = lget (l.map un) off := fun l => by
    rw [lget_eq, lget_eq]
    simp only [List.getD_eq_getElem?_getD, List.getElem?_map]
    cases l[off]? <;> rfl
  rw [h0, h0, he id]
theorem unE.cut {h h2 : Heap} (he : unE h h2) (id off sz : Nat) : (ltake sz (ldrop off (hget h id))).map fix = (ltake sz (ldrop off (hget h2 id))).map fix := by
 have e : ∀ l : List AV, (ltake sz (ldrop off l)).map fix = ((l.map un).drop off).take sz := fun l => by
  rw [ltake_eq, ldrop_eq, show fix = un from funext fix_un]
  simp [List.map_take, List.map_drop]
 rw [e, e, he id]
theorem T.heapP {tm : List AV} {hp hp2 : Heap} {S1 : St} (ho : ldP all o = true) (h : T P nb true all o (tm, hp) S1) (he : unE hp hp2) : T P nb true all o (tm, hp2) (S1.1, hp2) := by
  simp only [ldP, Bool.and_eq_true, Bool.not_eq_true'] at ho
  obtain ⟨ho1, ho2⟩ := ho
  obtain ⟨dst, op, ty, pos, after, gd⟩ := o
  cases op with
  | load t x =>
    cases h with
    | @op _ _ hw hc =>
      have e1 : (opM P all ⟨dst, .load t x, ty, pos, after, gd⟩ tm hp).c = (opM P all ⟨dst, .load t x, ty, pos, after, gd⟩ tm hp2).c := by
        simp only [opM]; split <;> simp only [he.len]
      have e2 : (opM P all ⟨dst, .load t x, ty, pos, after, gd⟩ tm hp).v = (opM P all ⟨dst, .load t x, ty, pos, after, gd⟩ tm hp2).v := by
        simp only [opM]; split
        · simp only [he.cut]
        · dsimp only at ho2; rw [mvV_un ho2, mvV_un ho2, he.get]
        · rfl
        · rfl
        · rfl
      have e3 : ∀ h, (opM P all ⟨dst, .load t x, ty, pos, after, gd⟩ tm h).tm = tm := fun h => by simp only [opM]; split <;> rfl
      have e4 : ∀ h, (opM P all ⟨dst, .load t x, ty, pos, after, gd⟩ tm h).hp = h := fun h => by
        dsimp only at ho2
        simp only [opM]; split <;> first | rfl | (simp only [mvH, ho2]; split <;> rfl)
      have := T.op (P := P) (nb := nb) (d := true) (all := all) (o := ⟨dst, .load t x, ty, pos, after, gd⟩) (tm := tm) (hp := hp2) hw (fun c h => hc c (by rw [e1]; exact h))
      rw [e3, ← e2, e4] at this
      rw [e3]
      exact this
    | skip hw => exact .skip hw
    | call hw hop hcal hn hA => cases hop
    | callF hd hw hop hcal hfc hA => cases hd
    | callB hd hw hop hcal hn hA => cases hd
    | callO hw hop hcal hn hA => cases hop
    | opx hd hw hs => cases hd
  | _ => simp [isLd] at ho1
theorem unE.refl (h : Heap) : unE h h := fun _ => rfl
theorem unE.symm {h h2 : Heap} (he : unE h h2) : unE h2 h := fun id => (he id).symm
theorem hget_hset_un {h : Heap} {id off : Nat} {l : List AV} {oe : Option ETy} (hl : lget (hget h id) off = .sl (some oe) l) : unE h (hset h id (lset (hget h id) off (.sl none l))) := by
  intro i
  have hset' : ∀ (h : Heap) (id i : Nat) (cs : List AV), hget (hset h id cs) i = hget h i ∨ (i = id ∧ id < h.length ∧ hget (hset h id cs) i = cs) := by
    intro h
    induction h with
    | nil => intro id i cs; left; rfl
    | cons a h ih =>
      intro id i cs
      cases id with
      | zero =>
        cases i with
        | zero => right; exact ⟨rfl, by simp, rfl⟩
        | succ i => left; cases a <;> rfl
      | succ id =>
        cases i with
        | zero => left; cases a <;> rfl
        | succ i =>
          rcases ih id i cs with h1 | ⟨h1, h2, h3⟩
          · left; cases a <;> simpa [hset, hget] using h1
          · right; exact ⟨by omega, by simp; omega, by cases a <;> simpa [hset, hget] using h3⟩
  rcases hset' h id i (lset (hget h id) off (.sl none l)) with h1 | ⟨rfl, _, h1⟩
  · rw [h1]
  · rw [h1, lset_eq]
    rw [lget_eq] at hl
    apply List.ext_getElem?
    intro j
    rw [List.getElem?_map, List.getElem?_map, List.getElem?_set]
    by_cases e : off = j
    · subst e
      rw [if_pos rfl]
      rw [List.getD_eq_getElem?_getD] at hl
      by_cases hlt : off < (hget h i).length
      · rw [if_pos hlt]
        rw [List.getElem?_eq_getElem hlt] at hl ⊢
        simp only [Option.getD_some] at hl
        simp [hl, un]
      · rw [if_neg hlt, List.getElem?_eq_none (by omega)]
    · rw [if_neg e]
theorem T.unS {S S1 : St} (ho : ldS all o = true) (h : T P nb true all o S S1) : unE S.2 S1.2 := by
 simp only [ldS, Bool.and_eq_true] at ho
 obtain ⟨ho1, ho2⟩ := ho
 obtain ⟨dst, op, ty, pos, after, gd⟩ := o
 cases op with
 | load t x =>
  cases h with
  | @op tm hp hw hc =>
   dsimp only at ho2
   simp only [opM]
   split
   ·exact .refl _
   ·simp only [mvH, ho2, cond_true]
    split
    ·rename_i e; exact hget_hset_un e
    ·exact .refl _
   ·exact .refl _
   ·exact .refl _
   ·exact .refl _
  | skip hw => exact .refl _
  | call hw hop hcal hn hA => cases hop
  | callF hd hw hop hcal hfc hA => cases hd
  | callB hd hw hop hcal hn hA => cases hd
  | callO hw hop hcal hn hA => cases hop
  | opx hd hw hs => cases hd
 | _ => simp [isLd] at ho1
theorem hget_app {h xs : Heap} {id : Nat} (hlt : id < h.length) : hget (h ++ xs) id = hget h id := by
  induction h generalizing id with
  | nil => simp at hlt
  | cons a h ih =>
    cases id with
    | zero => cases a <;> rfl
    | succ id => cases a <;> exact ih (by simpa using hlt)
theorem hget_lt {h : Heap} {id : Nat} (hl : 0 < (hget h id).length) : id < h.length :=
 (List.getElem?_eq_some_iff.1 (hget_some (off := 0) hl)).1
theorem hset_app {h xs : Heap} {id : Nat} {cs : List AV} (hlt : id < h.length) : hset (h ++ xs) id cs = hset h id cs ++ xs := by
 rw [hset_eq, hset_eq, List.set_append_left _ _ hlt]
theorem T.ldApp {tm : List AV} {hp : Heap} {S1 : St} (ho1 : isLd o = true) (h : T P nb true all o (tm, hp) S1) (xs : Heap) : T P nb true all o (tm, hp ++ xs) (S1.1, S1.2 ++ xs) ∧ S1.2.length = hp.length := by
 obtain ⟨dst, op, ty, pos, after, gd⟩ := o
 cases op with
 | load t x =>
  cases h with
  | @op _ _ hw hc =>
   have hT := fun hc2 => T.op (P := P) (nb := nb) (d := true) (all := all) (o := ⟨dst, .load t x, ty, pos, after, gd⟩) (tm := tm) (hp := hp ++ xs) hw hc2
   revert hT hc
   simp only [opM]
   intro hc hT
   split at hc
   ·rename_i sz id off h1 h2 h3
    have hk := needB_of hc
    simp only [decide_eq_true_eq] at hk
    have hcell : (ltake sz (ldrop off (hget (hp ++ xs) id))) = ltake sz (ldrop off (hget hp id)) ∧ off + sz ≤ (hget (hp ++ xs) id).length := by
     by_cases hz : 0 < (hget hp id).length
     ·rw [hget_app (hget_lt hz)]; exact ⟨rfl, hk⟩
     ·have : sz = 0 ∧ off = 0 := by omega
      obtain ⟨rfl, rfl⟩ := this
      simp [ltake]
    simp only [h1, h2, h3] at hT ⊢
    rw [hcell.1] at hT
    exact ⟨hT (fun c hcc => by simp [needB, hcell.2] at hcc), by trivial⟩
   ·rename_i sz id off h1 h2 h3
    have hk := needB_of hc
    simp only [decide_eq_true_eq] at hk
    have hlt : id < hp.length := hget_lt (by omega)
    simp only [h1, h2, h3] at hT ⊢
    have hm : mvH all dst (hp ++ xs) id off = mvH all dst hp id off ++ xs ∧ (mvH all dst hp id off).length = hp.length := by
     simp only [mvH, hget_app hlt]
     split
     ·cases stolen all dst with
      | true => simp only [cond_true]; rw [hset_app hlt]; exact ⟨rfl, by rw [hset_eq]; simp⟩
      | false => exact ⟨rfl, rfl⟩
     ·exact ⟨rfl, rfl⟩
    rw [hget_app hlt, hm.1] at hT
    exact ⟨hT hc, hm.2⟩
   ·rename_i h1 h2 h3
    simp only [h1, h2, h3] at hT ⊢
    exact ⟨hT hc, by trivial⟩
   ·rename_i h1 h2 h3
    simp only [h1, h2, h3] at hT ⊢
    exact ⟨hT hc, by trivial⟩
   ·exact (hc False rfl).elim
  | skip hw => exact ⟨.skip hw, rfl⟩
  | call hw hop hcal hn hA => cases hop
  | callF hd hw hop hcal hfc hA => cases hd
  | callB hd hw hop hcal hn hA => cases hd
  | callO hw hop hcal hn hA => cases hop
  | opx hd hw hs => cases hd
 | _ => simp [isLd] at ho1
theorem T.alH {tm : List AV} {hp hp2 : Heap} {S1 : St} (ho1 : isAl o = true) (h : T P nb true all o (tm, hp) S1) (hl : hp.length = hp2.length) : ∃ xs, S1.2 = hp ++ xs ∧ T P nb true all o (tm, hp2) (S1.1, hp2 ++ xs) := by
 obtain ⟨dst, op, ty, pos, after, gd⟩ := o
 cases op with
 | alloc t =>
  cases h with
  | @op _ _ hw hc =>
   have hT := fun hc2 => T.op (P := P) (nb := nb) (d := true) (all := all) (o := ⟨dst, .alloc t, ty, pos, after, gd⟩) (tm := tm) (hp := hp2) hw hc2
   revert hT hc
   simp only [opM]
   split
   ·intro hc hT
    refine ⟨_, rfl, ?_⟩
    rw [hl] at hc ⊢
    exact hT hc
   ·intro hc hT; exact (hc False rfl).elim
  | skip hw => exact ⟨[], by simp, by simpa using T.skip hw⟩
  | call hw hop hcal hn hA => cases hop
  | callF hd hw hop hcal hfc hA => cases hd
  | callB hd hw hop hcal hn hA => cases hd
  | callO hw hop hcal hn hA => cases hop
  | opx hd hw hs => cases hd
 | box t x =>
  cases h with
  | @op _ _ hw hc =>
   have hT := fun hc2 => T.op (P := P) (nb := nb) (d := true) (all := all) (o := ⟨dst, .box t x, ty, pos, after, gd⟩) (tm := tm) (hp := hp2) hw hc2
   revert hT hc
   simp only [opM]
   intro hc hT
   refine ⟨_, rfl, ?_⟩
   rw [hl]
   exact hT hc
  | skip hw => exact ⟨[], by simp, by simpa using T.skip hw⟩
  | call hw hop hcal hn hA => cases hop
  | callF hd hw hop hcal hfc hA => cases hd
  | callB hd hw hop hcal hn hA => cases hd
  | callO hw hop hcal hn hA => cases hop
  | opx hd hw hs => cases hd
 | _ => simp [isAl] at ho1
theorem isAl_wr {o : Oper} (h : isAl o = true) : wrH all o = true := by
  unfold isAl at h; unfold wrH
  split at h <;> simp_all
theorem ldP_wr {o : Oper} (h : ldP all o = true) : wrH all o = false := by
 simp only [ldP, isLd, Bool.and_eq_true, Bool.not_eq_true'] at h
 obtain ⟨h1, h2⟩ := h
 unfold wrH
 split at h1
 ·rename_i e; rw [e]; exact h2
 ·cases h1
theorem ldS_wr {o : Oper} (h : ldS all o = true) : wrH all o = true := by
 simp only [ldS, isLd, Bool.and_eq_true] at h
 obtain ⟨h1, h2⟩ := h
 unfold wrH
 split at h1
 ·rename_i e; rw [e]; exact h2
 ·cases h1
theorem T.swap0 {a b : Oper} {S S1 S2 : St} (ha : T P nb true all a S S1) (hb : T P nb true all b S1 S2) (i1 : apart (wrA all a) (rdA all b) = true) (i2 : apart (wrA all b) (rdA all a) = true) (i3 : apart (wrA all a) (wrA all b) = true) (i4 : (wrH all a && rdH b) = false) (i5 : (wrH all b && rdH a) = false) : ∃ S3, T P nb true all b S S3 ∧ T P nb true all a S3 S2 := by
  simp only [Bool.and_eq_false_iff] at i4 i5
  obtain ⟨la, oa, ha'⟩ := ha.out
  obtain ⟨lb, ob, hb'⟩ := hb.out
  obtain ⟨S3, h1, h2, h3⟩ := hb.frame (S2 := S) la (fun t ht => oa t (fun h => apart_spec i1 h ht)) (fun h => ha' (by rcases i4 with h' | h' <;> simp_all))
  obtain ⟨l3, o3, h3'⟩ := h1.out
  obtain ⟨S4, q1, q2, q3⟩ := ha.frame (S2 := S3) l3.symm (fun t ht => (o3 t (fun h => apart_spec i2 h ht)).symm) (fun h => (h3' (by rcases i5 with h' | h' <;> simp_all)).symm)
  obtain ⟨l4, o4, h4'⟩ := q1.out
  refine ⟨S3, h1, ?_⟩
  have : S4 = S2 := by
    obtain ⟨t4, hp4⟩ := S4
    obtain ⟨t2, hp2⟩ := S2
    obtain rfl : t4 = t2 := by
      apply lget_ext (by dsimp only at *; omega)
      intro t
      by_cases e1 : t ∈ wrA all a
      · rw [← q2 t e1]
        exact (ob t (fun h => apart_spec i3 e1 h)).symm
      · have e4 := o4 t e1
        dsimp only at e4 ⊢
        rw [e4]
        by_cases e2 : t ∈ wrA all b
        · exact (h2 t e2).symm
        · rw [o3 t e2]
          have := ob t e2
          dsimp only at this
          rw [this, oa t e1]
    congr 1
    dsimp only at *
    by_cases wa : wrH all a = true
    · have wb : wrH all b = false := by
        cases e : wrH all b with
        | false => rfl
        | true => rcases i4 with h | h
                  · simp [wa] at h
                  · rw [wrH_rdH e] at h; cases h
      rw [q3 wa, hb' wb]
    · have wa : wrH all a = false := by simpa using wa
      rw [h4' wa]
      by_cases wb : wrH all b = true
      · rw [h3 wb]
      · have wb : wrH all b = false := by simpa using wb
        rw [h3' wb, hb' wb, ha' wa]
  rw [← this]; exact q1
theorem swap_slots {a b : Oper} {S S1 S2 S3 S4 : St} (i3 : apart (wrA all a) (wrA all b) = true) (la : S1.1.length = S.1.length) (lb : S2.1.length = S1.1.length) (l3 : S3.1.length = S.1.length) (l4 : S4.1.length = S3.1.length)
  (oa : ∀ t, t ∉ wrA all a → lget S1.1 t = lget S.1 t) (ob : ∀ t, t ∉ wrA all b → lget S2.1 t = lget S1.1 t) (o3 : ∀ t, t ∉ wrA all b → lget S3.1 t = lget S.1 t) (o4 : ∀ t, t ∉ wrA all a → lget S4.1 t = lget S3.1 t)
  (h2 : ∀ t, t ∈ wrA all b → lget S2.1 t = lget S3.1 t) (q2 : ∀ t, t ∈ wrA all a → lget S1.1 t = lget S4.1 t) : S4.1 = S2.1 := by
 apply lget_ext (by omega)
 intro t
 by_cases e1 : t ∈ wrA all a
 ·rw [← q2 t e1]
  exact (ob t (fun h => apart_spec i3 e1 h)).symm
 ·rw [o4 t e1]
  by_cases e2 : t ∈ wrA all b
  ·exact (h2 t e2).symm
  ·rw [o3 t e2, ob t e2, oa t e1]
theorem T.swap {a b : Oper} {S S1 S2 : St} (ha : T P nb true all a S S1) (hb : T P nb true all b S1 S2) (hi : indep all a b = true) : ∃ S3, T P nb true all b S S3 ∧ T P nb true all a S3 S2 := by
 simp only [indep, Bool.and_eq_true, Bool.or_eq_true, Bool.not_eq_true'] at hi
 obtain ⟨⟨⟨i1, i2⟩, i3⟩, i4⟩ := hi
 rcases i4 with ((⟨i4, i5⟩ | ⟨p1, p2⟩) | ⟨p1, p2⟩) | ⟨p1, p2⟩
 ·exact ha.swap0 hb i1 i2 i3 i4 i5
 ·obtain ⟨la, oa, ha'⟩ := ha.out
  obtain ⟨lb, ob, hb'⟩ := hb.out
  have e1 : S1.2 = S.2 := ha' (ldP_wr p1)
  obtain ⟨S3, h1, h2, h3⟩ := hb.frame (S2 := S) la (fun t ht => oa t (fun h => apart_spec i1 h ht)) (fun _ => e1)
  obtain ⟨l3, o3, _⟩ := h1.out
  have e3 : S3.2 = S2.2 := h3 (ldS_wr p2)
  obtain ⟨S5, r1, r2, _⟩ := ha.frame (S2 := (S3.1, S.2)) l3.symm (fun t ht => (o3 t (fun h => apart_spec i2 h ht)).symm) (fun _ => rfl)
  have q1 := T.heapP p1 r1 (h1.unS p2)
  obtain ⟨l4, o4, _⟩ := q1.out
  refine ⟨S3, h1, ?_⟩
  have := swap_slots (all := all) (S4 := (S5.1, S3.2)) i3 la lb l3 l4 oa ob o3 o4 h2 r2
  have e : ((S5.1, S3.2) : St) = S2 := Prod.ext this e3
  rw [← e]; exact q1
 ·obtain ⟨la, oa, ha'⟩ := ha.out
  obtain ⟨lb, ob, hb'⟩ := hb.out
  have e2 : S2.2 = S1.2 := hb' (ldP_wr p2)
  obtain ⟨S5, r1, r2, _⟩ := hb.frame (S2 := (S.1, S1.2)) la (fun t ht => oa t (fun h => apart_spec i1 h ht)) (fun _ => rfl)
  have h1 := T.heapP p2 r1 (ha.unS p1).symm
  obtain ⟨l3, o3, h3'⟩ := h1.out
  have e3 : S.2 = S.2 := rfl
  obtain ⟨S4, q1, q2, q3⟩ := ha.frame (S2 := (S5.1, S.2)) l3.symm (fun t ht => (o3 t (fun h => apart_spec i2 h ht)).symm) (fun _ => rfl)
  obtain ⟨l4, o4, _⟩ := q1.out
  refine ⟨(S5.1, S.2), h1, ?_⟩
  have := swap_slots (all := all) (S3 := (S5.1, S.2)) i3 la lb l3 l4 oa ob o3 o4 r2 q2
  have e : S4 = S2 := Prod.ext this ((q3 (ldS_wr p1)).trans e2.symm)
  rw [← e]; exact q1
 ·obtain ⟨la, oa, ha'⟩ := ha.out
  obtain ⟨lb, ob, hb'⟩ := hb.out
  obtain ⟨S5, r1, r2, r3⟩ := hb.frame (S2 := (S.1, S1.2)) la (fun t ht => oa t (fun h => apart_spec i1 h ht)) (fun _ => rfl)
  have hlen : S1.2.length = S.2.length := (T.ldApp p1 ha []).2
  obtain ⟨xs, x1, h1⟩ := T.alH p2 r1 hlen
  obtain ⟨l3, o3, _⟩ := h1.out
  obtain ⟨S4, q1, q2, q3⟩ := ha.frame (S2 := (S5.1, S.2)) l3.symm (fun t ht => (o3 t (fun h => apart_spec i2 h ht)).symm) (fun _ => rfl)
  obtain ⟨l4, o4, h4⟩ := q1.out
  have q5 := (T.ldApp p1 q1 xs).1
  refine ⟨(S5.1, S.2 ++ xs), h1, ?_⟩
  have := swap_slots (all := all) (S3 := (S5.1, S.2)) i3 la lb l3 l4 oa ob o3 o4 r2 q2
  have e4 : S4.2 = S1.2 := by
   cases hw : wrH all a with
   | true => exact q3 hw
   | false => rw [h4 hw, ha' hw]
  have e : ((S4.1, S4.2 ++ xs) : St) = S2 := Prod.ext this (by rw [e4, ← x1, r3 (isAl_wr p2)])
  rw [← e]; exact q5
def rtGet : List (Nat × Nat) → Nat → Option Nat
 | [], _ => none
 | (t', i) :: l, t => bif t' == t then some i else rtGet l t
def rtOf (rt : List (Nat × Nat)) : Operand → Option Nat
 | .tmp t => rtGet rt t
 | _ => none
def nOO : Option Nat → Option Nat
 | some i => bif Nat.beq i 1000003 then none else some i
 | none => none
theorem nOO_some {x : Option Nat} {i : Nat} (h : nOO x = some i) : x = some i ∧ Nat.beq i 1000003 = false := by
 cases x with
 | none => cases h
 | some j =>
  unfold nOO at h
  cases e : Nat.beq j 1000003 with
  | true => simp only [e, cond_true] at h; cases h
  | false => simp only [e, cond_false] at h; obtain rfl := Option.some.inj h; exact ⟨rfl, e⟩
def blkOf (rt : List (Nat × Nat)) (o : Oper) : Option Nat := match o.op with
 | .load _ x => nOO (rtOf rt x)
 | .store _ x _ => nOO (rtOf rt x)
 | _ => none
def neO : Option Nat → Option Nat → Bool
 | some i, some j => i != j
 | _, _ => false
def mvPS (all : List Oper) (a b : Oper) : Bool := match a.op, b.op with
 | .move (.tmp x), .move (.tmp y) => match a.dst, b.dst with
  | some d, some e => a.guard.isNone && b.guard.isNone && (x == y) && (d != e) && (d != x) && (e != x) && (stolen all (some d) != stolen all (some e))
  | _, _ => false
 | _, _ => false
theorem T.moveEq {x d : Nat} {tm : List AV} {hp : Heap} {S1 : St} (hop : o.op = .move (.tmp x)) (hd : o.dst = some d) (hg : o.guard = none) (h : T P nb true all o (tm, hp) S1) : S1 = (lset (mvT all (some d) tm (.tmp x)) d (mvV all (some d) (lget tm x)), hp) := by
 obtain ⟨dst, op, ty, pos, after, gd⟩ := o
 dsimp only at hop hd hg
 subst hop; subst hd; subst hg
 cases h with
 | op hw hc => rfl
 | skip hw => exact hw.elim
 | call hw hop hcal hn hA => cases hop
 | callF hd hw hop hcal hfc hA => cases hd
 | callB hd hw hop hcal hn hA => cases hd
 | callO hw hop hcal hn hA => cases hop
 | opx hd hw hs => cases hd
theorem T.moveAt {x d : Nat} {tm : List AV} {hp : Heap} (hop : o.op = .move (.tmp x)) (hd : o.dst = some d) (hg : o.guard = none) : T P nb true all o (tm, hp) (lset (mvT all (some d) tm (.tmp x)) d (mvV all (some d) (lget tm x)), hp) := by
 obtain ⟨dst, op, ty, pos, after, gd⟩ := o
 dsimp only at hop hd hg
 subst hop; subst hd; subst hg
 exact .op (tm := tm) (hp := hp) trivial (fun c h => by cases h)
theorem T.swapM {a b : Oper} {S S1 S2 : St} (ha : T P nb true all a S S1) (hb : T P nb true all b S1 S2) (hi : mvPS all a b = true) : ∃ S3, T P nb true all b S S3 ∧ T P nb true all a S3 S2 := by
  unfold mvPS at hi
  split at hi
  · rename_i x y ea eb
    split at hi
    · rename_i d e da db
      simp only [Bool.and_eq_true, Option.isNone_iff_eq_none, beq_iff_eq, bne_iff_ne, ne_eq] at hi
      obtain ⟨⟨⟨⟨⟨⟨ga, gb⟩, rfl⟩, h1⟩, h2⟩, h3⟩, h4⟩ := hi
      obtain ⟨tm, hp⟩ := S
      have e1 := ha.moveEq ea da ga
      subst e1
      have e2 := hb.moveEq eb db gb
      subst e2
      refine ⟨_, T.moveAt eb db gb, ?_⟩
      have hT := T.moveAt (P := P) (nb := nb) (all := all) (tm := lset (mvT all (some e) tm (.tmp x)) e (mvV all (some e) (lget tm x))) (hp := hp) ea da ga
      have : (lset (mvT all (some d) (lset (mvT all (some e) tm (.tmp x)) e (mvV all (some e) (lget tm x))) (.tmp x)) d (mvV all (some d) (lget (lset (mvT all (some e) tm (.tmp x)) e (mvV all (some e) (lget tm x))) x)) : List AV)
          = lset (mvT all (some e) (lset (mvT all (some d) tm (.tmp x)) d (mvV all (some d) (lget tm x))) (.tmp x)) e (mvV all (some e) (lget (lset (mvT all (some d) tm (.tmp x)) d (mvV all (some d) (lget tm x))) x)) := by
        by_cases hx : x < tm.length
        · cases hv : lget tm x with
          | sl o l =>
            cases o with
            | none =>
              simp only [mvT, mvV, hv, lget_lset_ne h2, lget_lset_ne h3]
              apply lget_ext (by simp [lset_len])
              intro t
              by_cases td : d = t
              · subst td; rw [lget_lset_eq, lget_lset_ne (Ne.symm h1), lget_lset_eq]; simp [lset_len]
              · by_cases te : e = t
                · subst te; rw [lget_lset_ne td, lget_lset_eq, lget_lset_eq]; simp [lset_len]
                · rw [lget_lset_ne td, lget_lset_ne te, lget_lset_ne te, lget_lset_ne td]
            | some oe =>
              cases sd : stolen all (some d) with
              | true =>
                have se : stolen all (some e) = false := by rw [sd] at h4; cases h : stolen all (some e) <;> simp_all
                simp only [mvT, mvV, hv, sd, se, cond_true, cond_false, lget_lset_ne h3, lget_lset_ne h2]
                have hx2 : lget (lset tm x (.sl none l)) x = .sl none l := by rw [lget_lset_eq, if_pos hx]
                simp only [hx2]
                apply lget_ext (by simp [lset_len])
                intro t
                by_cases td : d = t
                · subst td; rw [lget_lset_eq, lget_lset_ne (Ne.symm h1), lget_lset_eq]; simp [lset_len]
                · rw [lget_lset_ne td]
                  by_cases tx : x = t
                  · subst tx; rw [lget_lset_eq, lget_lset_ne h3, lget_lset_ne h2, lget_lset_eq]; simp [lset_len]
                  · rw [lget_lset_ne tx]
                    by_cases te : e = t
                    · subst te; rw [lget_lset_eq, lget_lset_eq]; simp [lset_len]
                    · rw [lget_lset_ne te, lget_lset_ne te, lget_lset_ne td, lget_lset_ne tx]
              | false =>
                have se : stolen all (some e) = true := by rw [sd] at h4; cases h : stolen all (some e) <;> simp_all
                simp only [mvT, mvV, hv, sd, se, cond_true, cond_false, lget_lset_ne h3, lget_lset_ne h2]
                have hx2 : lget (lset tm x (.sl none l)) x = .sl none l := by rw [lget_lset_eq, if_pos hx]
                simp only [hx2]
                apply lget_ext (by simp [lset_len])
                intro t
                by_cases te : e = t
                · subst te; rw [lget_lset_ne h1, lget_lset_eq, lget_lset_eq]; simp [lset_len]
                · rw [lget_lset_ne te]
                  by_cases tx : x = t
                  · subst tx; rw [lget_lset_ne h2, lget_lset_ne h3, lget_lset_eq, lget_lset_eq]; simp [lset_len]
                  · rw [lget_lset_ne tx]
                    by_cases td : d = t
                    · subst td; rw [lget_lset_eq, lget_lset_eq]; simp [lset_len]
                    · rw [lget_lset_ne td, lget_lset_ne td, lget_lset_ne te, lget_lset_ne tx]
          | _ =>
            simp only [mvT, mvV, hv, lget_lset_ne h2, lget_lset_ne h3]
            apply lget_ext (by simp [lset_len])
            intro t
            by_cases td : d = t
            · subst td; rw [lget_lset_eq, lget_lset_ne (Ne.symm h1), lget_lset_eq]; simp [lset_len]
            · by_cases te : e = t
              · subst te; rw [lget_lset_ne td, lget_lset_eq, lget_lset_eq]; simp [lset_len]
              · rw [lget_lset_ne td, lget_lset_ne te, lget_lset_ne te, lget_lset_ne td]
        · have hv : lget tm x = .any := lget_ge (Nat.le_of_not_lt hx)
          simp only [mvT, mvV, hv, lget_lset_ne h2, lget_lset_ne h3]
          apply lget_ext (by simp [lset_len])
          intro t
          by_cases td : d = t
          · subst td; rw [lget_lset_eq, lget_lset_ne (Ne.symm h1), lget_lset_eq]; simp [lset_len]
          · by_cases te : e = t
            · subst te; rw [lget_lset_ne td, lget_lset_eq, lget_lset_eq]; simp [lset_len]
            · rw [lget_lset_ne td, lget_lset_ne te, lget_lset_ne te, lget_lset_ne td]
      rw [this] at hT
      exact hT
    · cases hi
  · cases hi
def ldO (rt : List (Nat × Nat)) (all : List Oper) (o : Oper) : Bool := match o.op with
 | .load _ x => (rtOf rt x == some 1000003) && !stolen all o.dst
 | _ => false
def indepO (rt : List (Nat × Nat)) (all : List Oper) (a b : Oper) : Bool :=
 apart (wrA all a) (rdA all b) && apart (wrA all b) (rdA all a) && apart (wrA all a) (wrA all b) && (ldO rt all a || ldO rt all b)
def ldN (all : List Oper) (o : Oper) : Bool := match o.op with
 | .load _ _ => !stolen all o.dst
 | _ => false
def indepL (all : List Oper) (a b : Oper) : Bool :=
 apart (wrA all a) (rdA all b) && apart (wrA all b) (rdA all a) && apart (wrA all a) (wrA all b) && ((ldN all a && isLd b) || (isLd a && ldN all b))
def indepR (rt : List (Nat × Nat)) (all : List Oper) (a b : Oper) : Bool :=
 indep all a b || mvPS all a b || (apart (wrA all a) (rdA all b) && apart (wrA all b) (rdA all a) && apart (wrA all a) (wrA all b) && neO (blkOf rt a) (blkOf rt b))
def OO : Nat := 1000003
def okRt0 (i : Nat) : AV → Bool
 | .any => true
 | .tup [] => true
 | .ptr id _ => id == i
 | .rs id _ _ _ _ _ => id == i
 | _ => false
def okRt (i : Nat) (v : AV) : Bool := bif Nat.beq i OO then allR (fun _ => false) v else okRt0 i v
theorem okRt_ne {i : Nat} {v : AV} (h : Nat.beq i OO = false) : okRt i v = okRt0 i v := by unfold okRt; rw [h]; rfl
theorem okRt_OO {v : AV} : okRt OO v = allR (fun _ => false) v := rfl
theorem okRt_any {i : Nat} : okRt i .any = true := by unfold okRt; cases Nat.beq i OO <;> rfl
theorem okRt_tup {i : Nat} : okRt i (.tup []) = true := by unfold okRt; cases Nat.beq i OO <;> rfl
def InvT (rt : List (Nat × Nat)) (tm : List AV) : Prop := ∀ t i, rtGet rt t = some i → okRt i (lget tm t) = true
def pureB (rt : List (Nat × Nat)) (i : Nat) : Bool := match rtGet rt (2000000 + i) with
 | some j => Nat.beq j 1000003
 | none => false
def noPure (rt : List (Nat × Nat)) : Bool := rt.all fun p => Nat.blt p.1 2000000
theorem noPure_spec : ∀ {rt : List (Nat × Nat)}, noPure rt = true → ∀ t, 2000000 ≤ t → rtGet rt t = none
 | [], _, t, _ => rfl
 | (t', i) :: l, h, t, ht => by
  simp only [noPure, List.all_cons, Bool.and_eq_true] at h
  have h1 : t' < 2000000 := by
   have := h.1
   simp only [Nat.blt] at this
   exact Nat.le_of_ble_eq_true this
  have e : (t' == t) = false := by simp; omega
  simp only [rtGet, e, cond_false]
  exact noPure_spec h.2 t ht
theorem noPure_B {rt : List (Nat × Nat)} (h : noPure rt = true) (i : Nat) : pureB rt i = false := by
 unfold pureB; rw [noPure_spec h _ (Nat.le_add_right _ _)]
def InvH (rt : List (Nat × Nat)) (hp : Heap) : Prop := ∀ i, pureB rt i = true → allRL (fun _ => false) (hget hp i) = true
theorem InvH.no {rt : List (Nat × Nat)} {hp : Heap} (h : noPure rt = true) : InvH rt hp := fun i hi => by rw [noPure_B h] at hi; cases hi
def InvR (rt : List (Nat × Nat)) (S : St) : Prop := InvT rt S.1 ∧ InvH rt S.2
def hSafe (rt : List (Nat × Nat)) (o : Oper) : Bool := match o.op with
 | .store _ _ _ => noPure rt || (match blkOf rt o with | some j => !pureB rt j | none => false)
 | .alloc _ | .box _ _ => noPure rt
 | op => !isCallOp op || noPure rt
def rtOk1 (rt : List (Nat × Nat)) (o : Oper) : Bool := hSafe rt o && match o.dst with
 | some t => match rtGet rt t with
  | some i => (match o.op with
   | .move x => rtOf rt x == some i
   | .assign x => rtOf rt x == some i
   | .nilCheck x => rtOf rt x == some i
   | .fieldAddr _ x _ => rtOf rt x == some i
   | .field _ x _ => (rtOf rt x == some i) && Nat.beq i 1000003
   | .indexAddr _ x _ => rtOf rt x == some i
   | .load _ x => Nat.beq i 1000003 && (match rtOf rt x with | some j => !Nat.beq j 1000003 && pureB rt j | none => false)
   | _ => false)
  | none => true
 | none => true
def rtOk (rt : List (Nat × Nat)) (all : List Oper) : Bool := all.all (rtOk1 rt)
def invB : List (Nat × Nat) → List AV → Heap → Bool
 | [], _, _ => true
 | (t, i) :: l, tm, hp => okRt i (lget tm t) && (bif Nat.blt t 2000000 then true else allRL (fun _ => false) (hget hp (t - 2000000))) && invB l tm hp
theorem invB_T {tm : List AV} {hp : Heap} : ∀ {rt : List (Nat × Nat)}, invB rt tm hp = true → InvT rt tm
 | [], _, t, i, h => by simp [rtGet] at h
 | (t', i') :: l, hb, t, i, h => by
  simp only [invB, Bool.and_eq_true] at hb
  simp only [rtGet] at h
  cases e : (t' == t) with
  | true => rw [e] at h; simp at h e; subst h; subst e; exact hb.1.1
  | false => rw [e] at h; exact invB_T hb.2 t i h
theorem invB_H {tm : List AV} {hp : Heap} : ∀ {rt : List (Nat × Nat)}, invB rt tm hp = true → ∀ t, (rtGet rt t).isSome = true → 2000000 ≤ t → allRL (fun _ => false) (hget hp (t - 2000000)) = true
 | [], _, t, h, _ => by simp [rtGet] at h
 | (t', i') :: l, hb, t, h, ht => by
  simp only [invB, Bool.and_eq_true] at hb
  simp only [rtGet] at h
  cases e : (t' == t) with
  | true =>
   have e' : t' = t := by simpa using e
   subst e'
   have := hb.1.2
   have hf : Nat.blt t' 2000000 = false := by
    cases h9 : Nat.blt t' 2000000 with
    | false => rfl
    | true => simp only [Nat.blt] at h9; have := Nat.le_of_ble_eq_true h9; omega
   rw [hf] at this
   exact this
  | false => rw [e] at h; exact invB_H hb.2 t h ht
theorem invB_spec {tm : List AV} {hp : Heap} {rt : List (Nat × Nat)} (h : invB rt tm hp = true) : InvR rt (tm, hp) :=
  ⟨invB_T h, fun i hi => by
    unfold pureB at hi
    have := invB_H h (2000000 + i) (by cases e : rtGet rt (2000000 + i) <;> simp_all) (by omega)
    rwa [Nat.add_sub_cancel_left] at this⟩
theorem opM_tm {tm : List AV} {hp : Heap} (t : Nat) : lget (opM P all o tm hp).tm t = lget tm t ∨ lget (opM P all o tm hp).tm t = .any ∨ ∃ oe l, lget tm t = .sl (some oe) l ∧ lget (opM P all o tm hp).tm t = .sl none l := by
  have hmv : ∀ d x, lget (mvT all d tm x) t = lget tm t ∨ lget (mvT all d tm x) t = .any ∨ ∃ oe l, lget tm t = .sl (some oe) l ∧ lget (mvT all d tm x) t = .sl none l := fun d x => by
    unfold mvT; split
    · rename_i t'
      split
      · rename_i oe l e
        by_cases ht : t' = t
        · subst ht
          cases stolen all d
          · exact .inl rfl
          · refine .inr (.inr ⟨oe, l, e, ?_⟩)
            simp only [cond_true]
            rw [lget_lset_eq, if_pos]
            rcases Nat.lt_or_ge t' tm.length with h | h
            · exact h
            · rw [lget_ge h] at e; cases e
        · left; cases stolen all d
          · rfl
          · exact lget_lset_ne ht
      · exact .inl rfl
    · exact .inl rfl
  have has : ∀ x, lget (asT tm x) t = lget tm t ∨ lget (asT tm x) t = .any ∨ ∃ oe l, lget tm t = .sl (some oe) l ∧ lget (asT tm x) t = .sl none l := fun x => by
    unfold asT; split
    · rename_i t'
      split
      · rename_i oe l e
        by_cases ht : t' = t
        · subst ht
          refine .inr (.inr ⟨oe, l, e, ?_⟩)
          rw [lget_lset_eq, if_pos]
          rcases Nat.lt_or_ge t' tm.length with h | h
          · exact h
          · rw [lget_ge h] at e; cases e
        · left; exact lget_lset_ne ht
      · exact .inl rfl
    · exact .inl rfl
  have hk : ∀ x, lget (killT x tm) t = lget tm t ∨ lget (killT x tm) t = .any ∨ ∃ oe l, lget tm t = .sl (some oe) l ∧ lget (killT x tm) t = .sl none l := fun x => by
    unfold killT; split
    · rename_i k
      by_cases hkt : k = t
      · subst hkt; right; left; rw [lget_lset_eq]; split <;> rfl
      · left; exact lget_lset_ne hkt
    · exact .inl rfl
  obtain ⟨dst, op, ty, pos, after, gd⟩ := o
  cases op with
  | move x => exact hmv dst x
  | assign x => exact has x
  | store t0 x y => simp only [opM]; split
                    · exact has y
                    · exact .inl rfl
  | call c =>
    obtain ⟨callee, args, tys⟩ := c
    cases callee with
    | builtin b =>
      simp only [opM]
      split
      · exact .inl rfl
      · split
        · exact hk _
        · exact .inl rfl
      · exact .inl rfl
      · exact .inl rfl
      · exact .inl rfl
    | _ => exact .inl rfl
  | slice t0 x lo hi mx =>
    left
    cases mx with
    | none => simp only [opM]; (repeat' split) <;> rfl
    | some m => cases hi with
      | none => rfl
      | some h => simp only [opM]; (repeat' split) <;> rfl
  | _ => left; first | rfl | (simp only [opM]; done) | (simp only [opM]; (repeat' split) <;> rfl)
theorem allR_mvV {p : Nat → Bool} {all : List Oper} {d : Option Nat} {v : AV} (h : allR p v = true) : allR p (mvV all d v) = true := by
  unfold mvV; split
  · cases stolen all d <;> simp [allR]
  · exact h
theorem allR_fix {p : Nat → Bool} {v : AV} (h : allR p v = true) : allR p (fix v) = true := by
 unfold fix; split
 ·simp [allR]
 ·exact h
theorem allRL_of {p : Nat → Bool} : ∀ {l : List AV}, (∀ x, x ∈ l → allR p x = true) → allRL p l = true
 | [], _ => by simp [allRL]
 | x :: l, h => by simp only [allRL, Bool.and_eq_true]; exact ⟨h x (by simp), allRL_of fun y hy => h y (by simp [hy])⟩
theorem allRL_sub {p : Nat → Bool} {l l2 : List AV} (h : allRL p l = true) (hs : ∀ z, z ∈ l2 → z ∈ l) : allRL p l2 = true := allRL_of fun x hx => allRL_mem h x (hs x hx)
theorem allRL_lget {p : Nat → Bool} : ∀ {l : List AV} {n : Nat}, allRL p l = true → allR p (lget l n) = true
 | [], _, _ => by simp [lget, allR]
 | x :: l, 0, h => by simp only [allRL, Bool.and_eq_true] at h; exact h.1
 | x :: l, n+1, h => by simp only [allRL, Bool.and_eq_true] at h; exact allRL_lget (l := l) h.2
theorem allR_iadV {v i : AV} (h : allR (fun _ => false) v = true) : allR (fun _ => false) (iadV v i) = true := by
 unfold iadV; split
 ·simp [allR]
 ·simp [allR] at h
 ·simp [allR]
theorem allR_aadV {v i : AV} {s : Nat} (h : allR (fun _ => false) v = true) : allR (fun _ => false) (aadV s v i) = true := by
 unfold aadV; split
 ·simp [allR] at h
 ·simp [allR]
def updH (hp : Heap) (i : Nat) : Option (List AV) → Heap
 | none => hp
 | some cs => hset hp i cs
theorem hget_hset_ne {hp : Heap} {i j : Nat} {cs : List AV} (h : i ≠ j) : hget (hset hp i cs) j = hget hp j := by
  induction hp generalizing i j with
  | nil => rfl
  | cons a l ih =>
    cases i with
    | zero => cases j with
      | zero => exact absurd rfl h
      | succ j => cases a <;> rfl
    | succ i => cases j with
      | zero => cases a <;> rfl
      | succ j => cases a <;> exact ih (by omega)
theorem hget_updH {hp : Heap} {i j : Nat} {u : Option (List AV)} (h : i ≠ j) : hget (updH hp i u) j = hget hp j := by
 cases u with
 | none => rfl
 | some cs => exact hget_hset_ne h
theorem updH_comm {hp : Heap} {i j : Nat} {u v : Option (List AV)} (h : i ≠ j) : updH (updH hp i u) j v = updH (updH hp j v) i u := by
 cases u with
 | none => rfl
 | some cs => cases v with
  | none => rfl
  | some ds => simp only [updH, hset_eq]; exact List.set_comm _ _ h
theorem mvH_upd {all : List Oper} {dst : Option Nat} {hp hp2 : Heap} {id off : Nat} (he : hget hp2 id = hget hp id) : mvH all dst hp2 id off = updH hp2 id (match lget (hget hp id) off with | .sl (some oe) l => bif stolen all dst then some (lset (hget hp id) off (.sl none l)) else none | _ => none) := by
  unfold mvH
  rw [he]
  generalize lget (hget hp id) off = v
  cases v with
  | sl o l => cases o with
    | none => rfl
    | some oe => dsimp only; cases stolen all dst <;> rfl
  | _ => rfl
theorem hget_set {hp : Heap} {i : Nat} {cs : List AV} : hget (hp.set i (some cs)) i = cs ∨ hget (hp.set i (some cs)) i = hget hp i := by
  induction hp generalizing i with
  | nil => exact .inr rfl
  | cons a l ih => cases i with
    | zero => exact .inl rfl
    | succ i => cases a <;> exact ih
theorem T.invT {rt : List (Nat × Nat)} {S S1 : St} (hrt0 : rtOk1 rt o = true) (hI0 : InvR rt S) (h : T P nb true all o S S1) : InvT rt S1.1 := by
  have hI := hI0.1
  have hrt := (Bool.and_eq_true_iff.1 hrt0).2
  intro t i hti
  have hst : o.dst = some t → (∃ t0 x j, i = OO ∧ o.op = .load t0 x ∧ rtOf rt x = some j ∧ Nat.beq j OO = false ∧ pureB rt j = true) ∨ ∃ x, rtOf rt x = some i ∧ ((o.op = .move x) ∨ o.op = .assign x ∨ o.op = .nilCheck x ∨ (∃ t0 f, o.op = .fieldAddr t0 x f) ∨ (i = OO ∧ ∃ t0 f, o.op = .field t0 x f) ∨ ∃ t0 y, o.op = .indexAddr t0 x y) := fun hd => by
    have := hrt
    simp only [hd, hti] at this
    split at this
    · rename_i x e; exact .inr ⟨x, by simpa using this, .inl e⟩
    · rename_i x e; exact .inr ⟨x, by simpa using this, .inr (.inl e)⟩
    · rename_i x e; exact .inr ⟨x, by simpa using this, .inr (.inr (.inl e))⟩
    · rename_i t0 x f e; exact .inr ⟨x, by simpa using this, .inr (.inr (.inr (.inl ⟨t0, f, e⟩)))⟩
    · rename_i t0 x f e; simp only [Bool.and_eq_true, beq_iff_eq, Nat.beq_eq] at this; exact .inr ⟨x, this.1, .inr (.inr (.inr (.inr (.inl ⟨this.2, ⟨t0, f, e⟩⟩))))⟩
    · rename_i t0 x f e; exact .inr ⟨x, by simpa using this, .inr (.inr (.inr (.inr (.inr ⟨t0, f, e⟩))))⟩
    · rename_i t0 x e
      simp only [Bool.and_eq_true, Nat.beq_eq] at this
      obtain ⟨h1, h2⟩ := this
      split at h2
      · rename_i j ej
        simp only [Bool.and_eq_true, Bool.not_eq_true'] at h2
        exact .inl ⟨t0, x, j, h1, e, ej, h2.1, h2.2⟩
      · cases h2
    · cases this
  have hput : ∀ (l : List AV) (v : AV), (o.dst = some t → okRt i v = true) → (o.dst ≠ some t → okRt i (lget l t) = true) → okRt i (lget (put l o.dst v) t) = true := fun l v h1 h2 => by
    by_cases hd : o.dst = some t
    · rw [hd]; simp only [put]; rw [lget_lset_eq]; split
      · exact h1 hd
      · exact okRt_any
    · rw [lget_put_ne hd]; exact h2 hd
  cases h with
  | @op tm hp hw hc =>
    refine hput _ _ (fun hd => ?_) (fun hd => ?_)
    · rcases hst hd with ⟨t0, x, j, rfl, hop, hx, hj, hp1⟩ | ⟨x, hx, hop⟩
      · have hv : okRt0 j (opv tm x) = true := by
          rw [← okRt_ne hj]
          cases x with
          | tmp s => exact hI s j hx
          | _ => simp [rtOf] at hx
        have hH := hI0.2 j hp1
        dsimp only at hH
        obtain ⟨dst, op, ty, pos, after, gd⟩ := o
        dsimp only at hop
        subst hop
        rw [okRt_OO]
        simp only [opM]
        generalize opv tm x = v at hv
        split
        · rename_i sz id off e1 e2
          simp only [okRt0, beq_iff_eq] at hv
          subst hv
          simp only [allR]
          refine allRL_of fun z hz => ?_
          obtain ⟨z0, hz0, rfl⟩ := List.mem_map.1 hz
          rw [ltake_eq, ldrop_eq] at hz0
          exact allR_fix (allRL_mem hH z0 (List.mem_of_mem_drop (List.mem_of_mem_take hz0)))
        · rename_i sz id off e1 e2
          simp only [okRt0, beq_iff_eq] at hv
          subst hv
          exact allR_mvV (allRL_lget hH)
        · simp [okRt0] at hv
        · simp [okRt0] at hv
        · rfl
      have hv : okRt i (opv tm x) = true := by
        cases x with
        | tmp s => exact hI s i hx
        | _ => simp [rtOf] at hx
      obtain ⟨dst, op, ty, pos, after, gd⟩ := o
      dsimp only at hop
      cases hoo : Nat.beq i OO with
      | true =>
        have hoo' : i = OO := Nat.eq_of_beq_eq_true hoo
        subst hoo'
        rw [okRt_OO] at hv ⊢
        rcases hop with rfl | rfl | rfl | ⟨t0, f, rfl⟩ | ⟨_, ⟨t0, f, rfl⟩⟩ | ⟨t0, y, rfl⟩
        · simp only [opM]; exact allR_mvV hv
        · exact hv
        · simp only [opM]
          generalize opv tm x = v at hv
          split
          · exact hv
          · exact hv
          · split
            · exact hv
            · rfl
          · rfl
        · simp only [opM]
          generalize opv tm x = v at hv
          split
          · simp [allR] at hv
          · simp [allR]
          · rfl
        · simp only [opM]
          generalize opv tm x = v at hv
          split
          · rename_i off sz cs e1 e2
            simp only [allR] at hv ⊢
            rw [ltake_eq, ldrop_eq]
            exact allRL_sub hv fun z hz => List.mem_of_mem_drop (List.mem_of_mem_take hz)
          · rename_i off sz cs e1 e2
            simp only [allR] at hv
            exact allR_fix (allRL_lget hv)
          · rfl
        · simp only [opM]
          generalize opv tm x = v at hv
          split
          · exact allR_iadV hv
          · split
            · exact allR_aadV hv
            · rfl
      | false =>
        have hni : i ≠ OO := fun e => by subst e; cases hoo
        rw [okRt_ne hoo] at hv ⊢
        rcases hop with rfl | rfl | rfl | ⟨t0, f, rfl⟩ | ⟨he, _⟩ | ⟨t0, y, rfl⟩
        · simp only [opM]
          generalize opv tm x = v at hv
          unfold okRt0 at hv
          split at hv
          · rfl
          · rfl
          · rename_i id off; exact hv
          · exact hv
          · cases hv
        · exact hv
        · simp only [opM]
          generalize opv tm x = v at hv
          unfold okRt0 at hv
          split at hv
          · rfl
          · rfl
          · rename_i id off; exact hv
          · rfl
          · cases hv
        · simp only [opM]
          generalize opv tm x = v at hv
          split
          · exact hv
          · simp [okRt0] at hv
          · rfl
        · exact absurd he hni
        · simp only [opM]
          generalize opv tm x = v at hv
          split
          · dsimp only
            unfold iadV
            split
            · simp [okRt0] at hv
            · exact hv
            · rfl
          · split
            · dsimp only
              unfold aadV
              split
              · exact hv
              · rfl
            · rfl
    · rcases opM_tm (P := P) (all := all) (o := o) (tm := tm) (hp := hp) t with e | e | ⟨oe, l, e, e2⟩
      · rw [e]; exact hI t i hti
      · rw [e]; exact okRt_any
      · have := hI t i hti
        rw [e2]
        rw [e] at this
        cases hoo : Nat.beq i OO with
        | true => obtain rfl := Nat.eq_of_beq_eq_true hoo; rw [okRt_OO]; simp [allR]
        | false => rw [okRt_ne hoo] at this; simp [okRt0] at this
  | @skip tm hp hw => exact hput _ _ (fun _ => okRt_tup) (fun _ => hI t i hti)
  | @call tm hp fo args tys f as r hw hop hcal hn hA =>
    refine hput _ _ (fun hd => ?_) (fun _ => hI t i hti)
    rcases hst hd with ⟨t0, x, j, rfl, hop2, _⟩ | ⟨x, hx, hop2⟩ <;> rw [hop] at hop2
    · cases hop2
    rcases hop2 with h | h | h | ⟨_, _, h⟩ | ⟨_, ⟨_, _, h⟩⟩ | ⟨_, _, h⟩ <;> cases h
  | callF hd hw hop hcal hfc hA => cases hd
  | callB hd hw hop hcal hn hA => cases hd
  | @callO tm hp fo args tys f as r hw hop hcal hn hA =>
    refine hput _ _ (fun hd => ?_) (fun _ => hI t i hti)
    rcases hst hd with ⟨t0, x, j, rfl, hop2, _⟩ | ⟨x, hx, hop2⟩ <;> rw [hop] at hop2
    · cases hop2
    rcases hop2 with h | h | h | ⟨_, _, h⟩ | ⟨_, ⟨_, _, h⟩⟩ | ⟨_, _, h⟩ <;> cases h
  | opx hd hw hs => cases hd
theorem allRL_lset {p : Nat → Bool} {l : List AV} {n : Nat} {v : AV} (h : allRL p l = true) (hv : allR p v = true) : allRL p (lset l n v) = true := by
 rw [lset_eq]
 exact allRL_of fun x hx => by
  rcases List.mem_or_eq_of_mem_set hx with h1 | rfl
  ·exact allRL_mem h x h1
  ·exact hv
theorem T.invH {rt : List (Nat × Nat)} {S S1 : St} (hs : hSafe rt o = true) (hI : InvR rt S) (h : T P nb true all o S S1) : InvH rt S1.2 := by
  cases hw : wrH all o with
  | false => rw [h.out.2.2 hw]; exact hI.2
  | true =>
    obtain ⟨dst, op, ty, pos, after, gd⟩ := o
    cases op with
    | load t x =>
      cases h with
      | @op tm hp hw2 hc =>
        intro i hi
        have hH := hI.2 i hi
        dsimp only at hH ⊢
        simp only [opM]
        split
        · exact hH
        · rename_i sz id off h1 h2 h3
          rw [mvH_upd rfl]
          by_cases e : id = i
          · subst e
            split
            · rename_i oe l he
              cases stolen all dst with
              | false => exact hH
              | true =>
                simp only [cond_true, updH, hset_eq, hget]
                rcases hget_set (hp := hp) (i := id) (cs := lset (hget hp id) off (.sl none l)) with e | e <;> rw [e]
                · exact allRL_lset hH (by simp [allR])
                · exact hH
            · exact hH
          · rw [hget_updH e]; exact hH
        · exact hH
        · exact hH
        · exact hH
      | skip hw2 => exact hI.2
      | call hw2 hop hcal hn hA => cases hop
      | callF hd hw2 hop hcal hfc hA => cases hd
      | callB hd hw2 hop hcal hn hA => cases hd
      | callO hw2 hop hcal hn hA => cases hop
      | opx hd hw2 hs => cases hd
    | store t x y =>
      cases h with
      | @op tm hp hw2 hc =>
        simp only [hSafe, Bool.or_eq_true] at hs
        rcases hs with hs | hs
        · exact InvH.no hs
        split at hs
        · rename_i j ej
          intro i hi
          have hij : j ≠ i := fun e => by subst e; rw [hi] at hs; cases hs
          have hH := hI.2 i hi
          obtain ⟨ej1, ej2⟩ := nOO_some ej
          have hv : okRt0 j (opv tm x) = true := by
            rw [← okRt_ne ej2]
            cases x with
            | tmp s => exact hI.1 s j ej1
            | _ => simp [rtOf] at ej1
          dsimp only at hH ⊢
          simp only [opM]
          split
          · rename_i sz id off h1 h3
            rw [h3] at hv
            simp only [okRt0, beq_iff_eq] at hv
            subst hv
            rw [hget_hset_ne hij]; exact hH
          · exact hH
        · cases hs
      | skip hw2 => exact hI.2
      | call hw2 hop hcal hn hA => cases hop
      | callF hd hw2 hop hcal hfc hA => cases hd
      | callB hd hw2 hop hcal hn hA => cases hd
      | callO hw2 hop hcal hn hA => cases hop
      | opx hd hw2 hs => cases hd
    | alloc t => exact InvH.no hs
    | box t x => exact InvH.no hs
    | _ => cases hw
theorem T.inv1 {rt : List (Nat × Nat)} {S S1 : St} (hrt : rtOk1 rt o = true) (hI : InvR rt S) (h : T P nb true all o S S1) : InvR rt S1 :=
 ⟨h.invT hrt hI, h.invH (Bool.and_eq_true_iff.1 hrt).1 hI⟩
theorem T.inv {rt : List (Nat × Nat)} {S S1 : St} (hrt : rtOk rt all = true) (ho : o ∈ all) (hI : InvR rt S) (h : T P nb true all o S S1) : InvR rt S1 := h.inv1 (List.all_eq_true.1 hrt o ho) hI
theorem T.heapB {rt : List (Nat × Nat)} {tm : List AV} {hp : Heap} {S1 : St} {i : Nat} (hb : blkOf rt o = some i) (hI : InvT rt tm) (h : T P nb true all o (tm, hp) S1) :
  ∃ u, S1.2 = updH hp i u ∧ ∀ hp2, hget hp2 i = hget hp i → T P nb true all o (tm, hp2) (S1.1, updH hp2 i u) := by
 obtain ⟨dst, op, ty, pos, after, gd⟩ := o
 have hx' : ∀ x, nOO (rtOf rt x) = some i → okRt0 i (opv tm x) = true := fun x hx0 => by
  obtain ⟨hx, hoo⟩ := nOO_some hx0
  rw [← okRt_ne hoo]
  cases x with
  | tmp s => exact hI s i hx
  | _ => simp [rtOf] at hx
 cases op with
 | load t x =>
  have hx := hx' x hb
  cases h with
  | @op _ _ hw hc =>
   have hT := fun hp2 hc2 => T.op (P := P) (nb := nb) (d := true) (all := all) (o := ⟨dst, .load t x, ty, pos, after, gd⟩) (tm := tm) (hp := hp2) hw hc2
   revert hT hc
   simp only [opM]
   intro hc hT
   split at hc
   ·rename_i sz id off h1 h2 h3
    rw [h3] at hx
    simp only [okRt0, beq_iff_eq] at hx
    subst hx
    refine ⟨none, rfl, fun hp2 he => ?_⟩
    have := hT hp2
    simp only [h1, h2, h3, he, updH] at this ⊢
    exact this hc
   ·rename_i sz id off h1 h2 h3
    rw [h3] at hx
    simp only [okRt0, beq_iff_eq] at hx
    subst hx
    refine ⟨match lget (hget hp id) off with | .sl (some oe) l => bif stolen all dst then some (lset (hget hp id) off (.sl none l)) else none | _ => none, ?_, fun hp2 he => ?_⟩
    ·simp only [h1, h2, h3]
     exact mvH_upd rfl
    ·have := hT hp2
     simp only [h1, h2, h3, he] at this ⊢
     have h4 := this hc
     have e : mvH all dst hp2 id off = updH hp2 id (match lget (hget hp id) off with | .sl (some oe) l => bif stolen all dst then some (lset (hget hp id) off (.sl none l)) else none | _ => none) := by
      exact mvH_upd he
     rw [e] at h4
     exact h4
   ·rename_i h3; rw [h3] at hx; simp [okRt0] at hx
   ·rename_i h3; rw [h3] at hx; simp [okRt0] at hx
   ·exact (hc False rfl).elim
  | skip hw => exact ⟨none, rfl, fun hp2 he => .skip hw⟩
  | call hw hop hcal hn hA => cases hop
  | callF hd hw hop hcal hfc hA => cases hd
  | callB hd hw hop hcal hn hA => cases hd
  | callO hw hop hcal hn hA => cases hop
  | opx hd hw hs => cases hd
 | store t x y =>
  have hx := hx' x hb
  cases h with
  | @op _ _ hw hc =>
   have hT := fun hp2 hc2 => T.op (P := P) (nb := nb) (d := true) (all := all) (o := ⟨dst, .store t x y, ty, pos, after, gd⟩) (tm := tm) (hp := hp2) hw hc2
   revert hT hc
   simp only [opM]
   intro hc hT
   split at hc
   ·rename_i sz id off h1 h3
    rw [h3] at hx
    simp only [okRt0, beq_iff_eq] at hx
    subst hx
    refine ⟨some (lput (hget hp id) off (storeW y (lget (hget hp id) off) (storeV (opv tm y)))), ?_, fun hp2 he => ?_⟩
    ·simp only [h1, h3, updH]
    ·have := hT hp2
     simp only [h1, h3, he, updH] at this ⊢
     exact this hc
   ·exact (hc False rfl).elim
  | skip hw => exact ⟨none, rfl, fun hp2 he => .skip hw⟩
  | call hw hop hcal hn hA => cases hop
  | callF hd hw hop hcal hfc hA => cases hd
  | callB hd hw hop hcal hn hA => cases hd
  | callO hw hop hcal hn hA => cases hop
  | opx hd hw hs => cases hd
 | _ => simp [blkOf] at hb
theorem T.loadO {rt : List (Nat × Nat)} {S S1 : St} (hl : ldO rt all o = true) (hI : InvR rt S) (h : T P nb true all o S S1) : S1.2 = S.2 ∧ ∀ hp2, T P nb true all o (S.1, hp2) (S1.1, hp2) := by
 obtain ⟨dst, op, ty, pos, after, gd⟩ := o
 cases op with
 | load t x =>
  simp only [ldO, Bool.and_eq_true, beq_iff_eq] at hl
  obtain ⟨hx, hs⟩ := hl
  have hv : allR (fun _ => false) (opv S.1 x) = true := by
   cases x with
   | tmp s => exact hI.1 s _ hx
   | _ => simp [rtOf] at hx
  cases h with
  | @op tm hp hw hc =>
   have hT := fun hp2 hc2 => T.op (P := P) (nb := nb) (d := true) (all := all) (o := ⟨dst, .load t x, ty, pos, after, gd⟩) (tm := tm) (hp := hp2) hw hc2
   revert hT hc
   simp only [opM]
   intro hc hT
   split at hc
   ·rename_i sz id off h1 h2 h3; simp only [h3] at hv; simp [allR] at hv
   ·rename_i sz id off h1 h2 h3; simp only [h3] at hv; simp [allR] at hv
   ·rename_i sz cs h1 h2 h3
    simp only [h1, h2, h3] at hT ⊢
    exact ⟨trivial, fun hp2 => hT hp2 hc⟩
   ·rename_i sz cs h1 h2 h3
    simp only [h1, h2, h3] at hT ⊢
    exact ⟨trivial, fun hp2 => hT hp2 hc⟩
   ·exact (hc False rfl).elim
  | skip hw => exact ⟨rfl, fun hp2 => .skip hw⟩
  | call hw hop hcal hn hA => cases hop
  | callF hd hw hop hcal hfc hA => cases hd
  | callB hd hw hop hcal hn hA => cases hd
  | callO hw hop hcal hn hA => cases hop
  | opx hd hw hs => cases hd
 | _ => simp [ldO] at hl
theorem ldO_wr {rt : List (Nat × Nat)} (h : ldO rt all o = true) : wrH all o = false := by
 obtain ⟨dst, op, ty, pos, after, gd⟩ := o
 cases op with
 | load t x => simp only [ldO, Bool.and_eq_true, Bool.not_eq_true'] at h; simp only [wrH]; exact h.2
 | _ => simp [ldO] at h
theorem T.swapO {rt : List (Nat × Nat)} {a b : Oper} {S S1 S2 : St} (hI : InvR rt S) (hI1 : InvR rt S1) (ha : T P nb true all a S S1) (hb : T P nb true all b S1 S2) (hi : indepO rt all a b = true) : ∃ S3, T P nb true all b S S3 ∧ T P nb true all a S3 S2 := by
 simp only [indepO, Bool.and_eq_true, Bool.or_eq_true] at hi
 obtain ⟨⟨⟨i1, i2⟩, i3⟩, i4⟩ := hi
 obtain ⟨la, oa, ha'⟩ := ha.out
 obtain ⟨lb, ob, hb'⟩ := hb.out
 rcases i4 with i4 | i4
 ·obtain ⟨e1, x1⟩ := ha.loadO i4 hI
  obtain ⟨S5, r1, r2, r3⟩ := hb.frame (S2 := (S.1, S1.2)) la (fun t ht => oa t (fun h => apart_spec i1 h ht)) (fun _ => rfl)
  rw [e1] at r1
  obtain ⟨l3, o3, h3⟩ := r1.out
  obtain ⟨S4, q1, q2, q3⟩ := (x1 S5.2).frame (S2 := (S5.1, S5.2)) l3.symm (fun t ht => (o3 t (fun h => apart_spec i2 h ht)).symm) (fun _ => rfl)
  obtain ⟨l4, o4, h4⟩ := q1.out
  refine ⟨S5, r1, ?_⟩
  have := swap_slots (all := all) (S3 := S5) i3 la lb l3 l4 oa ob o3 o4 r2 q2
  have e2 : S4.2 = S2.2 := by
   rw [h4 (ldO_wr i4)]
   cases hw : wrH all b with
   | true => exact r3 hw
   | false => rw [hb' hw, h3 hw, e1]
  have e : (S4 : St) = S2 := Prod.ext this e2
  rw [← e]; exact q1
 ·obtain ⟨e1, x1⟩ := hb.loadO i4 hI1
  obtain ⟨S5, r1, r2, r3⟩ := (x1 S.2).frame (S2 := (S.1, S.2)) la (fun t ht => oa t (fun h => apart_spec i1 h ht)) (fun _ => rfl)
  obtain ⟨l3, o3, h3⟩ := r1.out
  have h3' : S5.2 = S.2 := h3 (ldO_wr i4)
  obtain ⟨S4, q1, q2, q3⟩ := ha.frame (S2 := (S5.1, S.2)) l3.symm (fun t ht => (o3 t (fun h => apart_spec i2 h ht)).symm) (fun _ => rfl)
  obtain ⟨l4, o4, h4⟩ := q1.out
  refine ⟨(S5.1, S.2), by rw [← h3']; exact r1, ?_⟩
  have := swap_slots (all := all) (S3 := (S5.1, S.2)) i3 la lb l3 l4 oa ob o3 o4 r2 q2
  have e2 : S4.2 = S2.2 := by
   rw [e1]
   cases hw : wrH all a with
   | true => exact q3 hw
   | false => rw [h4 hw, ha' hw]
  have e : (S4 : St) = S2 := Prod.ext this e2
  rw [← e]; exact q1
def FixEq (hp hp2 : Heap) : Prop := ∀ i, (hget hp i).map fix = (hget hp2 i).map fix
theorem FixEq.len {hp hp2 : Heap} (h : FixEq hp hp2) (i : Nat) : (hget hp i).length = (hget hp2 i).length := by
 have := congrArg List.length (h i)
 simpa using this
theorem lget_map_fix (l : List AV) (j : Nat) : lget (l.map fix) j = fix (lget l j) := by
  rw [lget_eq, lget_eq, List.getD_eq_getElem?_getD, List.getD_eq_getElem?_getD, List.getElem?_map]
  cases l[j]? <;> rfl
theorem FixEq.get {hp hp2 : Heap} (h : FixEq hp hp2) (i j : Nat) : fix (lget (hget hp i) j) = fix (lget (hget hp2 i) j) := by
 rw [← lget_map_fix, ← lget_map_fix, h i]
theorem mvV_fix {all : List Oper} {dst : Option Nat} (h : stolen all dst = false) (v : AV) : mvV all dst v = fix v := by
 unfold mvV
 split
 ·rw [h]; rfl
 ·rename_i h1
  cases v with
  | sl o l => cases o with
   | none => rfl
   | some oe => exact absurd rfl (h1 oe l)
  | _ => rfl
theorem mvH_fix {all : List Oper} {dst : Option Nat} {hp : Heap} {id off : Nat} : FixEq hp (mvH all dst hp id off) := by
 intro i
 unfold mvH
 split
 ·rename_i oe l he
  cases stolen all dst with
  | false => rfl
  | true =>
   simp only [cond_true]
   by_cases e : id = i
   ·subst e
    rw [hset_eq]
    have : hget (hp.set id (some (lset (hget hp id) off (.sl none l)))) id = lset (hget hp id) off (.sl none l) ∨ hget (hp.set id (some (lset (hget hp id) off (.sl none l)))) id = hget hp id := by
     have := hget_set (hp := hp) (i := id) (cs := lset (hget hp id) off (.sl none l))
     exact this
    rcases this with e | e
    ·rw [e]
     simp only [lset_eq, List.map_set]
     apply List.ext_getElem?
     intro j
     rw [List.getElem?_set]
     by_cases e2 : off = j
     ·subst e2
      rw [if_pos rfl]
      split
      ·rename_i hlt
       have hlt' : off < (hget hp id).length := by simpa using hlt
       rw [List.getElem?_map, List.getElem?_eq_getElem hlt']
       have : lget (hget hp id) off = (hget hp id)[off] := by rw [lget_eq, List.getD_eq_getElem?_getD, List.getElem?_eq_getElem hlt']; rfl
       rw [← this, he]; rfl
      ·rename_i hlt
       rw [List.getElem?_eq_none]
       simpa using hlt
     ·rw [if_neg e2]
    ·rw [e]
   ·rw [hget_hset_ne e]
 ·rfl
theorem ltake_map (f : AV → AV) (n : Nat) (l : List AV) : (ltake n l).map f = ltake n (l.map f) := by
  induction n generalizing l with
  | zero => cases l <;> rfl
  | succ n ih => cases l with
    | nil => rfl
    | cons x l => simp only [ltake, List.map_cons, ih]
theorem ldrop_map (f : AV → AV) (n : Nat) (l : List AV) : (ldrop n l).map f = ldrop n (l.map f) := by
  induction n generalizing l with
  | zero => cases l <;> rfl
  | succ n ih => cases l with
    | nil => rfl
    | cons x l => simp only [ldrop, List.map_cons, ih]
theorem T.loadN {S S1 : St} (hl : ldN all o = true) (h : T P nb true all o S S1) : S1.2 = S.2 ∧ ∀ hp2, FixEq S.2 hp2 → T P nb true all o (S.1, hp2) (S1.1, hp2) := by
 obtain ⟨dst, op, ty, pos, after, gd⟩ := o
 cases op with
 | load t x =>
  simp only [ldN, Bool.not_eq_true'] at hl
  cases h with
  | @op tm hp hw hc =>
   have hT := fun hp2 hc2 => T.op (P := P) (nb := nb) (d := true) (all := all) (o := ⟨dst, .load t x, ty, pos, after, gd⟩) (tm := tm) (hp := hp2) hw hc2
   revert hT hc
   simp only [opM]
   intro hc hT
   split at hc
   ·rename_i sz id off h1 h2 h3
    simp only [h1, h2, h3] at hT ⊢
    refine ⟨trivial, fun hp2 hf => ?_⟩
    have e : (ltake sz (ldrop off (hget hp2 id))).map fix = (ltake sz (ldrop off (hget hp id))).map fix := by rw [ltake_map, ltake_map, ldrop_map, ldrop_map, hf id]
    have := hT hp2
    rw [e, ← hf.len id] at this
    exact this hc
   ·rename_i sz id off h1 h2 h3
    simp only [h1, h2, h3] at hT ⊢
    have hH : ∀ hp : Heap, mvH all dst hp id off = hp := fun hp => by
     unfold mvH
     split
     ·rw [hl]; rfl
     ·rfl
    refine ⟨hH hp, fun hp2 hf => ?_⟩
    have := hT hp2
    rw [mvV_fix hl, ← hf.get id off, ← mvV_fix hl, ← hf.len id, hH] at this
    exact this hc
   ·rename_i sz cs h1 h2 h3
    simp only [h1, h2, h3] at hT ⊢
    exact ⟨trivial, fun hp2 _ => hT hp2 hc⟩
   ·rename_i sz cs h1 h2 h3
    simp only [h1, h2, h3] at hT ⊢
    exact ⟨trivial, fun hp2 _ => hT hp2 hc⟩
   ·exact (hc False rfl).elim
  | skip hw => exact ⟨rfl, fun hp2 _ => .skip hw⟩
  | call hw hop hcal hn hA => cases hop
  | callF hd hw hop hcal hfc hA => cases hd
  | callB hd hw hop hcal hn hA => cases hd
  | callO hw hop hcal hn hA => cases hop
  | opx hd hw hs => cases hd
 | _ => simp [ldN] at hl
theorem T.loadF {S S1 : St} (hl : isLd o = true) (h : T P nb true all o S S1) : FixEq S.2 S1.2 := by
 obtain ⟨dst, op, ty, pos, after, gd⟩ := o
 cases op with
 | load t x =>
  cases h with
  | @op tm hp hw hc =>
   simp only [opM]
   split
   ·intro i; rfl
   ·exact mvH_fix
   ·intro i; rfl
   ·intro i; rfl
   ·intro i; rfl
  | skip hw => intro i; rfl
  | call hw hop hcal hn hA => cases hop
  | callF hd hw hop hcal hfc hA => cases hd
  | callB hd hw hop hcal hn hA => cases hd
  | callO hw hop hcal hn hA => cases hop
  | opx hd hw hs => cases hd
 | _ => simp [isLd] at hl
theorem ldN_wr (h : ldN all o = true) : wrH all o = false := by
 obtain ⟨dst, op, ty, pos, after, gd⟩ := o
 cases op with
 | load t x => simp only [ldN, Bool.not_eq_true'] at h; simp only [wrH]; exact h
 | _ => simp [ldN] at h
theorem T.swapL {a b : Oper} {S S1 S2 : St} (ha : T P nb true all a S S1) (hb : T P nb true all b S1 S2) (hi : indepL all a b = true) : ∃ S3, T P nb true all b S S3 ∧ T P nb true all a S3 S2 := by
 simp only [indepL, Bool.and_eq_true, Bool.or_eq_true] at hi
 obtain ⟨⟨⟨i1, i2⟩, i3⟩, i4⟩ := hi
 obtain ⟨la, oa, ha'⟩ := ha.out
 obtain ⟨lb, ob, hb'⟩ := hb.out
 rcases i4 with ⟨i4, i5⟩ | ⟨i5, i4⟩
 ·obtain ⟨e1, x1⟩ := ha.loadN i4
  obtain ⟨S5, r1, r2, r3⟩ := hb.frame (S2 := (S.1, S1.2)) la (fun t ht => oa t (fun h => apart_spec i1 h ht)) (fun _ => rfl)
  rw [e1] at r1
  obtain ⟨l3, o3, h3⟩ := r1.out
  obtain ⟨S4, q1, q2, q3⟩ := (x1 S5.2 (r1.loadF i5)).frame (S2 := (S5.1, S5.2)) l3.symm (fun t ht => (o3 t (fun h => apart_spec i2 h ht)).symm) (fun _ => rfl)
  obtain ⟨l4, o4, h4⟩ := q1.out
  refine ⟨S5, r1, ?_⟩
  have := swap_slots (all := all) (S3 := S5) i3 la lb l3 l4 oa ob o3 o4 r2 q2
  have e2 : S4.2 = S2.2 := by
   rw [h4 (ldN_wr i4)]
   cases hw : wrH all b with
   | true => exact r3 hw
   | false => rw [hb' hw, h3 hw, e1]
  have e : (S4 : St) = S2 := Prod.ext this e2
  rw [← e]; exact q1
 ·obtain ⟨e1, x1⟩ := hb.loadN i4
  obtain ⟨S5, r1, r2, r3⟩ := (x1 S.2 (fun i => ((ha.loadF i5) i).symm)).frame (S2 := (S.1, S.2)) la (fun t ht => oa t (fun h => apart_spec i1 h ht)) (fun _ => rfl)
  obtain ⟨l3, o3, h3⟩ := r1.out
  have h3' : S5.2 = S.2 := h3 (ldN_wr i4)
  obtain ⟨S4, q1, q2, q3⟩ := ha.frame (S2 := (S5.1, S.2)) l3.symm (fun t ht => (o3 t (fun h => apart_spec i2 h ht)).symm) (fun _ => rfl)
  obtain ⟨l4, o4, h4⟩ := q1.out
  refine ⟨(S5.1, S.2), by rw [← h3']; exact r1, ?_⟩
  have := swap_slots (all := all) (S3 := (S5.1, S.2)) i3 la lb l3 l4 oa ob o3 o4 r2 q2
  have e2 : S4.2 = S2.2 := by
   rw [e1]
   cases hw : wrH all a with
   | true => exact q3 hw
   | false => rw [h4 hw, ha' hw]
  have e : (S4 : St) = S2 := Prod.ext this e2
  rw [← e]; exact q1
theorem T.swapR1 {rt : List (Nat × Nat)} {a b : Oper} {S S1 S2 : St} (hra : (blkOf rt a).isSome = true → rtOk1 rt a = true) (hrb : (blkOf rt b).isSome = true → rtOk1 rt b = true) (hI : InvR rt S) (ha : T P nb true all a S S1) (hb : T P nb true all b S1 S2) (hi : indepR rt all a b = true) : ∃ S3, T P nb true all b S S3 ∧ T P nb true all a S3 S2 := by
 simp only [indepR, Bool.or_eq_true] at hi
 rcases hi with (hi | hi) | hi
 ·exact ha.swap hb hi
 ·exact ha.swapM hb hi
 simp only [Bool.and_eq_true] at hi
 obtain ⟨⟨⟨i1, i2⟩, i3⟩, i4⟩ := hi
 obtain ⟨i, j, eb1, eb2, hij⟩ : ∃ i j, blkOf rt a = some i ∧ blkOf rt b = some j ∧ i ≠ j := by
  unfold neO at i4
  split at i4
  ·rename_i i j e1 e2; exact ⟨i, j, e1, e2, by simpa using i4⟩
  ·cases i4
 obtain ⟨la, oa, ha'⟩ := ha.out
 obtain ⟨lb, ob, hb'⟩ := hb.out
 have hI1 : InvR rt S1 := ha.inv1 (hra (by rw [eb1]; rfl)) hI
 obtain ⟨ua, x1, _⟩ := T.heapB (S1 := S1) (tm := S.1) (hp := S.2) eb1 hI.1 ha
 obtain ⟨S5, r1, r2, r3⟩ := hb.frame (S2 := (S.1, S1.2)) la (fun t ht => oa t (fun h => apart_spec i1 h ht)) (fun _ => rfl)
 obtain ⟨ub, y1, y2⟩ := T.heapB eb2 (hI.1 : InvT rt (S.1, S1.2).1) r1
 have h1 := y2 S.2 (by rw [x1, hget_updH hij])
 obtain ⟨l3, o3, _⟩ := h1.out
 obtain ⟨S4, q1, q2, q3⟩ := ha.frame (S2 := (S5.1, S.2)) l3.symm (fun t ht => (o3 t (fun h => apart_spec i2 h ht)).symm) (fun _ => rfl)
 have hI5 : InvR rt (S5.1, updH S.2 j ub) := T.inv1 (S := (S.1, S.2)) (S1 := (S5.1, updH S.2 j ub)) (hrb (by rw [eb2]; rfl)) hI h1
 obtain ⟨u', z1, z2⟩ := T.heapB (tm := S5.1) (hp := S.2) eb1 hI5.1 q1
 obtain ⟨l4, o4, h4⟩ := q1.out
 have h5 := z2 (updH S.2 j ub) (hget_updH (Ne.symm hij))
 refine ⟨(S5.1, updH S.2 j ub), h1, ?_⟩
 have := swap_slots (all := all) (S3 := (S5.1, S.2)) i3 la lb l3 l4 oa ob o3 o4 r2 q2
 have e4 : updH S.2 i u' = S1.2 := by
  rw [← z1]
  cases hw : wrH all a with
  | true => exact q3 hw
  | false => rw [h4 hw, ha' hw]
 have e2 : S2.2 = S5.2 := by
  cases hw : wrH all b with
  | true => exact (r3 hw).symm
  | false => rw [hb' hw, r1.out.2.2 hw]
 have e : ((S4.1, updH (updH S.2 j ub) i u') : St) = S2 := Prod.ext this (by rw [e2, y1, ← e4]; exact (updH_comm hij).symm)
 rw [← e]; exact h5
theorem T.swapR {rt : List (Nat × Nat)} {a b : Oper} {S S1 S2 : St} (hrt : rtOk rt all = true) (hma : a ∈ all) (hmb : b ∈ all) (hI : InvR rt S) (ha : T P nb true all a S S1) (hb : T P nb true all b S1 S2) (hi : (indepR rt all a b || indepO rt all a b || indepL all a b) = true) : ∃ S3, T P nb true all b S S3 ∧ T P nb true all a S3 S2 := by
 simp only [Bool.or_eq_true] at hi
 rcases hi with (hi | hi) | hi
 ·exact ha.swapR1 (fun _ => List.all_eq_true.1 hrt a hma) (fun _ => List.all_eq_true.1 hrt b hmb) hI hb hi
 ·exact ha.swapO hI (ha.inv1 (List.all_eq_true.1 hrt a hma) hI) hb hi
 ·exact ha.swapL hb hi
theorem inv_keep {rt : List (Nat × Nat)} {o : Oper} {S S1 : St} (hrt : rtOk rt all = true) (ho : o ∈ all) (hc : isCallOp o.op = true) (hk : KeepT o.dst S.1 S1.1) (hI : InvR rt S) : InvR rt S1 := by
  have h0 := List.all_eq_true.1 hrt o ho
  simp only [rtOk1, Bool.and_eq_true] at h0
  refine ⟨fun t i h => ?_, InvH.no ?_⟩
  · by_cases e : o.dst = some t
    · exfalso
      have := h0.2
      simp only [e, h] at this
      obtain ⟨dst, op, ty, pos, after, gd⟩ := o
      cases op <;> simp_all [isCallOp]
    · rcases hk t e with h1 | h1
      · rw [h1]; exact hI.1 t i h
      · rw [h1]; exact okRt_any
  · have := h0.1
    obtain ⟨dst, op, ty, pos, after, gd⟩ := o
    cases op <;> simp_all [isCallOp, hSafe]
def midOf (rt : List (Nat × Nat)) (o : Oper) : Option Nat := match o.op with
 | .call { args, .. } => match args.toList with
  | x :: _ => nOO (rtOf rt x)
  | _ => none
 | _ => none
def indepM (rt : List (Nat × Nat)) (all : List Oper) (a m : Oper) : Bool :=
 apart (wrA all a) (rdA all m) && apart (wrA all m) (rdA all a) && apart (wrA all a) (wrA all m) && ((!rdH a && !wrH all a) || ldO rt all a || neO (blkOf rt a) (midOf rt m))
def pairI (P : Program) (rt : List (Nat × Nat)) (all : List Oper) (a b : Oper) : Bool :=
 bif memF P a then !memF P b && indepM rt all b a else bif memF P b then indepM rt all a b else indepR rt all a b || indepO rt all a b || indepL all a b
theorem memF_op {o : Oper} (h : memF P o = true) : ∃ f args tys t l, o.op = .call { callee := .value (.func f), args, argTypes := tys } ∧ args.toList = .tmp t :: l := by
 obtain ⟨dst, op, ty, pos, after, gd⟩ := o
 unfold memF at h
 split at h
 ·rename_i f args tys e
  simp only [Bool.and_eq_true] at h
  have h1 := h.1
  split at h1
  ·rename_i t l e2; exact ⟨f, args, tys, t, l, e, e2⟩
  ·cases h1
 ·cases h
theorem MidT.block {rt : List (Nat × Nat)} {id i : Nat} {S S1 : St} (hf : memF P o = true) (hI : InvR rt S) (h : MidT P nb all o id S S1) (hm : midOf rt o = some i) : i = id := by
  obtain ⟨f0, args0, tys0, t, l0, e0, e1⟩ := memF_op hf
  obtain ⟨fo, args, tys, f, as, r, hp1, x, l, h1, h2, h3, h4, h5, h6, h7, h8⟩ := h.ex
  rw [e0] at h2
  simp only [Op.call.injEq, Call.mk.injEq, Callee.value.injEq] at h2
  obtain ⟨h2a, h2b, h2c⟩ := h2
  subst h2a; subst h2b
  unfold midOf at hm
  rw [e0] at hm
  dsimp only at hm
  rw [e1] at hm
  dsimp only at hm
  obtain ⟨m1, m2⟩ := nOO_some hm
  have hv := hI.1 t i m1
  rw [okRt_ne m2] at hv
  simp only [opv, calleeOf, Option.some.injEq, Prod.mk.injEq] at h3
  obtain ⟨_, h3⟩ := h3
  rw [h4] at h3
  simp only [allOp, e1, List.nil_append, List.append_nil, List.map_cons, List.cons.injEq, opv] at h3
  have hx := h3.1
  generalize lget S.1 t = v at hv hx
  cases v <;> simp [okRt0, fix] at hv hx <;> subst hx <;> simp [refOf] at h5
  · exact hv.symm.trans h5
  · exact hv.symm.trans h5
theorem hget_none {hp : Heap} {id : Nat} (h : hp[id]? = none) : hget hp id = [] := by
  induction hp generalizing id with
  | nil => rfl
  | cons a l ih =>
    cases id with
    | zero => simp at h
    | succ id => cases a <;> exact ih (by simpa using h)
theorem hget_eq_of {hp hp2 : Heap} {id : Nat} (h : hp[id]? = hp2[id]?) : hget hp id = hget hp2 id := by
  induction hp generalizing hp2 id with
  | nil =>
    have : hp2[id]? = none := by rw [← h]; rfl
    rw [hget_none this]; rfl
  | cons a l ih =>
    cases hp2 with
    | nil => 
      have : (a :: l)[id]? = none := by rw [h]; rfl
      rw [hget_none this]; rfl
    | cons b l2 =>
      cases id with
      | zero => simp at h; subst h; cases a <;> rfl
      | succ id => 
        have := ih (hp2 := l2) (id := id) (by simpa using h)
        cases a <;> cases b <;> exact this
theorem isB_eq_of {hp hp2 : Heap} {id : Nat} (h : hp[id]? = hp2[id]?) : isB hp id = isB hp2 id := by
  have key : ∀ (hp : Heap) (id : Nat), isB hp id = (match hp[id]? with | some (some _) => true | _ => false) := by
    intro hp
    induction hp with
    | nil => intro id; rfl
    | cons a l ih =>
      intro id
      cases id with
      | zero => cases a <;> rfl
      | succ id => cases a <;> simpa [isB] using ih id
  rw [key, key, h]
def renO (f : Nat → Nat) : Option (List AV) → Option (List AV)
 | some cs => some (renL f cs)
 | none => none
theorem wb_one {f : Nat → Nat} {id : Nat} {h0 : Option (List AV)} {hp : Heap} : wb f [id] [h0] hp = hsetO hp id (renO f h0) := by cases h0 <;> rfl
theorem MidT.foot {id : Nat} {S S1 : St} (h : MidT P nb all o id S S1) : ∃ v u, S1 = (put S.1 o.dst v, hsetO S.2 id u) ∧ ∀ S2 : St, (∀ t, t ∈ rdA all o → lget S.1 t = lget S2.1 t) → S2.2[id]? = S.2[id]? → MidT P nb all o id S2 (put S2.1 o.dst v, hsetO S2.2 id u) := by
 obtain ⟨fo, args, tys, f, as, r, hp1, x, l, h1, h2, h3, h4, h5, h6, h7, h8⟩ := h.ex
 have hlen : hp1.length = 1 := by have := h7.2.1; simpa [focus] using this
 obtain ⟨h0, rfl⟩ : ∃ h0, hp1 = [h0] := by
  match hp1, hlen with
  | [a], _ => exact ⟨a, rfl⟩
 have hwb : ∀ hp2 : Heap, wb (nth [id]) [id] [h0] hp2 = hsetO hp2 id (renO (nth [id]) h0) := fun hp2 => wb_one
 rw [hwb] at h8
 refine ⟨_, _, h8, fun S2 hs hh => ⟨fo, args, tys, f, as, r, [h0], x, l, ?_, h2, ?_, h4, h5, ?_, ?_, by rw [hwb]⟩⟩
 ·have hg : ∀ t, t ∈ gT all o → lget S.1 t = lget S2.1 t := fun t ht => hs t (by simp [rdA, ht])
  unfold Wanted at *
  cases e : o.guard with
  | none => trivial
  | some p =>
   obtain ⟨j, b⟩ := p
   rw [e] at h1
   dsimp only at h1 ⊢
   obtain ⟨t, ht, hb⟩ := h1
   exact ⟨t, ht, by rw [← hg t (by simp [gT, e, ht])]; exact hb⟩
 ·have hop : ∀ y, y ∈ o.op.operands → opv S2.1 y = opv S.1 y := fun y hy => opv_congr fun t ht => (hs t (by
   simp only [rdA, List.mem_append]; left
   simp only [rdT, List.mem_flatMap]
   exact ⟨y, by simpa using hy, ht⟩)).symm
  rw [h2] at hop
  rw [hop fo (by simp [Op.operands, Call.operands]), allOp_congr (tm := S2.1) (tm2 := S.1) fun y hy => hop y (by simp [Op.operands, Call.operands]; exact .inr hy)]
  exact h3
 ·simp only [fcOk] at h6 ⊢
  simp only [List.all_cons, List.all_nil, Bool.and_true] at h6 ⊢
  rw [isB_eq_of hh, hget_eq_of hh]; exact h6
 ·have : focus [id] S2.2 = focus [id] S.2 := by simp only [focus, List.map_cons, List.map_nil, hget_eq_of hh]
  rw [this]; exact h7
theorem hset_get_ne {hp : Heap} {j id : Nat} {u : Option (List AV)} (h : j ≠ id) : (updH hp j u)[id]? = hp[id]? := by
 cases u with
 | none => rfl
 | some cs => simp only [updH, hset_eq]; exact List.getElem?_set_ne h
theorem updH_hsetO {hp : Heap} {j id : Nat} {u v : Option (List AV)} (h : j ≠ id) : updH (hsetO hp id v) j u = hsetO (updH hp j u) id v := by
 cases u with
 | none => rfl
 | some cs => simp only [updH, hset_eq, hsetO_eq]; exact List.set_comm _ _ (Ne.symm h)
theorem T.foot {rt : List (Nat × Nat)} {id : Nat} {S S1 : St} (h : T P nb true all o S S1) (hI : InvR rt S) (hc : (!rdH o && !wrH all o) = true ∨ ldO rt all o = true ∨ ∃ j, blkOf rt o = some j ∧ j ≠ id) (u : Option (List AV)) (tm2 : List AV) (hl : S.1.length = tm2.length) (hs : ∀ t, t ∈ rdA all o → lget S.1 t = lget tm2 t) :
  ∃ S3 : St, T P nb true all o (tm2, hsetO S.2 id u) S3 ∧ (∀ t, t ∈ wrA all o → lget S1.1 t = lget S3.1 t) ∧ S3.2 = hsetO S1.2 id u ∧ S1.2[id]? = S.2[id]? := by
 rcases hc with hc | hc | ⟨j, hb, hj⟩
 ·simp only [Bool.and_eq_true, Bool.not_eq_true'] at hc
  obtain ⟨S3, q1, q2, _⟩ := h.frame (S2 := (tm2, hsetO S.2 id u)) hl hs (fun e => by rw [hc.1] at e; cases e)
  refine ⟨S3, q1, q2, ?_, ?_⟩
  ·rw [q1.out.2.2 hc.2, h.out.2.2 hc.2]
  ·rw [h.out.2.2 hc.2]
 ·obtain ⟨e1, x1⟩ := h.loadO hc hI
  obtain ⟨S3, q1, q2, _⟩ := (x1 (hsetO S.2 id u)).frame (S2 := (tm2, hsetO S.2 id u)) hl hs (fun _ => rfl)
  refine ⟨S3, q1, q2, ?_, by rw [e1]⟩
  rw [q1.out.2.2 (ldO_wr hc), e1]
 ·obtain ⟨v, x1, x2⟩ := T.heapB (S1 := S1) (tm := S.1) (hp := S.2) hb hI.1 h
  have h2 := x2 (hsetO S.2 id u) (hget_eq_of (by rw [hsetO_eq]; exact List.getElem?_set_ne (Ne.symm hj)))
  obtain ⟨S3, q1, q2, q3⟩ := h2.frame (S2 := (tm2, hsetO S.2 id u)) hl hs (fun _ => rfl)
  refine ⟨S3, q1, q2, ?_, ?_⟩
  ·have : S3.2 = updH (hsetO S.2 id u) j v := by
    cases hw : wrH all o with
    | true => exact q3 hw
    | false => rw [q1.out.2.2 hw, ← h2.out.2.2 hw]
   rw [this, updH_hsetO hj, x1]
  ·rw [x1]; exact hset_get_ne hj
theorem indepM_spec {rt : List (Nat × Nat)} {a m : Oper} {id : Nat} {S S1 : St} (h : indepM rt all a m = true) (hf : memF P m = true) (hI : InvR rt S) (hm : MidT P nb all m id S S1) : apart (wrA all a) (rdA all m) = true ∧ apart (wrA all m) (rdA all a) = true ∧ apart (wrA all a) (wrA all m) = true ∧
  ((!rdH a && !wrH all a) = true ∨ ldO rt all a = true ∨ ∃ j, blkOf rt a = some j ∧ j ≠ id) := by
 simp only [indepM, Bool.and_eq_true, Bool.or_eq_true] at h
 obtain ⟨⟨⟨h1, h2⟩, h3⟩, h4⟩ := h
 refine ⟨h1, h2, h3, ?_⟩
 rcases h4 with (h4 | h4) | h4
 ·exact .inl (by simpa using h4)
 ·exact .inr (.inl h4)
 ·unfold neO at h4
  split at h4
  ·rename_i i j e1 e2
   have := hm.block hf hI e2
   subst this
   exact .inr (.inr ⟨i, e1, by simpa using h4⟩)
  ·cases h4
theorem wrA_mid {id : Nat} {S S1 : St} (h : MidT P nb all o id S S1) : wrA all o = o.dst.toList := by
 obtain ⟨fo, args, tys, f, as, r, hp1, x, l, h1, h2, _⟩ := h.ex
 simp [wrA, xT, h2]
theorem lget_put_of {l l2 : List AV} {d : Option Nat} {v : AV} (hl : l.length = l2.length) {t : Nat} (h : t ∉ d.toList → lget l t = lget l2 t) : lget (put l d v) t = lget (put l2 d v) t := by
 by_cases e : d = some t
 ·exact lget_put_eq e hl
 ·rw [lget_put_ne e, lget_put_ne e]; exact h (by simpa using e)
theorem T.swapMid {rt : List (Nat × Nat)} {a m : Oper} {id : Nat} {S S1 S2 : St} (hf : memF P m = true) (hI : InvR rt S) (hI1 : InvR rt S1) (ha : T P nb true all a S S1) (hm : MidT P nb all m id S1 S2) (hi : indepM rt all a m = true) : ∃ S3, MidT P nb all m id S S3 ∧ T P nb true all a S3 S2 := by
 obtain ⟨i1, i2, i3, i4⟩ := indepM_spec hi hf hI1 hm
 obtain ⟨v, u, e2, hm2⟩ := hm.foot
 obtain ⟨la, oa, ha'⟩ := ha.out
 have hwm := wrA_mid hm
 obtain ⟨S3, q1, q2, q3, q4⟩ := ha.foot hI i4 u (put S.1 m.dst v) (by rw [put_len]) (fun t ht => by
  rw [lget_put_ne]; intro e; exact apart_spec i2 (t := t) (by rw [hwm, e]; simp) ht)
 have h1 := hm2 S (fun t ht => oa t (fun h => apart_spec i1 h ht)) q4.symm
 refine ⟨_, h1, ?_⟩
 have : S3 = S2 := by
  subst e2
  refine Prod.ext (lget_ext ?_ fun t => ?_) q3
  ·rw [q1.out.1]; simp only [put_len]; exact la.symm
  ·by_cases e : t ∈ wrA all a
   ·rw [← q2 t e]
    have : m.dst ≠ some t := fun e' => apart_spec i3 e (by rw [hwm, e']; simp)
    exact (lget_put_ne this).symm
   ·rw [q1.out.2.1 t e]
    exact lget_put_of la.symm fun _ => (oa t e).symm
 rw [← this]; exact q1
theorem MidT.swapT {rt : List (Nat × Nat)} {b m : Oper} {id : Nat} {S S1 S2 : St} (hf : memF P m = true) (hI : InvR rt S) (hI1 : InvR rt S1) (hm : MidT P nb all m id S S1) (hb : T P nb true all b S1 S2) (hi : indepM rt all b m = true) : ∃ S3, T P nb true all b S S3 ∧ MidT P nb all m id S3 S2 := by
 obtain ⟨i1, i2, i3, i4⟩ := indepM_spec hi hf hI hm
 obtain ⟨v, u, e1, hm2⟩ := hm.foot
 have hwm := wrA_mid hm
 obtain ⟨lb, ob, hb'⟩ := hb.out
 have hl1 : S1.1.length = S.1.length := by rw [e1]; exact put_len _ _ _
 obtain ⟨S3, q1, q2, q3, q4⟩ := hb.foot hI1 i4 ((S.2[id]?).getD none) S.1 hl1 (fun t ht => by
  rw [e1]; refine lget_put_ne fun e => apart_spec i2 (t := t) (by rw [hwm, e]; simp) ht)
 have hS : hsetO S1.2 id ((S.2[id]?).getD none) = S.2 := by
  rw [e1]
  simp only [hsetO_eq, List.set_set]
  rcases Nat.lt_or_ge id S.2.length with h | h
  ·rw [List.getElem?_eq_getElem h]; simp
  ·rw [List.set_eq_of_length_le h]
 rw [hS] at q1
 have hS3 : S3.2[id]? = S.2[id]? := by
  rw [q3, hsetO_eq]
  have hln : S2.2[id]? = (hsetO S.2 id u)[id]? := by rw [q4, e1]
  rcases Nat.lt_or_ge id S.2.length with h | h
  ·have hlt : id < S2.2.length := by
    rw [hsetO_eq, List.getElem?_set_self h] at hln
    exact (List.getElem?_eq_some_iff.1 hln).1
   rw [List.getElem?_set_self hlt, List.getElem?_eq_getElem h]; rfl
  ·have : S2.2[id]? = none := by rw [hln, hsetO_eq, List.set_eq_of_length_le h]; exact List.getElem?_eq_none h
   rw [List.set_eq_of_length_le (List.getElem?_eq_none_iff.1 this), this]; exact (List.getElem?_eq_none h).symm
 have h1 := hm2 S3 (fun t ht => by rw [q1.out.2.1 t (fun h => apart_spec i1 h ht)]) hS3
 refine ⟨S3, q1, ?_⟩
 have : (put S3.1 m.dst v, hsetO S3.2 id u) = S2 := by
  refine Prod.ext (lget_ext ?_ fun t => ?_) ?_
  ·simp only [put_len]; rw [q1.out.1, lb, hl1]
  ·by_cases e : t ∈ wrA all b
   ·have hne : m.dst ≠ some t := fun e' => apart_spec i3 e (by rw [hwm, e']; simp)
    rw [lget_put_ne hne]; exact (q2 t e).symm
   ·rw [ob t e, e1]
    exact lget_put_of q1.out.1 fun _ => q1.out.2.1 t e
  ·dsimp only
   rw [q3]
   simp only [hsetO_eq, List.set_set]
   have hln : S2.2[id]? = (hsetO S.2 id u)[id]? := by rw [q4, e1]
   rcases Nat.lt_or_ge id S.2.length with h | h
   ·rw [hsetO_eq, List.getElem?_set_self h] at hln
    obtain ⟨hlt, hg⟩ := List.getElem?_eq_some_iff.1 hln
    rw [← hg]; simp
   ·have : S2.2[id]? = none := by rw [hln, hsetO_eq, List.set_eq_of_length_le h]; exact List.getElem?_eq_none h
    rw [List.set_eq_of_length_le (List.getElem?_eq_none_iff.1 this)]
 rw [← this]; exact h1
theorem MidT.inv {rt : List (Nat × Nat)} {id : Nat} {S S1 : St} (hrt : rtOk rt all = true) (ho : o ∈ all) (hI : InvR rt S) (h : MidT P nb all o id S S1) : InvR rt S1 := by
 obtain ⟨v, u, e, _⟩ := h.foot
 obtain ⟨fo, args, tys, f, as, r, hp1, x, l, h1, h2, _⟩ := h.ex
 refine inv_keep hrt ho (by rw [h2]; rfl) (fun t ht => .inl ?_) hI
 rw [e]; exact lget_put_ne ht
def StT (P : Program) (nb : Nat) (all : List Oper) (o : Oper) (S S1 : St) : Prop := T P nb true all o S S1 ∨ (memD P all o.dst = true ∧ ∃ id, MidT P nb all o id S S1)
theorem StT.inv {rt : List (Nat × Nat)} {S S1 : St} (hrt : rtOk rt all = true) (ho : o ∈ all) (hI : InvR rt S) (h : StT P nb all o S S1) : InvR rt S1 := by
 rcases h with h | ⟨_, id, h⟩
 ·exact h.inv hrt ho hI
 ·exact h.inv hrt ho hI
theorem memD_of {o : Oper} (h : memD P all o.dst = true) (ho : o ∈ all) : memF P o = true := by
 have := List.all_eq_true.1 h o ho
 simpa using this
theorem indepM_T {rt : List (Nat × Nat)} {a m : Oper} (hf : memF P m = true) (h : indepM rt all a m = true) : indepR rt all a m = true ∧ indepR rt all m a = true := by
 obtain ⟨f, args, tys, t, l, e, _⟩ := memF_op hf
 simp only [indepM, Bool.and_eq_true] at h
 obtain ⟨⟨⟨h1, h2⟩, h3⟩, _⟩ := h
 have r1 : rdH m = false := by simp [rdH, e]
 have r2 : wrH all m = false := by simp [wrH, e]
 have h3' : apart (wrA all m) (wrA all a) = true := by
  simp only [apart, List.all_eq_true] at h3 ⊢
  intro x hx y hy
  have := h3 y hy x hx
  simp at this ⊢; exact Ne.symm this
 constructor
 ·simp [indepR, indep, h1, h2, h3, r1, r2]
 ·simp [indepR, indep, h1, h2, h3', r1, r2]
theorem StT.swap {rt : List (Nat × Nat)} {a b : Oper} {S S1 S2 : St} (hrt : rtOk rt all = true) (hma : a ∈ all) (hmb : b ∈ all) (hI : InvR rt S) (ha : StT P nb all a S S1) (hb : StT P nb all b S1 S2) (hi : pairI P rt all a b = true) : ∃ S3, StT P nb all b S S3 ∧ StT P nb all a S3 S2 := by
 have hI1 := ha.inv hrt hma hI
 unfold pairI at hi
 cases fa : memF P a with
 | true =>
  rw [fa] at hi
  simp only [cond_true, Bool.and_eq_true, Bool.not_eq_true'] at hi
  obtain ⟨fb, hi⟩ := hi
  rcases hb with hb | ⟨hb, _⟩
  ·rcases ha with ha | ⟨hd, id, ha⟩
   ·obtain ⟨S3, q1, q2⟩ := ha.swapR hrt hma hmb hI hb (by rw [(indepM_T fa hi).2]; rfl)
    exact ⟨S3, .inl q1, .inl q2⟩
   ·obtain ⟨S3, q1, q2⟩ := ha.swapT fa hI hI1 hb hi
    exact ⟨S3, .inl q1, .inr ⟨hd, id, q2⟩⟩
  ·rw [memD_of hb hmb] at fb; cases fb
 | false =>
  rw [fa] at hi
  have ha : T P nb true all a S S1 := by
   rcases ha with ha | ⟨hd, _⟩
   ·exact ha
   ·rw [memD_of hd hma] at fa; cases fa
  cases fb : memF P b with
  | true =>
   rw [fb] at hi
   rcases hb with hb | ⟨hd, id, hb⟩
   ·obtain ⟨S3, q1, q2⟩ := ha.swapR hrt hma hmb hI hb (by rw [(indepM_T fb hi).1]; rfl)
    exact ⟨S3, .inl q1, .inl q2⟩
   ·obtain ⟨S3, q1, q2⟩ := ha.swapMid fb hI hI1 hb hi
    exact ⟨S3, .inr ⟨hd, id, q1⟩, .inl q2⟩
  | false =>
   rw [fb] at hi
   have hb : T P nb true all b S1 S2 := by
    rcases hb with hb | ⟨hd, _⟩
    ·exact hb
    ·rw [memD_of hd hmb] at fb; cases fb
   obtain ⟨S3, q1, q2⟩ := ha.swapR hrt hma hmb hI hb hi
   exact ⟨S3, .inl q1, .inl q2⟩
theorem Run.front {rt : List (Nat × Nat)} {i : Oper} {pre post : List Oper} {S S' : St} (hrt : rtOk rt all = true) (hma : ∀ j, j ∈ pre → j ∈ all) (hmi : i ∈ all) (hI : InvR rt S) (h : Run P nb true all (pre ++ i :: post) S S')
  (hbp : ∀ j, j ∈ pre → barD all j.dst = false) (hbi : pre ≠ [] → barD all i.dst = false) (hi : ∀ j, j ∈ pre → pairI P rt all j i = true) :
  ∃ S1, (StT P nb all i S S1 ∨ (barD all i.dst = true ∧ KeepT i.dst S.1 S1.1 ∧ T P nb false all i S S1)) ∧ Run P nb true all (pre ++ post) S1 S' := by
 induction pre generalizing S with
 | nil =>
  cases h with
  | cons h h' => exact ⟨_, .inl (.inl h), h'⟩
  | bar hb hk h h' => exact ⟨_, .inr ⟨hb, hk, h⟩, h'⟩
  | mid hm h h' => exact ⟨_, .inl (.inr ⟨hm, _, h⟩), h'⟩
 | cons j pre ih =>
  have hbi' := hbi (by simp)
  have key : ∀ {S1}, StT P nb all j S S1 → Run P nb true all (pre ++ i :: post) S1 S' → ∃ S1, (StT P nb all i S S1 ∨ (barD all i.dst = true ∧ KeepT i.dst S.1 S1.1 ∧ T P nb false all i S S1)) ∧ Run P nb true all (j :: pre ++ post) S1 S' := fun {S1} h h' => by
   obtain ⟨S1, q1, q2⟩ := ih (fun x hx => hma x (by simp [hx])) (h.inv hrt (hma j (by simp)) hI) h' (fun x hx => hbp x (by simp [hx])) (fun _ => hbi') fun x hx => hi x (by simp [hx])
   rcases q1 with q1 | ⟨q1, _⟩
   ·obtain ⟨S3, r1, r2⟩ := h.swap hrt (hma j (by simp)) hmi hI q1 (hi j (by simp))
    refine ⟨S3, .inl r1, ?_⟩
    rcases r2 with r2 | ⟨hd, id, r2⟩
    ·exact .cons r2 q2
    ·exact .mid hd r2 q2
   ·rw [hbi'] at q1; cases q1
  cases h with
  | bar hb => rw [hbp j (by simp)] at hb; cases hb
  | cons h h' => exact key (.inl h) h'
  | mid hm h h' => exact key (.inr ⟨hm, _, h⟩) h'
theorem StT.sim {ops : Array Oper} {i : Nat} {o : Oper} {S S' : St} (ho : ops[i]? = some o) (hok : okOper o = true) (h : StT P nb ops.toList o S S') : SimN P nb ops i S.1 S.2 S'.1 S'.2 := by
 rcases h with h | ⟨_, id, h⟩
 ·exact h.sim ho hok
 ·exact h.t.sim ho hok
end
end Go.Av

namespace Go.Av
open Go
variable [Lay]
def drawOk (P : Program) (rt : List (Nat × Nat)) (ops : Array Oper) : Bool :=
 (List.range ops.size).all fun i => (match ops[i]? with | some o => o.after.toList.all fun e => !Region.binds .any e || decide (e.on < i) | none => true) &&
  (List.range i).all fun j => match ops[i]?, ops[j]? with
   | some oi, some oj => pairI P rt ops.toList oj oi || mustB ops 12 i j
   | _, _ => true
section
variable {P : Program} {nb : Nat} {R : Rt} {k : List Item} {ops : Array Oper}
def Done (ops : Array Oper) (listed : Array Bool) (i : Nat) : Prop := ∀ o, ops[i]? = some o → ∀ e, e ∈ o.after → Region.binds .any e = true → listed.getD e.on false = true
theorem mustB_spec {listed : Array Bool} (hd : ∀ i, listed.getD i false = true → Done ops listed i) : ∀ (f i j : Nat), Done ops listed i → mustB ops f i j = true → listed.getD j false = true
 | 0, _, _, _, h => by simp [mustB] at h
 | f+1, i, j, hi, h => by
  simp only [mustB] at h
  cases ho : ops[i]? with
  | none => simp [ho] at h
  | some o =>
   simp only [ho, List.any_eq_true, Bool.and_eq_true, Bool.or_eq_true] at h
   obtain ⟨e, he, ⟨hb, _⟩, h⟩ := h
   have hl := hi o ho e (by simpa using he) hb
   rcases h with h | h
   ·rw [← Nat.eq_of_beq_eq_true h]; exact hl
   ·exact mustB_spec hd f e.on j (hd _ hl) h
theorem barD_spec {d : Option Nat} (h : barD ops.toList d = true) {i : Nat} {o : Oper} (ho : ops[i]? = some o) (hd : o.dst = d) : isCallOp o.op = true ∧ ∀ j, j < ops.size → i ≠ j → (j ≤ i → mustB ops 12 i j = true) ∧ (i ≤ j → mustB ops 12 j i = true) := by
 have hi : i < ops.size := (Array.getElem?_eq_some_iff.1 ho).1
 have := List.all_eq_true.1 h i (by simpa using hi)
 simp only [ho, hd, decide_true, Bool.not_true, Bool.false_or, Bool.and_eq_true, List.all_eq_true] at this
 refine ⟨this.1, fun j hj hne => ?_⟩
 have h2 := this.2 j (by simpa using hj)
 simp only [Bool.or_eq_true, Nat.beq_eq] at h2
 rcases h2 with h2 | h2
 ·exact absurd h2 hne
 cases hb : Nat.ble j i with
 | true =>
  rw [hb] at h2
  have := Nat.le_of_ble_eq_true hb
  exact ⟨fun _ => h2, fun _ => by omega⟩
 | false =>
  rw [hb] at h2
  have : ¬ j ≤ i := fun hle => by rw [Nat.ble_eq_true_of_le hle] at hb; cases hb
  exact ⟨fun _ => by omega, fun _ => h2⟩
def remL (n : Nat) (listed : Array Bool) : List Nat := (List.range n).filter fun i => !listed.getD i true
theorem remL_set {n : Nat} {listed : Array Bool} {i : Nat} (hn : n ≤ listed.size) : remL n (listed.setIfInBounds i true) = (remL n listed).filter (fun j => j != i) := by
 unfold remL
 rw [List.filter_filter]
 apply List.filter_congr
 intro j hj
 have hj : j < n := by simpa using hj
 by_cases h : j = i
 ·subst h
  simp [Array.getD_eq_getD_getElem?, Array.getElem?_setIfInBounds, show j < listed.size by omega]
 ·simp [Array.getD_eq_getD_getElem?, Array.getElem?_setIfInBounds, Ne.symm h, h]
theorem remL_split {n i : Nat} {listed : Array Bool} (h : i ∈ remL n listed) : ∃ pre post, remL n listed = pre ++ i :: post ∧ (remL n listed).filter (fun j => j != i) = pre ++ post ∧ ∀ j, j ∈ pre → j < i := by
 obtain ⟨pre, post, e⟩ := List.append_of_mem h
 have hp : (remL n listed).Pairwise (· < ·) := List.Pairwise.filter _ (List.pairwise_lt_range)
 rw [e] at hp
 have hpre : ∀ j, j ∈ pre → j < i := fun j hj => (List.pairwise_append.1 hp).2.2 j hj i (by simp)
 have hpost : ∀ j, j ∈ post → i < j := fun j hj => (List.pairwise_cons.1 (List.pairwise_append.1 hp).2.1).1 j hj
 refine ⟨pre, post, e, ?_, hpre⟩
 rw [e, List.filter_append, List.filter_cons]
 simp only [bne_self_eq_false, Bool.false_eq_true, if_false]
 rw [List.filter_eq_self.2 fun j hj => by have := hpre j hj; simp; omega, List.filter_eq_self.2 fun j hj => by have := hpost j hj; simp; omega]
theorem W0.draws {rt : List (Nat × Nat)} (hok : ∀ o, o ∈ ops.toList → okOper o = true) (hdr : drawOk P rt ops = true) (hrt : rtOk rt ops.toList = true) : ∀ (fuel t : Nat) (listed : Array Bool) (S S' : St), InvR rt S → listed.size = ops.size → (∀ i, listed.getD i false = true → Done ops listed i) → (remL ops.size listed).length ≤ fuel →
  Run P nb true ops.toList ((remL ops.size listed).map fun i => ops.getD i default) S S' → W0 P nb R k S'.1 S'.2 → W0 P nb R (.inRegion ops (Region.linearise.go .any ops fuel t listed []) :: k) S.1 S.2 := by
 intro fuel
 induction fuel with
 | zero =>
  intro t listed S S' hI hs hd hf hr hk
  have : remL ops.size listed = [] := by simpa using hf
  rw [this] at hr
  cases hr
  simpa [Region.linearise.go] using W0.regionEnd (ops := ops) hk
 | succ fuel ih =>
  intro t listed S S' hI hs hd hf hr hk
  have hchk : ∀ i, i < ops.size → (∀ o, ops[i]? = some o → ∀ e, e ∈ o.after → Region.binds .any e = true → e.on < i) ∧ ∀ j, j < i → ∀ oi oj, ops[i]? = some oi → ops[j]? = some oj → pairI P rt ops.toList oj oi = true ∨ mustB ops 12 i j = true := fun i hi => by
   have := List.all_eq_true.1 hdr i (by simpa using hi)
   simp only [Bool.and_eq_true] at this
   refine ⟨fun o ho e he hb => ?_, fun j hj oi oj h1 h2 => ?_⟩
   ·have h := this.1
    simp only [ho, List.all_eq_true] at h
    have := h e (by simpa using he)
    simpa [hb] using this
   ·have := List.all_eq_true.1 this.2 j (by simpa using hj)
    simpa [h1, h2] using this
  have hmem : ∀ i, i ∈ Region.ready .any ops listed → i ∈ remL ops.size listed ∧ i < ops.size ∧ listed.getD i false = false ∧ Done ops listed i := fun i hi => by
   simp only [Region.ready, List.mem_filter, List.mem_range, Bool.and_eq_true] at hi
   obtain ⟨h1, h2, h3⟩ := hi
   refine ⟨by simp [remL, h1]; simpa using h2, h1, ?_, fun o ho e he hb => ?_⟩
   ·have : i < listed.size := by omega
    simp [Array.getD_eq_getD_getElem?, this] at h2 ⊢; exact h2
   ·simp only [ho, Option.map_some, Option.getD_some, Array.all_eq_true'] at h3
    have := h3 e he
    simpa [hb] using this
  simp only [Region.linearise.go]
  change W0 P nb R (.inRegion ops (match (Region.ready .any ops listed)[t % (Region.ready .any ops listed).length]? with
   | some i => Region.linearise.go .any ops fuel (t / (Region.ready .any ops listed).length) (listed.setIfInBounds i true) [i]
   | none => [].reverse) :: k) S.1 S.2
  cases hi : (Region.ready .any ops listed)[t % (Region.ready .any ops listed).length]? with
  | none =>
   have hnil : Region.ready .any ops listed = [] := by
    cases hr : Region.ready .any ops listed with
    | nil => rfl
    | cons x xs =>
     rw [hr] at hi
     have hlt : t % (x :: xs).length < (x :: xs).length := Nat.mod_lt _ (by simp)
     simp at hi
     simp at hlt
     omega
   have hrem : remL ops.size listed = [] := by
    cases hc : remL ops.size listed with
    | nil => rfl
    | cons i is =>
     exfalso
     have hin : i ∈ remL ops.size listed := by rw [hc]; simp
     have hin' := hin
     simp only [remL, List.mem_filter, List.mem_range] at hin'
     obtain ⟨pre, post, e1, _, e3⟩ := remL_split hin
     have hpw : (remL ops.size listed).Pairwise (· < ·) := List.Pairwise.filter _ (List.pairwise_lt_range)
     rw [hc] at hpw
     have hmin : ∀ j, j < i → listed.getD j true = true := fun j hj => by
      cases hl : listed.getD j true with
      | true => rfl
      | false =>
       have : j ∈ remL ops.size listed := List.mem_filter.2 ⟨List.mem_range.2 (by omega), by simp only [hl]; rfl⟩
       rw [hc] at this
       rcases List.mem_cons.1 this with e | h
       ·omega
       ·have := (List.pairwise_cons.1 hpw).1 j h; omega
     have : i ∈ Region.ready .any ops listed := by
      simp only [Region.ready, List.mem_filter, List.mem_range, Bool.and_eq_true]
      refine ⟨hin'.1, by simpa using hin'.2, ?_⟩
      rw [Array.getElem?_eq_getElem hin'.1]
      simp only [Option.map_some, Option.getD_some, Array.all_eq_true']
      intro e he
      cases hb : Region.binds .any e with
      | false => rfl
      | true =>
       have hlt := (hchk i hin'.1).1 _ (Array.getElem?_eq_getElem hin'.1) e he hb
       have := hmin _ hlt
       have hsz : e.on < listed.size := by omega
       simp [Array.getD_eq_getD_getElem?, hsz] at this ⊢; exact this
     rw [hnil] at this; simp at this
   rw [hrem] at hr
   cases hr
   simpa using W0.regionEnd (ops := ops) hk
  | some i =>
   simp only []
   rw [linearise_go_acc, List.reverse_singleton, List.singleton_append]
   obtain ⟨h1, h2, h3, h4⟩ := hmem i (List.mem_of_getElem? hi)
   obtain ⟨pre, post, e1, e2, e3⟩ := remL_split h1
   rw [e1, List.map_append, List.map_cons] at hr
   have hget : ∀ j, j < ops.size → ops[j]? = some (ops.getD j default) := fun j hj => by simp [Array.getD_eq_getD_getElem?, hj]
   have hin : ∀ j, j < ops.size → ops.getD j default ∈ ops.toList := fun j hj => by simpa using Array.mem_of_getElem? (hget j hj)
   have hun : ∀ j, j ∈ pre → mustB ops 12 i j = true → False := fun j hj h => by
    have hl := mustB_spec hd 12 i j h4 h
    have : j ∈ remL ops.size listed := by rw [e1]; simp [hj]
    simp only [remL, List.mem_filter, List.mem_range] at this
    have hsz : j < listed.size := by omega
    simp [Array.getD_eq_getD_getElem?, hsz] at this hl
    rw [hl] at this; simp at this
   obtain ⟨S1, q1, q2⟩ := Run.front hrt (fun o ho => by obtain ⟨j, hj, rfl⟩ := List.mem_map.1 ho; exact hin j (by have := e3 j hj; omega)) (hin i h2) hI hr (fun o ho => by
    obtain ⟨j, hj, rfl⟩ := List.mem_map.1 ho
    have hji := e3 j hj
    cases hb : barD ops.toList (ops.getD j default).dst with
    | false => rfl
    | true => exact (hun j hj (((barD_spec hb (hget j (by omega)) rfl).2 i h2 (by omega)).2 (by omega))).elim) (fun hne => by
    obtain ⟨j, hj⟩ : ∃ j, j ∈ pre := by
     cases pre with
     | nil => exact absurd rfl hne
     | cons x l => exact ⟨x, by simp⟩
    have hji := e3 j hj
    cases hb : barD ops.toList (ops.getD i default).dst with
    | false => rfl
    | true => exact (hun j hj (((barD_spec hb (hget i h2) rfl).2 j (by omega) (by omega)).1 (by omega))).elim) fun o ho => by
    obtain ⟨j, hj, rfl⟩ := List.mem_map.1 ho
    have hji := e3 j hj
    rcases (hchk i h2).2 j hji _ _ (hget i h2) (hget j (by omega)) with h | h
    ·exact h
    ·exfalso
     have hl := mustB_spec hd 12 i j h4 h
     have : j ∈ remL ops.size listed := by rw [e1]; simp [hj]
     simp only [remL, List.mem_filter, List.mem_range] at this
     have hsz : j < listed.size := by omega
     simp [Array.getD_eq_getD_getElem?, hsz] at this hl
     rw [hl] at this; simp at this
   have hsim : SimN P nb ops i S.1 S.2 S1.1 S1.2 ∧ InvR rt S1 := by
    rcases q1 with q1 | ⟨q3, q4, q1⟩
    ·exact ⟨q1.sim (hget i h2) (hok _ (by simpa using Array.mem_of_getElem? (hget i h2))), q1.inv hrt (hin i h2) hI⟩
    ·exact ⟨q1.sim (hget i h2) (hok _ (by simpa using Array.mem_of_getElem? (hget i h2))), inv_keep hrt (hin i h2) (barD_spec q3 (hget i h2) rfl).1 q4 hI⟩
   refine W0.simN hsim.1 (ih _ _ S1 S' hsim.2 (by simp [hs]) (fun j hj => ?_) ?_ ?_ hk)
   ·have hset : ∀ e, listed.getD e false = true → (listed.setIfInBounds i true).getD e false = true := fun e he => getD_set_true he
    by_cases hji : j = i
    ·subst hji
     exact fun o ho e he hb => hset _ (h4 o ho e he hb)
    ·rw [getD_set_ne _ (Ne.symm hji)] at hj
     exact fun o ho e he hb => hset _ (hd j hj o ho e he hb)
   ·rw [remL_set (by omega), e2]
    have : (remL ops.size listed).length = (pre ++ post).length + 1 := by rw [e1]; simp; omega
    omega
   ·rw [remL_set (by omega), e2, List.map_append]; exact q2
theorem Rel.drawn {g : Gh} {tm : List AV} {hp : Heap} {a : Array Value} {w : World} (h : Rel g tm hp a w) (n : Nat) : Rel g tm hp a { w with drawn := n } ∧ ∀ m, Stp m g w g { w with drawn := n } :=
 ⟨⟨h.size, h.slots, h.heap, h.locs, h.imms, h.owns, h.fzs⟩, fun m => .of (fun _ _ _ h => h) (fun _ _ _ h => h) (fun _ _ _ h => h) (.of rfl rfl rfl (Nat.le_refl _) (fun _ c _ _ h => ⟨c, h, rfl, fun _ _ => rfl⟩) (fun _ _ h _ => h)) rfl⟩
theorem W0.regionDraw {rt : List (Nat × Nat)} (hm : P.follows .mixedOrders = true) {id : Nat} (hok : ∀ o, o ∈ ops.toList → okOper o = true) (hdr : drawOk P rt ops = true) (hrt : rtOk rt ops.toList = true) {S S' : St} (hI : InvR rt S) (h : Run P nb true ops.toList ops.toList S S') (hk : W0 P nb R k S'.1 S'.2) : W0 P nb R (.code (.region id ops true) :: k) S.1 S.2 := by
  intro g a w b cs hL hr hn
  have hrem : remL ops.size (Array.replicate ops.size false) = List.range ops.size := by
    unfold remL
    apply List.filter_eq_self.2
    intro j hj
    have hj : j < ops.size := by simpa using hj
    simp [Array.getD_eq_getD_getElem?, Array.getElem?_replicate, hj]
  have hmap : ((List.range ops.size).map fun i => ops.getD i default) = ops.toList := by
    apply List.ext_getElem?
    intro j
    by_cases hj : j < ops.size
    · simp [List.getElem?_range hj, hj, Array.getD_eq_getD_getElem?]
    · simp [hj]
  have hW := W0.draws (P := P) (nb := nb) (R := R) (k := k) hok hdr hrt ops.size (w.tape w.drawn (.order b.fn id)) (Array.replicate ops.size false) S S' hI (by simp) (fun i hi => by
    simp [Array.getD_eq_getD_getElem?, Array.getElem?_replicate] at hi
    split at hi <;> simp_all) (by rw [hrem]; simp) (by rw [hrem, hmap]; exact h) hk
  obtain ⟨hr', hs'⟩ := hr.drawn (w.drawn + 1)
  obtain ⟨a', w', g', tm', hp', todo, q1, q2, q3, q4⟩ := hW g a _ b cs (hL.stp (hs' 0)) hr' hn
  refine ⟨a', w', g', tm', hp', todo, .head step_region_draw ?_, q2, (hs' _).x.trans q3, q4⟩
  simpa [Region.schedule, hm, Region.linearise] using q1
end
end Go.Av

namespace Go.Av
open Go
variable [Lay]
def okCode (P : Program) : Code → Bool
 | .region _ ops d => ops.toList.all okOper && (!d || P.follows .mixedOrders)
 | .seq a b => okCode P a && okCode P b
 | .cond c x y => okOpd c && okCode P x && okCode P y
 | .block _ c => okCode P c
 | .loop c => okCode P c
 | _ => true
def okItem (P : Program) : Item → Bool
 | .code c => okCode P c
 | .inBlock _ => true
 | .inLoop c => okCode P c
 | _ => false
def okK (P : Program) : List Item → Bool
 | [] => true
 | i :: k => okItem P i && okK P k
theorem okK_exit {P : Program} {id : Nat} : ∀ {k k' : List Item}, okK P k = true → exitTo id k = some k' → okK P k' = true
  | [], k', _, h => by simp [exitTo] at h
  | i :: k, k', hk, h => by
    simp only [okK, Bool.and_eq_true] at hk
    by_cases hi : ∃ id', i = .inBlock id'
    · obtain ⟨id', rfl⟩ := hi
      simp only [exitTo] at h
      split at h
      · simp only [Option.some.injEq] at h
        subst h; exact hk.2
      · exact okK_exit hk.2 h
    · have : exitTo id (i :: k) = exitTo id k := by cases i <;> first | rfl | exact absurd ⟨_, rfl⟩ hi
      rw [this] at h
      exact okK_exit hk.2 h
def W (P : Program) (nb : Nat) (R : Rt) (k : List Item) (tm : List AV) (hp : Heap) : Prop := okK P k = true → W0 P nb R k tm hp
def Wr (P : Program) (nb : Nat) (R : Rt) (d : Bool) (all os : List Oper) (k : List Item) (tm : List AV) (hp : Heap) : Prop := okK P k = true → ∃ S', Run P nb d all os (tm, hp) S' ∧ W0 P nb R k S'.1 S'.2
def Wc (P : Program) (nb : Nat) (R : Rt) : Cur → List Item → List AV → Heap → Prop
 | none, k, tm, hp => W P nb R k tm hp
 | some (d, all, os), k, tm, hp => Wr P nb R d all os k tm hp
section
variable {P : Program} {nb : Nat} {R : Rt} {k : List Item} {tm : List AV} {hp : Heap}
theorem lset_same {l : List AV} {t : Nat} {v : AV} (h : lget l t = v) : lset l t v = l := by
 subst h
 apply lget_ext (lset_len _ _ _)
 intro j
 by_cases hj : t = j
 ·subst hj
  rw [lget_lset_eq]
  split
  ·rfl
  ·rw [lget_ge (by omega)]
 ·rw [lget_lset_ne hj]
theorem T.unguard {nb : Nat} {d : Bool} {all : List Oper} {dst : Option Tmp} {op : Op} {ty : TypeId} {pos : String} {after : Array Edge} {gd : Option (Nat × Bool)} {S S' : St} (hw : Wanted all ⟨dst, op, ty, pos, after, gd⟩ S.1)
  (h : T P nb d all ⟨dst, op, ty, pos, after, none⟩ S S') : T P nb d all ⟨dst, op, ty, pos, after, gd⟩ S S' := by
 cases h with
 | op _ hc => exact T.op (o := ⟨dst, op, ty, pos, after, gd⟩) hw hc
 | skip hu => exact hu.elim
 | call _ hop hcal hn hA => exact .call hw hop hcal hn hA
 | callF hd _ hop hcal hfc hA => exact .callF hd hw hop hcal hfc hA
 | callO _ hop hcal hn hA => exact .callO hw hop hcal hn hA
 | callB hd _ hop hcal hn hA => exact .callB hd hw hop hcal hn hA
 | opx hd _ hs => exact .opx hd hw hs
theorem Run.unguard {nb : Nat} {d : Bool} {all rest : List Oper} {dst : Option Tmp} {op : Op} {ty : TypeId} {pos : String} {after : Array Edge} {gd : Option (Nat × Bool)} {S S' : St} (hw : Wanted all ⟨dst, op, ty, pos, after, gd⟩ S.1)
  (h : Run P nb d all (⟨dst, op, ty, pos, after, none⟩ :: rest) S S') : Run P nb d all (⟨dst, op, ty, pos, after, gd⟩ :: rest) S S' := by
 cases h with
 | cons h h' => exact .cons (h.unguard hw) h'
 | bar hb hk h h' => exact .bar (o := ⟨dst, op, ty, pos, after, gd⟩) hb hk (h.unguard hw) h'
 | mid hm h h' =>
  rename_i id S1
  obtain ⟨fo, args, tys, f, as, r, hp1, x, l, h1, h2⟩ := h.ex
  exact .mid (o := ⟨dst, op, ty, pos, after, gd⟩) (id := id) hm (MidT.mk ⟨fo, args, tys, f, as, r, hp1, x, l, hw, h2⟩) h'
theorem callOf_some {op : Op} {f : Operand} {args : Array Operand} (h : callOf op = some (f, args)) : ∃ tys, op = .call { callee := .value f, args, argTypes := tys } := by
 cases op with
 | call c =>
  obtain ⟨callee, as, tys⟩ := c
  cases callee with
  | value f' => simp only [callOf, Option.some.injEq, Prod.mk.injEq] at h; obtain ⟨rfl, rfl⟩ := h; exact ⟨tys, rfl⟩
  | _ => simp [callOf] at h
 | _ => simp [callOf] at h
end
end Go.Av

namespace Go.Av
open Go
variable [Lay]
def fOk (P : Program) (f n : Nat) : Bool :=
 match P.funcs[f]? with
 | some fn => match fn.body with
  | some c => okCode P c && (fn.name != "runtime.NumGoroutine") && Nat.ble n fn.ntmps
  | none => false
 | none => false
def pad : Nat → List AV → List AV
 | 0, _ => []
 | n+1, [] => .any :: pad n []
 | n+1, x :: l => x :: pad n l
theorem pad_eq : ∀ (n : Nat) (l : List AV), l.length ≤ n → pad n l = l ++ List.replicate (n - l.length) .any
 | 0, l, h => by
  have : l = [] := by simpa using h
  subst this; rfl
 | n+1, [], h => by simp [pad, pad_eq n [] (by simp), List.replicate_succ]
 | n+1, x :: l, h => by simp [pad, pad_eq n l (by simpa using h)]
def Res (P : Program) (rs : Array ResultVar) (r : AV) : Rt := ⟨fun tm hp => resAV P rs.toList tm hp = some r, fun _ => False⟩
section
variable {P : Program} {nb : Nat} {R : Rt} {k : List Item} {tm : List AV} {hp : Heap} {f : FuncId} {fn : Func}
theorem enters_of {n : Nat} (hf : P.funcs[f]? = some fn) (hok : fOk P f n = true) : Enters P f := by
 intro vs w
 unfold fOk at hok
 rw [hf] at hok
 dsimp only at hok
 cases hb : fn.body with
 | none => simp [hb] at hok
 | some c =>
  simp only [hb, Bool.and_eq_true, bne_iff_ne, ne_eq] at hok
  simp [callFunc, run_program, hf, hok.1.2, hb]
theorem acall_pure {args : List AV} {r : AV} (hf : P.funcs[f]? = some fn) (hok : fOk P f args.length = true) (hn : noRef r = true) (hm : Meek r)
  (h : wfAL args → W P 0 (Res P fn.results r) [.code (fn.body.getD .skip)] (pad fn.ntmps args) []) : ACall P f args [] r [] := by
 have he := enters_of hf hok
 unfold fOk at hok
 rw [hf] at hok
 dsimp only at hok
 cases hb : fn.body with
 | none => simp [hb] at hok
 | some c =>
  simp only [hb, Bool.and_eq_true, Nat.ble_eq] at hok
  refine acall_of hf hb he hok.2 hn hm (fun id cs h => by simp at h) (fun hw => ?_) rfl
  have := h hw (by simp [okK, okItem, hb, hok.1.1])
  rw [hb, pad_eq _ _ hok.2] at this
  intro g a w b cs hL hr hnb
  obtain ⟨a', w', g', tm', hp', todo, q1, q2, q3, q4, q5⟩ := this g a w b cs hL hr hnb
  exact ⟨a', w', g', tm', hp', todo, q1, q2, q3, q4, q5, by simp⟩
def allLt (n : Nat) : Heap → Bool
 | [] => true
 | some cs :: l => ltRL n cs && allLt n l
 | none :: l => allLt n l
theorem allLt_spec {n : Nat} : ∀ {hp : Heap} {id : Nat} {cs : List AV}, allLt n hp = true → hp[id]? = some (some cs) → ltRL n cs = true
 | [], _, _, _, h => by simp at h
 | some x :: l, 0, cs, h, hc => by simp [allLt] at h hc; subst hc; exact h.1
 | some x :: l, id+1, cs, h, hc => by simp [allLt] at h; exact allLt_spec (hp := l) (id := id) h.2 (by simpa using hc)
 | none :: l, 0, cs, h, hc => by simp at hc
 | none :: l, id+1, cs, h, hc => by simp [allLt] at h; exact allLt_spec (hp := l) (id := id) h (by simpa using hc)
def ResH (P : Program) (rs : Array ResultVar) (r : AV) (n : Nat) (hp1 : Heap) : Rt := ⟨fun tm hp => resAV P rs.toList tm hp = some r ∧ hp.take n = hp1, fun _ => False⟩
theorem acall_heap {args : List AV} {r : AV} {hp1 : Heap} (hf : P.funcs[f]? = some fn) (hok : fOk P f args.length = true) (hn : ltR hp.length r = true) (hm : Meek r) (hlen : hp1.length = hp.length) (hcl : allLt hp.length hp1 = true)
  (h : W P hp.length (ResH P fn.results r hp.length hp1) [.code (fn.body.getD .skip)] (pad fn.ntmps args) hp) : ACall P f args hp r hp1 := by
 have he := enters_of hf hok
 unfold fOk at hok
 rw [hf] at hok
 dsimp only at hok
 cases hb : fn.body with
 | none => simp [hb] at hok
 | some c =>
  simp only [hb, Bool.and_eq_true, Nat.ble_eq] at hok
  refine acall_of hf hb he hok.2 hn hm (fun id cs h => allLt_spec hcl h) (fun hw => ?_) hlen
  have := h (by simp [okK, okItem, hb, hok.1.1])
  rw [hb, pad_eq _ _ hok.2] at this
  exact this
theorem W.same {tm2 : List AV} (hw : wk tm2 tm) (h : W P nb R k tm2 hp) : W P nb R k tm hp := fun hk => W0.same hw (h hk)
theorem W.less (n : Nat) {tm2 : List AV} {hp2 : Heap} (hn : nb ≤ n) (hn2 : n ≤ hp.length) (hw : wk tm2 tm) (hl : ltRL n tm2 = true) (hh : hp2 = hp.take n) (hc : ∀ (id : Nat) cs, hp2[id]? = some (some cs) → ltRL n cs = true) (h : W P nb R k tm2 hp2) : W P nb R k tm hp :=
 fun hk => W0.less n hn hn2 hw hl (fun id cs hid hcs => hc id cs (by rw [hh, List.getElem?_take_of_lt hid]; exact hcs)) (by rw [← hh]; exact h hk)
end
end Go.Av

namespace Go.Av
open Go
variable [Lay]
section
variable {P : Program} {f : FuncId} {fn : Func}
theorem Rel.keep {g : Gh} {args : List AV} {vs : Array Value} {w w1 : World} (h : Rel g args [] vs w) (hb : RowKit.Below w.heap.size w w1) {r : AV} {v : Value} (hv : VR g.out r v) (hm : Meek r) : Rel g.out [r] [] #[v] w1 ∧ Stp 0 g w g.out w1 := by
 have hlt : ∀ b o, g.ow b o ≠ .free → b < w.heap.size := fun b o hne => h.lt hne
 have hc : ∀ b o, b < w.heap.size → w1.cell? ⟨b, o, none⟩ = w.cell? ⟨b, o, none⟩ ∧ w1.frozen? ⟨b, o, none⟩ = w.frozen? ⟨b, o, none⟩ := fun b o hlt => by
  have := hb.block b hlt
  constructor
  ·unfold World.cell?; rw [this]
  ·unfold World.frozen?; rw [this]
 refine ⟨⟨by simp, fun t => ?_, fun id cs h => by simp at h, fun _ _ => rfl, fun b o u hu => ?_, fun b o hne => ?_, fzs_of h.fzs (fun b c e f hbk => ⟨c, ?_, rfl⟩) (fun b o v hv => out_imm.2 hv) rfl⟩, .of (fun b o v hv => out_imm.2 hv) (fun b o _ hv => by simp [Gh.out, hv]) (fun id l hi _ => by omega) (.of hb.os hb.tape hb.output hb.size (fun b c e fz hbk => ⟨c, ?_, rfl, fun _ _ => rfl⟩) (fun b o hbk _ => ?_)) rfl⟩
 ·cases t with
  | zero => exact ⟨hv, Tail.meek hm⟩
  | succ t => exact ⟨.any _, Tail.meek (by intro l; simp [lget])⟩
 ·have hi := out_imm.1 hu
  rw [(hc b o (hlt b o (by rw [hi]; simp))).1]
  exact h.imms _ _ _ hi
 ·have hne' : g.ow b o ≠ .free := by intro e; simp [Gh.out, e] at hne
  rw [(hc b o (hlt b o hne')).1, (hc b o (hlt b o hne')).2]
  refine ⟨(h.owns b o hne').1, fun hi => ?_⟩
  exfalso
  cases e : g.ow b o with
  | imm v => exact hi v (out_imm.2 e)
  | _ => simp [Gh.out, e] at hne
 ·have : b < w.heap.size := by
   rcases Nat.lt_or_ge b w.heap.size with h' | h'
   ·exact h'
   ·simp [Array.getElem?_eq_none h'] at hbk
  rw [hb.block b this]; exact hbk
 ·have : b < w.heap.size := by
   rcases Nat.lt_or_ge b w.heap.size with h' | h'
   ·exact h'
   ·simp [Array.getElem?_eq_none h'] at hbk
  rw [hb.block b this]; exact hbk
 ·have : b < w.heap.size := by
   rcases Nat.lt_or_ge b w.heap.size with h' | h'
   ·exact h'
   ·simp [Array.getElem?_eq_none h'] at hbk
  rw [hb.block b this]; exact hbk
theorem acall_plain {args : List AV} {r : AV} (hn : noRef r = true) (hm : Meek r)
  (h : ∀ (g : Gh) (w : World) (vs : Array Value), LayOk g w → Rel g args [] vs w → vs.size = args.length → Ans P f vs w fun e w' => ∃ v, e = .returned v ∧ VR g.out r v ∧ RowKit.Below w.heap.size w w') : ACall P f args [] r [] := by
 refine ⟨hn, rfl, hm, fun g w vs hL hr hvs => ?_⟩
 have hk : ∀ e w', (∃ v, e = Ending.returned v ∧ VR g.out r v ∧ RowKit.Below w.heap.size w w') → ∃ v g', e = Ending.returned v ∧ Rel g' [r] [] #[v] w' ∧ Stp 0 g w g' w' := by
  rintro e w' ⟨v, rfl, hv, hb⟩
  exact ⟨v, g.out, rfl, hr.keep hb hv hm⟩
 rcases h g w vs hL hr hvs with ⟨h1, h2⟩ | ⟨v, w', h1, h2⟩
 ·exact .inl ⟨h1, Calls.mono h2 hk⟩
 ·exact .inr ⟨v, w', h1, hk _ _ h2⟩
end
end Go.Av

