import Derived.Test.YtmedpledgchipaaGreatDoorEx1
set_option linter.unusedSectionVars false
set_option linter.unusedVariables false
set_option linter.unusedSimpArgs false
set_option linter.unnecessarySimpa false
namespace Go.Av
open Go
section
variable (P : Program) (n : Nat)
end
def cndV (v : AV) (x y : Code) (k1 k2 : List Item) (tm : List AV) (hp : Heap) : Out2 :=
 match v with
 | .bool b => .cnd b x y k1 k2 tm hp
 | _ => .bad
section
variable (P : Program) (n : Nat)
def hasN (x y : Bool) : Bool := bif x then true else y
def rgO (g : Bool) (id : Nat) (d : Bool) (ops : List Oper) (k1 k2 : List Item) (tm : List AV) (hp : Heap) : Out2 := bif g then .rg id (List.toArray ops) d k1 k2 tm hp else ex P n (some (d, ops, ops)) k1 k2 tm hp
def exq (b : Bool) (id : Nat) (k : List Item) : Option (List Item) := match b with | true => some k | false => exitTo id k
def exitO (r : Option (List Item)) (id : Nat) (k2 : List Item) (tm : List AV) (hp : Heap) : Out2 :=
 match r with
 | some k => ex P n none k k2 tm hp
 | none => .ext id k2 tm hp
def grdO (b : Bool) (want d : Bool) (all : List Oper) (dst : Option Nat) (op : Op) (ty : TypeId) (pos : String) (after : Array Edge) (rest : List Oper) (t : Nat) (k1 k2 : List Item) (tm : List AV) (hp : Heap) : Out2 :=
 if xn want b = true then ex P n (some (d, all, ⟨dst, op, ty, pos, after, none⟩ :: rest)) k1 k2 (lset tm t (.bool want)) hp else ex P n (some (d, all, rest)) k1 k2 (put (lset tm t (.bool (!want))) dst (.tup [])) hp
def grdV (v : AV) (want d : Bool) (all : List Oper) (dst : Option Nat) (op : Op) (ty : TypeId) (pos : String) (after : Array Edge) (rest : List Oper) (t : Nat) (k1 k2 : List Item) (tm : List AV) (hp : Heap) : Out2 :=
 match v with
 | .bool b => grdO P n b want d all dst op ty pos after rest t k1 k2 tm hp
 | .tup [] => ex P n (some (d, all, rest)) k1 k2 (put tm dst (.tup [])) hp
 | _ => .bad
def grdG (g : Option Nat) (want d : Bool) (all : List Oper) (dst : Option Nat) (op : Op) (ty : TypeId) (pos : String) (after : Array Edge) (rest : List Oper) (k1 k2 : List Item) (tm : List AV) (hp : Heap) : Out2 :=
 match g with
 | some t => grdV P n (lget tm t) want d all dst op ty pos after rest t k1 k2 tm hp
 | none => .bad
end
def mvTv (all : List Oper) (d : Option Nat) (tm : List AV) (t : Nat) : AV → List AV
 | .sl (some oe) l => bif stolen all d then lset tm t (.sl none l) else tm
 | _ => tm
def asTv (tm : List AV) (t : Nat) : AV → List AV
 | .sl (some oe) l => lset tm t (.sl none l)
 | _ => tm
def mvHv (all : List Oper) (d : Option Nat) (hp : Heap) (id off : Nat) : AV → Heap
 | .sl (some oe) l => bif stolen all d then hset hp id (lset (hget hp id) off (.sl none l)) else hp
 | _ => hp
theorem mvT_tmp {all : List Oper} {d : Option Nat} {tm : List AV} {t : Nat} : mvT all d tm (.tmp t) = mvTv all d tm t (lget tm t) := by
  unfold mvT mvTv; dsimp only; generalize lget tm t = v; cases v with
  | sl o l => cases o <;> rfl
  | _ => rfl
theorem mvT_const {all : List Oper} {d : Option Nat} {tm : List AV} {v : Value} : mvT all d tm (.const v) = tm := .trans rfl rfl
theorem asT_tmp {tm : List AV} {t : Nat} : asT tm (.tmp t) = asTv tm t (lget tm t) := by
  unfold asT asTv; dsimp only; generalize lget tm t = v; cases v with
  | sl o l => cases o <;> rfl
  | _ => rfl
theorem asT_const {tm : List AV} {v : Value} : asT tm (.const v) = tm := .trans rfl rfl
theorem mvH_eq {all : List Oper} {d : Option Nat} {hp : Heap} {id off : Nat} : mvH all d hp id off = mvHv all d hp id off (lget (hget hp id) off) := by
  unfold mvH mvHv; generalize lget (hget hp id) off = v; cases v with
  | sl o l => cases o <;> rfl
  | _ => rfl
section
variable {P : Program} {n : Nat} {d : Bool} {all rest : List Oper} {dst : Option Nat} {ty : TypeId} {pos : String} {after : Array Edge} {k1 k2 : List Item} {tm : List AV} {hp : Heap}
@[congr] theorem ex_congr {cur : Cur} {tm' : List AV} {hp' : Heap} (h1 : tm = tm') (h2 : hp = hp') : ex P n cur k1 k2 tm hp = ex P n cur k1 k2 tm' hp' := by rw [h1, h2]
@[congr] theorem exitO_congr {id : Nat} {r r' : Option (List Item)} (h : r = r') : exitO P n r id k2 tm hp = exitO P n r' id k2 tm hp := by rw [h]
@[congr] theorem grdV_congr {b b' : AV} {want : Bool} {op : Op} {t : Nat} (h : b = b') : grdV P n b want d all dst op ty pos after rest t k1 k2 tm hp = grdV P n b' want d all dst op ty pos after rest t k1 k2 tm hp := by rw [h]
@[congr] theorem grdG_congr {b b' : Option Nat} {want : Bool} {op : Op} (h : b = b') : grdG P n b want d all dst op ty pos after rest k1 k2 tm hp = grdG P n b' want d all dst op ty pos after rest k1 k2 tm hp := by rw [h]
@[congr] theorem mvTv_congr {t : Nat} {v v' : AV} (h : v = v') : mvTv all dst tm t v = mvTv all dst tm t v' := by rw [h]
@[congr] theorem hold_congr [Lay] {nb : Nat} {R : Rt} {o o' : Out2} (h : o = o') : hold P nb R o = hold P nb R o' := by rw [h]
theorem x_end : ex P (n+1) (some (d, all, [])) k1 k2 tm hp = ex P n none k1 k2 tm hp := .trans rfl rfl
@[congr] theorem rgO_congr {g g' : Bool} {id : Nat} {ops : List Oper} (h : g = g') : rgO P n g id d ops k1 k2 tm hp = rgO P n g' id d ops k1 k2 tm hp := by rw [h]
theorem x_base : ex P (n+1) none [] k2 tm hp = .at_ none k2 tm hp := .trans rfl rfl
theorem x_cond {c : Operand} {x y : Code} : ex P (n+1) none (.code (.cond c x y) :: k1) k2 tm hp = cndV (opv tm c) x y k1 k2 tm hp := by
 unfold cndV; simp only [ex]; rfl
theorem cndV_bool {b : Bool} {x y : Code} : cndV (.bool b) x y k1 k2 tm hp = .cnd b x y k1 k2 tm hp := .trans rfl rfl
theorem x_block {id : Nat} {c : Code} : ex P (n+1) none (.code (.block id c) :: k1) k2 tm hp = .blk id c k1 k2 tm hp := .trans rfl rfl
theorem x_region {id : Nat} {ops : List Oper} : ex P (n+1) none (.code (.region id (List.toArray ops) false) :: k1) k2 tm hp = rgO P n (hasG ops) id false ops k1 k2 tm hp := .trans rfl rfl
theorem x_regionD {id : Nat} {ops : List Oper} : ex P (n+1) none (.code (.region id (List.toArray ops) true) :: k1) k2 tm hp = .rg id (List.toArray ops) true k1 k2 tm hp := .trans rfl rfl
theorem rgO_false {id : Nat} {ops : List Oper} : rgO P n false id d ops k1 k2 tm hp = ex P n (some (d, ops, ops)) k1 k2 tm hp := .trans rfl rfl
theorem rgO_true {id : Nat} {ops : List Oper} : rgO P n true id d ops k1 k2 tm hp = .rg id (List.toArray ops) d k1 k2 tm hp := .trans rfl rfl
theorem x_skip : ex P (n+1) none (.code .skip :: k1) k2 tm hp = ex P n none k1 k2 tm hp := .trans rfl rfl
theorem x_seq {a b : Code} : ex P (n+1) none (.code (.seq a b) :: k1) k2 tm hp = ex P n none (.code a :: .code b :: k1) k2 tm hp := .trans rfl rfl
theorem x_inBlock {id : Nat} : ex P (n+1) none (.inBlock id :: k1) k2 tm hp = ex P n none k1 k2 tm hp := .trans rfl rfl
theorem x_exit {id : Nat} : ex P (n+1) none (.code (.exit id) :: k1) k2 tm hp = exitO P n (exitTo id k1) id k2 tm hp := by
 unfold exitO; simp only [ex]; rfl
theorem exitO_some {id : Nat} {k : List Item} : exitO P n (some k) id k2 tm hp = ex P n none k k2 tm hp := .trans rfl rfl
theorem x_ret : ex P (n+1) none (.code .ret :: k1) k2 tm hp = .fin tm hp := .trans rfl rfl
theorem x_loop {c : Code} : ex P (n+1) none (.code (.loop c) :: k1) k2 tm hp = .lp c k1 k2 tm hp := .trans rfl rfl
theorem x_inLoop {c : Code} : ex P (n+1) none (.inLoop c :: k1) k2 tm hp = .lp c k1 k2 tm hp := .trans rfl rfl
theorem exitTo_code {id : Nat} {c : Code} {k : List Item} : exitTo id (.code c :: k) = exitTo id k := .trans rfl rfl
theorem exitTo_loop {id : Nat} {c : Code} {k : List Item} : exitTo id (.inLoop c :: k) = exitTo id k := .trans rfl rfl
theorem exitTo_block {id id' : Nat} {k : List Item} : exitTo id (.inBlock id' :: k) = exq (id' == id) id k := by
  unfold exq; simp only [exitTo]; cases id' == id <;> rfl
theorem x_guard {j : Nat} {want : Bool} {op : Op} : ex P (n+1) (some (d, all, ⟨dst, op, ty, pos, after, some (j, want)⟩ :: rest)) k1 k2 tm hp = grdG P n (gslot all j) want d all dst op ty pos after rest k1 k2 tm hp := by
 unfold grdG grdV grdO; simp only [ex]; rfl
theorem grdG_some {t : Nat} {want : Bool} {op : Op} : grdG P n (some t) want d all dst op ty pos after rest k1 k2 tm hp = grdV P n (lget tm t) want d all dst op ty pos after rest t k1 k2 tm hp := .trans rfl rfl
theorem grdV_bool {t : Nat} {b want : Bool} {op : Op} : grdV P n (.bool b) want d all dst op ty pos after rest t k1 k2 tm hp = grdO P n b want d all dst op ty pos after rest t k1 k2 tm hp := .trans rfl rfl
theorem grdV_tup {t : Nat} {want : Bool} {op : Op} : grdV P n (.tup []) want d all dst op ty pos after rest t k1 k2 tm hp = ex P n (some (d, all, rest)) k1 k2 (put tm dst (.tup [])) hp := .trans rfl rfl
theorem grdO_tt {t : Nat} {op : Op} : grdO P n true true d all dst op ty pos after rest t k1 k2 tm hp = ex P n (some (d, all, ⟨dst, op, ty, pos, after, none⟩ :: rest)) k1 k2 (lset tm t (.bool true)) hp := .trans rfl rfl
theorem grdO_ff {t : Nat} {op : Op} : grdO P n false false d all dst op ty pos after rest t k1 k2 tm hp = ex P n (some (d, all, ⟨dst, op, ty, pos, after, none⟩ :: rest)) k1 k2 (lset tm t (.bool false)) hp := .trans rfl rfl
theorem grdO_tf {t : Nat} {op : Op} : grdO P n true false d all dst op ty pos after rest t k1 k2 tm hp = ex P n (some (d, all, rest)) k1 k2 (put (lset tm t (.bool true)) dst (.tup [])) hp := .trans rfl rfl
theorem grdO_ft {t : Nat} {op : Op} : grdO P n false true d all dst op ty pos after rest t k1 k2 tm hp = ex P n (some (d, all, rest)) k1 k2 (put (lset tm t (.bool false)) dst (.tup [])) hp := .trans rfl rfl
theorem gslot_z {o : Oper} {l : List Oper} : gslot (o :: l) 0 = o.dst := .trans rfl rfl
theorem gslot_s {o : Oper} {l : List Oper} {j : Nat} : gslot (o :: l) (j+1) = gslot l j := .trans rfl rfl
theorem hasG_nil : hasG [] = false := .trans rfl rfl
theorem hasG_no {op : Op} {l : List Oper} : hasG (⟨dst, op, ty, pos, after, none⟩ :: l) = hasN (isRange op) (hasG l) := by simp only [hasG, hasN]
theorem hasN_f {b : Bool} : hasN false b = b := .trans rfl rfl
@[congr] theorem hasN_congr {x y z : Bool} (h : x = y) : hasN x z = hasN y z := by rw [h]
theorem isRange_move {x0 : Operand} : isRange (Op.move x0) = false := .trans rfl rfl
theorem isRange_assign {x0 : Operand} : isRange (Op.assign x0) = false := .trans rfl rfl
theorem isRange_alloc {x0 : TypeId} : isRange (Op.alloc x0) = false := .trans rfl rfl
theorem isRange_box {x0 : TypeId} {x1 : Operand} : isRange (Op.box x0 x1) = false := .trans rfl rfl
theorem isRange_build {x0 : TypeId} {x1 : Array (Nat × Operand)} : isRange (Op.build x0 x1) = false := .trans rfl rfl
theorem isRange_buildSlice {x0 : TypeId} {x1 : Nat} {x2 : Array (Nat × Operand)} : isRange (Op.buildSlice x0 x1 x2) = false := .trans rfl rfl
theorem isRange_load {x0 : TypeId} {x1 : Operand} : isRange (Op.load x0 x1) = false := .trans rfl rfl
theorem isRange_store {x0 : TypeId} {x1 : Operand} {x2 : Operand} : isRange (Op.store x0 x1 x2) = false := .trans rfl rfl
theorem isRange_nilCheck {x0 : Operand} : isRange (Op.nilCheck x0) = false := .trans rfl rfl
theorem isRange_binOp {x0 : BinOp} {x1 : TypeId} {x2 : Operand} {x3 : Operand} {x4 : TypeId} : isRange (Op.binOp x0 x1 x2 x3 x4) = false := .trans rfl rfl
theorem isRange_unOp {x0 : UnOp} {x1 : TypeId} {x2 : Operand} : isRange (Op.unOp x0 x1 x2) = false := .trans rfl rfl
theorem isRange_convert {x0 : TypeId} {x1 : TypeId} {x2 : Operand} : isRange (Op.convert x0 x1 x2) = false := .trans rfl rfl
theorem isRange_makeInterface {x0 : TypeId} {x1 : Operand} : isRange (Op.makeInterface x0 x1) = false := .trans rfl rfl
theorem isRange_slice {x0 : TypeId} {x1 : Operand} {x2 : Option Operand} {x3 : Option Operand} {x4 : Option Operand} : isRange (Op.slice x0 x1 x2 x3 x4) = false := .trans rfl rfl
theorem isRange_fieldAddr {x0 : TypeId} {x1 : Operand} {x2 : Nat} : isRange (Op.fieldAddr x0 x1 x2) = false := .trans rfl rfl
theorem isRange_indexAddr {x0 : TypeId} {x1 : Operand} {x2 : Operand} : isRange (Op.indexAddr x0 x1 x2) = false := .trans rfl rfl
theorem isRange_index {x0 : TypeId} {x1 : Operand} {x2 : Operand} : isRange (Op.index x0 x1 x2) = false := .trans rfl rfl
theorem isRange_extract {x0 : Operand} {x1 : Nat} : isRange (Op.extract x0 x1) = false := .trans rfl rfl
theorem isRange_call {x0 : Call} : isRange (Op.call x0) = false := .trans rfl rfl
theorem hasG_yes {op : Op} {p : Nat × Bool} {l : List Oper} : hasG (⟨dst, op, ty, pos, after, some p⟩ :: l) = true := .trans rfl rfl
@[congr] theorem ifX_congr {b b' : Bool} {x y : Out2} (h : b = b') : ifX b x y = ifX b' x y := by rw [h]
theorem ifX_t {x y : Out2} : ifX true x y = x := .trans rfl rfl
theorem ifX_f {x y : Out2} : ifX false x y = y := .trans rfl rfl
theorem isRs_sl {o : Option (Option ETy)} {l : List AV} : isRs (.sl o l) = false := .trans rfl rfl
theorem isRs_str {s : List UInt8} : isRs (.str s) = false := .trans rfl rfl
theorem isRs_rs {id off len es : Nat} {ag full : Bool} : isRs (.rs id off len es ag full) = true := .trans rfl rfl
theorem isRs_int {k : IntKind} {n : Int} : isRs (.int k n) = false := .trans rfl rfl
theorem isRs_bool {b : Bool} : isRs (.bool b) = false := .trans rfl rfl
theorem isRs_ptr {id o : Nat} : isRs (.ptr id o) = false := .trans rfl rfl
theorem isRs_tup {l : List AV} : isRs (.tup l) = false := .trans rfl rfl
theorem isRs_fn {f : Fn} {l1 l2 : List AV} : isRs (.fn f l1 l2) = false := .trans rfl rfl
theorem rsF_f {d' : Option Nat} {al : List Oper} : rsF false al d' = false := .trans rfl rfl
theorem rsF_t {d' : Option Nat} {al : List Oper} : rsF true al d' = frzU al d' := .trans rfl rfl
@[congr] theorem rsF_congr {b b' : Bool} {d' : Option Nat} {al : List Oper} (h : b = b') : rsF b al d' = rsF b' al d' := by rw [h]
theorem x_move {x : Operand} : ex P (n+1) (some (d, all, ⟨dst, .move x, ty, pos, after, none⟩ :: rest)) k1 k2 tm hp = ifX (rsF (isRs (opv tm x)) all dst) (.opx ⟨dst, .move x, ty, pos, after, none⟩ d all rest k1 k2 tm hp) (ex P n (some (d, all, rest)) k1 k2 (put (mvT all dst tm x) dst (mvV all dst (opv tm x))) hp) := .trans rfl rfl
theorem x_assign {x : Operand} : ex P (n+1) (some (d, all, ⟨dst, .assign x, ty, pos, after, none⟩ :: rest)) k1 k2 tm hp = ex P n (some (d, all, rest)) k1 k2 (put (asT tm x) dst (opv tm x)) hp := .trans rfl rfl
def isBl : AV → Bool | .bool _ => true | _ => false
theorem x_pick {c a b : Operand} : ex P (n+1) (some (d, all, ⟨dst, .pick c a b, ty, pos, after, none⟩ :: rest)) k1 k2 tm hp = nd (needB (isBl (opv tm c))) (ex P n (some (d, all, rest)) k1 k2 (put tm dst (pickv (opv tm c) (opv tm a) (opv tm b))) hp) := .trans rfl rfl
def alcX (z : Option (List AV)) (i : Option TypeId) (t : TypeId) (P : Program) (n : Nat) (d : Bool) (all rest : List Oper) (dst : Option Nat) (k1 k2 : List Item) (tm : List AV) (hp : Heap) : Out2 :=
 match z with
 | some cs => ex P n (some (d, all, rest)) k1 k2 (put tm dst (.ptr hp.length 0)) (hp ++ [some (bldC i t hp.length (cs.map opn))])
 | none => .need False (ex P n (some (d, all, rest)) k1 k2 (put tm dst .any) hp)
@[congr] theorem alcX_congr {z z' : Option (List AV)} {i i' : Option TypeId} {t : TypeId} (h : z = z') (hi : i = i') : alcX z i t P n d all rest dst k1 k2 tm hp = alcX z' i' t P n d all rest dst k1 k2 tm hp := by rw [h, hi]
theorem alcX_some {cs : List AV} {i : Option TypeId} {t : TypeId} : alcX (some cs) i t P n d all rest dst k1 k2 tm hp = ex P n (some (d, all, rest)) k1 k2 (put tm dst (.ptr hp.length 0)) (hp ++ [some (bldC i t hp.length (cs.map opn))]) := .trans rfl rfl
theorem bldC_f {t : TypeId} {id : Nat} {l : List AV} : bldC none t id l = l := by unfold bldC; split <;> first | rfl | contradiction
theorem x_box {t : TypeId} {x : Operand} : ex P (n+1) (some (d, all, ⟨dst, .box t x, ty, pos, after, none⟩ :: rest)) k1 k2 tm hp = nd (needB ((storeV (fix (opv tm x))).all okCell)) (ex P n (some (d, all, rest)) k1 k2 (put tm dst (.ptr hp.length 0)) (hp ++ [some (storeV (fix (opv tm x)))])) := .trans rfl rfl
def nckX (P : Program) (n : Nat) (v : AV) (d : Bool) (all rest : List Oper) (dst : Option Nat) (k1 k2 : List Item) (tm : List AV) (hp : Heap) : Out2 :=
 match v with
 | .ptr id off => ex P n (some (d, all, rest)) k1 k2 (put tm dst (.ptr id off)) hp
 | .ip cs => ex P n (some (d, all, rest)) k1 k2 (put tm dst (.ip cs)) hp
 | .fn (.func k) l1 l2 => ex P n (some (d, all, rest)) k1 k2 (put tm dst (.fn (.func k) l1 l2)) hp
 | _ => .need False (ex P n (some (d, all, rest)) k1 k2 (put tm dst .any) hp)
theorem nckX_ptr {id off : Nat} : nckX P n (.ptr id off) d all rest dst k1 k2 tm hp = ex P n (some (d, all, rest)) k1 k2 (put tm dst (.ptr id off)) hp := .trans rfl rfl
theorem x_nilCheck {x : Operand} : ex P (n+1) (some (d, all, ⟨dst, .nilCheck x, ty, pos, after, none⟩ :: rest)) k1 k2 tm hp = nckX P n (opv tm x) d all rest dst k1 k2 tm hp := by
  cases hv : opv tm x with
  | fn f l1 l2 => cases f <;> simp [nckX, ex, isX, ifX_f, opM, nd, callOf, hv]
  | _ => simp [nckX, ex, isX, ifX_f, opM, nd, callOf, hv]
theorem x_binOp {op : BinOp} {t t2 : TypeId} {x y : Operand} : ex P (n+1) (some (d, all, ⟨dst, .binOp op t x y t2, ty, pos, after, none⟩ :: rest)) k1 k2 tm hp =
 nd (bif known (binv P op t (opv tm x) (opv tm y)) && nilOk x y (opv tm x) (opv tm y) then binc op (opv tm x) (opv tm y) else some False) (ex P n (some (d, all, rest)) k1 k2 (put tm dst (binv P op t (opv tm x) (opv tm y))) hp) := .trans rfl rfl
theorem x_unOp {op : UnOp} {t : TypeId} {x : Operand} : ex P (n+1) (some (d, all, ⟨dst, .unOp op t x, ty, pos, after, none⟩ :: rest)) k1 k2 tm hp = nd (needB (known (unv op (opv tm x)))) (ex P n (some (d, all, rest)) k1 k2 (put tm dst (unv op (opv tm x))) hp) := .trans rfl rfl
theorem x_convert {s t : TypeId} {x : Operand} : ex P (n+1) (some (d, all, ⟨dst, .convert s t x, ty, pos, after, none⟩ :: rest)) k1 k2 tm hp = nd (cco (stolen all dst) (opv tm x) (cvc P s t (opv tm x))) (ex P n (some (d, all, rest)) k1 k2 (put tm dst (cvo (stolen all dst) (cvv P s t (opv tm x)))) hp) := .trans rfl rfl
theorem x_makeInterface {t : TypeId} {x : Operand} : ex P (n+1) (some (d, all, ⟨dst, .makeInterface t x, ty, pos, after, none⟩ :: rest)) k1 k2 tm hp = nd (needB (kindOf P t != 3 && kindOf P t != 0)) (ex P n (some (d, all, rest)) k1 k2 (put tm dst (.iface t (fix (opv tm x)))) hp) := .trans rfl rfl
theorem x_makeFunc {f : Fn} {l1 l2 : List Operand} : ex P (n+1) (some (d, all, ⟨dst, .makeFunc f (List.toArray l1) (List.toArray l2), ty, pos, after, none⟩ :: rest)) k1 k2 tm hp = ex P n (some (d, all, rest)) k1 k2 (put tm dst (.fn f ((l1.map (opv tm)).map fix) ((l2.map (opv tm)).map fix))) hp := .trans rfl rfl
theorem x_extract {x : Operand} {i : Nat} : ex P (n+1) (some (d, all, ⟨dst, .extract x i, ty, pos, after, none⟩ :: rest)) k1 k2 tm hp = nd (needB (extC (opv tm x) i)) (ex P n (some (d, all, rest)) k1 k2 (put tm dst (fix (extv (opv tm x) i))) hp) := .trans rfl rfl
theorem x_index {t : TypeId} {x i : Operand} (h : kindOf P t = 1) : ex P (n+1) (some (d, all, ⟨dst, .index t x i, ty, pos, after, none⟩ :: rest)) k1 k2 tm hp = .need (idxC (opv tm x) (opv tm i)) (ex P n (some (d, all, rest)) k1 k2 (put tm dst (idxV (opv tm x) (opv tm i))) hp) := by
 have hn : arrOf P t = none := by unfold arrOf; rw [kind_str h]
 simp [ex, isX, ifX_f, opM, h, hn, nd, callOf]
def iadX (e : Option El) (ar : Option (Nat × Nat)) (a b : AV) (P : Program) (n : Nat) (d : Bool) (all rest : List Oper) (dst : Option Nat) (k1 k2 : List Item) (tm : List AV) (hp : Heap) : Out2 :=
 match e with
 | some e => .need (iadC e a b) (ex P n (some (d, all, rest)) k1 k2 (put tm dst (iadV a b)) hp)
 | none => match ar with
  | some ns => .need (aadC ns.1 a b) (ex P n (some (d, all, rest)) k1 k2 (put tm dst (aadV ns.2 a b)) hp)
  | none => .need False (ex P n (some (d, all, rest)) k1 k2 (put tm dst .any) hp)
theorem iadX_some {e : El} {ar : Option (Nat × Nat)} {a b : AV} : iadX (some e) ar a b P n d all rest dst k1 k2 tm hp = .need (iadC e a b) (ex P n (some (d, all, rest)) k1 k2 (put tm dst (iadV a b)) hp) := .trans rfl rfl
theorem iadX_arr {l s : Nat} {a b : AV} : iadX none (some (l, s)) a b P n d all rest dst k1 k2 tm hp = .need (aadC l a b) (ex P n (some (d, all, rest)) k1 k2 (put tm dst (aadV s a b)) hp) := .trans rfl rfl
theorem x_indexAddr {t : TypeId} {x i : Operand} : ex P (n+1) (some (d, all, ⟨dst, .indexAddr t x i, ty, pos, after, none⟩ :: rest)) k1 k2 tm hp = iadX (elOf P t) (arrE P t) (opv tm x) (opv tm i) P n d all rest dst k1 k2 tm hp := by
  cases h : elOf P t <;> cases h2 : arrE P t <;> simp [iadX, ex, isX, ifX_f, opM, h, h2, nd, callOf]
def hiOf (len : Nat) : Option AV → Option Int
 | none => some len
 | some (.int _ n) => some n
 | some _ => none
def loOf : Option AV → Option Int
 | none => some 0
 | some (.int _ n) => some n
 | some _ => none
def subSC (x : AV) (lo hi : Option AV) : Prop := match x with
 | .str s => slc s.length (loOf lo) (hiOf s.length hi)
 | _ => False
def subSV (x : AV) (lo hi : Option AV) : AV := match x with
 | .str s => slv (.str s) (loOf lo) (hiOf s.length hi) false
 | _ => .any
def subLC (e : El) (x : AV) (lo hi : Option AV) : Prop := match x with
 | .sl _ l => slc l.length (loOf lo) (hiOf l.length hi) ∧ ∀ z, z ∈ l → z.cells.length = e.sz
 | _ => False
def subLV (x : AV) (lo hi : Option AV) : AV := match x with
 | .str s => slv (.str s) (loOf lo) (hiOf s.length hi) false
 | .sl o l => slv (.sl o l) (loOf lo) (hiOf l.length hi) false
 | _ => .any
theorem lowOf_eq {lo : Option Operand} : lowOf tm lo = loOf (lo.map (opv tm)) := by
  cases lo with
  | none => rfl
  | some x => simp only [lowOf, Option.map, loOf]; generalize opv tm x = v; cases v <;> rfl
theorem highOf_eq {len : Nat} {hi : Option Operand} : highOf tm len hi = hiOf len (hi.map (opv tm)) := by
  cases hi with
  | none => rfl
  | some x => simp only [highOf, Option.map, hiOf]; generalize opv tm x = v; cases v <;> rfl
def slX (kd : Nat) (e : Option El) (x : AV) (lo hi : Option AV) : Prop × AV := match x with
 | .str s => (bif kd == 1 then subSC (.str s) lo hi else False, subSV (.str s) lo hi)
 | .sl o l => match e with
  | some e => (subLC e (.sl o l) lo hi, subLV (.sl o l) lo hi)
  | none => (False, .any)
 | _ => (False, .any)
theorem slX_str {e : Option El} {s : List UInt8} {lo hi : Option AV} : slX 1 e (.str s) lo hi = (subSC (.str s) lo hi, subSV (.str s) lo hi) := .trans rfl rfl
theorem slX_sl {kd : Nat} {e : El} {o : Option (Option ETy)} {l : List AV} {lo hi : Option AV} : slX kd (some e) (.sl o l) lo hi = (subLC e (.sl o l) lo hi, subLV (.sl o l) lo hi) := .trans rfl rfl
theorem x_slice {t : TypeId} {x : Operand} {lo hi : Option Operand} : ex P (n+1) (some (d, all, ⟨dst, .slice t x lo hi none, ty, pos, after, none⟩ :: rest)) k1 k2 tm hp =
  ifX (isRs (opv tm x)) (.opx ⟨dst, .slice t x lo hi none, ty, pos, after, none⟩ d all rest k1 k2 tm hp) (.need (slX (kindOf P t) (elOf P t) (opv tm x) (lo.map (opv tm)) (hi.map (opv tm))).1 (ex P n (some (d, all, rest)) k1 k2 (put tm dst (slX (kindOf P t) (elOf P t) (opv tm x) (lo.map (opv tm)) (hi.map (opv tm))).2) hp)) := by
  simp only [ex, callOf, isX, opM, lowOf_eq, highOf_eq]
  cases hv : opv tm x <;> cases he : elOf P t <;> cases hk : (kindOf P t == 1) <;> simp [nd, slX, subSC, subSV, subLC, subLV, hk, isRs, ifX]
def fldX (f : Option (Nat × Nat × Bool)) (x : AV) : Option Prop × AV := match f, x with
 | some (off, sz, true), .agg cs => (needB (decide (off + sz ≤ cs.length)), .agg (ltake sz (ldrop off cs)))
 | some (off, sz, false), .agg cs => (needB (decide (off < cs.length)), fix (lget cs off))
 | _, _ => (some False, .any)
def fadX (f : Option (Nat × Nat × Bool)) (x : AV) : Option Prop × AV := match f, x with
 | some (off, sz, _), .ptr id o' => (needB (decide (0 < sz)), .ptr id (o' + off))
 | some (off, sz, _), .ip cs => (needB (decide (0 < sz)), .ip (ldrop off cs))
 | _, _ => (some False, .any)
theorem x_fieldAddr {t : TypeId} {x : Operand} {f : Nat} : ex P (n+1) (some (d, all, ⟨dst, .fieldAddr t x f, ty, pos, after, none⟩ :: rest)) k1 k2 tm hp =
  nd (fadX (fldOf P t f) (opv tm x)).1 (ex P n (some (d, all, rest)) k1 k2 (put tm dst (fadX (fldOf P t f) (opv tm x)).2) hp) := by
  simp only [ex, callOf, isX, ifX_f, opM]
  cases hf : fldOf P t f with
  | none => cases hv : opv tm x <;> simp [nd, fadX]
  | some q =>
    obtain ⟨off, sz, ag⟩ := q
    cases hv : opv tm x <;> simp [fadX]
def ldX (all : List Oper) (dst : Option Nat) (hp : Heap) (sz : Option Nat) (ag : Option Bool) (x : AV) : Option Prop × AV × Heap := match sz, ag, x with
 | some sz, some true, .ptr id off => (needB (decide (off + sz ≤ (hget hp id).length)), .agg ((ltake sz (ldrop off (hget hp id))).map fix), hp)
 | some _, some false, .ptr id off => (needB (decide (off < (hget hp id).length)), mvV all dst (lget (hget hp id) off), mvHv all dst hp id off (lget (hget hp id) off))
 | some sz, some true, .ip cs => (needB (decide (sz ≤ cs.length)), .agg ((ltake sz cs).map fix), hp)
 | some _, some false, .ip cs => (needB (decide (0 < cs.length)), fix (lget cs 0), hp)
 | _, _, _ => (some False, .any, hp)
theorem x_load {t : TypeId} {x : Operand} : ex P (n+1) (some (d, all, ⟨dst, .load t x, ty, pos, after, none⟩ :: rest)) k1 k2 tm hp =
  nd (ldX all dst hp (szOf P t) (aggOf P t) (opv tm x)).1 (ex P n (some (d, all, rest)) k1 k2 (put tm dst (ldX all dst hp (szOf P t) (aggOf P t) (opv tm x)).2.1) (ldX all dst hp (szOf P t) (aggOf P t) (opv tm x)).2.2) := by
  simp only [ex, callOf, isX, ifX_f, opM, mvH_eq]
  cases hs : szOf P t with
  | none => cases ha : aggOf P t <;> cases hv : opv tm x <;> simp [ldX]
  | some s =>
    cases ha : aggOf P t with
    | none => cases hv : opv tm x <;> simp [ldX]
    | some b => cases b <;> cases hv : opv tm x <;> simp [ldX]
def stX (sz : Option Nat) (x : AV) (vs : List AV) (y : Operand) (P : Program) (n : Nat) (d : Bool) (all rest : List Oper) (k1 k2 : List Item) (tm0 tm : List AV) (hp : Heap) : Out2 := match sz, x with
 | some sz, .ptr id off => nd (needB (vs.all okCell && (vs.length == sz) && decide (off + sz ≤ (hget hp id).length) && decide (0 < sz))) (ex P n (some (d, all, rest)) k1 k2 tm (hset hp id (lput (hget hp id) off (storeW y (lget (hget hp id) off) vs))))
 | _, _ => .need False (ex P n (some (d, all, rest)) k1 k2 tm0 hp)
theorem stX_ptr {sz id off : Nat} {vs : List AV} {y : Operand} {tm0 : List AV} : stX (some sz) (.ptr id off) vs y P n d all rest k1 k2 tm0 tm hp = nd (needB (vs.all okCell && (vs.length == sz) && decide (off + sz ≤ (hget hp id).length) && decide (0 < sz))) (ex P n (some (d, all, rest)) k1 k2 tm (hset hp id (lput (hget hp id) off (storeW y (lget (hget hp id) off) vs)))) := .trans rfl rfl
theorem x_store {t : TypeId} {x y : Operand} : ex P (n+1) (some (d, all, ⟨none, .store t x y, ty, pos, after, none⟩ :: rest)) k1 k2 tm hp =
  stX (szOf P t) (opv tm x) (storeV (opv tm y)) y P n d all rest k1 k2 tm (asT tm y) hp := by
  cases hs : szOf P t <;> cases hv : opv tm x <;> simp [stX, ex, isX, ifX_f, opM, nd, callOf, hv, hs, put]
theorem x_alloc {t : TypeId} : ex P (n+1) (some (d, all, ⟨dst, .alloc t, ty, pos, after, none⟩ :: rest)) k1 k2 tm hp = alcX (zeroOf P t) (isBldT P t) t P n d all rest dst k1 k2 tm hp := by
  simp only [ex, callOf, isX, ifX_f, opM, alcX]
  cases zeroOf P t <;> rfl
def bldX (kp : Bool) (z : Option (List AV)) (l : Option (List (Nat × Nat × AV))) (af : Bool) : Option Prop × AV := match z, l with
 | some z, some l => (needB (okParts z.length l && af), .agg (fillv (bif kp then z.map opn else z) l))
 | _, _ => (some False, .any)
theorem x_build {t : TypeId} {parts : List (Nat × Operand)} : ex P (n+1) (some (d, all, ⟨dst, .build t (List.toArray parts), ty, pos, after, none⟩ :: rest)) k1 k2 tm hp =
  nd (bldX (kept all dst) (zeroOf P t) (partsOf P t tm parts) (allFld P t)).1 (ex P n (some (d, all, rest)) k1 k2 (put tm dst (bldX (kept all dst) (zeroOf P t) (partsOf P t tm parts) (allFld P t)).2) hp) := by
  simp only [ex, callOf, isX, ifX_f, opM]
  cases hz : zeroOf P t with
  | none => cases hl : partsOf P t tm parts <;> simp [bldX]
  | some z => cases hl : partsOf P t tm parts <;> simp [bldX, hl]
def bslX (b : Bool) (e : Option El) (l : Option (List AV)) (n : Nat) : Option Prop × AV := match e, l with
 | some e, some l => (needB (okElems e.sz l && (l.length == n) && decide (n ≤ 65536) && decide (0 < e.sz) && decide (e.sz ≤ 128)), flO b l)
 | _, _ => (some False, .any)
theorem x_buildSlice {t : TypeId} {m : Nat} {parts : List (Nat × Operand)} : ex P (n+1) (some (d, all, ⟨dst, .buildSlice t m (List.toArray parts), ty, pos, after, none⟩ :: rest)) k1 k2 tm hp =
  ifX (isLit all dst m) (.opx ⟨dst, .buildSlice t m (List.toArray parts), ty, pos, after, none⟩ d all rest k1 k2 tm hp)
  (nd (bslX (toB all dst) (elOf P t) (elemsOf tm 0 parts) m).1 (ex P n (some (d, all, rest)) k1 k2 (put tm dst (bslX (toB all dst) (elOf P t) (elemsOf tm 0 parts) m).2) hp)) := by
  simp only [ex, callOf, isX, opM]
  cases hi : isLit all dst m <;> simp only [ifX]
  cases hz : elOf P t with
  | none => cases hl : elemsOf tm 0 parts <;> simp [bslX]
  | some z => cases hl : elemsOf tm 0 parts <;> simp [bslX, hl]
theorem x_call {fo : Operand} {args : List Operand} {tys : Array TypeId} : ex P (n+1) (some (d, all, ⟨dst, .call ⟨.value fo, List.toArray args, tys⟩, ty, pos, after, none⟩ :: rest)) k1 k2 tm hp =
 callX (calleeK (opv tm fo) (args.map (opv tm))) d all rest dst k1 k2 tm hp := .trans rfl rfl
theorem callX_some {f : FuncId} {as : List AV} : callX (some (f, as)) d all rest dst k1 k2 tm hp = .call f as d all rest dst k1 k2 tm hp := .trans rfl rfl
theorem x_lenS {x : Operand} {t : TypeId} (h : kindOf P t = 1) : ex P (n+1) (some (d, all, ⟨dst, .call ⟨.builtin .len, List.toArray [x], List.toArray [t]⟩, ty, pos, after, none⟩ :: rest)) k1 k2 tm hp =
  nd (needB (match opv tm x with | .str _ => true | _ => false)) (ex P n (some (d, all, rest)) k1 k2 (put tm dst (lenv (opv tm x))) hp) := by
  simp only [ex, callOf, isX, ifX_f, opM, h]
  cases opv tm x <;> rfl
def isSlR : AV → Bool | .sl _ _ => true | .rs _ _ _ _ _ _ => true | _ => false
theorem x_lenL {x : Operand} {t : TypeId} (h : kindOf P t = 2) : ex P (n+1) (some (d, all, ⟨dst, .call ⟨.builtin .len, List.toArray [x], List.toArray [t]⟩, ty, pos, after, none⟩ :: rest)) k1 k2 tm hp =
  nd (needB (isSlR (opv tm x))) (ex P n (some (d, all, rest)) k1 k2 (put tm dst (lenv (opv tm x))) hp) := by
  simp only [ex, callOf, isX, ifX_f, opM, h]
  cases opv tm x <;> rfl
def apX (e : Option El) (k : Bool) (a b : AV) (P : Program) (n : Nat) (d : Bool) (all rest : List Oper) (dst : Option Nat) (k1 k2 : List Item) (tm0 tm : List AV) (hp : Heap) : Out2 :=
 match e, k with
 | some e, true => .need (appc e a b) (ex P n (some (d, all, rest)) k1 k2 (put tm dst (appv a b)) hp)
 | some _, false => .need False (ex P n (some (d, all, rest)) k1 k2 (put tm dst (appv a b)) hp)
 | none, _ => .need False (ex P n (some (d, all, rest)) k1 k2 (put tm0 dst .any) hp)
theorem apX_some {e : El} {a b : AV} {tm0 : List AV} : apX (some e) true a b P n d all rest dst k1 k2 tm0 tm hp = .need (appc e a b) (ex P n (some (d, all, rest)) k1 k2 (put tm dst (appv a b)) hp) := .trans rfl rfl
theorem x_append {x y : Operand} {t t2 : TypeId} {ts : List TypeId} : ex P (n+1) (some (d, all, ⟨dst, .call ⟨.builtin .append, List.toArray [x, y], List.toArray (t :: t2 :: ts)⟩, ty, pos, after, none⟩ :: rest)) k1 k2 tm hp =
  ifX (isRs (opv tm x)) (.opx ⟨dst, .call ⟨.builtin .append, List.toArray [x, y], List.toArray (t :: t2 :: ts)⟩, ty, pos, after, none⟩ d all rest k1 k2 tm hp) (apX (elOf P t) (kindOf P t2 == 1 || kindOf P t2 == 2) (opv tm x) (opv tm y) P n d all rest dst k1 k2 tm (killT x tm) hp) := by
  cases h : elOf P t <;> cases hk : (kindOf P t2 == 1 || kindOf P t2 == 2) <;> simp [ex, callOf, isX, ifX_f, opM, h, hk, nd, apX, isX]
end
end Go.Av

