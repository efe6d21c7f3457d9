import Derived.Test.YtmedpledgchipaaGreatDoorEx4
set_option linter.unusedSectionVars false
set_option linter.unusedVariables false
set_option linter.unusedSimpArgs false
set_option linter.unnecessarySimpa false
namespace Go.Av
open Go
section
variable {P : Program} {t : TypeId} {k k' : IntKind} {a b : Int} {s s' : List UInt8} {x y : Bool} {xs ys : List AV}
theorem binv_add : binv P .add t (.int k a) (.int k' b) = bif kq k k' then intv .add k a b else .any := .trans rfl rfl
theorem binv_sub : binv P .sub t (.int k a) (.int k' b) = bif kq k k' then intv .sub k a b else .any := .trans rfl rfl
theorem binv_mul : binv P .mul t (.int k a) (.int k' b) = bif kq k k' then intv .mul k a b else .any := .trans rfl rfl
theorem binv_and : binv P .and t (.int k a) (.int k' b) = bif kq k k' then intv .and k a b else .any := .trans rfl rfl
theorem binv_or : binv P .or t (.int k a) (.int k' b) = bif kq k k' then intv .or k a b else .any := .trans rfl rfl
theorem binv_shl : binv P .shl t (.int k a) (.int k' b) = shv .shl k a b := .trans rfl rfl
theorem binv_shr : binv P .shr t (.int k a) (.int k' b) = shv .shr k a b := .trans rfl rfl
theorem binv_eql : binv P .eql t (.int k a) (.int k' b) = bif kq k k' then .bool (decide (a = b)) else .any := .trans rfl rfl
theorem binv_neq : binv P .neq t (.int k a) (.int k' b) = bif kq k k' then .bool (!decide (a = b)) else .any := .trans rfl rfl
theorem binv_lss : binv P .lss t (.int k a) (.int k' b) = bif kq k k' then .bool (decide (a < b)) else .any := .trans rfl rfl
theorem binv_leq : binv P .leq t (.int k a) (.int k' b) = bif kq k k' then .bool (decide (a ≤ b)) else .any := .trans rfl rfl
theorem binv_gtr : binv P .gtr t (.int k a) (.int k' b) = bif kq k k' then .bool (decide (b < a)) else .any := .trans rfl rfl
theorem binv_geq : binv P .geq t (.int k a) (.int k' b) = bif kq k k' then .bool (decide (b ≤ a)) else .any := .trans rfl rfl
theorem binv_seql : binv P .eql t (.str s) (.str s') = .bool (s == s') := .trans rfl rfl
theorem binv_sneq : binv P .neq t (.str s) (.str s') = .bool (!(s == s')) := .trans rfl rfl
theorem binv_beql (h : kindOf P t = 6) : binv P .eql t (.bool x) (.bool y) = .bool (x == y) := by simp [binv, h, eqv, eqop, obool]
theorem binv_bneq (h : kindOf P t = 6) : binv P .neq t (.bool x) (.bool y) = .bool (!(x == y)) := by simp [binv, h, eqv, eqop, obool, neg]
def aggX (f : Option (List Nat)) (op : BinOp) (xs ys : List AV) : AV := match f with
 | some l => bif kindsOk l xs && (xs.length == ys.length) then eqop op (eql_ xs ys) else .any
 | none => .any
theorem aggX_some {l : List Nat} {op : BinOp} : aggX (some l) op xs ys = bif kindsOk l xs && (xs.length == ys.length) then eqop op (eql_ xs ys) else .any := .trans rfl rfl
theorem binv_aggX {op : BinOp} : binv P op t (.agg xs) (.agg ys) = aggX (flatSt P t) op xs ys := by
  cases op <;> (unfold binv aggX; cases flatSt P t <;> rfl)
theorem binv_ptr1 {i o : Nat} (h : kindOf P t = 5) : binv P .eql t (.ptr i o) .nilp = .bool false := by simp [binv, h, eqv, eqop, obool]
theorem binv_ptr2 {i o : Nat} (h : kindOf P t = 5) : binv P .neq t (.ptr i o) .nilp = .bool true := by simp [binv, h, eqv, eqop, obool, neg]
theorem binc_eql {u v : AV} : binc .eql u v = none := rfl
theorem binc_neq {u v : AV} : binc .neq u v = none := rfl
theorem binc_lss {u v : AV} : binc .lss u v = none := rfl
theorem binc_leq {u v : AV} : binc .leq u v = none := rfl
theorem binc_gtr {u v : AV} : binc .gtr u v = none := rfl
theorem binc_geq {u v : AV} : binc .geq u v = none := rfl
theorem binc_add : binc .add (.int k a) (.int k' b) = none := rfl
theorem binc_cat : binc .add (.str s) (.str s') = some (s.length + s'.length ≤ maxB) := rfl
theorem binc_sub {u v : AV} : binc .sub u v = none := rfl
theorem binc_mul {u v : AV} : binc .mul u v = none := rfl
theorem binc_and {u v : AV} : binc .and u v = none := rfl
theorem binc_or {u v : AV} : binc .or u v = none := rfl
theorem binc_xor {u v : AV} : binc .xor u v = none := rfl
theorem binc_andNot {u v : AV} : binc .andNot u v = none := rfl
theorem binc_quo {u : AV} : binc .quo u (.int k b) = some (b ≠ 0) := rfl
theorem binc_rem {u : AV} : binc .rem u (.int k b) = some (b ≠ 0) := rfl
theorem binc_shl {u : AV} : binc .shl u (.int k b) = some (0 ≤ b) := rfl
theorem binc_shr {u : AV} : binc .shr u (.int k b) = some (0 ≤ b) := rfl
theorem unv_not : unv .not (.bool x) = .bool (!x) := rfl
theorem nilOk_int {x y : Operand} {u : AV} : nilOk x y (.int k a) u = true := rfl
theorem nilOk_str {x y : Operand} {u : AV} : nilOk x y (.str s) u = true := rfl
theorem nilOk_bool {z y : Operand} {u : AV} : nilOk z y (.bool x) u = true := rfl
theorem nilOk_agg {z y : Operand} {u : AV} : nilOk z y (.agg xs) u = true := rfl
theorem nilOk_ptr {z y : Operand} {i o : Nat} {u : AV} : nilOk z y (.ptr i o) u = true := rfl
theorem nilOk_nilp {z y : Operand} {u : AV} : nilOk z y .nilp u = true := rfl
theorem nilOk_fn {z y : Operand} {f : Fn} {l1 l2 : List AV} {u : AV} : nilOk z y (.fn f l1 l2) u = true := rfl
theorem nilOk_nilF {z y : Operand} {u : AV} : nilOk z y .nilF u = true := rfl
theorem nilOk_iface {z y : Operand} {T : TypeId} {v u : AV} : nilOk z y (.iface T v) u = true := rfl
theorem hold_need [Lay] {nb : Nat} {R : Rt} {c : Prop} {o : Out2} : hold P nb R (.need c o) ↔ c ∧ hold P nb R o := Iff.rfl
theorem cast0 : ((0 : Nat) : Int) = 0 := rfl
theorem cast1 : ((1 : Nat) : Int) = 1 := rfl
theorem castN {n : Nat} : ((OfNat.ofNat n : Nat) : Int) = OfNat.ofNat n := rfl
end
section
variable {ρ : Type} {v r : ρ}
theorem retH_s [Lay] {P : Program} {nb : Nat} {tm : List AV} {hp : Heap} {rs : List ResultVar} {n : Nat} (enc : ρ → AV) (cs : ρ → Heap) (h : some v = some r) (hr : resAV P rs tm hp = some (enc v)) (hh : hp.take n = cs v) : hold P nb (ResH P (List.toArray rs) (enc r) n (cs r)) (.fin tm hp) := by
 cases h; exact ⟨hr, hh⟩
theorem runL [Lay] {P : Program} {nb : Nat} {R : Rt} {c : Code} {k1 k2 : List Item} {tm : List AV} {hp : Heap} (n : Nat) (h : hold P nb R (ex P n none (.code c :: .inLoop c :: k1) k2 tm hp)) : W P nb R (.code c :: .inLoop c :: (k1 ++ k2)) tm hp := runX n h
section
variable [Lay] {P : Program} {nb : Nat} {R : Rt} {k1 k2 k : List Item} {tm : List AV} {hp : Heap}
abbrev FP := List (Nat × AV) → Heap → Prop
theorem cndJ {b : Bool} {x y : Code} (N n : Nat) (J : FP → Prop) (h2 : J fun l hp => W P nb R (k1 ++ k2) (fr N l) hp)
  (h1 : (J fun l hp => W P nb R (k1 ++ k2) (fr N l) hp) → hold P nb R (.cnd b x y [] (k1 ++ k2) tm hp)) : hold P nb R (.cnd b x y k1 k2 tm hp) := h1 h2
theorem blkJ {id : Nat} {c : Code} (N n : Nat) (J : FP → Prop) (h2 : J fun l hp => W P nb R (k1 ++ k2) (fr N l) hp)
  (h1 : (J fun l hp => W P nb R (k1 ++ k2) (fr N l) hp) → hold P nb R (ex P n none [.code c, .inBlock id] (k1 ++ k2) tm hp)) : hold P nb R (.blk id c k1 k2 tm hp) := runX n (h1 h2)
theorem rgJ {id : Nat} {d : Bool} {ops : List Oper} (N n : Nat) (hd : DrawnOk P d (List.toArray ops) tm hp) (J : FP → Prop) (h2 : J fun l hp => W P nb R (k1 ++ k2) (fr N l) hp)
  (h1 : (J fun l hp => W P nb R (k1 ++ k2) (fr N l) hp) → hold P nb R (ex P n (some (d, ops, ops)) [] (k1 ++ k2) tm hp)) : hold P nb R (.rg id (List.toArray ops) d k1 k2 tm hp) := W.reg hd (ex_sound n _ [] (k1 ++ k2) tm hp (h1 h2))
theorem lpJ {c : Code} (N m : Nat) (Q : Nat → FP → Prop) (h0 : ∀ w, Q 0 w) (h : ∀ j, (Q j fun l hp => W P nb R (.code c :: .inLoop c :: (k1 ++ k2)) (fr N l) hp) → Q (j+1) fun l hp => W P nb R (.code c :: .inLoop c :: (k1 ++ k2)) (fr N l) hp)
  (hu : (Q m fun l hp => W P nb R (.code c :: .inLoop c :: (k1 ++ k2)) (fr N l) hp) → hold P nb R (.lp c k1 k2 tm hp)) : hold P nb R (.lp c k1 k2 tm hp) := by
 refine hu ?_
 clear hu
 induction m with
 | zero => exact h0 _
 | succ j ih => exact h j ih
end
end
theorem flO_t {l : List AV} : flO true l = .fl l := .trans rfl rfl
theorem flO_f {l : List AV} : flO false l = .sl (some none) l := .trans rfl rfl
theorem keepS_fl {l : List AV} : keepS (.fl l) = .sl (some none) l := .trans rfl rfl
theorem fix_c_int {k : IntKind} {n : Int} : fix (.int k n) = .int k n := .trans rfl rfl
theorem known_c_int {k : IntKind} {n : Int} : known (.int k n) = true := .trans rfl rfl
theorem okCell_c_int {k : IntKind} {n : Int} : okCell (.int k n) = true := .trans rfl rfl
theorem okPart_c_int {k : IntKind} {n : Int} : okPart (.int k n) = true := .trans rfl rfl
theorem AV_cells_c_int {k : IntKind} {n : Int} : AV.cells (.int k n) = [.int k n] := .trans rfl rfl
theorem storeV_c_int {k : IntKind} {n : Int} : storeV (.int k n) = [.int k n] := .trans rfl rfl
theorem opn_c_int {k : IntKind} {n : Int} : opn (.int k n) = .int k n := .trans rfl rfl
theorem fix_c_bool {b : Bool} : fix (.bool b) = .bool b := .trans rfl rfl
theorem un_c_bool {b : Bool} : un (.bool b) = .bool b := .trans rfl rfl
theorem known_c_bool {b : Bool} : known (.bool b) = true := .trans rfl rfl
theorem okCell_c_bool {b : Bool} : okCell (.bool b) = true := .trans rfl rfl
theorem okPart_c_bool {b : Bool} : okPart (.bool b) = true := .trans rfl rfl
theorem AV_cells_c_bool {b : Bool} : AV.cells (.bool b) = [.bool b] := .trans rfl rfl
theorem storeV_c_bool {b : Bool} : storeV (.bool b) = [.bool b] := .trans rfl rfl
theorem opn_c_bool {b : Bool} : opn (.bool b) = .bool b := .trans rfl rfl
theorem fix_c_str {s : List UInt8} : fix (.str s) = .str s := .trans rfl rfl
theorem okCell_c_str {s : List UInt8} : okCell (.str s) = true := .trans rfl rfl
theorem okPart_c_str {s : List UInt8} : okPart (.str s) = true := .trans rfl rfl
theorem AV_cells_c_str {s : List UInt8} : AV.cells (.str s) = [.str s] := .trans rfl rfl
theorem opn_c_str {s : List UInt8} : opn (.str s) = .str s := .trans rfl rfl
theorem fix_c_sl {o : Option (Option ETy)} {l : List AV} : fix (.sl o l) = .sl none l := .trans rfl rfl
theorem un_c_sl {o : Option (Option ETy)} {l : List AV} : un (.sl o l) = .sl none l := .trans rfl rfl
theorem okCell_c_sl {o : Option (Option ETy)} {l : List AV} : okCell (.sl o l) = true := .trans rfl rfl
theorem okPart_c_sl {o : Option (Option ETy)} {l : List AV} : okPart (.sl o l) = true := .trans rfl rfl
theorem AV_cells_c_sl {o : Option (Option ETy)} {l : List AV} : AV.cells (.sl o l) = [.sl o l] := .trans rfl rfl
theorem storeV_c_sl {o : Option (Option ETy)} {l : List AV} : storeV (.sl o l) = [.sl o l] := .trans rfl rfl
theorem fix_c_ptr {id : Nat} {off : Nat} : fix (.ptr id off) = .ptr id off := .trans rfl rfl
theorem fix_c_agg {cs : List AV} : fix (.agg cs) = .agg cs := .trans rfl rfl
theorem okPart_c_agg {cs : List AV} : okPart (.agg cs) = true := .trans rfl rfl
theorem AV_cells_c_agg {cs : List AV} : AV.cells (.agg cs) = cs := .trans rfl rfl
theorem storeV_c_agg {cs : List AV} : storeV (.agg cs) = cs.map keepS := .trans rfl rfl
theorem fix_c_fl {fa : List AV} : fix (AV.fl fa) = AV.fl fa := .trans rfl rfl
theorem okPart_c_fl {fa : List AV} : okPart (AV.fl fa) = true := .trans rfl rfl
theorem AV_cells_c_fl {fa : List AV} : AV.cells (AV.fl fa) = [AV.fl fa] := .trans rfl rfl
theorem opn_c_nil {o : Option (Option ETy)} : opn (.sl o []) = .sl (some none) [] := .trans rfl rfl
attribute [go_sem] fix_c_int known_c_int okCell_c_int okPart_c_int AV_cells_c_int storeV_c_int opn_c_int fix_c_bool un_c_bool known_c_bool okCell_c_bool okPart_c_bool AV_cells_c_bool storeV_c_bool opn_c_bool fix_c_str okCell_c_str okPart_c_str AV_cells_c_str opn_c_str fix_c_sl un_c_sl okCell_c_sl okPart_c_sl AV_cells_c_sl storeV_c_sl fix_c_ptr fix_c_agg okPart_c_agg AV_cells_c_agg storeV_c_agg fix_c_fl okPart_c_fl AV_cells_c_fl opn_c_nil
theorem keepE_int {k : IntKind} {n : Int} : keepE (.int k n) = .int k n := .trans rfl rfl
theorem keepS_int {k : IntKind} {n : Int} : keepS (.int k n) = .int k n := .trans rfl rfl
theorem keepE_bool {b : Bool} : keepE (.bool b) = .bool b := .trans rfl rfl
theorem keepS_bool {b : Bool} : keepS (.bool b) = .bool b := .trans rfl rfl
theorem keepE_str {s : List UInt8} : keepE (.str s) = .str s := .trans rfl rfl
theorem keepS_str {s : List UInt8} : keepS (.str s) = .str s := .trans rfl rfl
theorem keepE_sn {l : List AV} : keepE (.sl none l) = .sl none l := by cases l <;> rfl
theorem keepS_sn {l : List AV} : keepS (.sl none l) = .sl none l := by cases l <;> rfl
theorem keepE_se : keepE (.sl (some none) []) = .sl (some none) [] := .trans rfl rfl
theorem keepS_se  : keepS (.sl (some none) []) = .sl (some none) [] := .trans rfl rfl
theorem keepE_rs {id off len es : Nat} {ag full : Bool} : keepE (.rs id off len es ag full) = .rs id off len es ag full := .trans rfl rfl
theorem keepE_ptr {id off : Nat} : keepE (.ptr id off) = .ptr id off := .trans rfl rfl
theorem keepE_fn {f : Fn} {l1 l2 : List AV} : keepE (.fn f l1 l2) = .fn f l1 l2 := .trans rfl rfl
theorem storeW_tmp {t : Nat} {o : AV} {L : List AV} : storeW (.tmp t) o L = L := .trans rfl rfl
theorem storeW_sln {v : Value} {l L : List AV} : storeW (.const v) (.sl none l) L = L.map un := .trans rfl rfl
theorem storeW_int {v : Value} {k : IntKind} {n : Int} {L : List AV} : storeW (.const v) (.int k n) L = L := .trans rfl rfl
theorem storeW_bool {v : Value} {b : Bool} {L : List AV} : storeW (.const v) (.bool b) L = L := .trans rfl rfl
attribute [go_sem] storeW_tmp storeW_sln storeW_int storeW_bool
theorem keepE_encE {T : TypeId} {e : Option Int} : keepE (encE T e) = encE T e := by cases e <;> rfl
attribute [go_sem] keepE_int keepS_int keepE_bool keepS_bool keepE_str keepS_str keepE_sn keepS_sn keepE_se keepS_se keepE_rs keepE_ptr keepE_fn keepE_encE
theorem cvo_int {o : Bool} {k : IntKind} {n : Int} : cvo o (.int k n) = .int k n := .trans rfl rfl
theorem cvo_str {o : Bool} {s : List UInt8} : cvo o (.str s) = .str s := .trans rfl rfl
theorem cvo_f {l : List AV} : cvo false (.sl none l) = .sl none l := .trans rfl rfl
theorem cco_f {x : AV} {c : Option Prop} : cco false x c = c := .trans rfl rfl
attribute [go_sem] cvo_int cvo_str cvo_f cco_f
theorem mvTv_c_int {all : List Oper} {dd : Option Nat} {tm : List AV} {tt : Nat} {k : IntKind} {n : Int} : mvTv all dd tm tt (.int k n) = tm := .trans rfl rfl
theorem asTv_c_int {tm : List AV} {tt : Nat} {k : IntKind} {n : Int} : asTv tm tt (.int k n) = tm := .trans rfl rfl
theorem mvHv_c_int {all : List Oper} {dd : Option Nat} {hp : Heap} {ii oo : Nat} {k : IntKind} {n : Int} : mvHv all dd hp ii oo (.int k n) = hp := .trans rfl rfl
theorem mvV_c_int {all : List Oper} {dd : Option Nat} {k : IntKind} {n : Int} : mvV all dd (.int k n) = (.int k n) := .trans rfl rfl
theorem mvTv_c_bool {all : List Oper} {dd : Option Nat} {tm : List AV} {tt : Nat} {b : Bool} : mvTv all dd tm tt (.bool b) = tm := .trans rfl rfl
theorem asTv_c_bool {tm : List AV} {tt : Nat} {b : Bool} : asTv tm tt (.bool b) = tm := .trans rfl rfl
theorem mvHv_c_bool {all : List Oper} {dd : Option Nat} {hp : Heap} {ii oo : Nat} {b : Bool} : mvHv all dd hp ii oo (.bool b) = hp := .trans rfl rfl
theorem mvV_c_bool {all : List Oper} {dd : Option Nat} {b : Bool} : mvV all dd (.bool b) = (.bool b) := .trans rfl rfl
theorem mvTv_c_str {all : List Oper} {dd : Option Nat} {tm : List AV} {tt : Nat} {s : List UInt8} : mvTv all dd tm tt (.str s) = tm := .trans rfl rfl
theorem asTv_c_str {tm : List AV} {tt : Nat} {s : List UInt8} : asTv tm tt (.str s) = tm := .trans rfl rfl
theorem mvHv_c_str {all : List Oper} {dd : Option Nat} {hp : Heap} {ii oo : Nat} {s : List UInt8} : mvHv all dd hp ii oo (.str s) = hp := .trans rfl rfl
theorem mvV_c_str {all : List Oper} {dd : Option Nat} {s : List UInt8} : mvV all dd (.str s) = (.str s) := .trans rfl rfl
theorem mvTv_c_sn {all : List Oper} {dd : Option Nat} {tm : List AV} {tt : Nat} {l : List AV} : mvTv all dd tm tt (.sl none l) = tm := .trans rfl rfl
theorem asTv_c_sn {tm : List AV} {tt : Nat} {l : List AV} : asTv tm tt (.sl none l) = tm := .trans rfl rfl
theorem mvHv_c_sn {all : List Oper} {dd : Option Nat} {hp : Heap} {ii oo : Nat} {l : List AV} : mvHv all dd hp ii oo (.sl none l) = hp := .trans rfl rfl
theorem mvV_c_sn {all : List Oper} {dd : Option Nat} {l : List AV} : mvV all dd (.sl none l) = .sl none l := .trans rfl rfl
theorem mvTv_c_so {all : List Oper} {dd : Option Nat} {tm : List AV} {tt : Nat} {l : List AV} {o : Option ETy} : mvTv all dd tm tt (.sl (some o) l) = bif stolen all dd then lset tm tt (.sl none l) else tm := .trans rfl rfl
theorem asTv_c_so {tm : List AV} {tt : Nat} {l : List AV} {o : Option ETy} : asTv tm tt (.sl (some o) l) = lset tm tt (.sl none l) := .trans rfl rfl
theorem mvHv_c_so {all : List Oper} {dd : Option Nat} {hp : Heap} {ii oo : Nat} {l : List AV} {o : Option ETy} : mvHv all dd hp ii oo (.sl (some o) l) = bif stolen all dd then hset hp ii (lset (hget hp ii) oo (.sl none l)) else hp := .trans rfl rfl
theorem mvV_c_so {all : List Oper} {dd : Option Nat} {l : List AV} {o : Option ETy} : mvV all dd (.sl (some o) l) = bif stolen all dd then .sl (some o) l else .sl none l := .trans rfl rfl
theorem mvTv_c_rs {all : List Oper} {dd : Option Nat} {tm : List AV} {tt : Nat} {id : Nat} {off : Nat} {len : Nat} {es : Nat} {ag : Bool} {full : Bool} : mvTv all dd tm tt (.rs id off len es ag full) = tm := .trans rfl rfl
theorem asTv_c_rs {tm : List AV} {tt : Nat} {id : Nat} {off : Nat} {len : Nat} {es : Nat} {ag : Bool} {full : Bool} : asTv tm tt (.rs id off len es ag full) = tm := .trans rfl rfl
theorem mvV_c_rs {all : List Oper} {dd : Option Nat} {id : Nat} {off : Nat} {len : Nat} {es : Nat} {ag : Bool} {full : Bool} : mvV all dd (.rs id off len es ag full) = (.rs id off len es ag full) := .trans rfl rfl
theorem mvTv_c_ptr {all : List Oper} {dd : Option Nat} {tm : List AV} {tt : Nat} {id : Nat} {off : Nat} : mvTv all dd tm tt (.ptr id off) = tm := .trans rfl rfl
theorem asTv_c_ptr {tm : List AV} {tt : Nat} {id : Nat} {off : Nat} : asTv tm tt (.ptr id off) = tm := .trans rfl rfl
theorem mvV_c_ptr {all : List Oper} {dd : Option Nat} {id : Nat} {off : Nat} : mvV all dd (.ptr id off) = (.ptr id off) := .trans rfl rfl
theorem asTv_c_agg {tm : List AV} {tt : Nat} {cs : List AV} : asTv tm tt (.agg cs) = tm := .trans rfl rfl
theorem mvTv_c_tup {all : List Oper} {dd : Option Nat} {tm : List AV} {tt : Nat} {cs : List AV} : mvTv all dd tm tt (.tup cs) = tm := .trans rfl rfl
theorem mvV_c_tup {all : List Oper} {dd : Option Nat} {cs : List AV} : mvV all dd (.tup cs) = (.tup cs) := .trans rfl rfl
theorem asTv_c_iface {tm : List AV} {tt : Nat} {t : TypeId} {v : AV} : asTv tm tt (.iface t v) = tm := .trans rfl rfl
theorem mvTv_c_fn {all : List Oper} {dd : Option Nat} {tm : List AV} {tt : Nat} {f : Fn} {l1 : List AV} {l2 : List AV} : mvTv all dd tm tt (.fn f l1 l2) = tm := .trans rfl rfl
theorem mvV_c_fn {all : List Oper} {dd : Option Nat} {f : Fn} {l1 : List AV} {l2 : List AV} : mvV all dd (.fn f l1 l2) = (.fn f l1 l2) := .trans rfl rfl
attribute [go_sem] mvTv_c_int asTv_c_int mvHv_c_int mvV_c_int mvTv_c_bool asTv_c_bool mvHv_c_bool mvV_c_bool mvTv_c_str asTv_c_str mvHv_c_str mvV_c_str mvTv_c_sn asTv_c_sn mvHv_c_sn mvV_c_sn mvTv_c_so asTv_c_so mvHv_c_so mvV_c_so mvTv_c_rs asTv_c_rs mvV_c_rs mvTv_c_ptr asTv_c_ptr mvV_c_ptr asTv_c_agg mvTv_c_tup mvV_c_tup asTv_c_iface mvTv_c_fn mvV_c_fn
attribute [go_sem] hold_need al put_fr put_none lset_fr lget_fr mvT_tmp mvT_const asT_tmp asT_const mvH_eq x_end x_base x_skip x_seq x_cond cndV_bool x_block x_inBlock x_exit exitO_some x_ret x_region x_regionD rgO_false rgO_true x_loop x_inLoop exitTo_code exitTo_loop exitTo_block exq x_guard grdG_some grdV_bool grdV_tup grdO_tt grdO_ff grdO_tf grdO_ft gslot_z gslot_s hasG_nil hasG_no hasG_yes hasN_f isRange_move isRange_assign isRange_alloc isRange_box isRange_build isRange_buildSlice isRange_load isRange_store isRange_nilCheck isRange_binOp isRange_unOp isRange_convert isRange_makeInterface isRange_slice isRange_fieldAddr isRange_indexAddr isRange_index isRange_extract isRange_call x_move x_assign x_pick isBl x_box x_binOp x_unOp x_convert x_makeInterface x_makeFunc x_extract fldX x_fieldAddr fadX x_load ldX x_build bldX x_buildSlice bslX isLit x_call callX_some x_lenS x_lenL isSlR x_append apX_some x_store stX_ptr x_alloc alcX_some bldC_f x_nilCheck nckX_ptr x_index x_indexAddr iadX_some iadX_arr x_slice slX_str slX_sl nd needB binv_add binv_sub binv_mul binv_and binv_or binv_shl binv_shr binv_eql binv_neq binv_lss binv_leq binv_gtr binv_geq binv_seql binv_sneq binv_beql binv_bneq aggX_some binv_aggX binv_ptr1 binv_ptr2 kindsOk binc_eql binc_neq binc_lss binc_leq binc_gtr binc_geq binc_add binc_cat binc_sub binc_mul binc_and binc_or binc_xor binc_andNot binc_quo binc_rem binc_shl binc_shr unv_not nilOk_int nilOk_str nilOk_bool nilOk_agg nilOk_ptr nilOk_nilp nilOk_fn nilOk_nilF nilOk_iface nilOk_encE opv ofVal ofValC eqs eql_ eqop neg obool kq cond_true cond_false pickv isC fillv partsOf okParts elemsOf okElems lenv ltake ldrop lput lget lset stolen mvd kept laid isT toB flO_t flO_f keepS_fl killT calleeK fix_keepE ifX_t ifX_f isRs_sl isRs_str isRs_rs isRs_int isRs_bool isRs_ptr isRs_tup isRs_fn rsF_f rsF_t frzU hget hset extv extC loOf hiOf cvc List.map_cons List.map_nil List.nil_append List.append_nil List.cons_append List.all_cons List.all_nil List.length_cons List.length_nil List.length_map List.any_cons List.any_nil List.isEmpty_cons List.isEmpty_nil Option.map_some Option.map_none List.take_succ_cons List.take_zero Option.getD_some Option.isSome_some Option.isSome_none Bool.not_true Bool.not_false Bool.and_true Bool.true_and Bool.and_false Bool.false_and Bool.or_true Bool.true_or Bool.or_false Bool.false_or decide_eq_true_eq decide_eq_false_iff_not beq_self_eq_true and_true true_and decide_true decide_false cast0 cast1 castN idx nth renL ren wb hsetO focus noRef ltR ltRL
theorem isRs_encE {T : TypeId} {e : Option Int} : isRs (encE T e) = false := by cases e <;> rfl
attribute [go_sem] isRs_encE
attribute [go_sem] fix_encE ltR_encE ren_encE mvV_encE mvTv_encE asTv_encE binv_encE_eq binv_encE_ne
end Go.Av

