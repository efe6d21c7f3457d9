import Derived.Test.YtiboeelbmgnbgaaGreatDoorEx4
set_option linter.unusedSectionVars false
set_option linter.unusedVariables false
set_option linter.unusedSimpArgs false
set_option linter.unnecessarySimpa false
set_option linter.unusedVariables false
set_option linter.unusedSimpArgs false
namespace Go.Av
open Go
section
variable {P : Program} {t : TypeId} {k k' : IntKind} {a b : Int} {s s' : List UInt8} {x y : Bool} {xs ys : List AV}
theorem binv_add : binv P .add t (.int k a) (.int k' b) = bif kq k k' then intv .add k a b else .any := .trans rfl rfl
theorem binv_sub : binv P .sub t (.int k a) (.int k' b) = bif kq k k' then intv .sub k a b else .any := .trans rfl rfl
theorem binv_mul : binv P .mul t (.int k a) (.int k' b) = bif kq k k' then intv .mul k a b else .any := .trans rfl rfl
theorem binv_quo : binv P .quo t (.int k a) (.int k' b) = bif kq k k' then intv .quo k a b else .any := .trans rfl rfl
theorem binv_rem : binv P .rem t (.int k a) (.int k' b) = bif kq k k' then intv .rem k a b else .any := .trans rfl rfl
theorem binv_and : binv P .and t (.int k a) (.int k' b) = bif kq k k' then intv .and k a b else .any := .trans rfl rfl
theorem binv_or : binv P .or t (.int k a) (.int k' b) = bif kq k k' then intv .or k a b else .any := .trans rfl rfl
theorem binv_xor : binv P .xor t (.int k a) (.int k' b) = bif kq k k' then intv .xor k a b else .any := .trans rfl rfl
theorem binv_andNot : binv P .andNot t (.int k a) (.int k' b) = bif kq k k' then intv .andNot k a b else .any := .trans rfl rfl
theorem binv_shl : binv P .shl t (.int k a) (.int k' b) = shv .shl k a b := .trans rfl rfl
theorem binv_shr : binv P .shr t (.int k a) (.int k' b) = shv .shr k a b := .trans rfl rfl
theorem binv_eql : binv P .eql t (.int k a) (.int k' b) = bif kq k k' then .bool (decide (a = b)) else .any := .trans rfl rfl
theorem binv_neq : binv P .neq t (.int k a) (.int k' b) = bif kq k k' then .bool (!decide (a = b)) else .any := .trans rfl rfl
theorem binv_lss : binv P .lss t (.int k a) (.int k' b) = bif kq k k' then .bool (decide (a < b)) else .any := .trans rfl rfl
theorem binv_leq : binv P .leq t (.int k a) (.int k' b) = bif kq k k' then .bool (decide (a ≤ b)) else .any := .trans rfl rfl
theorem binv_gtr : binv P .gtr t (.int k a) (.int k' b) = bif kq k k' then .bool (decide (b < a)) else .any := .trans rfl rfl
theorem binv_geq : binv P .geq t (.int k a) (.int k' b) = bif kq k k' then .bool (decide (b ≤ a)) else .any := .trans rfl rfl
theorem binv_cat : binv P .add t (.str s) (.str s') = strv .add s s' := .trans rfl rfl
theorem binv_seql : binv P .eql t (.str s) (.str s') = .bool (s == s') := .trans rfl rfl
theorem binv_sneq : binv P .neq t (.str s) (.str s') = .bool (!(s == s')) := .trans rfl rfl
theorem binv_slss : binv P .lss t (.str s) (.str s') = .bool (Op.bytesLess s s') := .trans rfl rfl
theorem binv_sleq : binv P .leq t (.str s) (.str s') = .bool (Op.bytesLess s s' || s == s') := .trans rfl rfl
theorem binv_sgtr : binv P .gtr t (.str s) (.str s') = .bool (!(Op.bytesLess s s' || s == s')) := .trans rfl rfl
theorem binv_sgeq : binv P .geq t (.str s) (.str s') = .bool (!Op.bytesLess s s') := .trans rfl rfl
theorem binv_beql (h : kindOf P t = 6) : binv P .eql t (.bool x) (.bool y) = .bool (x == y) := by simp [binv, h, eqv, eqop, obool]
theorem binv_bneq (h : kindOf P t = 6) : binv P .neq t (.bool x) (.bool y) = .bool (!(x == y)) := by simp [binv, h, eqv, eqop, obool, neg]
def aggX (f : Option (List Nat)) (op : BinOp) (xs ys : List AV) : AV := match f with
  | some l => bif kindsOk l xs && (xs.length == ys.length) then eqop op (eql_ xs ys) else .any
  | none => .any
theorem aggX_some {l : List Nat} {op : BinOp} : aggX (some l) op xs ys = bif kindsOk l xs && (xs.length == ys.length) then eqop op (eql_ xs ys) else .any := .trans rfl rfl
theorem binv_aggX {op : BinOp} : binv P op t (.agg xs) (.agg ys) = aggX (flatSt P t) op xs ys := by
  cases op <;> (unfold binv aggX; cases flatSt P t <;> rfl)
theorem binv_ptr1 {i o : Nat} (h : kindOf P t = 5) : binv P .eql t (.ptr i o) .nilp = .bool false := by simp [binv, h, eqv, eqop, obool]
theorem binv_ptr2 {i o : Nat} (h : kindOf P t = 5) : binv P .neq t (.ptr i o) .nilp = .bool true := by simp [binv, h, eqv, eqop, obool, neg]
theorem binv_ptr3 (h : kindOf P t = 5) : binv P .eql t .nilp .nilp = .bool true := by simp [binv, h, eqv, eqop, obool]
theorem binv_ptr4 (h : kindOf P t = 5) : binv P .neq t .nilp .nilp = .bool false := by simp [binv, h, eqv, eqop, obool, neg]
theorem binv_fn1 {f : Fn} {l1 l2 : List AV} (h : kindOf P t = 8) : binv P .eql t (.fn f l1 l2) .nilF = .bool false := by simp [binv, h, eqv, eqop, obool]
theorem binv_fn2 {f : Fn} {l1 l2 : List AV} (h : kindOf P t = 8) : binv P .neq t (.fn f l1 l2) .nilF = .bool true := by simp [binv, h, eqv, eqop, obool, neg]
theorem binv_fn3 (h : kindOf P t = 8) : binv P .eql t .nilF .nilF = .bool true := by simp [binv, h, eqv, eqop, obool]
theorem binv_fn4 (h : kindOf P t = 8) : binv P .neq t .nilF .nilF = .bool false := by simp [binv, h, eqv, eqop, obool, neg]
theorem binv_if1 {T : TypeId} {v : AV} (h : kindOf P t = 3) : binv P .eql t (.iface T v) .nilI = .bool false := by simp [binv, h, eqv, eqop, obool]
theorem binv_if2 {T : TypeId} {v : AV} (h : kindOf P t = 3) : binv P .neq t (.iface T v) .nilI = .bool true := by simp [binv, h, eqv, eqop, obool, neg]
theorem binv_if3 (h : kindOf P t = 3) : binv P .eql t .nilI .nilI = .bool true := by simp [binv, h, eqv, eqop, obool]
theorem binv_if4 (h : kindOf P t = 3) : binv P .neq t .nilI .nilI = .bool false := by simp [binv, h, eqv, eqop, obool, neg]
theorem binc_eql {u v : AV} : binc .eql u v = none := rfl
theorem binc_neq {u v : AV} : binc .neq u v = none := rfl
theorem binc_lss {u v : AV} : binc .lss u v = none := rfl
theorem binc_leq {u v : AV} : binc .leq u v = none := rfl
theorem binc_gtr {u v : AV} : binc .gtr u v = none := rfl
theorem binc_geq {u v : AV} : binc .geq u v = none := rfl
theorem binc_add : binc .add (.int k a) (.int k' b) = none := rfl
theorem binc_cat : binc .add (.str s) (.str s') = some (s.length + s'.length ≤ maxB) := rfl
theorem binc_sub {u v : AV} : binc .sub u v = none := rfl
theorem binc_mul {u v : AV} : binc .mul u v = none := rfl
theorem binc_and {u v : AV} : binc .and u v = none := rfl
theorem binc_or {u v : AV} : binc .or u v = none := rfl
theorem binc_xor {u v : AV} : binc .xor u v = none := rfl
theorem binc_andNot {u v : AV} : binc .andNot u v = none := rfl
theorem binc_quo {u : AV} : binc .quo u (.int k b) = some (b ≠ 0) := rfl
theorem binc_rem {u : AV} : binc .rem u (.int k b) = some (b ≠ 0) := rfl
theorem binc_shl {u : AV} : binc .shl u (.int k b) = some (0 ≤ b) := rfl
theorem binc_shr {u : AV} : binc .shr u (.int k b) = some (0 ≤ b) := rfl
theorem unv_not : unv .not (.bool x) = .bool (!x) := rfl
theorem nilOk_int {x y : Operand} {u : AV} : nilOk x y (.int k a) u = true := rfl
theorem nilOk_str {x y : Operand} {u : AV} : nilOk x y (.str s) u = true := rfl
theorem nilOk_bool {z y : Operand} {u : AV} : nilOk z y (.bool x) u = true := rfl
theorem nilOk_agg {z y : Operand} {u : AV} : nilOk z y (.agg xs) u = true := rfl
theorem nilOk_ptr {z y : Operand} {i o : Nat} {u : AV} : nilOk z y (.ptr i o) u = true := rfl
theorem nilOk_nilp {z y : Operand} {u : AV} : nilOk z y .nilp u = true := rfl
theorem nilOk_fn {z y : Operand} {f : Fn} {l1 l2 : List AV} {u : AV} : nilOk z y (.fn f l1 l2) u = true := rfl
theorem nilOk_nilF {z y : Operand} {u : AV} : nilOk z y .nilF u = true := rfl
theorem nilOk_iface {z y : Operand} {T : TypeId} {v u : AV} : nilOk z y (.iface T v) u = true := rfl
theorem hold_need [Lay] {nb : Nat} {R : Rt} {c : Prop} {o : Out2} : hold P nb R (.need c o) ↔ c ∧ hold P nb R o := Iff.rfl
theorem iteT {α : Type} {h : Decidable True} {x y : α} : @ite α True h x y = x := if_pos trivial
theorem iteF {α : Type} {h : Decidable False} {x y : α} : @ite α False h x y = y := if_neg (fun h => h)
theorem cast0 : ((0 : Nat) : Int) = 0 := rfl
theorem cast1 : ((1 : Nat) : Int) = 1 := rfl
theorem castN {n : Nat} : ((OfNat.ofNat n : Nat) : Int) = OfNat.ofNat n := rfl
end
section
variable {ρ : Type} {v r : ρ}
/-- The end, with memory of the caller's. -/
theorem retH_s [Lay] {P : Program} {nb : Nat} {tm : List AV} {hp : Heap} {rs : List ResultVar} {n : Nat} (enc : ρ → AV) (cs : ρ → Heap) (h : some v = some r) (hr : resAV P rs tm hp = some (enc v)) (hh : hp.take n = cs v) : hold P nb (ResH P (List.toArray rs) (enc r) n (cs r)) (.fin tm hp) := by
  cases h; exact ⟨hr, hh⟩
theorem runL [Lay] {P : Program} {nb : Nat} {R : Rt} {c : Code} {k1 k2 : List Item} {tm : List AV} {hp : Heap} (n : Nat) (h : hold P nb R (ex P n none (.code c :: .inLoop c :: k1) k2 tm hp)) : W P nb R (.code c :: .inLoop c :: (k1 ++ k2)) tm hp := runX n h
section
variable [Lay] {P : Program} {nb : Nat} {R : Rt} {k1 k2 k : List Item} {tm : List AV} {hp : Heap}
abbrev FP := List (Nat × AV) → Heap → Prop
theorem cndJ {b : Bool} {x y : Code} (N n : Nat) (J : FP → Prop) (h2 : J fun l hp => W P nb R (k1 ++ k2) (fr N l) hp)
    (h1 : (J fun l hp => W P nb R (k1 ++ k2) (fr N l) hp) → hold P nb R (.cnd b x y [] (k1 ++ k2) tm hp)) : hold P nb R (.cnd b x y k1 k2 tm hp) := h1 h2
theorem blkJ {id : Nat} {c : Code} (N n : Nat) (J : FP → Prop) (h2 : J fun l hp => W P nb R (k1 ++ k2) (fr N l) hp)
    (h1 : (J fun l hp => W P nb R (k1 ++ k2) (fr N l) hp) → hold P nb R (ex P n none [.code c, .inBlock id] (k1 ++ k2) tm hp)) : hold P nb R (.blk id c k1 k2 tm hp) := runX n (h1 h2)
theorem rgJ {id : Nat} {d : Bool} {ops : List Oper} (N n : Nat) (hd : DrawnOk d (List.toArray ops) tm) (J : FP → Prop) (h2 : J fun l hp => W P nb R (k1 ++ k2) (fr N l) hp)
    (h1 : (J fun l hp => W P nb R (k1 ++ k2) (fr N l) hp) → hold P nb R (ex P n (some (d, ops, ops)) [] (k1 ++ k2) tm hp)) : hold P nb R (.rg id (List.toArray ops) d k1 k2 tm hp) := W.reg hd (ex_sound n _ [] (k1 ++ k2) tm hp (h1 h2))
theorem lpJ {c : Code} (N m : Nat) (Q : Nat → FP → Prop) (h0 : ∀ w, Q 0 w) (h : ∀ j, (Q j fun l hp => W P nb R (.code c :: .inLoop c :: (k1 ++ k2)) (fr N l) hp) → Q (j+1) fun l hp => W P nb R (.code c :: .inLoop c :: (k1 ++ k2)) (fr N l) hp)
    (hu : (Q m fun l hp => W P nb R (.code c :: .inLoop c :: (k1 ++ k2)) (fr N l) hp) → hold P nb R (.lp c k1 k2 tm hp)) : hold P nb R (.lp c k1 k2 tm hp) := by
  refine hu ?_
  clear hu
  induction m with
  | zero => exact h0 _
  | succ j ih => exact h j ih
end
end
theorem flO_t {l : List AV} : flO true l = .fl l := .trans rfl rfl
theorem flO_f {l : List AV} : flO false l = .sl (some none) l := .trans rfl rfl
theorem keepE_fl {l : List AV} : keepE (.fl l) = .fl l := .trans rfl rfl
theorem keepS_fl {l : List AV} : keepS (.fl l) = .sl (some none) l := .trans rfl rfl
theorem fix_c_any  : fix (AV.any) = AV.any := .trans rfl rfl
theorem un_c_any  : un (AV.any) = AV.any := .trans rfl rfl
theorem known_c_any  : known (AV.any) = false := .trans rfl rfl
theorem okCell_c_any  : okCell (AV.any) = false := .trans rfl rfl
theorem okPart_c_any  : okPart (AV.any) = false := .trans rfl rfl
theorem AV_cells_c_any  : AV.cells (AV.any) = [AV.any] := .trans rfl rfl
theorem storeV_c_any  : storeV (AV.any) = [AV.any] := .trans rfl rfl
theorem opn_c_any  : opn (AV.any) = AV.any := .trans rfl rfl
theorem fix_c_int {k : IntKind} {n : Int} : fix (.int k n) = .int k n := .trans rfl rfl
theorem un_c_int {k : IntKind} {n : Int} : un (.int k n) = .int k n := .trans rfl rfl
theorem known_c_int {k : IntKind} {n : Int} : known (.int k n) = true := .trans rfl rfl
theorem okCell_c_int {k : IntKind} {n : Int} : okCell (.int k n) = true := .trans rfl rfl
theorem okPart_c_int {k : IntKind} {n : Int} : okPart (.int k n) = true := .trans rfl rfl
theorem AV_cells_c_int {k : IntKind} {n : Int} : AV.cells (.int k n) = [.int k n] := .trans rfl rfl
theorem storeV_c_int {k : IntKind} {n : Int} : storeV (.int k n) = [.int k n] := .trans rfl rfl
theorem opn_c_int {k : IntKind} {n : Int} : opn (.int k n) = .int k n := .trans rfl rfl
theorem fix_c_bool {b : Bool} : fix (.bool b) = .bool b := .trans rfl rfl
theorem un_c_bool {b : Bool} : un (.bool b) = .bool b := .trans rfl rfl
theorem known_c_bool {b : Bool} : known (.bool b) = true := .trans rfl rfl
theorem okCell_c_bool {b : Bool} : okCell (.bool b) = true := .trans rfl rfl
theorem okPart_c_bool {b : Bool} : okPart (.bool b) = true := .trans rfl rfl
theorem AV_cells_c_bool {b : Bool} : AV.cells (.bool b) = [.bool b] := .trans rfl rfl
theorem storeV_c_bool {b : Bool} : storeV (.bool b) = [.bool b] := .trans rfl rfl
theorem opn_c_bool {b : Bool} : opn (.bool b) = .bool b := .trans rfl rfl
theorem fix_c_str {s : List UInt8} : fix (.str s) = .str s := .trans rfl rfl
theorem un_c_str {s : List UInt8} : un (.str s) = .str s := .trans rfl rfl
theorem known_c_str {s : List UInt8} : known (.str s) = true := .trans rfl rfl
theorem okCell_c_str {s : List UInt8} : okCell (.str s) = true := .trans rfl rfl
theorem okPart_c_str {s : List UInt8} : okPart (.str s) = true := .trans rfl rfl
theorem AV_cells_c_str {s : List UInt8} : AV.cells (.str s) = [.str s] := .trans rfl rfl
theorem storeV_c_str {s : List UInt8} : storeV (.str s) = [.str s] := .trans rfl rfl
theorem opn_c_str {s : List UInt8} : opn (.str s) = .str s := .trans rfl rfl
theorem fix_c_sl {o : Option (Option ETy)} {l : List AV} : fix (.sl o l) = .sl none l := .trans rfl rfl
theorem un_c_sl {o : Option (Option ETy)} {l : List AV} : un (.sl o l) = .sl none l := .trans rfl rfl
theorem known_c_sl {o : Option (Option ETy)} {l : List AV} : known (.sl o l) = true := .trans rfl rfl
theorem okCell_c_sl {o : Option (Option ETy)} {l : List AV} : okCell (.sl o l) = true := .trans rfl rfl
theorem okPart_c_sl {o : Option (Option ETy)} {l : List AV} : okPart (.sl o l) = true := .trans rfl rfl
theorem AV_cells_c_sl {o : Option (Option ETy)} {l : List AV} : AV.cells (.sl o l) = [.sl o l] := .trans rfl rfl
theorem storeV_c_sl {o : Option (Option ETy)} {l : List AV} : storeV (.sl o l) = [.sl o l] := .trans rfl rfl
theorem fix_c_rs {id : Nat} {off : Nat} {len : Nat} {es : Nat} {ag : Bool} {full : Bool} : fix (.rs id off len es ag full) = .rs id off len es ag full := .trans rfl rfl
theorem un_c_rs {id : Nat} {off : Nat} {len : Nat} {es : Nat} {ag : Bool} {full : Bool} : un (.rs id off len es ag full) = .rs id off len es ag full := .trans rfl rfl
theorem known_c_rs {id : Nat} {off : Nat} {len : Nat} {es : Nat} {ag : Bool} {full : Bool} : known (.rs id off len es ag full) = true := .trans rfl rfl
theorem okCell_c_rs {id : Nat} {off : Nat} {len : Nat} {es : Nat} {ag : Bool} {full : Bool} : okCell (.rs id off len es ag full) = true := .trans rfl rfl
theorem okPart_c_rs {id : Nat} {off : Nat} {len : Nat} {es : Nat} {ag : Bool} {full : Bool} : okPart (.rs id off len es ag full) = true := .trans rfl rfl
theorem AV_cells_c_rs {id : Nat} {off : Nat} {len : Nat} {es : Nat} {ag : Bool} {full : Bool} : AV.cells (.rs id off len es ag full) = [.rs id off len es ag full] := .trans rfl rfl
theorem storeV_c_rs {id : Nat} {off : Nat} {len : Nat} {es : Nat} {ag : Bool} {full : Bool} : storeV (.rs id off len es ag full) = [.rs id off len es ag full] := .trans rfl rfl
theorem opn_c_rs {id : Nat} {off : Nat} {len : Nat} {es : Nat} {ag : Bool} {full : Bool} : opn (.rs id off len es ag full) = .rs id off len es ag full := .trans rfl rfl
theorem fix_c_nilp  : fix (AV.nilp) = AV.nilp := .trans rfl rfl
theorem un_c_nilp  : un (AV.nilp) = AV.nilp := .trans rfl rfl
theorem known_c_nilp  : known (AV.nilp) = true := .trans rfl rfl
theorem okCell_c_nilp  : okCell (AV.nilp) = true := .trans rfl rfl
theorem okPart_c_nilp  : okPart (AV.nilp) = true := .trans rfl rfl
theorem AV_cells_c_nilp  : AV.cells (AV.nilp) = [AV.nilp] := .trans rfl rfl
theorem storeV_c_nilp  : storeV (AV.nilp) = [AV.nilp] := .trans rfl rfl
theorem opn_c_nilp  : opn (AV.nilp) = AV.nilp := .trans rfl rfl
theorem fix_c_ptr {id : Nat} {off : Nat} : fix (.ptr id off) = .ptr id off := .trans rfl rfl
theorem un_c_ptr {id : Nat} {off : Nat} : un (.ptr id off) = .ptr id off := .trans rfl rfl
theorem known_c_ptr {id : Nat} {off : Nat} : known (.ptr id off) = true := .trans rfl rfl
theorem okCell_c_ptr {id : Nat} {off : Nat} : okCell (.ptr id off) = true := .trans rfl rfl
theorem okPart_c_ptr {id : Nat} {off : Nat} : okPart (.ptr id off) = true := .trans rfl rfl
theorem AV_cells_c_ptr {id : Nat} {off : Nat} : AV.cells (.ptr id off) = [.ptr id off] := .trans rfl rfl
theorem storeV_c_ptr {id : Nat} {off : Nat} : storeV (.ptr id off) = [.ptr id off] := .trans rfl rfl
theorem opn_c_ptr {id : Nat} {off : Nat} : opn (.ptr id off) = .ptr id off := .trans rfl rfl
theorem fix_c_ip {cs : List AV} : fix (.ip cs) = .ip cs := .trans rfl rfl
theorem un_c_ip {cs : List AV} : un (.ip cs) = .ip cs := .trans rfl rfl
theorem known_c_ip {cs : List AV} : known (.ip cs) = true := .trans rfl rfl
theorem okCell_c_ip {cs : List AV} : okCell (.ip cs) = true := .trans rfl rfl
theorem okPart_c_ip {cs : List AV} : okPart (.ip cs) = true := .trans rfl rfl
theorem AV_cells_c_ip {cs : List AV} : AV.cells (.ip cs) = [.ip cs] := .trans rfl rfl
theorem storeV_c_ip {cs : List AV} : storeV (.ip cs) = [.ip cs] := .trans rfl rfl
theorem opn_c_ip {cs : List AV} : opn (.ip cs) = .ip cs := .trans rfl rfl
theorem fix_c_agg {cs : List AV} : fix (.agg cs) = .agg cs := .trans rfl rfl
theorem un_c_agg {cs : List AV} : un (.agg cs) = .agg cs := .trans rfl rfl
theorem known_c_agg {cs : List AV} : known (.agg cs) = true := .trans rfl rfl
theorem okCell_c_agg {cs : List AV} : okCell (.agg cs) = false := .trans rfl rfl
theorem okPart_c_agg {cs : List AV} : okPart (.agg cs) = true := .trans rfl rfl
theorem AV_cells_c_agg {cs : List AV} : AV.cells (.agg cs) = cs := .trans rfl rfl
theorem storeV_c_agg {cs : List AV} : storeV (.agg cs) = cs.map keepS := .trans rfl rfl
theorem opn_c_agg {cs : List AV} : opn (.agg cs) = .agg cs := .trans rfl rfl
theorem fix_c_tup {cs : List AV} : fix (.tup cs) = .tup cs := .trans rfl rfl
theorem un_c_tup {cs : List AV} : un (.tup cs) = .tup cs := .trans rfl rfl
theorem known_c_tup {cs : List AV} : known (.tup cs) = true := .trans rfl rfl
theorem okCell_c_tup {cs : List AV} : okCell (.tup cs) = false := .trans rfl rfl
theorem okPart_c_tup {cs : List AV} : okPart (.tup cs) = false := .trans rfl rfl
theorem AV_cells_c_tup {cs : List AV} : AV.cells (.tup cs) = [.tup cs] := .trans rfl rfl
theorem storeV_c_tup {cs : List AV} : storeV (.tup cs) = [.tup cs] := .trans rfl rfl
theorem opn_c_tup {cs : List AV} : opn (.tup cs) = .tup cs := .trans rfl rfl
theorem fix_c_iface {t : TypeId} {v : AV} : fix (.iface t v) = .iface t v := .trans rfl rfl
theorem un_c_iface {t : TypeId} {v : AV} : un (.iface t v) = .iface t v := .trans rfl rfl
theorem known_c_iface {t : TypeId} {v : AV} : known (.iface t v) = true := .trans rfl rfl
theorem okCell_c_iface {t : TypeId} {v : AV} : okCell (.iface t v) = true := .trans rfl rfl
theorem okPart_c_iface {t : TypeId} {v : AV} : okPart (.iface t v) = true := .trans rfl rfl
theorem AV_cells_c_iface {t : TypeId} {v : AV} : AV.cells (.iface t v) = [.iface t v] := .trans rfl rfl
theorem storeV_c_iface {t : TypeId} {v : AV} : storeV (.iface t v) = [.iface t v] := .trans rfl rfl
theorem opn_c_iface {t : TypeId} {v : AV} : opn (.iface t v) = .iface t v := .trans rfl rfl
theorem fix_c_nilI  : fix (AV.nilI) = AV.nilI := .trans rfl rfl
theorem un_c_nilI  : un (AV.nilI) = AV.nilI := .trans rfl rfl
theorem known_c_nilI  : known (AV.nilI) = true := .trans rfl rfl
theorem okCell_c_nilI  : okCell (AV.nilI) = true := .trans rfl rfl
theorem okPart_c_nilI  : okPart (AV.nilI) = true := .trans rfl rfl
theorem AV_cells_c_nilI  : AV.cells (AV.nilI) = [AV.nilI] := .trans rfl rfl
theorem storeV_c_nilI  : storeV (AV.nilI) = [AV.nilI] := .trans rfl rfl
theorem opn_c_nilI  : opn (AV.nilI) = AV.nilI := .trans rfl rfl
theorem fix_c_fn {f : Fn} {l1 : List AV} {l2 : List AV} : fix (.fn f l1 l2) = .fn f l1 l2 := .trans rfl rfl
theorem un_c_fn {f : Fn} {l1 : List AV} {l2 : List AV} : un (.fn f l1 l2) = .fn f l1 l2 := .trans rfl rfl
theorem known_c_fn {f : Fn} {l1 : List AV} {l2 : List AV} : known (.fn f l1 l2) = true := .trans rfl rfl
theorem okCell_c_fn {f : Fn} {l1 : List AV} {l2 : List AV} : okCell (.fn f l1 l2) = true := .trans rfl rfl
theorem okPart_c_fn {f : Fn} {l1 : List AV} {l2 : List AV} : okPart (.fn f l1 l2) = true := .trans rfl rfl
theorem AV_cells_c_fn {f : Fn} {l1 : List AV} {l2 : List AV} : AV.cells (.fn f l1 l2) = [.fn f l1 l2] := .trans rfl rfl
theorem storeV_c_fn {f : Fn} {l1 : List AV} {l2 : List AV} : storeV (.fn f l1 l2) = [.fn f l1 l2] := .trans rfl rfl
theorem opn_c_fn {f : Fn} {l1 : List AV} {l2 : List AV} : opn (.fn f l1 l2) = .fn f l1 l2 := .trans rfl rfl
theorem fix_c_nilF  : fix (AV.nilF) = AV.nilF := .trans rfl rfl
theorem un_c_nilF  : un (AV.nilF) = AV.nilF := .trans rfl rfl
theorem known_c_nilF  : known (AV.nilF) = true := .trans rfl rfl
theorem okCell_c_nilF  : okCell (AV.nilF) = true := .trans rfl rfl
theorem okPart_c_nilF  : okPart (AV.nilF) = true := .trans rfl rfl
theorem AV_cells_c_nilF  : AV.cells (AV.nilF) = [AV.nilF] := .trans rfl rfl
theorem storeV_c_nilF  : storeV (AV.nilF) = [AV.nilF] := .trans rfl rfl
theorem opn_c_nilF  : opn (AV.nilF) = AV.nilF := .trans rfl rfl
theorem fix_c_nilM  : fix (AV.nilM) = AV.nilM := .trans rfl rfl
theorem fix_c_adr {ab : Nat} : fix (AV.adr ab) = AV.adr ab := .trans rfl rfl
theorem fix_c_fl {fa : List AV} : fix (AV.fl fa) = AV.fl fa := .trans rfl rfl
theorem un_c_nilM  : un (AV.nilM) = AV.nilM := .trans rfl rfl
theorem un_c_adr {ab : Nat} : un (AV.adr ab) = AV.adr ab := .trans rfl rfl
theorem un_c_fl {fa : List AV} : un (AV.fl fa) = AV.fl fa := .trans rfl rfl
theorem known_c_nilM  : known (AV.nilM) = true := .trans rfl rfl
theorem known_c_adr {ab : Nat} : known (AV.adr ab) = true := .trans rfl rfl
theorem known_c_fl {fa : List AV} : known (AV.fl fa) = true := .trans rfl rfl
theorem okCell_c_nilM  : okCell (AV.nilM) = true := .trans rfl rfl
theorem okCell_c_adr {ab : Nat} : okCell (AV.adr ab) = true := .trans rfl rfl
theorem okCell_c_fl {fa : List AV} : okCell (AV.fl fa) = true := .trans rfl rfl
theorem okPart_c_nilM  : okPart (AV.nilM) = true := .trans rfl rfl
theorem okPart_c_adr {ab : Nat} : okPart (AV.adr ab) = true := .trans rfl rfl
theorem okPart_c_fl {fa : List AV} : okPart (AV.fl fa) = true := .trans rfl rfl
theorem AV_cells_c_nilM  : AV.cells (AV.nilM) = [AV.nilM] := .trans rfl rfl
theorem AV_cells_c_adr {ab : Nat} : AV.cells (AV.adr ab) = [AV.adr ab] := .trans rfl rfl
theorem AV_cells_c_fl {fa : List AV} : AV.cells (AV.fl fa) = [AV.fl fa] := .trans rfl rfl
theorem storeV_c_nilM  : storeV (AV.nilM) = [AV.nilM] := .trans rfl rfl
theorem storeV_c_adr {ab : Nat} : storeV (AV.adr ab) = [AV.adr ab] := .trans rfl rfl
theorem storeV_c_fl {fa : List AV} : storeV (AV.fl fa) = [AV.fl fa] := .trans rfl rfl
theorem opn_c_nilM  : opn (AV.nilM) = AV.nilM := .trans rfl rfl
theorem opn_c_adr {ab : Nat} : opn (AV.adr ab) = AV.adr ab := .trans rfl rfl
theorem opn_c_fl {fa : List AV} : opn (AV.fl fa) = AV.fl fa := .trans rfl rfl
theorem fix_c_bld {id : Nat} {T : TypeId} : fix (.bld id T) = .bld id T := .trans rfl rfl
theorem un_c_bld {id : Nat} {T : TypeId} : un (.bld id T) = .bld id T := .trans rfl rfl
theorem known_c_bld {id : Nat} {T : TypeId} : known (.bld id T) = true := .trans rfl rfl
theorem okCell_c_bld {id : Nat} {T : TypeId} : okCell (.bld id T) = true := .trans rfl rfl
theorem okPart_c_bld {id : Nat} {T : TypeId} : okPart (.bld id T) = true := .trans rfl rfl
theorem AV_cells_c_bld {id : Nat} {T : TypeId} : AV.cells (.bld id T) = [.bld id T] := .trans rfl rfl
theorem storeV_c_bld {id : Nat} {T : TypeId} : storeV (.bld id T) = [.bld id T] := .trans rfl rfl
theorem opn_c_bld {id : Nat} {T : TypeId} : opn (.bld id T) = .bld id T := .trans rfl rfl
theorem opn_c_nil {o : Option (Option ETy)} : opn (.sl o []) = .sl (some none) [] := .trans rfl rfl
theorem opn_c_cons {o : Option (Option ETy)} {x : AV} {l : List AV} : opn (.sl o (x :: l)) = .sl o (x :: l) := .trans rfl rfl
attribute [go_sem] fix_c_any un_c_any known_c_any okCell_c_any okPart_c_any AV_cells_c_any storeV_c_any opn_c_any fix_c_int un_c_int known_c_int okCell_c_int okPart_c_int AV_cells_c_int storeV_c_int opn_c_int fix_c_bool un_c_bool known_c_bool okCell_c_bool okPart_c_bool AV_cells_c_bool storeV_c_bool opn_c_bool fix_c_str un_c_str known_c_str okCell_c_str okPart_c_str AV_cells_c_str storeV_c_str opn_c_str fix_c_sl un_c_sl known_c_sl okCell_c_sl okPart_c_sl AV_cells_c_sl storeV_c_sl fix_c_rs un_c_rs known_c_rs okCell_c_rs okPart_c_rs AV_cells_c_rs storeV_c_rs opn_c_rs fix_c_nilp un_c_nilp known_c_nilp okCell_c_nilp okPart_c_nilp AV_cells_c_nilp storeV_c_nilp opn_c_nilp fix_c_ptr un_c_ptr known_c_ptr okCell_c_ptr okPart_c_ptr AV_cells_c_ptr storeV_c_ptr opn_c_ptr fix_c_ip un_c_ip known_c_ip okCell_c_ip okPart_c_ip AV_cells_c_ip storeV_c_ip opn_c_ip fix_c_agg un_c_agg known_c_agg okCell_c_agg okPart_c_agg AV_cells_c_agg storeV_c_agg opn_c_agg fix_c_tup un_c_tup known_c_tup okCell_c_tup okPart_c_tup AV_cells_c_tup storeV_c_tup opn_c_tup fix_c_iface un_c_iface known_c_iface okCell_c_iface okPart_c_iface AV_cells_c_iface storeV_c_iface opn_c_iface fix_c_nilI un_c_nilI known_c_nilI okCell_c_nilI okPart_c_nilI AV_cells_c_nilI storeV_c_nilI opn_c_nilI fix_c_fn un_c_fn known_c_fn okCell_c_fn okPart_c_fn AV_cells_c_fn storeV_c_fn opn_c_fn fix_c_nilF un_c_nilF known_c_nilF okCell_c_nilF okPart_c_nilF AV_cells_c_nilF storeV_c_nilF opn_c_nilF fix_c_nilM fix_c_adr fix_c_fl un_c_nilM un_c_adr un_c_fl known_c_nilM known_c_adr known_c_fl okCell_c_nilM okCell_c_adr okCell_c_fl okPart_c_nilM okPart_c_adr okPart_c_fl AV_cells_c_nilM AV_cells_c_adr AV_cells_c_fl storeV_c_nilM storeV_c_adr storeV_c_fl opn_c_nilM opn_c_adr opn_c_fl fix_c_bld un_c_bld known_c_bld okCell_c_bld okPart_c_bld AV_cells_c_bld storeV_c_bld opn_c_bld opn_c_nil opn_c_cons
theorem mvTv_c_any {all : List Oper} {dd : Option Nat} {tm : List AV} {tt : Nat}  : mvTv all dd tm tt (AV.any) = tm := .trans rfl rfl
theorem asTv_c_any {tm : List AV} {tt : Nat}  : asTv tm tt (AV.any) = tm := .trans rfl rfl
theorem mvHv_c_any {all : List Oper} {dd : Option Nat} {hp : Heap} {ii oo : Nat}  : mvHv all dd hp ii oo (AV.any) = hp := .trans rfl rfl
theorem keepE_int {k : IntKind} {n : Int} : keepE (.int k n) = .int k n := .trans rfl rfl
theorem keepS_int {k : IntKind} {n : Int} : keepS (.int k n) = .int k n := .trans rfl rfl
theorem keepE_bool {b : Bool} : keepE (.bool b) = .bool b := .trans rfl rfl
theorem keepS_bool {b : Bool} : keepS (.bool b) = .bool b := .trans rfl rfl
theorem keepE_str {s : List UInt8} : keepE (.str s) = .str s := .trans rfl rfl
theorem keepS_str {s : List UInt8} : keepS (.str s) = .str s := .trans rfl rfl
theorem keepE_sn {l : List AV} : keepE (.sl none l) = .sl none l := by cases l <;> rfl
theorem keepS_sn {l : List AV} : keepS (.sl none l) = .sl none l := by cases l <;> rfl
theorem keepE_se : keepE (.sl (some none) []) = .sl (some none) [] := .trans rfl rfl
theorem keepS_se  : keepS (.sl (some none) []) = .sl (some none) [] := .trans rfl rfl
theorem keepE_any : keepE .any = .any := .trans rfl rfl
theorem keepS_any  : keepS .any = .any := .trans rfl rfl
theorem keepE_rs {id off len es : Nat} {ag full : Bool} : keepE (.rs id off len es ag full) = .rs id off len es ag full := .trans rfl rfl
theorem keepS_rs {id off len es : Nat} {ag full : Bool} : keepS (.rs id off len es ag full) = .rs id off len es ag full := .trans rfl rfl
theorem keepE_nilp : keepE .nilp = .nilp := .trans rfl rfl
theorem keepS_nilp  : keepS .nilp = .nilp := .trans rfl rfl
theorem keepE_ptr {id off : Nat} : keepE (.ptr id off) = .ptr id off := .trans rfl rfl
theorem keepS_ptr {id off : Nat} : keepS (.ptr id off) = .ptr id off := .trans rfl rfl
theorem keepE_ip {cs : List AV} : keepE (.ip cs) = .ip cs := .trans rfl rfl
theorem keepS_ip {cs : List AV} : keepS (.ip cs) = .ip cs := .trans rfl rfl
theorem keepE_iface {t : TypeId} {v : AV} : keepE (.iface t v) = .iface t v := .trans rfl rfl
theorem keepS_iface {t : TypeId} {v : AV} : keepS (.iface t v) = .iface t v := .trans rfl rfl
theorem keepE_nilI : keepE .nilI = .nilI := .trans rfl rfl
theorem keepS_nilI  : keepS .nilI = .nilI := .trans rfl rfl
theorem keepE_fn {f : Fn} {l1 l2 : List AV} : keepE (.fn f l1 l2) = .fn f l1 l2 := .trans rfl rfl
theorem keepS_fn {f : Fn} {l1 l2 : List AV} : keepS (.fn f l1 l2) = .fn f l1 l2 := .trans rfl rfl
theorem keepE_nilF : keepE .nilF = .nilF := .trans rfl rfl
theorem keepS_nilF  : keepS .nilF = .nilF := .trans rfl rfl
theorem keepE_nilM : keepE .nilM = .nilM := .trans rfl rfl
theorem keepS_nilM  : keepS .nilM = .nilM := .trans rfl rfl
theorem keepE_adr {b : Nat} : keepE (.adr b) = .adr b := .trans rfl rfl
theorem keepS_adr {b : Nat} : keepS (.adr b) = .adr b := .trans rfl rfl
theorem storeW_tmp {t : Nat} {o : AV} {L : List AV} : storeW (.tmp t) o L = L := .trans rfl rfl
theorem storeW_func {f : FuncId} {o : AV} {L : List AV} : storeW (.func f) o L = L := .trans rfl rfl
theorem storeW_sln {v : Value} {l L : List AV} : storeW (.const v) (.sl none l) L = L.map un := .trans rfl rfl
theorem storeW_encE {v : Value} {T : TypeId} {e : Option Int} {L : List AV} : storeW (.const v) (encE T e) L = L := by cases e <;> rfl
theorem storeW_encO {v : Value} {T : TypeId} {e : Bool} {L : List AV} : storeW (.const v) (encO T e) L = L := by cases e <;> rfl
theorem storeW_any {v : Value} {L : List AV} : storeW (.const v) AV.any L = L := .trans rfl rfl
theorem storeW_int {v : Value} {k : IntKind} {n : Int} {L : List AV} : storeW (.const v) (.int k n) L = L := .trans rfl rfl
theorem storeW_bool {v : Value} {b : Bool} {L : List AV} : storeW (.const v) (.bool b) L = L := .trans rfl rfl
theorem storeW_str {v : Value} {s : List UInt8} {L : List AV} : storeW (.const v) (.str s) L = L := .trans rfl rfl
theorem storeW_slo {v : Value} {o : Option ETy} {l : List AV} {L : List AV} : storeW (.const v) (.sl (some o) l) L = L := .trans rfl rfl
theorem storeW_nilp {v : Value} {L : List AV} : storeW (.const v) AV.nilp L = L := .trans rfl rfl
theorem storeW_ptr {v : Value} {i o : Nat} {L : List AV} : storeW (.const v) (.ptr i o) L = L := .trans rfl rfl
theorem storeW_ip {v : Value} {cs : List AV} {L : List AV} : storeW (.const v) (.ip cs) L = L := .trans rfl rfl
theorem storeW_nilI {v : Value} {L : List AV} : storeW (.const v) AV.nilI L = L := .trans rfl rfl
theorem storeW_iface {v : Value} {t : TypeId} {x : AV} {L : List AV} : storeW (.const v) (.iface t x) L = L := .trans rfl rfl
theorem storeW_fn {v : Value} {f : Fn} {l1 l2 : List AV} {L : List AV} : storeW (.const v) (.fn f l1 l2) L = L := .trans rfl rfl
theorem storeW_nilF {v : Value} {L : List AV} : storeW (.const v) AV.nilF L = L := .trans rfl rfl
theorem storeW_nilM {v : Value} {L : List AV} : storeW (.const v) AV.nilM L = L := .trans rfl rfl
theorem storeW_bld {v : Value} {i : Nat} {T : TypeId} {L : List AV} : storeW (.const v) (.bld i T) L = L := .trans rfl rfl
theorem storeW_rs {v : Value} {a b c d : Nat} {e f : Bool} {L : List AV} : storeW (.const v) (.rs a b c d e f) L = L := .trans rfl rfl
attribute [go_sem] storeW_tmp storeW_func storeW_sln storeW_encE storeW_encO storeW_any storeW_int storeW_bool storeW_str storeW_slo storeW_nilp storeW_ptr storeW_ip storeW_nilI storeW_iface storeW_fn storeW_nilF storeW_nilM storeW_bld storeW_rs
theorem keepE_encO {T : TypeId} {e : Bool} : keepE (encO T e) = encO T e := by cases e <;> rfl
theorem keepS_encO {T : TypeId} {e : Bool} : keepS (encO T e) = encO T e := by cases e <;> rfl
theorem keepE_encE {T : TypeId} {e : Option Int} : keepE (encE T e) = encE T e := by cases e <;> rfl
theorem keepS_encE {T : TypeId} {e : Option Int} : keepS (encE T e) = encE T e := by cases e <;> rfl
attribute [go_sem] keepE_int keepS_int keepE_bool keepS_bool keepE_str keepS_str keepE_sn keepS_sn keepE_se keepS_se keepE_any keepS_any keepE_rs keepS_rs keepE_nilp keepS_nilp keepE_ptr keepS_ptr keepE_ip keepS_ip keepE_iface keepS_iface keepE_nilI keepS_nilI keepE_fn keepS_fn keepE_nilF keepS_nilF keepE_nilM keepS_nilM keepE_adr keepS_adr keepE_encE keepS_encE
theorem cvo_int {o : Bool} {k : IntKind} {n : Int} : cvo o (.int k n) = .int k n := .trans rfl rfl
theorem cvo_str {o : Bool} {s : List UInt8} : cvo o (.str s) = .str s := .trans rfl rfl
theorem cvo_f {l : List AV} : cvo false (.sl none l) = .sl none l := .trans rfl rfl
theorem cvo_t {l : List AV} : cvo true (.sl none l) = .sl (some none) l := .trans rfl rfl
theorem cco_f {x : AV} {c : Option Prop} : cco false x c = c := .trans rfl rfl
theorem cco_t {s : List UInt8} : cco true (.str s) none = some (s ≠ []) := .trans rfl rfl
attribute [go_sem] cvo_int cvo_str cvo_f cvo_t cco_f cco_t
theorem mvV_c_any {all : List Oper} {dd : Option Nat}  : mvV all dd (AV.any) = AV.any := .trans rfl rfl
theorem mvTv_c_int {all : List Oper} {dd : Option Nat} {tm : List AV} {tt : Nat} {k : IntKind} {n : Int} : mvTv all dd tm tt (.int k n) = tm := .trans rfl rfl
theorem asTv_c_int {tm : List AV} {tt : Nat} {k : IntKind} {n : Int} : asTv tm tt (.int k n) = tm := .trans rfl rfl
theorem mvHv_c_int {all : List Oper} {dd : Option Nat} {hp : Heap} {ii oo : Nat} {k : IntKind} {n : Int} : mvHv all dd hp ii oo (.int k n) = hp := .trans rfl rfl
theorem mvV_c_int {all : List Oper} {dd : Option Nat} {k : IntKind} {n : Int} : mvV all dd (.int k n) = (.int k n) := .trans rfl rfl
theorem mvTv_c_bool {all : List Oper} {dd : Option Nat} {tm : List AV} {tt : Nat} {b : Bool} : mvTv all dd tm tt (.bool b) = tm := .trans rfl rfl
theorem asTv_c_bool {tm : List AV} {tt : Nat} {b : Bool} : asTv tm tt (.bool b) = tm := .trans rfl rfl
theorem mvHv_c_bool {all : List Oper} {dd : Option Nat} {hp : Heap} {ii oo : Nat} {b : Bool} : mvHv all dd hp ii oo (.bool b) = hp := .trans rfl rfl
theorem mvV_c_bool {all : List Oper} {dd : Option Nat} {b : Bool} : mvV all dd (.bool b) = (.bool b) := .trans rfl rfl
theorem mvTv_c_str {all : List Oper} {dd : Option Nat} {tm : List AV} {tt : Nat} {s : List UInt8} : mvTv all dd tm tt (.str s) = tm := .trans rfl rfl
theorem asTv_c_str {tm : List AV} {tt : Nat} {s : List UInt8} : asTv tm tt (.str s) = tm := .trans rfl rfl
theorem mvHv_c_str {all : List Oper} {dd : Option Nat} {hp : Heap} {ii oo : Nat} {s : List UInt8} : mvHv all dd hp ii oo (.str s) = hp := .trans rfl rfl
theorem mvV_c_str {all : List Oper} {dd : Option Nat} {s : List UInt8} : mvV all dd (.str s) = (.str s) := .trans rfl rfl
theorem mvTv_c_sn {all : List Oper} {dd : Option Nat} {tm : List AV} {tt : Nat} {l : List AV} : mvTv all dd tm tt (.sl none l) = tm := .trans rfl rfl
theorem asTv_c_sn {tm : List AV} {tt : Nat} {l : List AV} : asTv tm tt (.sl none l) = tm := .trans rfl rfl
theorem mvHv_c_sn {all : List Oper} {dd : Option Nat} {hp : Heap} {ii oo : Nat} {l : List AV} : mvHv all dd hp ii oo (.sl none l) = hp := .trans rfl rfl
theorem mvV_c_sn {all : List Oper} {dd : Option Nat} {l : List AV} : mvV all dd (.sl none l) = .sl none l := .trans rfl rfl
theorem mvTv_c_so {all : List Oper} {dd : Option Nat} {tm : List AV} {tt : Nat} {l : List AV} {o : Option ETy} : mvTv all dd tm tt (.sl (some o) l) = bif stolen all dd then lset tm tt (.sl none l) else tm := .trans rfl rfl
theorem asTv_c_so {tm : List AV} {tt : Nat} {l : List AV} {o : Option ETy} : asTv tm tt (.sl (some o) l) = lset tm tt (.sl none l) := .trans rfl rfl
theorem mvHv_c_so {all : List Oper} {dd : Option Nat} {hp : Heap} {ii oo : Nat} {l : List AV} {o : Option ETy} : mvHv all dd hp ii oo (.sl (some o) l) = bif stolen all dd then hset hp ii (lset (hget hp ii) oo (.sl none l)) else hp := .trans rfl rfl
theorem mvV_c_so {all : List Oper} {dd : Option Nat} {l : List AV} {o : Option ETy} : mvV all dd (.sl (some o) l) = bif stolen all dd then .sl (some o) l else .sl none l := .trans rfl rfl
theorem mvTv_c_rs {all : List Oper} {dd : Option Nat} {tm : List AV} {tt : Nat} {id : Nat} {off : Nat} {len : Nat} {es : Nat} {ag : Bool} {full : Bool} : mvTv all dd tm tt (.rs id off len es ag full) = tm := .trans rfl rfl
theorem asTv_c_rs {tm : List AV} {tt : Nat} {id : Nat} {off : Nat} {len : Nat} {es : Nat} {ag : Bool} {full : Bool} : asTv tm tt (.rs id off len es ag full) = tm := .trans rfl rfl
theorem mvHv_c_rs {all : List Oper} {dd : Option Nat} {hp : Heap} {ii oo : Nat} {id : Nat} {off : Nat} {len : Nat} {es : Nat} {ag : Bool} {full : Bool} : mvHv all dd hp ii oo (.rs id off len es ag full) = hp := .trans rfl rfl
theorem mvV_c_rs {all : List Oper} {dd : Option Nat} {id : Nat} {off : Nat} {len : Nat} {es : Nat} {ag : Bool} {full : Bool} : mvV all dd (.rs id off len es ag full) = (.rs id off len es ag full) := .trans rfl rfl
theorem mvTv_c_nilp {all : List Oper} {dd : Option Nat} {tm : List AV} {tt : Nat}  : mvTv all dd tm tt (AV.nilp) = tm := .trans rfl rfl
theorem asTv_c_nilp {tm : List AV} {tt : Nat}  : asTv tm tt (AV.nilp) = tm := .trans rfl rfl
theorem mvHv_c_nilp {all : List Oper} {dd : Option Nat} {hp : Heap} {ii oo : Nat}  : mvHv all dd hp ii oo (AV.nilp) = hp := .trans rfl rfl
theorem mvV_c_nilp {all : List Oper} {dd : Option Nat}  : mvV all dd (AV.nilp) = AV.nilp := .trans rfl rfl
theorem mvTv_c_ptr {all : List Oper} {dd : Option Nat} {tm : List AV} {tt : Nat} {id : Nat} {off : Nat} : mvTv all dd tm tt (.ptr id off) = tm := .trans rfl rfl
theorem asTv_c_ptr {tm : List AV} {tt : Nat} {id : Nat} {off : Nat} : asTv tm tt (.ptr id off) = tm := .trans rfl rfl
theorem mvHv_c_ptr {all : List Oper} {dd : Option Nat} {hp : Heap} {ii oo : Nat} {id : Nat} {off : Nat} : mvHv all dd hp ii oo (.ptr id off) = hp := .trans rfl rfl
theorem mvV_c_ptr {all : List Oper} {dd : Option Nat} {id : Nat} {off : Nat} : mvV all dd (.ptr id off) = (.ptr id off) := .trans rfl rfl
theorem mvTv_c_ip {all : List Oper} {dd : Option Nat} {tm : List AV} {tt : Nat} {cs : List AV} : mvTv all dd tm tt (.ip cs) = tm := .trans rfl rfl
theorem asTv_c_ip {tm : List AV} {tt : Nat} {cs : List AV} : asTv tm tt (.ip cs) = tm := .trans rfl rfl
theorem mvHv_c_ip {all : List Oper} {dd : Option Nat} {hp : Heap} {ii oo : Nat} {cs : List AV} : mvHv all dd hp ii oo (.ip cs) = hp := .trans rfl rfl
theorem mvV_c_ip {all : List Oper} {dd : Option Nat} {cs : List AV} : mvV all dd (.ip cs) = (.ip cs) := .trans rfl rfl
theorem mvTv_c_agg {all : List Oper} {dd : Option Nat} {tm : List AV} {tt : Nat} {cs : List AV} : mvTv all dd tm tt (.agg cs) = tm := .trans rfl rfl
theorem asTv_c_agg {tm : List AV} {tt : Nat} {cs : List AV} : asTv tm tt (.agg cs) = tm := .trans rfl rfl
theorem mvHv_c_agg {all : List Oper} {dd : Option Nat} {hp : Heap} {ii oo : Nat} {cs : List AV} : mvHv all dd hp ii oo (.agg cs) = hp := .trans rfl rfl
theorem mvV_c_agg {all : List Oper} {dd : Option Nat} {cs : List AV} : mvV all dd (.agg cs) = (.agg cs) := .trans rfl rfl
theorem mvTv_c_tup {all : List Oper} {dd : Option Nat} {tm : List AV} {tt : Nat} {cs : List AV} : mvTv all dd tm tt (.tup cs) = tm := .trans rfl rfl
theorem asTv_c_tup {tm : List AV} {tt : Nat} {cs : List AV} : asTv tm tt (.tup cs) = tm := .trans rfl rfl
theorem mvHv_c_tup {all : List Oper} {dd : Option Nat} {hp : Heap} {ii oo : Nat} {cs : List AV} : mvHv all dd hp ii oo (.tup cs) = hp := .trans rfl rfl
theorem mvV_c_tup {all : List Oper} {dd : Option Nat} {cs : List AV} : mvV all dd (.tup cs) = (.tup cs) := .trans rfl rfl
theorem mvTv_c_iface {all : List Oper} {dd : Option Nat} {tm : List AV} {tt : Nat} {t : TypeId} {v : AV} : mvTv all dd tm tt (.iface t v) = tm := .trans rfl rfl
theorem asTv_c_iface {tm : List AV} {tt : Nat} {t : TypeId} {v : AV} : asTv tm tt (.iface t v) = tm := .trans rfl rfl
theorem mvHv_c_iface {all : List Oper} {dd : Option Nat} {hp : Heap} {ii oo : Nat} {t : TypeId} {v : AV} : mvHv all dd hp ii oo (.iface t v) = hp := .trans rfl rfl
theorem mvV_c_iface {all : List Oper} {dd : Option Nat} {t : TypeId} {v : AV} : mvV all dd (.iface t v) = (.iface t v) := .trans rfl rfl
theorem mvTv_c_nilI {all : List Oper} {dd : Option Nat} {tm : List AV} {tt : Nat}  : mvTv all dd tm tt (AV.nilI) = tm := .trans rfl rfl
theorem asTv_c_nilI {tm : List AV} {tt : Nat}  : asTv tm tt (AV.nilI) = tm := .trans rfl rfl
theorem mvHv_c_nilI {all : List Oper} {dd : Option Nat} {hp : Heap} {ii oo : Nat}  : mvHv all dd hp ii oo (AV.nilI) = hp := .trans rfl rfl
theorem mvV_c_nilI {all : List Oper} {dd : Option Nat}  : mvV all dd (AV.nilI) = AV.nilI := .trans rfl rfl
theorem mvTv_c_fn {all : List Oper} {dd : Option Nat} {tm : List AV} {tt : Nat} {f : Fn} {l1 : List AV} {l2 : List AV} : mvTv all dd tm tt (.fn f l1 l2) = tm := .trans rfl rfl
theorem asTv_c_fn {tm : List AV} {tt : Nat} {f : Fn} {l1 : List AV} {l2 : List AV} : asTv tm tt (.fn f l1 l2) = tm := .trans rfl rfl
theorem mvHv_c_fn {all : List Oper} {dd : Option Nat} {hp : Heap} {ii oo : Nat} {f : Fn} {l1 : List AV} {l2 : List AV} : mvHv all dd hp ii oo (.fn f l1 l2) = hp := .trans rfl rfl
theorem mvV_c_fn {all : List Oper} {dd : Option Nat} {f : Fn} {l1 : List AV} {l2 : List AV} : mvV all dd (.fn f l1 l2) = (.fn f l1 l2) := .trans rfl rfl
theorem mvTv_c_nilF {all : List Oper} {dd : Option Nat} {tm : List AV} {tt : Nat}  : mvTv all dd tm tt (AV.nilF) = tm := .trans rfl rfl
theorem asTv_c_nilF {tm : List AV} {tt : Nat}  : asTv tm tt (AV.nilF) = tm := .trans rfl rfl
theorem mvHv_c_nilF {all : List Oper} {dd : Option Nat} {hp : Heap} {ii oo : Nat}  : mvHv all dd hp ii oo (AV.nilF) = hp := .trans rfl rfl
theorem mvV_c_nilF {all : List Oper} {dd : Option Nat}  : mvV all dd (AV.nilF) = AV.nilF := .trans rfl rfl
theorem mvTv_c_nilM {all : List Oper} {dd : Option Nat} {tm : List AV} {tt : Nat}  : mvTv all dd tm tt (AV.nilM) = tm := .trans rfl rfl
theorem mvTv_c_adr {ab : Nat}{all : List Oper} {dd : Option Nat} {tm : List AV} {tt : Nat}  : mvTv all dd tm tt (AV.adr ab) = tm := .trans rfl rfl
theorem mvTv_c_fl {fa : List AV}{all : List Oper} {dd : Option Nat} {tm : List AV} {tt : Nat}  : mvTv all dd tm tt (AV.fl fa) = tm := .trans rfl rfl
theorem asTv_c_nilM {tm : List AV} {tt : Nat}  : asTv tm tt (AV.nilM) = tm := .trans rfl rfl
theorem asTv_c_adr {ab : Nat}{tm : List AV} {tt : Nat}  : asTv tm tt (AV.adr ab) = tm := .trans rfl rfl
theorem asTv_c_fl {fa : List AV}{tm : List AV} {tt : Nat}  : asTv tm tt (AV.fl fa) = tm := .trans rfl rfl
theorem mvHv_c_nilM {all : List Oper} {dd : Option Nat} {hp : Heap} {ii oo : Nat}  : mvHv all dd hp ii oo (AV.nilM) = hp := .trans rfl rfl
theorem mvHv_c_adr {ab : Nat}{all : List Oper} {dd : Option Nat} {hp : Heap} {ii oo : Nat}  : mvHv all dd hp ii oo (AV.adr ab) = hp := .trans rfl rfl
theorem mvHv_c_fl {fa : List AV}{all : List Oper} {dd : Option Nat} {hp : Heap} {ii oo : Nat}  : mvHv all dd hp ii oo (AV.fl fa) = hp := .trans rfl rfl
theorem mvV_c_nilM {all : List Oper} {dd : Option Nat}  : mvV all dd (AV.nilM) = AV.nilM := .trans rfl rfl
theorem mvV_c_adr {ab : Nat}{all : List Oper} {dd : Option Nat}  : mvV all dd (AV.adr ab) = AV.adr ab := .trans rfl rfl
theorem mvV_c_fl {fa : List AV}{all : List Oper} {dd : Option Nat}  : mvV all dd (AV.fl fa) = AV.fl fa := .trans rfl rfl
theorem mvTv_c_bld {all : List Oper} {dd : Option Nat} {tm : List AV} {tt : Nat} {id : Nat} {T : TypeId} : mvTv all dd tm tt (.bld id T) = tm := .trans rfl rfl
theorem asTv_c_bld {tm : List AV} {tt : Nat} {id : Nat} {T : TypeId} : asTv tm tt (.bld id T) = tm := .trans rfl rfl
theorem mvHv_c_bld {all : List Oper} {dd : Option Nat} {hp : Heap} {ii oo : Nat} {id : Nat} {T : TypeId} : mvHv all dd hp ii oo (.bld id T) = hp := .trans rfl rfl
theorem mvV_c_bld {all : List Oper} {dd : Option Nat} {id : Nat} {T : TypeId} : mvV all dd (.bld id T) = (.bld id T) := .trans rfl rfl
attribute [go_sem] mvTv_c_any asTv_c_any mvHv_c_any mvV_c_any mvTv_c_int asTv_c_int mvHv_c_int mvV_c_int mvTv_c_bool asTv_c_bool mvHv_c_bool mvV_c_bool mvTv_c_str asTv_c_str mvHv_c_str mvV_c_str mvTv_c_sn asTv_c_sn mvHv_c_sn mvV_c_sn mvTv_c_so asTv_c_so mvHv_c_so mvV_c_so mvTv_c_rs asTv_c_rs mvHv_c_rs mvV_c_rs mvTv_c_nilp asTv_c_nilp mvHv_c_nilp mvV_c_nilp mvTv_c_ptr asTv_c_ptr mvHv_c_ptr mvV_c_ptr mvTv_c_ip asTv_c_ip mvHv_c_ip mvV_c_ip mvTv_c_agg asTv_c_agg mvHv_c_agg mvV_c_agg mvTv_c_tup asTv_c_tup mvHv_c_tup mvV_c_tup mvTv_c_iface asTv_c_iface mvHv_c_iface mvV_c_iface mvTv_c_nilI asTv_c_nilI mvHv_c_nilI mvV_c_nilI mvTv_c_fn asTv_c_fn mvHv_c_fn mvV_c_fn mvTv_c_nilF asTv_c_nilF mvHv_c_nilF mvV_c_nilF mvTv_c_nilM mvTv_c_adr mvTv_c_fl asTv_c_nilM asTv_c_adr asTv_c_fl mvHv_c_nilM mvHv_c_adr mvHv_c_fl mvV_c_nilM mvV_c_adr mvV_c_fl mvTv_c_bld asTv_c_bld mvHv_c_bld mvV_c_bld
attribute [go_sem] iteT iteF hold_need al put_fr put_none lset_fr lget_fr mvT_tmp mvT_const mvT_func asT_tmp asT_const asT_func mvH_eq
  x_end x_base x_skip x_seq x_cond cndV_bool x_block x_inBlock x_exit exitO_some exitO_none x_ret x_region x_regionD rgO_false rgO_true x_loop x_inLoop exitTo_code exitTo_loop exitTo_block exitTo_nil exq
  x_guard grdG_some grdV_bool grdV_tup grdO_tt grdO_ff grdO_tf grdO_ft gslot_z gslot_s hasG_nil hasG_no hasG_yes hasN_t hasN_f isRange_move isRange_assign isRange_pick isRange_alloc isRange_box isRange_build isRange_buildSlice isRange_insert isRange_load isRange_store isRange_ready isRange_waits isRange_nilCheck isRange_binOp isRange_unOp isRange_convert isRange_sliceToArrayPointer isRange_makeInterface isRange_makeFunc isRange_makeMap isRange_makeChan isRange_makeSlice isRange_slice isRange_fieldAddr isRange_field isRange_indexAddr isRange_index isRange_lookup isRange_mapUpdate isRange_mapEntry isRange_entryStore isRange_next isRange_entry isRange_typeAssert isRange_extract isRange_call isRange_go isRange_defer isRange_panic isRange_send isRange_recv isRange_select isRange_range
  x_move x_assign x_pick isBl x_box x_binOp x_unOp x_convert x_makeInterface x_makeFunc x_extract x_field fldX x_fieldAddr fadX x_load ldX x_build bldX x_buildSlice bslX x_call callX_some x_lenS x_lenL isSlR x_append apX_some x_min x_max x_store stX_ptr x_alloc alcX_some bldC_f bldC_t x_nilCheck nckX_ptr nckX_ip nckX_fn x_index x_indexAddr iadX_some x_slice slX_str slX_sl nd needB
  binv_add binv_sub binv_mul binv_quo binv_rem binv_and binv_or binv_xor binv_andNot binv_shl binv_shr binv_eql binv_neq binv_lss binv_leq binv_gtr binv_geq binv_cat binv_seql binv_sneq binv_slss binv_sleq binv_sgtr binv_sgeq binv_beql binv_bneq aggX_some binv_aggX binv_ptr1 binv_ptr2 binv_ptr3 binv_ptr4 binv_fn1 binv_fn2 binv_fn3 binv_fn4 binv_if1 binv_if2 binv_if3 binv_if4 kindsOk
  binc_eql binc_neq binc_lss binc_leq binc_gtr binc_geq binc_add binc_cat binc_sub binc_mul binc_and binc_or binc_xor binc_andNot binc_quo binc_rem binc_shl binc_shr unv_not
  nilOk_int nilOk_str nilOk_bool nilOk_agg nilOk_ptr nilOk_nilp nilOk_fn nilOk_nilF nilOk_iface nilOk_encE nilOk_const
  opv ofVal ofValC eqs eql_ eqop neg obool kq cond_true cond_false pickv isC
  fillv partsOf okParts elemsOf okElems lenv ltake ldrop lput lget lset stolen kept laid isT toB keepE_fl flO_t flO_f keepS_fl killT calleeK fix_keepE ifX_t ifX_f isRs_any isRs_sl isRs_str isRs_rs isRs_int isRs_bool isRs_nilp isRs_ptr isRs_ip isRs_agg isRs_tup isRs_iface isRs_nilI isRs_fn isRs_nilF isRs_nilM isRs_fl isRs_adr isRs_bld rsF_f rsF_t frzU x_makeSlice hget hset extv extC loOf hiOf cvc
  List.map_cons List.map_nil List.nil_append List.append_nil List.cons_append List.all_cons List.all_nil List.length_cons List.length_nil List.length_map List.any_cons List.any_nil List.isEmpty_cons List.isEmpty_nil Option.map_some Option.map_none List.take_succ_cons List.take_zero
  Option.getD_some Option.isSome_some Option.isSome_none Bool.not_true Bool.not_false Bool.and_true Bool.true_and Bool.and_false Bool.false_and Bool.or_true Bool.true_or Bool.or_false Bool.false_or decide_eq_true_eq decide_eq_false_iff_not beq_self_eq_true and_true true_and decide_true decide_false cast0 cast1 castN
  idx nth renL ren wb hsetO focus noRef ltR ltRL
theorem isRs_encE {T : TypeId} {e : Option Int} : isRs (encE T e) = false := by cases e <;> rfl
theorem isRs_encO {T : TypeId} {b : Bool} : isRs (encO T b) = false := by cases b <;> rfl
attribute [go_sem] isRs_encE isRs_encO fix_encO un_encO opn_encO cells_encO storeV_encO okCell_encO okPart_encO known_encO ltR_encO ren_encO mvV_encO mvTv_encO asTv_encO mvHv_encO binv_encO_eq binv_encO_ne keepE_encO keepS_encO x_indexA aixX_some
attribute [go_sem] fix_encE un_encE opn_encE cells_encE storeV_encE okCell_encE okPart_encE known_encE ltR_encE ren_encE mvV_encE mvTv_encE asTv_encE mvHv_encE binv_encE_eq binv_encE_ne
end Go.Av

