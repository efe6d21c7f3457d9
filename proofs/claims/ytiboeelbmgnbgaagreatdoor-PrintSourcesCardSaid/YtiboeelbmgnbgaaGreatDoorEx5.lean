import Derived.Test.YtiboeelbmgnbgaaGreatDoorEx4
set_option linter.unusedSectionVars false
set_option linter.unusedVariables false
set_option linter.unusedSimpArgs false
set_option linter.unnecessarySimpa false
namespace Go.Av
open Go
section
variable {P : Program} {t : TypeId} {k k' : IntKind} {a b : Int} {s s' : List UInt8} {x y : Bool} {xs ys : List AV}
theorem binv_add : binv P .add t (.int k a) (.int k' b) = bif kq k k' then intv .add k a b else .any := .trans rfl rfl
theorem binv_sub : binv P .sub t (.int k a) (.int k' b) = bif kq k k' then intv .sub k a b else .any := .trans rfl rfl
theorem binv_mul : binv P .mul t (.int k a) (.int k' b) = bif kq k k' then intv .mul k a b else .any := .trans rfl rfl
theorem binv_quo : binv P .quo t (.int k a) (.int k' b) = bif kq k k' then intv .quo k a b else .any := .trans rfl rfl
theorem binv_rem : binv P .rem t (.int k a) (.int k' b) = bif kq k k' then intv .rem k a b else .any := .trans rfl rfl
theorem binv_shl : binv P .shl t (.int k a) (.int k' b) = shv .shl k a b := .trans rfl rfl
theorem binv_shr : binv P .shr t (.int k a) (.int k' b) = shv .shr k a b := .trans rfl rfl
theorem binv_eql : binv P .eql t (.int k a) (.int k' b) = bif kq k k' then .bool (decide (a = b)) else .any := .trans rfl rfl
theorem binv_neq : binv P .neq t (.int k a) (.int k' b) = bif kq k k' then .bool (!decide (a = b)) else .any := .trans rfl rfl
theorem binv_lss : binv P .lss t (.int k a) (.int k' b) = bif kq k k' then .bool (decide (a < b)) else .any := .trans rfl rfl
theorem binv_leq : binv P .leq t (.int k a) (.int k' b) = bif kq k k' then .bool (decide (a ≤ b)) else .any := .trans rfl rfl
theorem binv_gtr : binv P .gtr t (.int k a) (.int k' b) = bif kq k k' then .bool (decide (b < a)) else .any := .trans rfl rfl
theorem binv_geq : binv P .geq t (.int k a) (.int k' b) = bif kq k k' then .bool (decide (b ≤ a)) else .any := .trans rfl rfl
theorem binv_cat : binv P .add t (.str s) (.str s') = strv .add s s' := .trans rfl rfl
theorem zPX : binv P .eql t (.str s) (.str s') = .bool (s == s') := .trans rfl rfl
theorem zPI : binv P .neq t (.str s) (.str s') = .bool (!(s == s')) := .trans rfl rfl
theorem zPx (h : kindOf P t = 6) : binv P .eql t (.bool x) (.bool y) = .bool (x == y) := by simp [binv, h, eqv, eqop, zHo]
theorem binc_eql {u v : AV} : binc .eql u v = none := rfl
theorem binc_neq {u v : AV} : binc .neq u v = none := rfl
theorem binc_lss {u v : AV} : binc .lss u v = none := rfl
theorem binc_leq {u v : AV} : binc .leq u v = none := rfl
theorem binc_gtr {u v : AV} : binc .gtr u v = none := rfl
theorem binc_geq {u v : AV} : binc .geq u v = none := rfl
theorem binc_add : binc .add (.int k a) (.int k' b) = none := rfl
theorem binc_cat : binc .add (.str s) (.str s') = some (s.length + s'.length ≤ maxB) := rfl
theorem binc_sub {u v : AV} : binc .sub u v = none := rfl
theorem binc_mul {u v : AV} : binc .mul u v = none := rfl
theorem binc_and {u v : AV} : binc .and u v = none := rfl
theorem binc_or {u v : AV} : binc .or u v = none := rfl
theorem binc_xor {u v : AV} : binc .xor u v = none := rfl
theorem zMy {u v : AV} : binc .andNot u v = none := rfl
theorem binc_quo {u : AV} : binc .quo u (.int k b) = some (b ≠ 0) := rfl
theorem binc_rem {u : AV} : binc .rem u (.int k b) = some (b ≠ 0) := rfl
theorem binc_shl {u : AV} : binc .shl u (.int k b) = some (0 ≤ b) := rfl
theorem binc_shr {u : AV} : binc .shr u (.int k b) = some (0 ≤ b) := rfl
theorem mxv_e (k : IntKind) (a b : Int) : mxv (.int k a) (.int k b) = .int k (max a b) := by
  have : kq k k = true := by cases k <;> rfl
  simp only [mxv, this, cond_true]; congr 1; omega
theorem unv_not : unv .not (.bool x) = .bool (!x) := rfl
theorem zRF {x y : Operand} {u : AV} : zGL x y (.int k a) u = true := rfl
theorem zQ8 {x y : Operand} {u : AV} : zGL x y (.str s) u = true := rfl
theorem zOt {z y : Operand} {u : AV} : zGL z y (.bool x) u = true := rfl
theorem zPO {z y : Operand} {u : AV} : zGL z y (.agg xs) u = true := rfl
theorem zRh {z y : Operand} {i o : Nat} {u : AV} : zGL z y (.ptr i o) u = true := rfl
theorem zOl {z y : Operand} {u : AV} : zGL z y .nilp u = true := rfl
theorem nilOk_fn {z y : Operand} {f : Fn} {l1 l2 : List AV} {u : AV} : zGL z y (.fn f l1 l2) u = true := rfl
theorem zOq {z y : Operand} {u : AV} : zGL z y .nilF u = true := rfl
theorem zMg {z y : Operand} {T : TypeId} {v u : AV} : zGL z y (.iface T v) u = true := rfl
theorem zRG [Lay] {nb : Nat} {R : Rt} {c : Prop} {o : Out2} : hold P nb R (.need c o) ↔ c ∧ hold P nb R o := Iff.rfl
theorem cast0 : ((0 : Nat) : Int) = 0 := rfl
theorem cast1 : ((1 : Nat) : Int) = 1 := rfl
theorem castN {n : Nat} : ((OfNat.ofNat n : Nat) : Int) = OfNat.ofNat n := rfl
end
section
variable {ρ : Type} {v r : ρ}
theorem zCL [Lay] {P : Program} {nb : Nat} {tm : List AV} {hp : Heap} {rs : List ResultVar} {n : Nat} (enc : ρ → AV) (cs : ρ → Heap) (h : some v = some r) (hr : zAo P rs tm hp = some (enc v)) (hh : hp.take n = cs v) : hold P nb (ResH P (List.toArray rs) (enc r) n (cs r)) (.fin tm hp) := by
 cases h; exact ⟨hr, hh⟩
theorem runL [Lay] {P : Program} {nb : Nat} {R : Rt} {c : Code} {k1 k2 : List Item} {tm : List AV} {hp : Heap} (n : Nat) (h : hold P nb R (ex P n none (.code c :: .inLoop c :: k1) k2 tm hp)) : W P nb R (.code c :: .inLoop c :: (k1 ++ k2)) tm hp := runX n h
section
variable [Lay] {P : Program} {nb : Nat} {R : Rt} {k1 k2 k : List Item} {tm : List AV} {hp : Heap}
abbrev FP := List (Nat × AV) → Heap → Prop
theorem cndJ {b : Bool} {x y : Code} (N n : Nat) (J : FP → Prop) (h2 : J fun l hp => W P nb R (k1 ++ k2) (fr N l) hp)
  (h1 : (J fun l hp => W P nb R (k1 ++ k2) (fr N l) hp) → hold P nb R (.cnd b x y [] (k1 ++ k2) tm hp)) : hold P nb R (.cnd b x y k1 k2 tm hp) := h1 h2
theorem blkJ {id : Nat} {c : Code} (N n : Nat) (J : FP → Prop) (h2 : J fun l hp => W P nb R (k1 ++ k2) (fr N l) hp)
  (h1 : (J fun l hp => W P nb R (k1 ++ k2) (fr N l) hp) → hold P nb R (ex P n none [.code c, .inBlock id] (k1 ++ k2) tm hp)) : hold P nb R (.blk id c k1 k2 tm hp) := runX n (h1 h2)
theorem rgJ {id : Nat} {d : Bool} {ops : List Oper} (N n : Nat) (hd : zMO d (List.toArray ops) tm) (J : FP → Prop) (h2 : J fun l hp => W P nb R (k1 ++ k2) (fr N l) hp)
  (h1 : (J fun l hp => W P nb R (k1 ++ k2) (fr N l) hp) → hold P nb R (ex P n (some (d, ops, ops)) [] (k1 ++ k2) tm hp)) : hold P nb R (.rg id (List.toArray ops) d k1 k2 tm hp) := W.reg hd (zEF n _ [] (k1 ++ k2) tm hp (h1 h2))
theorem lpJ {c : Code} (N m : Nat) (Q : Nat → FP → Prop) (h0 : ∀ w, Q 0 w) (h : ∀ j, (Q j fun l hp => W P nb R (.code c :: .inLoop c :: (k1 ++ k2)) (fr N l) hp) → Q (j+1) fun l hp => W P nb R (.code c :: .inLoop c :: (k1 ++ k2)) (fr N l) hp)
  (hu : (Q m fun l hp => W P nb R (.code c :: .inLoop c :: (k1 ++ k2)) (fr N l) hp) → hold P nb R (.lp c k1 k2 tm hp)) : hold P nb R (.lp c k1 k2 tm hp) := by
 refine hu ?_
 clear hu
 induction m with
 | zero => exact h0 _
 | succ j ih => exact h j ih
end
end
theorem flO_t {l : List AV} : flO true l = .fl l := .trans rfl rfl
theorem flO_f {l : List AV} : flO false l = .sl (some none) l := .trans rfl rfl
theorem keepS_fl {l : List AV} : keepS (.fl l) = .sl (some none) l := .trans rfl rfl
theorem zP6 {k : IntKind} {n : Int} : fix (.int k n) = .int k n := .trans rfl rfl
theorem zMv {k : IntKind} {n : Int} : known (.int k n) = true := .trans rfl rfl
theorem zLb {k : IntKind} {n : Int} : zDU (.int k n) = true := .trans rfl rfl
theorem zLY {k : IntKind} {n : Int} : zEW (.int k n) = true := .trans rfl rfl
theorem zJn {k : IntKind} {n : Int} : AV.cells (.int k n) = [.int k n] := .trans rfl rfl
theorem zLL {k : IntKind} {n : Int} : zCZ (.int k n) = [.int k n] := .trans rfl rfl
theorem zQQ {k : IntKind} {n : Int} : opn (.int k n) = .int k n := .trans rfl rfl
theorem zOI {b : Bool} : fix (.bool b) = .bool b := .trans rfl rfl
theorem zPi {b : Bool} : un (.bool b) = .bool b := .trans rfl rfl
theorem zLk {b : Bool} : known (.bool b) = true := .trans rfl rfl
theorem zKg {b : Bool} : zDU (.bool b) = true := .trans rfl rfl
theorem zKH {b : Bool} : zEW (.bool b) = true := .trans rfl rfl
theorem zIR {b : Bool} : AV.cells (.bool b) = [.bool b] := .trans rfl rfl
theorem zOs {b : Bool} : opn (.bool b) = .bool b := .trans rfl rfl
theorem zPB {s : List UInt8} : fix (.str s) = .str s := .trans rfl rfl
theorem zMD {s : List UInt8} : known (.str s) = true := .trans rfl rfl
theorem zLQ {s : List UInt8} : zDU (.str s) = true := .trans rfl rfl
theorem zK8 {s : List UInt8} : zEW (.str s) = true := .trans rfl rfl
theorem zJk {s : List UInt8} : AV.cells (.str s) = [.str s] := .trans rfl rfl
theorem zRC {s : List UInt8} : opn (.str s) = .str s := .trans rfl rfl
theorem fix_c_sl {o : Option (Option ETy)} {l : List AV} : fix (.sl o l) = .sl none l := .trans rfl rfl
theorem zMN {o : Option (Option ETy)} {l : List AV} : zDU (.sl o l) = true := .trans rfl rfl
theorem zMr {o : Option (Option ETy)} {l : List AV} : zEW (.sl o l) = true := .trans rfl rfl
theorem zKj {o : Option (Option ETy)} {l : List AV} : AV.cells (.sl o l) = [.sl o l] := .trans rfl rfl
theorem zNb {o : Option (Option ETy)} {l : List AV} : zCZ (.sl o l) = [.sl o l] := .trans rfl rfl
theorem zRl {cs : List AV} : fix (.agg cs) = .agg cs := .trans rfl rfl
theorem zLO {cs : List AV} : zEW (.agg cs) = true := .trans rfl rfl
theorem zJl {cs : List AV} : AV.cells (.agg cs) = cs := .trans rfl rfl
theorem zLB {cs : List AV} : zCZ (.agg cs) = cs.map keepS := .trans rfl rfl
theorem fix_c_fl {fa : List AV} : fix (AV.fl fa) = AV.fl fa := .trans rfl rfl
theorem zME {fa : List AV} : zEW (AV.fl fa) = true := .trans rfl rfl
theorem zKW {fa : List AV} : AV.cells (AV.fl fa) = [AV.fl fa] := .trans rfl rfl
theorem zPY {o : Option (Option ETy)} : opn (.sl o []) = .sl (some none) [] := .trans rfl rfl
attribute [go_sem] zP6 zMv zLb zLY zJn zLL zQQ zOI zPi zLk zKg zKH zIR zOs zPB zMD zLQ zK8 zJk zRC fix_c_sl zMN zMr zKj zNb zRl zLO zJl zLB fix_c_fl zME zKW zPY
theorem zQD {k : IntKind} {n : Int} : keepE (.int k n) = .int k n := .trans rfl rfl
theorem zPL {k : IntKind} {n : Int} : keepS (.int k n) = .int k n := .trans rfl rfl
theorem zOX {b : Bool} : keepE (.bool b) = .bool b := .trans rfl rfl
theorem zOU {b : Bool} : keepS (.bool b) = .bool b := .trans rfl rfl
theorem zPn {s : List UInt8} : keepE (.str s) = .str s := .trans rfl rfl
theorem zRf {s : List UInt8} : keepS (.str s) = .str s := .trans rfl rfl
theorem keepE_sn {l : List AV} : keepE (.sl none l) = .sl none l := by cases l <;> rfl
theorem keepS_sn {l : List AV} : keepS (.sl none l) = .sl none l := by cases l <;> rfl
theorem keepE_se : keepE (.sl (some none) []) = .sl (some none) [] := .trans rfl rfl
theorem keepS_se  : keepS (.sl (some none) []) = .sl (some none) [] := .trans rfl rfl
theorem zPS {id off : Nat} : keepE (.ptr id off) = .ptr id off := .trans rfl rfl
theorem keepE_fn {f : Fn} {l1 l2 : List AV} : keepE (.fn f l1 l2) = .fn f l1 l2 := .trans rfl rfl
theorem zO5 {t : Nat} {o : AV} {L : List AV} : zGx (.tmp t) o L = L := .trans rfl rfl
attribute [go_sem] zO5
theorem zON {T : TypeId} {e : Option Int} : keepE (encE T e) = encE T e := by cases e <;> rfl
attribute [go_sem] zQD zPL zOX zOU zPn zRf keepE_sn keepS_sn keepE_se keepS_se zPS keepE_fn zON
theorem cvo_int {o : Bool} {k : IntKind} {n : Int} : cvo o (.int k n) = .int k n := .trans rfl rfl
theorem cvo_str {o : Bool} {s : List UInt8} : cvo o (.str s) = .str s := .trans rfl rfl
theorem cvo_f {l : List AV} : cvo false (.sl none l) = .sl none l := .trans rfl rfl
theorem cvo_t {l : List AV} : cvo true (.sl none l) = .sl (some none) l := .trans rfl rfl
theorem cco_f {x : AV} {c : Option Prop} : cco false x c = c := .trans rfl rfl
theorem cco_t {s : List UInt8} : cco true (.str s) none = some (s ≠ []) := .trans rfl rfl
attribute [go_sem] cvo_int cvo_str cvo_f cvo_t cco_f cco_t
theorem zO6 {all : List Oper} {dd : Option Nat} {tm : List AV} {tt : Nat} {k : IntKind} {n : Int} : mvTv all dd tm tt (.int k n) = tm := .trans rfl rfl
theorem zOY {tm : List AV} {tt : Nat} {k : IntKind} {n : Int} : asTv tm tt (.int k n) = tm := .trans rfl rfl
theorem zOv {all : List Oper} {dd : Option Nat} {hp : Heap} {ii oo : Nat} {k : IntKind} {n : Int} : mvHv all dd hp ii oo (.int k n) = hp := .trans rfl rfl
theorem zRO {all : List Oper} {dd : Option Nat} {k : IntKind} {n : Int} : mvV all dd (.int k n) = (.int k n) := .trans rfl rfl
theorem zNh {all : List Oper} {dd : Option Nat} {tm : List AV} {tt : Nat} {b : Bool} : mvTv all dd tm tt (.bool b) = tm := .trans rfl rfl
theorem zMS {tm : List AV} {tt : Nat} {b : Bool} : asTv tm tt (.bool b) = tm := .trans rfl rfl
theorem zO7 {all : List Oper} {dd : Option Nat} {b : Bool} : mvV all dd (.bool b) = (.bool b) := .trans rfl rfl
theorem zOK {all : List Oper} {dd : Option Nat} {tm : List AV} {tt : Nat} {s : List UInt8} : mvTv all dd tm tt (.str s) = tm := .trans rfl rfl
theorem zPa {tm : List AV} {tt : Nat} {s : List UInt8} : asTv tm tt (.str s) = tm := .trans rfl rfl
theorem zOW {all : List Oper} {dd : Option Nat} {hp : Heap} {ii oo : Nat} {s : List UInt8} : mvHv all dd hp ii oo (.str s) = hp := .trans rfl rfl
theorem zRa {all : List Oper} {dd : Option Nat} {s : List UInt8} : mvV all dd (.str s) = (.str s) := .trans rfl rfl
theorem zRB {all : List Oper} {dd : Option Nat} {tm : List AV} {tt : Nat} {l : List AV} : mvTv all dd tm tt (.sl none l) = tm := .trans rfl rfl
theorem zRu {tm : List AV} {tt : Nat} {l : List AV} : asTv tm tt (.sl none l) = tm := .trans rfl rfl
theorem zPp {all : List Oper} {dd : Option Nat} {hp : Heap} {ii oo : Nat} {l : List AV} : mvHv all dd hp ii oo (.sl none l) = hp := .trans rfl rfl
theorem mvV_c_sn {all : List Oper} {dd : Option Nat} {l : List AV} : mvV all dd (.sl none l) = .sl none l := .trans rfl rfl
theorem zPA {all : List Oper} {dd : Option Nat} {tm : List AV} {tt : Nat} {l : List AV} {o : Option ETy} : mvTv all dd tm tt (.sl (some o) l) = bif zAU all dd then lset tm tt (.sl none l) else tm := .trans rfl rfl
theorem zPl {tm : List AV} {tt : Nat} {l : List AV} {o : Option ETy} : asTv tm tt (.sl (some o) l) = lset tm tt (.sl none l) := .trans rfl rfl
theorem zQk {all : List Oper} {dd : Option Nat} {hp : Heap} {ii oo : Nat} {l : List AV} {o : Option ETy} : mvHv all dd hp ii oo (.sl (some o) l) = bif zAU all dd then hset hp ii (lset (hget hp ii) oo (.sl none l)) else hp := .trans rfl rfl
theorem mvV_c_so {all : List Oper} {dd : Option Nat} {l : List AV} {o : Option ETy} : mvV all dd (.sl (some o) l) = bif zAU all dd then .sl (some o) l else .sl none l := .trans rfl rfl
theorem zQx {all : List Oper} {dd : Option Nat} {tm : List AV} {tt : Nat} {id : Nat} {off : Nat} {len : Nat} {es : Nat} {ag : Bool} {full : Bool} : mvTv all dd tm tt (.rs id off len es ag full) = tm := .trans rfl rfl
theorem zQu {tm : List AV} {tt : Nat} {id : Nat} {off : Nat} {len : Nat} {es : Nat} {ag : Bool} {full : Bool} : asTv tm tt (.rs id off len es ag full) = tm := .trans rfl rfl
theorem mvV_c_rs {all : List Oper} {dd : Option Nat} {id : Nat} {off : Nat} {len : Nat} {es : Nat} {ag : Bool} {full : Bool} : mvV all dd (.rs id off len es ag full) = (.rs id off len es ag full) := .trans rfl rfl
theorem zOT {all : List Oper} {dd : Option Nat} {tm : List AV} {tt : Nat} {id : Nat} {off : Nat} : mvTv all dd tm tt (.ptr id off) = tm := .trans rfl rfl
theorem zOA {tm : List AV} {tt : Nat} {id : Nat} {off : Nat} : asTv tm tt (.ptr id off) = tm := .trans rfl rfl
theorem zPb {all : List Oper} {dd : Option Nat} {id : Nat} {off : Nat} : mvV all dd (.ptr id off) = (.ptr id off) := .trans rfl rfl
theorem zOD {tm : List AV} {tt : Nat} {cs : List AV} : asTv tm tt (.agg cs) = tm := .trans rfl rfl
theorem zOp {all : List Oper} {dd : Option Nat} {tm : List AV} {tt : Nat} {cs : List AV} : mvTv all dd tm tt (.tup cs) = tm := .trans rfl rfl
theorem zQ6 {all : List Oper} {dd : Option Nat} {cs : List AV} : mvV all dd (.tup cs) = (.tup cs) := .trans rfl rfl
theorem zMb {tm : List AV} {tt : Nat} {t : TypeId} {v : AV} : asTv tm tt (.iface t v) = tm := .trans rfl rfl
theorem zQG {all : List Oper} {dd : Option Nat} {tm : List AV} {tt : Nat} {f : Fn} {l1 : List AV} {l2 : List AV} : mvTv all dd tm tt (.fn f l1 l2) = tm := .trans rfl rfl
theorem mvV_c_fn {all : List Oper} {dd : Option Nat} {f : Fn} {l1 : List AV} {l2 : List AV} : mvV all dd (.fn f l1 l2) = (.fn f l1 l2) := .trans rfl rfl
attribute [go_sem] zO6 zOY zOv zRO zNh zMS zO7 zOK zPa zOW zRa zRB zRu zPp mvV_c_sn zPA zPl zQk mvV_c_so zQx zQu mvV_c_rs zOT zOA zPb zOD zOp zQ6 zMb zQG mvV_c_fn
attribute [go_sem] zRG al put_fr put_none zKe zFw mvT_tmp zRn asT_tmp zPG mvH_eq x_end x_base x_skip x_seq x_cond zQ3 x_block zQ7 x_exit zOS x_ret x_region zQp zRw rgO_true x_loop x_inLoop zMP zM8 zLK exq x_guard zPs zQ0 grdV_tup grdO_tt grdO_ff grdO_tf grdO_ft gslot_z gslot_s hasG_nil hasG_no hasG_yes hasN_f zK9 zJa zKk zMh zKq zHg zK4 zKE zIb zJ7 zKZ zIq zF6 zKx zHB zHK zKO zIA zL7 x_move x_assign x_pick isBl x_box x_binOp x_unOp zQP zII zQW fldX zMF fadX x_load ldX x_build bldX zLl bslX x_call zOm x_lenS x_lenL isSlR x_append apX_some x_max x_store stX_ptr x_alloc zQt bldC_f zOy nckX_ptr x_index zNj zPP x_slice slX_str slX_sl nd zBE binv_add binv_sub binv_mul binv_quo binv_rem binv_shl binv_shr binv_eql binv_neq binv_lss binv_leq binv_gtr binv_geq binv_cat zPX zPI zPx zEU binc_eql binc_neq binc_lss binc_leq binc_gtr binc_geq binc_add binc_cat binc_sub binc_mul binc_and binc_or binc_xor zMy binc_quo binc_rem binc_shl binc_shr unv_not zRF zQ8 zOt zPO zRh zOl nilOk_fn zOq zMg zO2 opv zNg zBd eqs eql_ eqop neg zHo kq cond_true cond_false pickv isC zL2 partsOf zHF zC9 zGK lenv zE8 zEV lput lget lset zAU mvd kept laid isT toB flO_t flO_f keepS_fl zFN zES zLv ifX_t zGJ isRs_sl isRs_str isRs_rs isRs_int zPE isRs_ptr isRs_tup isRs_fn rsF_f rsF_t frzU hget hset extv extC loOf hiOf cvc List.map_cons List.map_nil List.nil_append List.append_nil List.cons_append List.all_cons List.all_nil List.length_cons List.length_nil List.length_map List.any_cons List.any_nil List.isEmpty_cons List.isEmpty_nil Option.map_some Option.map_none List.take_succ_cons List.take_zero Option.getD_some Option.isSome_some Option.isSome_none Bool.not_true Bool.not_false Bool.and_true Bool.true_and Bool.and_false Bool.false_and Bool.or_true Bool.true_or Bool.or_false Bool.false_or decide_eq_true_eq decide_eq_false_iff_not beq_self_eq_true and_true true_and decide_true decide_false cast0 cast1 castN idx nth renL ren wb zKA focus zB2 ltR ltRL
theorem zP5 {T : TypeId} {e : Option Int} : isRs (encE T e) = false := by cases e <;> rfl
attribute [go_sem] zP5 x_indexA zQR
attribute [go_sem] fix_encE ltR_encE mvV_encE zPe zPR zL4 zLI
end Go.Av

