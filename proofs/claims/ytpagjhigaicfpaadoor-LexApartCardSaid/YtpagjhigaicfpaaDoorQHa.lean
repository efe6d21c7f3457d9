import Derived.Test.YtpagjhigaicfpaaDoorQEn
import Derived.Test.YtpagjhigaicfpaaDoorHa5
import Derived.Test.YtpagjhigaicfpaaDoorShf
import Derived.Test.YtpagjhigaicfpaaDoorNu3
set_option linter.unusedSectionVars false
set_option linter.unusedVariables false
set_option linter.unusedSimpArgs false
set_option linter.unusedVariables false
set_option linter.unusedSimpArgs false
set_option maxRecDepth 100000
namespace Go.Cq
open Go Go.Av Go.Proofs
class SeatLay [Lay] : Prop where
  ml : ∃ m, Lay.L 1 0 (.int .i64 m)
  rt : Lay.L 0 0 (NumTry.RT 25)
variable [Lay] [SeatLay]
theorem en (n : Nat) {fn : Func} {c : Code} (hf : Tryd.prog.funcs[n]? = some fn) (hname : (fn.name == "runtime.NumGoroutine") = false) (hb : fn.body = some c) : ∀ vs w, (callFunc n vs).run Tryd.prog w = .ok (.enter n vs) w := Go.Proofs.enters_of hf hname hb
theorem w_bytealg_idx {s : Str} {c r : Int} (h : bytealg_idx s c = some r) : ACall Tryd.prog 46 [.str s, .int .u8 c] [] (.int .i64 r) [] := by
  obtain rfl := Option.some.inj h
  exact acall_idxByte Tryd.func46 (by kernel_rfl) (by kernel_rfl) (by kernel_rfl) (by kernel_rfl) s c
theorem w_strings_ReplaceAll {s o n r : Str} (h : strings_ReplaceAll s o n = some r) : ACall Tryd.prog 42 [.str s, .str o, .str n] [] (.str r) [] := by
  obtain ⟨m, hm⟩ := SeatLay.ml
  exact acall_replaceAll hm (en 42 Tryd.func42 (by kernel_rfl) rfl) (fun s old new w h1 h2 h3 h4 => Tryd.strings_ReplaceAll s old new m w h1 h2 h3 h4) h
theorem w_strings_Join {xs : List Str} {sep r : Str} (h : strings_Join xs sep = some r) : ACall Tryd.prog 29 [.sl none (List.map AV.str xs), .str sep] [] (.str r) [] :=
  acall_join (en 29 Tryd.func29 (by kernel_rfl) rfl) (fun a c sep w => Tryd.strings_Join_none a c sep w) (fun bk o c xs sep w h1 h2 h3 h4 h5 => Tryd.strings_Join bk o c xs sep w h1 h2 h3 h4 h5) h
def renW : Go.Shelf.Ren := ⟨fun | 167 => 47 | 240 => 52 | 276 => 57 | n => n, fun | 0 => 0 | 4 => 4 | 5 => 5 | 9 => 9 | 20 => 20 | 37 => 53 | 70 => 78 | 72 => 80 | 75 => 25 | 80 => 84 | 164 => 65 | n => n, fun | n => n⟩
theorem laysC : Lays.n240 Tryd.prog Tryd.laysM154_ren := { Tryd.laysM154 with }
theorem X72 : Builder.X72 Tryd.prog Tryd.laysM154_ren := {
  sizeBuilder := by kernel_rfl
  liesBuilder := by kernel_rfl }
theorem w_bld_check {x r : strings_Builder} (h : bld_check x = some r) : ACall Tryd.prog 52 [.ptr 0 0] [some [.bld 0 80, .sl (some (some 5)) (List.map (AV.int .u8) x.buf)]] (.tup []) [some [.bld 0 80, .sl (some (some 5)) (List.map (AV.int .u8) r.buf)]] := by
  obtain rfl := Option.some.inj h
  exact acall_copyCheck (T := 80) (en 52 Tryd.func52 (by kernel_rfl) rfl) (fun b w h => Any.Builder_copyCheck_used laysC X72 b w h) (fun b w h1 h2 h3 => Any.Builder_copyCheck_fresh laysC X72 b w h1 h2 h3) _
theorem w_bld_String {x : strings_Builder} {r : Str × strings_Builder} (h : bld_String x = some r) : ACall Tryd.prog 45 [.ptr 0 0] [some [.bld 0 80, .sl (some (some 5)) (List.map (AV.int .u8) x.buf)]] (.str r.1) [some [.bld 0 80, .sl (some (some 5)) (List.map (AV.int .u8) r.2.buf)]] := by
  obtain rfl := Option.some.inj h
  exact acall_String (T := 80) Tryd.lays169 Tryd.Builder_Extra_169 (en 45 Tryd.func45 (by kernel_rfl) rfl) x.buf
theorem iface_inv {g : Gh} {t : TypeId} {a : AV} {v : Value} (h : VR g (.iface t a) v) : ∃ u, v = .iface t u ∧ VR g a u := by cases h; exact ⟨_, rfl, by assumption⟩
theorem nilI_inv {g : Gh} {v : Value} (h : VR g .nilI v) : v = .nilIface := by cases h; rfl
theorem w_law_num {e : Option Int} {r : Int} (h : law_num e = some r) : ACall Tryd.prog 10 [encE 47 e] [] (.int .i64 r) [] := by
  refine acall_ans rfl (by intro oe l; simp) (en 10 Tryd.func10 (by kernel_rfl) rfl) fun g w vs hL hr hs => ?_
  have hg := hr.imms _ _ _ (hL _ _ _ SeatLay.rt)
  have h0 : 0 < w.heap.size := hr.lt (b := 0) (o := 0) (by rw [hL _ _ _ SeatLay.rt]; simp)
  have hv := (hr.slots 0).1
  rw [vs1 hs]
  cases e with
  | none =>
    obtain rfl := Option.some.inj h
    have e0 : vs.getD 0 undef = .nilIface := nilI_inv hv
    rw [e0]
    refine (NumTry.num_0 w).mono ?_
    rintro e w' ⟨rfl, hb⟩
    exact ⟨_, rfl, .int (by decide) (by decide), hb⟩
  | some n =>
    obtain rfl := Option.some.inj h
    obtain ⟨u, e0, hu⟩ := iface_inv (a := .int .i64 n) hv
    obtain ⟨rfl, h1, h2⟩ := int_inv hu
    rw [e0]
    refine (NumTry.num_w n w hg h0).mono ?_
    rintro e w' ⟨rfl, hb⟩
    exact ⟨_, rfl, .int h1 h2, hb⟩
end Go.Cq

