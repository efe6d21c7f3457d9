import Derived.Test.YtmedpledgchipaaGreatDoorProg
import Derived.WalkKit
import Derived.KernelRfl
import Derived.Outline
set_option linter.unusedSectionVars false
set_option linter.unusedVariables false
set_option linter.unusedSimpArgs false
set_option linter.unnecessarySimpa false
set_option maxRecDepth 100000
namespace Go.Proofs.NumTry
open Go Go.RowKit
abbrev H (t : Nat) : Value := .pointer (some ⟨4, t, none⟩)
abbrev RT (t : Nat) : Value := .iface 179 (.agg #[H t])
theorem valueOf (a : Addr) (w : World) : (callFunc 75 #[.iface 95 (.pointer (some a))]).run Tryz.prog w = .ok (.value (.agg #[H 95, .pointer (some ⟨w.heap.size, 0, none⟩), .int .u64 150])) (w.alloc (.cells #[.pointer (some a)] 95)) := by kernel_rfl
theorem valueOf2 (n : Int) (w : World) : (callFunc 75 #[.iface 66 (.int .i64 n)]).run Tryz.prog w = .ok (.value (.agg #[H 66, .pointer (some ⟨w.heap.size, 0, none⟩), .int .u64 130])) (w.alloc (.cells #[.int .i64 n] 66)) := by kernel_rfl
theorem type_ (p : Addr) (w : World) : (callFunc 76 #[.agg #[H 95, .pointer (some p), .int .u64 150]]).run Tryz.prog w = .ok (.value (RT 95)) w := by kernel_rfl
theorem kindM (t : Nat) (w : World) (h : t = 95 ∨ t = 66) : (method 382 179 (.agg #[H t]) "Kind").run Tryz.prog w = .ok (187, H t) w := by
 rcases h with rfl | rfl
 ·kernel_rfl
 ·kernel_rfl
theorem kind56 (w : World) : (callFunc 187 #[H 95]).run Tryz.prog w = .ok (.value (.int .u8 22)) w := by kernel_rfl
theorem kind47 (w : World) : (callFunc 187 #[H 66]).run Tryz.prog w = .ok (.value (.int .u8 2)) w := by kernel_rfl
theorem elemM (w : World) : (method 382 179 (.agg #[H 95]) "Elem").run Tryz.prog w = .ok (197, .agg #[H 95]) w := by kernel_rfl
theorem elem56 (w : World) : (callFunc 197 #[.agg #[H 95]]).run Tryz.prog w = .ok (.value (RT 66)) w := by kernel_rfl
theorem assignM (w : World) : (method 382 179 (.agg #[H 66]) "AssignableTo").run Tryz.prog w = .ok (195, .agg #[H 66]) w := by kernel_rfl
theorem assign47 (w : World) : (callFunc 195 #[.agg #[H 66], RT 66]).run Tryz.prog w = .ok (.value (.bool true)) w := by kernel_rfl
theorem typeOf (n : Int) (w : World) : (callFunc 106 #[.iface 66 (.int .i64 n)]).run Tryz.prog w = .ok (.value (RT 66)) w := by kernel_rfl
open Go.Extern
theorem parts56 (p : Addr) (w : World) : (ReflectliteValue.parts (.agg #[H 95, .pointer (some p), .int .u64 150])).run Tryz.prog w = .ok (some (95, p, 150)) w := by kernel_rfl
theorem parts47 (p : Addr) (w : World) : (ReflectliteValue.parts (.agg #[H 66, .pointer (some p), .int .u64 130])).run Tryz.prog w = .ok (some (66, p, 130)) w := by kernel_rfl
theorem parts47a (p : Addr) (w : World) : (ReflectliteValue.parts (.agg #[H 66, .pointer (some p), .int .u64 386])).run Tryz.prog w = .ok (some (66, p, 386)) w := by kernel_rfl
theorem method_run {z : Sem Value} {f : TypeId → Addr → Nat → Nat → Sem Value} {v : Value} {t : TypeId} {a : Addr} {fl : Nat} {P : Program} {w : World} (h : (ReflectliteValue.parts v).run P w = .ok (some (t, a, fl)) w) : (ReflectliteValue.method z f #[v]).run P w = (f t a fl (fl % 32)).run P w := by
 have e : ReflectliteValue.method z f #[v] = (do match ← ReflectliteValue.parts v with | none => z | some (t, a, fl) => f t a fl (fl % 32)) := rfl
 rw [e]
 simp [go_sem, h]
theorem ext39 : Tryz.prog.funcs[77]? = some Tryz.f77 ∧ (Tryz.f77.name == "runtime.NumGoroutine") = false ∧ Tryz.f77.body.isNone = true ∧ Extern.findNext Tryz.f77 = none ∧ Extern.find Tryz.f77 = some (ReflectliteValue.method (ReflectliteValue.valueError "reflectlite.Value.IsNil" 0) ReflectliteValue.isNil) :=
 ⟨by kernel_rfl, by kernel_rfl, by kernel_rfl, by kernel_rfl, by kernel_rfl⟩
theorem ext49 : Tryz.prog.funcs[107]? = some Tryz.f107 ∧ (Tryz.f107.name == "runtime.NumGoroutine") = false ∧ Tryz.f107.body.isNone = true ∧ Extern.findNext Tryz.f107 = none ∧ Extern.find Tryz.f107 = some (ReflectliteValue.method (ReflectliteValue.valueError "reflectlite.Value.Elem" 0) ReflectliteValue.elem) :=
 ⟨by kernel_rfl, by kernel_rfl, by kernel_rfl, by kernel_rfl, by kernel_rfl⟩
theorem ext50 : Tryz.prog.funcs[108]? = some Tryz.f108 ∧ (Tryz.f108.name == "runtime.NumGoroutine") = false ∧ Tryz.f108.body.isNone = true ∧ Extern.findNext Tryz.f108 = none ∧ Extern.find Tryz.f108 = some ReflectliteValue.set :=
 ⟨by kernel_rfl, by kernel_rfl, by kernel_rfl, by kernel_rfl, by kernel_rfl⟩
theorem ag56 (w : World) : (isAgg 95).run Tryz.prog w = .ok false w := by kernel_rfl
theorem ag47 (w : World) : (isAgg 66).run Tryz.prog w = .ok false w := by kernel_rfl
theorem isNil_ (p a : Addr) (w : World) (h : w.cell? p = some (.pointer (some a))) : (callFunc 77 #[.agg #[H 95, .pointer (some p), .int .u64 150]]).run Tryz.prog w = .ok (.value (.bool false)) w := by
 obtain ⟨h1, h2, h3, h4, h5⟩ := ext39
 rw [run_callFunc_extern h1 h2 h3 h4 h5, method_run (parts56 p w)]
 unfold ReflectliteValue.isNil loadVar
 simp [go_sem, ag56, h]
theorem elem56V (w : World) : (Rtype.elem? 95).run Tryz.prog w = .ok (some 66) w := by kernel_rfl
theorem mk47 (a : Addr) (w : World) : (ReflectliteValue.mk 66 a ReflectliteValue.flagAddr).run Tryz.prog w = .ok (.agg #[H 66, .pointer (some a), .int .u64 386]) w := by kernel_rfl
theorem elemV (p a : Addr) (w : World) (h : w.cell? p = some (.pointer (some a))) : (callFunc 107 #[.agg #[H 95, .pointer (some p), .int .u64 150]]).run Tryz.prog w = .ok (.value (.agg #[H 66, .pointer (some a), .int .u64 386])) w := by
 obtain ⟨h1, h2, h3, h4, h5⟩ := ext49
 rw [run_callFunc_extern h1 h2 h3 h4 h5, method_run (parts56 p w)]
 unfold ReflectliteValue.elem loadVar
 simp [go_sem, ag56, h, elem56V, mk47]
theorem dir47 (w : World) : (Rtype.directlyAssignable 66 66).run Tryz.prog w = .ok true w := by kernel_rfl
theorem sz47 (w : World) : (sizeOf 66).run Tryz.prog w = .ok 1 w := by kernel_rfl
theorem setV (a p : Addr) (n m : Int) (w : World) (h : w.cell? p = some (.int .i64 n)) (h2 : w.cell? a = some (.int .i64 m)) (h3 : w.frozen? a = false) : (callFunc 108 #[.agg #[H 66, .pointer (some a), .int .u64 386], .agg #[H 66, .pointer (some p), .int .u64 130]]).run Tryz.prog w = .ok (.value (.tuple #[])) (w.setCell a (.int .i64 n)) := by
 obtain ⟨h1, h2', h3', h4, h5⟩ := ext50
 rw [run_callFunc_extern h1 h2' h3' h4 h5]
 have e : ∀ v x, ReflectliteValue.set #[v, x] = (do
  let (some (dst, a, fl), some (src, b, _)) := (← ReflectliteValue.parts v, ← ReflectliteValue.parts x)
   | unsupported (.noEntry "extern/(internal/reflectlite.Value).Set.zeroValue")
  if fl / ReflectliteValue.flagAddr % 2 == 0 then unsupported (.noEntry "extern/(internal/reflectlite.Value).Set.unaddressable")
  let val ← loadVar src b
  if ← Rtype.directlyAssignable dst src then storeVar dst a val
  else if ← Rtype.implements dst src then
   if (← Rtype.kind src) == 20 then
    match val with
    | .nilIface => unsupported (.noEntry "extern/reflectlite: a nil value of one interface type handed on as a value of another")
    | _ => storeVar dst a val
   else storeVar dst a (.iface src val)
  else panicString ("reflectlite.Set: value of type " ++ (← Rtype.spelt src) ++ " is not assignable to type " ++ (← Rtype.spelt dst))
  pure (.tuple #[])) := fun _ _ => rfl
 rw [e]
 unfold loadVar storeVar
 simp [go_sem, parts47a, parts47, ag47, h, dir47, sz47, h2, h3, ReflectliteValue.flagAddr]
end Go.Proofs.NumTry

