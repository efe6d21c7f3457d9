import Derived.Test.YtmedpledgchipaaGreatDoorNu2
import Derived.Lib.Hide
set_option linter.unusedSectionVars false
set_option linter.unusedVariables false
set_option linter.unusedSimpArgs false
set_option linter.unnecessarySimpa false
set_option maxRecDepth 100000
namespace Go.Proofs.NumTry
open Go Go.RowKit
theorem cell_al {w : World} {o : Obj} {a : Addr} {v : Value} (h : w.cell? a = some v) (hl : a.block < w.heap.size) : (w.alloc o).cell? a = some v := by
 have e : (w.alloc o).heap[a.block]? = w.heap[a.block]? := by
  unfold World.alloc; simp [Array.getElem?_push, Nat.ne_of_lt hl]
 unfold World.cell? at *
 rw [e]; exact h
theorem froz_al {w : World} {o : Obj} {a : Addr} {b : Bool} (h : w.frozen? a = b) (hl : a.block < w.heap.size) : (w.alloc o).frozen? a = b := by
 have e : (w.alloc o).heap[a.block]? = w.heap[a.block]? := by
  unfold World.alloc; simp [Array.getElem?_push, Nat.ne_of_lt hl]
 unfold World.frozen? at *
 rw [e]; exact h
theorem as_w (n m : Int) (a p : Addr) (w : World) (hp : w.cell? p = some (.pointer (some a))) (ha : w.cell? a = some (.int .i64 m)) (hf : w.frozen? a = false) (hlp : p.block < w.heap.size) (hla : a.block < w.heap.size) :
  Calls Tryz.prog 78 #[.iface 66 (.int .i64 n), .iface 95 (.pointer (some a)), .agg #[H 95, .pointer (some p), .int .u64 150], RT 66] w fun e w' => e = .returned (.bool true) ∧ w' = ((w.alloc (.cells #[H 95, .pointer (some p), .int .u64 150] 143)).alloc (.cells #[.int .i64 n] 66)).setCell a (.int .i64 n) := by
 have h1 := typeOf n
 have h2 := assignM
 have h3 := assign47
 have h4 := elemV p a
 have h5 := valueOf2 n
 have h6 : (callFunc 108 #[.agg #[H 66, .pointer (some a), .int .u64 386], .agg #[H 66, .pointer (some ⟨w.heap.size + 1, 0, none⟩), .int .u64 130]]).run Tryz.prog ((w.alloc (.cells #[H 95, .pointer (some p), .int .u64 150] 143)).alloc (.cells #[.int .i64 n] 66)) = .ok (.value (.tuple #[])) (((w.alloc (.cells #[H 95, .pointer (some p), .int .u64 150] 143)).alloc (.cells #[.int .i64 n] 66)).setCell a (.int .i64 n)) :=
  setV a _ n m _ (by simp) (cell_al (cell_al ha hla) (by simp; omega)) (froz_al (froz_al hf hla) (by simp; omega))
 have hp' := fun o => cell_al (o := o) hp hlp
 clear hp ha hf
 go_enter Tryz.func78, Tryz.ntmps78
 go_wp2
 refine wp_loop_rounds 1 ?_
 rw [rounds_succ]
 go_wp2
 go_ret
 exact ⟨rfl, rfl⟩
theorem implM (w : World) : (method 382 179 (.agg #[H 66]) "Implements").run Tryz.prog w = .ok (198, .agg #[H 66]) w := by kernel_rfl
theorem impl47 (w : World) : (callFunc 198 #[.agg #[H 66], RT 32]).run Tryz.prog w = .ok (.value (.bool true)) w := by kernel_rfl
set_option maxHeartbeats 4000000 in
theorem As_w (n m : Int) (a : Addr) (w : World) (hg : w.cell? ⟨0, 0, none⟩ = some (RT 32)) (h0 : 0 < w.heap.size) (ha : w.cell? a = some (.int .i64 m)) (hf : w.frozen? a = false) (hla : a.block < w.heap.size) :
  Calls Tryz.prog 40 #[.iface 66 (.int .i64 n), .iface 95 (.pointer (some a))] w fun e w' => e = .returned (.bool true) ∧ w' = ((((w.alloc (.cells #[.pointer (some a)] 95)).alloc (.cells #[H 95, .pointer (some ⟨w.heap.size, 0, none⟩), .int .u64 150] 143)).alloc (.cells #[H 95, .pointer (some ⟨w.heap.size, 0, none⟩), .int .u64 150] 143)).alloc (.cells #[.int .i64 n] 66)).setCell a (.int .i64 n) := by
 have h1 := valueOf a
 have h2 := type_
 have h3 := kindM 95
 have h3' := fun w => h3 w (.inl rfl)
 clear h3
 have h4 := kind56
 have h5 := elemM
 have h6 := elem56
 have h7 := fun w => kindM 66 w (.inr rfl)
 have h8 := kind47
 have h9 : (callFunc 77 #[.agg #[H 95, .pointer (some ⟨w.heap.size, 0, none⟩), .int .u64 150]]).run Tryz.prog ((w.alloc (.cells #[.pointer (some a)] 95)).alloc (.cells #[H 95, .pointer (some ⟨w.heap.size, 0, none⟩), .int .u64 150] 143)) = .ok (.value (.bool false)) ((w.alloc (.cells #[.pointer (some a)] 95)).alloc (.cells #[H 95, .pointer (some ⟨w.heap.size, 0, none⟩), .int .u64 150] 143)) :=
  isNil_ _ a _ (cell_al (by simp) (by simp))
 have hc := as_w n m a ⟨w.heap.size, 0, none⟩ ((w.alloc (.cells #[.pointer (some a)] 95)).alloc (.cells #[H 95, .pointer (some ⟨w.heap.size, 0, none⟩), .int .u64 150] 143)) (cell_al (by simp) (by simp)) (cell_al (cell_al ha hla) (by simp; omega)) (froz_al (froz_al hf hla) (by simp; omega)) (by simp; omega) (by simp; omega)
 have hg1 := fun o => cell_al (o := o) hg h0
 have hg2 := fun o1 o2 => cell_al (o := o2) (cell_al (o := o1) hg h0) (by simp)
 have h10 := implM
 have h11 := impl47
 clear hg
 have hcx := Lib.hid hc
 clear hc ha hf
 go_enter Tryz.func40, Tryz.ntmps40
 go_wp2_with (go_at_call 78; refine hcx.out.mono ?_; rintro e w' ⟨rfl, rfl⟩)
 go_ret
 exact ⟨rfl, rfl⟩
theorem num_w (n : Int) (w : World) (hg : w.cell? ⟨0, 0, none⟩ = some (RT 32)) (h0 : 0 < w.heap.size) :
    Calls Tryz.prog 16 #[.iface 66 (.int .i64 n)] w fun e w' => e = .returned (.int .i64 n) ∧ Below w.heap.size w w' := by
  have hc := As_w n 0 ⟨w.heap.size, 0, none⟩ (w.alloc (.cells #[.int .i64 0] 66)) (cell_al hg h0) (by simp) (by simp [go_sem]) (by simp [go_sem]) (by simp)
  have hcx := Lib.hid hc
  clear hc hg
  go_enter Tryz.func16, Tryz.ntmps16
  go_wp2_with (go_at_call 40; refine hcx.out.mono ?_; rintro e w' ⟨rfl, rfl⟩)
  go_ret
  refine ⟨rfl, ?_⟩
  refine Below.alloc (Below.alloc (Below.alloc (Below.alloc (Below.alloc (Below.refl _ _) ?_ _) ?_ _) ?_ _) ?_ _) ?_ _
  all_goals first | exact Nat.le_refl _ | (simp; done) | (simp; omega)
theorem num_0 (w : World) : Calls Tryz.prog 16 #[.nilIface] w fun e w' => e = .returned (.int .i64 0) ∧ Below w.heap.size w w' := by
 go_enter Tryz.func16, Tryz.ntmps16
 go_wp2
 go_ret
 exact ⟨rfl, (Below.refl _ _).alloc (Nat.le_refl _) _⟩
end Go.Proofs.NumTry

