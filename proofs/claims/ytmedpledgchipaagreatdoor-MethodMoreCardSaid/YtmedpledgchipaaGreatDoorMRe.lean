import Derived.Test.YtmedpledgchipaaGreatDoorProg
import Derived.Shelf.RegionOpenPlain
import Derived.WalkKit
import Derived.Deep.LoopGhost
import Derived.Deep.OwnRows
import Derived.Lib.Walk
import Derived.Lib.SliceRun
import Derived.Shelf.Spec.SlicesInsert
import Derived.Test.YtmedpledgchipaaGreatDoorSh5
set_option linter.unusedSectionVars false
set_option linter.unusedVariables false
set_option linter.unusedSimpArgs false
set_option linter.unnecessarySimpa false
set_option maxRecDepth 100000
namespace Go.Cq
open Go Go.Proofs Go.RowKit Go.Lib Go.Shelf
def RepInv (w : World) (n : Nat) (x : Int) (k : Nat) (wr : World) : Prop := ∃ f : Nat → Value, wr.rowIs w.heap.size 3 n f ∧ (∀ j, j < k → f j = .int .i64 x) ∧ Below w.heap.size w wr
def RepPost (w : World) (n : Nat) (x : Int) (e : Ending) (w' : World) : Prop := e = .returned (.slice (some ⟨w.heap.size, 0, none⟩) n n) ∧ RepInv w n x n w'
theorem RepInv.drew {w wr : World} {n k : Nat} {x : Int} (h : RepInv w n x k wr) : RepInv w n x k wr.drew := by
 obtain ⟨f, h1, h2, h3⟩ := h
 exact ⟨f, h1.drew, h2, h3.drew⟩
theorem rep_first (w : World) (n : Nat) (x : Int) : RepInv w n x 1 ((w.alloc (.cells (madeCells #[.int .i64 0] n) 3)).setCells w.heap.size 0 [.int .i64 x]) := by
  refine ⟨_, rowIs_setCells _ _ _ _ (World.rowIs_made w (.int .i64 0) n 3), fun j hj => ?_, below_setCells (Nat.le_refl _) _ _ _ ((Below.refl _ w).alloc (Nat.le_refl _) _)⟩
  obtain rfl : j = 0 := by omega
  simp
theorem rep_next {w wr : World} {n k m : Nat} {x : Int} (h : RepInv w n x k wr) : RepInv w n x (k + m) (wr.setCells w.heap.size k (List.replicate m (.int .i64 x))) := by
 obtain ⟨f, h1, h2, h3⟩ := h
 refine ⟨_, rowIs_setCells _ _ _ _ h1, fun j hj => ?_, below_setCells (Nat.le_refl _) _ _ _ h3⟩
 simp only [List.length_replicate]
 by_cases hk : k ≤ j
 ·rw [if_pos ⟨hk, hj⟩, List.getElem?_replicate, if_pos (by omega)]; rfl
 ·rw [if_neg (by omega)]; exact h2 j (by omega)
theorem rep_sz : (Tryz.prog.info? 3).map (·.size) = some 1 := by kernel_rfl
theorem rep_copy1 (w : World) (b off c n : Nat) (x : Int) (h0 : 0 < n) (hx : w.cell? ⟨b, off, none⟩ = some (.int .i64 x)) (ty : TypeId) :
  (Builtin.copy_ #[75, 75] ty #[.slice (some ⟨w.heap.size, 0, none⟩) n n, .slice (some ⟨b, off, none⟩) 1 c]).run Tryz.prog (w.alloc (.cells (madeCells #[.int .i64 0] n) 3)) = .ok (goInt 1) ((w.alloc (.cells (madeCells #[.int .i64 0] n) 3)).setCells w.heap.size 0 [.int .i64 x]) := by
 have hb : b < w.heap.size := block_lt_of_cell hx
 have hr := World.rowIs_made w (.int .i64 0) n 3
 exact run_copy_cells _ _ _ ty 3 w.heap.size 0 n n ⟨b, off, none⟩ 1 c [.int .i64 x] Tryz.underlying75 rep_sz (by simp [Nat.min_def]; omega)
  (fun j v hj => by
   cases j with
   | zero => simp at hj; subst hj; rw [Addr.add_lit, World.cell?_alloc_past (w := w) _ b _ hb]; exact hx
   | succ j => simp at hj)
  (fun j hj => by simp at hj; subst hj; rw [hr.cell (by omega)]; rfl) (fun j hj => hr.frozen _) (fun v hv => by simp at hv; subst hv; rfl)
theorem rep_copyN {w wr : World} {n k : Nat} {x : Int} (h : RepInv w n x k wr) (h2 : k < n) (c1 c2 : Nat) (ty : TypeId) :
  (Builtin.copy_ #[75, 75] ty #[.slice (some ⟨w.heap.size, k, none⟩) (n - k) c1, .slice (some ⟨w.heap.size, 0, none⟩) k c2]).run Tryz.prog wr = .ok (goInt (Nat.min k (n - k))) (wr.setCells w.heap.size k (List.replicate (Nat.min k (n - k)) (.int .i64 x))) := by
 obtain ⟨f, r1, r2, r3⟩ := h
 have hm1 : Nat.min k (n - k) ≤ k := Nat.min_le_left _ _
 have hm2 : Nat.min k (n - k) ≤ n - k := Nat.min_le_right _ _
 have := run_copy_cells (P := Tryz.prog) wr 75 75 ty 3 w.heap.size k (n - k) c1 ⟨w.heap.size, 0, none⟩ k c2 (List.replicate (Nat.min k (n - k)) (.int .i64 x)) Tryz.underlying75 rep_sz (by simp)
  (fun j v hj => by
   rw [List.getElem?_replicate] at hj
   split at hj
   ·rename_i hjm
    cases hj
    rw [Addr.add_lit, Nat.zero_add, r1.cell (by omega), r2 j (by omega)]
   ·cases hj)
  (fun j hj => by
   rw [List.length_replicate] at hj
   rw [r1.cell (by omega)]; rfl) (fun j hj => r1.frozen _) (fun v hv => by rw [List.mem_replicate] at hv; rw [hv.2]; rfl)
 rw [List.length_replicate] at this
 exact this
theorem mul_one_run (n : Nat) (hn : n < 18446744073709551616) (w : World) : Calls Tryz.prog 143 #[.int .u64 1, .int .u64 n] w fun e w' => e = .returned (.tuple #[.int .u64 0, .int .u64 n]) ∧ w' = w := by
 have h := Any.bits_Mul Tryz.laysMul 1 n (by omega) hn w
 have e1 : 1 * n / 18446744073709551616 = 0 := by omega
 have e2 : 1 * n % 18446744073709551616 = n := by omega
 rw [e1, e2] at h
 exact h
set_option maxHeartbeats 4000000 in
theorem repeat_pos (b off c n : Nat) (x : Int) (w : World) (hx : w.cell? ⟨b, off, none⟩ = some (.int .i64 x)) (h0 : 0 < n) (hn : n * 8 ≤ 140737488355328) :
    Calls Tryz.prog 132 #[.slice (some ⟨b, off, none⟩) 1 c, .int .i64 n] w (RepPost w n x) := by
  have hi3 : (Tryz.prog.info? 3).map (fun i => (i.zero, i.size, i.bytes)) = some (some (Value.int IntKind.i64 0), 1, 8) := by kernel_rfl
  obtain ⟨i0, hi, hz0, hz1, hz2⟩ := info_parts hi3
  have hmul := mul_one_run n (by omega)
  have emul : ∀ args w, (callFunc 143 args).run Tryz.prog w = .ok (.enter 143 args) w := enters_of Tryz.func143 (by kernel_rfl) rfl
  have n1 : ¬ (n : Int) < 0 := by omega
  have n2 : IntKind.u64.wrap (n : Int) = (n : Int) := by rw [IntKind.wrap_u64]; omega
  have n3 : IntKind.i64.wrap (n : Int) = (n : Int) := by rw [IntKind.wrap_i64]; omega
  have n4 : ¬ (9223372036854775807 : Int) < (n : Int) := by omega
  have mixed : Tryz.prog.follows .mixedOrders = true := by kernel_rfl
  have u75 := run_underlying Tryz.underlying75
  have A1 : Aside (w.cell? ⟨b, off, none⟩ = some (.int .i64 x)) := hx
  have hcp := rep_copy1 w b off c n x h0 hx
  obtain ⟨W1, hW1⟩ : ∃ W1, W1 = (w.alloc (.cells (madeCells #[.int .i64 0] n) 3)).setCells w.heap.size 0 [.int .i64 x] := ⟨_, rfl⟩
  have hI : RepInv w n x 1 W1 := hW1 ▸ rep_first w n x
  rw [← hW1] at hcp
  clear hx hW1
  go_enter Tryz.func132, Tryz.ntmps132
  go_wp2_with (first
    | (go_at_call 143; refine (hmul _).mono ?_; rintro e w' ⟨rfl, hw⟩; rw [hw])
    | (at_make; refine wpList_make_row _ rfl _ _ 75 rfl 3 i0 (.int .i64 0) Tryz.underlying75 hi hz0 hz1 rfl .i64 .i64 n rfl rfl (by rw [hz2]; omega) (by omega) ?_))
  go_loopg [8] n (fun g s8 wr => ∃ k : Nat, 1 ≤ k ∧ k ≤ n ∧ n - k ≤ g ∧ s8 = .int .i64 k ∧ RepInv w n x k wr)
  case atStart => exact ⟨1, Nat.le_refl _, by omega, by omega, rfl, hI⟩
  case round =>
    obtain ⟨k, hk1, hk, hg, rfl, hrel⟩ := hrel
    by_cases hlt : k < n
    · have B : Aside (RepInv w n x k _) := hrel
      have k1 : (k : Int) < (n : Int) := by omega
      have k2 : ¬ (k : Int) < 0 := by omega
      have k3 : (0 : Int) ≤ (k : Int) := by omega
      have k4 : (k : Int) ≤ (n : Int) := by omega
      have k5 : ¬ n = k := by omega
      have k6 : ¬ (n : Int) < (k : Int) := by omega
      clear hrel
      obtain ⟨m, hm⟩ : ∃ m, Nat.min k (n - k) = m := ⟨_, rfl⟩
      have m1 : m ≤ k := hm ▸ Nat.min_le_left _ _
      have m2 : m ≤ n - k := hm ▸ Nat.min_le_right _ _
      have m3 : 1 ≤ m := by rw [← hm]; exact Nat.le_min.2 ⟨hk1, by omega⟩
      have hcn : ∀ {wr : World} (h : RepInv w n x k wr) (c1 c2 : Nat) (ty : TypeId), (Builtin.copy_ #[75, 75] ty #[.slice (some ⟨w.heap.size, k, none⟩) (n - k) c1, .slice (some ⟨w.heap.size, 0, none⟩) k c2]).run Tryz.prog wr = .ok (goInt m) (wr.setCells w.heap.size k (List.replicate m (.int .i64 x))) := fun h c1 c2 ty => by
        have := rep_copyN h hlt c1 c2 ty
        rw [hm] at this; exact this
      have C : Aside (∀ {wr : World} (h : RepInv w n x k wr) (c1 c2 : Nat) (ty : TypeId), (Builtin.copy_ #[75, 75] ty #[.slice (some ⟨w.heap.size, k, none⟩) (n - k) c1, .slice (some ⟨w.heap.size, 0, none⟩) k c2]).run Tryz.prog wr = .ok (goInt m) (wr.setCells w.heap.size k (List.replicate m (.int .i64 x)))) := hcn
      have k7 : IntKind.i64.wrap ((k : Int) + (m : Int)) = (k : Int) + (m : Int) := by rw [IntKind.wrap_i64]; omega
      clear hcn hm
      go_wp2
      go_region_law_o (refine step_copy_runI rfl _ _ 75 75 rfl (.slice (some ⟨w.heap.size, k, none⟩) (n - k) (n - k)) (.slice (some ⟨w.heap.size, 0, none⟩) k n) (by simp [Act.eval, Act.put]) (by simp [Act.eval, Act.put]) (C.out (by first | exact B.out | exact B.out.drew | exact B.out.drew.drew) _ _ _) ?_)
      go_wp2
      go_roundg (n - (k + m))
      case measure => omega
      case rel => exact ⟨k + m, by omega, by omega, Nat.le_refl _, by go_num, by first | exact rep_next B.out | exact rep_next B.out.drew | exact (rep_next B.out).drew⟩
    · have B : Aside (RepInv w n x k _) := hrel
      have k1 : ¬ (k : Int) < (n : Int) := by omega
      obtain rfl : k = n := by omega
      clear hrel
      go_wp2
      go_ret
      exact ⟨rfl, B.out⟩
set_option maxHeartbeats 4000000 in
theorem repeat_zero (b off c : Nat) (x : Int) (w : World) :
    Calls Tryz.prog 132 #[.slice (some ⟨b, off, none⟩) 1 c, .int .i64 0] w (RepPost w 0 x) := by
  have hi3 : (Tryz.prog.info? 3).map (fun i => (i.zero, i.size, i.bytes)) = some (some (Value.int IntKind.i64 0), 1, 8) := by kernel_rfl
  obtain ⟨i0, hi, hz0, hz1, hz2⟩ := info_parts hi3
  have hmul := mul_one_run 0 (by omega)
  have emul : ∀ args w, (callFunc 143 args).run Tryz.prog w = .ok (.enter 143 args) w := enters_of Tryz.func143 (by kernel_rfl) rfl
  have mixed : Tryz.prog.follows .mixedOrders = true := by kernel_rfl
  have u75 := run_underlying Tryz.underlying75
  have hcp : ∀ ty (w' : World), (Builtin.copy_ #[75, 75] ty #[.slice (some ⟨w.heap.size, 0, none⟩) 0 0, .slice (some ⟨b, off, none⟩) 1 c]).run Tryz.prog w' = .ok (goInt 0) w' := fun ty w' => run_copy_none w' _ _ ty 3 _ _ 0 0 1 c Tryz.underlying75 rep_sz rfl
  obtain ⟨W1, hW1⟩ : ∃ W1, W1 = w.alloc (.cells (madeCells #[.int .i64 0] 0) 3) := ⟨_, rfl⟩
  have hI : RepInv w 0 x 0 W1 := by
    rw [hW1]
    exact ⟨_, World.rowIs_made w (.int .i64 0) 0 3, fun j hj => by omega, (Below.refl _ w).alloc (Nat.le_refl _) _⟩
  go_enter Tryz.func132, Tryz.ntmps132
  go_wp2_with (first
    | (go_at_call 143; refine (hmul _).mono ?_; rintro e w' ⟨rfl, hw⟩; rw [hw])
    | (at_make; refine wpList_make_row _ rfl _ _ 75 rfl 3 i0 (.int .i64 0) Tryz.underlying75 hi hz0 hz1 rfl .i64 .i64 0 rfl rfl (by rw [hz2]; omega) (by omega) ?_; rw [← hW1]))
  go_loopg [8] 0 (fun g s8 wr => s8 = .int .i64 0 ∧ RepInv w 0 x 0 wr)
  case atStart => exact ⟨rfl, by first | exact hI | exact hW1 ▸ hI⟩
  case round =>
    obtain ⟨rfl, hrel⟩ := hrel
    have B : Aside (RepInv w 0 x 0 _) := hrel
    clear hrel
    go_wp2
    go_ret
    exact ⟨rfl, B.out⟩
end Go.Cq

