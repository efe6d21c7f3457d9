import Derived.Test.YtphdekcijjgbeaaGreatDoorShf
import Derived.Test.YtphdekcijjgbeaaGreatDoorSh3
import Derived.Shelf.SortM.Plain
import Derived.Shelf.SortM.SortNone
import Derived.Shelf.Slices.Cells
import Derived.WalkKit
set_option linter.unusedSectionVars false
set_option linter.unusedVariables false
set_option linter.unusedSimpArgs false
set_option linter.unnecessarySimpa false
set_option maxRecDepth 100000
namespace Go.Cq
open Go Go.Proofs Go.RowKit Go.Lib Go.Sort
def srt (ss : List (List UInt8)) : List (List UInt8) := Lib.compact (ss.mergeSort fun x y => decide (x ≤ y))
set_option maxHeartbeats 4000000 in
theorem sorted_some (blk off cap : Nat) (ss : List (List UInt8)) (w : World) (hH : Holds encStr w blk off ss.toArray) (hblk : blk < w.heap.size) (hsz : ss.length < 4611686018427387904) (hcap : ss.length ≤ cap) :
    Calls Tryz.prog 36 #[.slice (some ⟨blk, off, none⟩) ss.length cap] w fun e w' => e = .returned (.slice (some ⟨blk, off, none⟩) (srt ss).length cap) ∧
      ∃ q os, w' = grow ((w.drewN q).setCells blk off ((srt ss ++ List.replicate (ss.length - (srt ss).length) []).map encStr)) os := by
  have h1 := AnyM.slices_Sort_string Tryz.laysSort blk off cap ss w hH hblk hsz
  change Calls Tryz.prog 58 _ _ _ at h1
  have hlen : (ss.mergeSort fun x y => decide (x ≤ y)).length = ss.length := List.length_mergeSort ..
  have hHs : ∀ n os, Holds encStr (grow (putRow encStr (Sort.ahead w n) blk off (ss.mergeSort fun x y => decide (x ≤ y)).toArray) os) blk off (ss.mergeSort fun x y => decide (x ≤ y)).toArray := fun n os =>
    holds_grow _ _ _ _ _ _ (by simpa using hblk) (holds_putRow _ _ _ _ ss.toArray _ hH (by simpa using hlen))
  have h2 := fun n os => Tryz.slices_Compact_string blk off cap _ _ (hHs n os) (by omega) (by omega)
  have hle := Lib.compact_length_le (ss.mergeSort fun x y => decide (x ≤ y))
  have hfin : ∀ n q os, putRow encStr (Sort.ahead (grow (putRow encStr (Sort.ahead w n) blk off (ss.mergeSort fun x y => decide (x ≤ y)).toArray) os) q) blk off (srt ss ++ List.replicate (ss.length - (srt ss).length) []).toArray = grow ((w.drewN (n + q)).setCells blk off ((srt ss ++ List.replicate (ss.length - (srt ss).length) []).map encStr)) os := fun n q os => by
    rw [grow_step _ _ _ _ _ _ _ _ _ hblk (by unfold srt; simp; omega)]
    rw [Lib.putRow_eq_setCells _ w blk off ss.toArray _ _ hH (by unfold srt; simp; omega)]
  rw [hlen] at h2
  have h2' : ∀ n os, Calls Tryz.prog 59 #[.slice (some ⟨blk, off, none⟩) ss.length cap] (grow (putRow encStr (Sort.ahead w n) blk off (ss.mergeSort fun x y => decide (x ≤ y)).toArray) os) fun e w' => e = .returned (.slice (some ⟨blk, off, none⟩) (srt ss).length cap) ∧
      ∃ q os, w' = grow ((w.drewN q).setCells blk off ((srt ss ++ List.replicate (ss.length - (srt ss).length) []).map encStr)) os := fun n os => (h2 n os).mono fun e w' ⟨e1, q, e2⟩ => ⟨e1, n + q, os, by rw [e2]; exact hfin n q os⟩
  clear h2 hfin hle hHs
  generalize hL : (srt ss).length = L at *
  generalize hG : ((srt ss ++ List.replicate (ss.length - L) []).map encStr) = G at *
  clear hH hG hL
  generalize (ss.mergeSort fun x y => decide (x ≤ y)) = S at *
  clear hlen
  go_enter Tryz.func36, Tryz.ntmps36
  go_wp2_with (first
    | (go_at_call 58; refine h1.mono ?_; rintro e w' ⟨rfl, n, os, rfl⟩; have h3 := h2' n os; clear h1 h2')
    | (go_at_call 59; refine h3.mono ?_; rintro e w' ⟨rfl, hw⟩))
  go_ret
  exact ⟨rfl, hw⟩
set_option maxHeartbeats 4000000 in
theorem sorted_none (p : Option Addr) (cap : Nat) (w : World) : Calls Tryz.prog 36 #[.slice p 0 cap] w fun e w' => e = .returned (.slice p 0 cap) ∧ w' = w := by
  have h1 := AnyM.slices_Sort_string_none Tryz.laysSort p cap w
  change Calls Tryz.prog 58 _ _ _ at h1
  have h2 := Tryz.slices_Compact_string_empty p cap w
  cases p with
  | none =>
    go_enter Tryz.func36, Tryz.ntmps36
    go_wp2_with (first
      | (go_at_call 58; refine h1.mono ?_; rintro e w' ⟨rfl, rfl⟩)
      | (go_at_call 59; refine h2.mono ?_; rintro e w' ⟨rfl, rfl⟩))
    go_ret
    exact ⟨rfl, rfl⟩
  | some a =>
    go_enter Tryz.func36, Tryz.ntmps36
    go_wp2_with (first
      | (go_at_call 58; refine h1.mono ?_; rintro e w' ⟨rfl, rfl⟩)
      | (go_at_call 59; refine h2.mono ?_; rintro e w' ⟨rfl, rfl⟩))
    go_ret
    exact ⟨rfl, rfl⟩
end Go.Cq

