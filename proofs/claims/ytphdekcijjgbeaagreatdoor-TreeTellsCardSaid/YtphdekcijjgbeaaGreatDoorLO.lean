import Derived.Test.YtphdekcijjgbeaaGreatDoorL5
import Derived.KernelRfl
set_option linter.unusedSectionVars false
set_option linter.unusedVariables false
set_option linter.unusedSimpArgs false
set_option linter.unnecessarySimpa false
set_option maxRecDepth 100000
namespace Go.Cq
open Go Go.Av
theorem sort1 (x : Str) : tree_sorted [x] = some [x] := by simp [tree_sorted]; rfl
theorem sort2' : tree_sorted [[102, 111, 111], [100, 111, 58]] = some [[100, 111, 58], [102, 111, 111]] := by
 unfold tree_sorted
 rw [show ([[102, 111, 111], [100, 111, 58]] : List Str).mergeSort (fun x y => decide (x ≤ y)) = [[100, 111, 58], [102, 111, 111]] from by rw [List.mergeSort]; simp [List.MergeSort.Internal.splitInTwo, List.merge]; decide]
 kernel_rfl
theorem sure_check : tree_Check (tree_Method.mk [97, 116, 58] ([[105]] : List Str) ([[116]] : List Str) ([(tree_Node.mk 7 [120] 0 [] []), (tree_Node.mk 7 [121] 0 [] []), (tree_Node.mk 9 [102, 111, 111] 0 [] ([1] : List Int)), (tree_Node.mk 12 [] 1 ([[121]] : List Str) ([2] : List Int)), (tree_Node.mk 9 [100, 111, 58] 0 [] ([0, 3] : List Int)), (tree_Node.mk 13 [] 0 [] ([4] : List Int))] : List tree_Node) ([5] : List Int)) = some none := by kernel_rfl
theorem sure_free1 : tree_Free_l1 (tree_Method.mk [97, 116, 58] ([[105]] : List Str) ([[116]] : List Str) ([(tree_Node.mk 7 [120] 0 [] []), (tree_Node.mk 7 [121] 0 [] []), (tree_Node.mk 9 [102, 111, 111] 0 [] ([1] : List Int)), (tree_Node.mk 12 [] 1 ([[121]] : List Str) ([2] : List Int)), (tree_Node.mk 9 [100, 111, 58] 0 [] ([0, 3] : List Int)), (tree_Node.mk 13 [] 0 [] ([4] : List Int))] : List tree_Node) ([5] : List Int)) fuel 0 [] = some [[120]] := by kernel_rfl
theorem sure_sent1 : tree_Sent_l1 (tree_Method.mk [97, 116, 58] ([[105]] : List Str) ([[116]] : List Str) ([(tree_Node.mk 7 [120] 0 [] []), (tree_Node.mk 7 [121] 0 [] []), (tree_Node.mk 9 [102, 111, 111] 0 [] ([1] : List Int)), (tree_Node.mk 12 [] 1 ([[121]] : List Str) ([2] : List Int)), (tree_Node.mk 9 [100, 111, 58] 0 [] ([0, 3] : List Int)), (tree_Node.mk 13 [] 0 [] ([4] : List Int))] : List tree_Node) ([5] : List Int)) fuel 0 [] = some [[102, 111, 111], [100, 111, 58]] := by kernel_rfl
theorem sure_free : tree_Free (tree_Method.mk [97, 116, 58] ([[105]] : List Str) ([[116]] : List Str) ([(tree_Node.mk 7 [120] 0 [] []), (tree_Node.mk 7 [121] 0 [] []), (tree_Node.mk 9 [102, 111, 111] 0 [] ([1] : List Int)), (tree_Node.mk 12 [] 1 ([[121]] : List Str) ([2] : List Int)), (tree_Node.mk 9 [100, 111, 58] 0 [] ([0, 3] : List Int)), (tree_Node.mk 13 [] 0 [] ([4] : List Int))] : List tree_Node) ([5] : List Int)) = some [[120]] := by
 unfold tree_Free
 rw [sure_check, bindS, sure_free1, bindS, sort1]
 rfl
theorem sure_sent : tree_Sent (tree_Method.mk [97, 116, 58] ([[105]] : List Str) ([[116]] : List Str) ([(tree_Node.mk 7 [120] 0 [] []), (tree_Node.mk 7 [121] 0 [] []), (tree_Node.mk 9 [102, 111, 111] 0 [] ([1] : List Int)), (tree_Node.mk 12 [] 1 ([[121]] : List Str) ([2] : List Int)), (tree_Node.mk 9 [100, 111, 58] 0 [] ([0, 3] : List Int)), (tree_Node.mk 13 [] 0 [] ([4] : List Int))] : List tree_Node) ([5] : List Int)) = some [[100, 111, 58], [102, 111, 111]] := by
 unfold tree_Sent
 rw [sure_check, bindS, sure_sent1, bindS, sort2']
 rfl
theorem sure_true : law14_sure = some true := by
 unfold law14_sure
 rw [sure_free, sure_sent]
 kernel_rfl
end Go.Cq

