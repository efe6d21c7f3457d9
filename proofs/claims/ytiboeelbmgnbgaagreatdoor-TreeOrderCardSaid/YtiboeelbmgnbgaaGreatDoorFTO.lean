/- Proved: the law TreeOrder of chapter 14 answers true for every argument: in a method that may be each node is a kid of just one other, or one statement; kids ascend and are less than their node; and with one node or one statement less it may not be. -/
import Derived.Test.YtiboeelbmgnbgaaGreatDoorTWa
import Derived.Test.YtiboeelbmgnbgaaGreatDoorTTy
import Derived.Test.YtiboeelbmgnbgaaGreatDoorL8
import Derived.Test.YtiboeelbmgnbgaaGreatDoorRTO
set_option linter.unusedSectionVars false
set_option linter.unusedVariables false
set_option linter.unusedSimpArgs false
set_option linter.unnecessarySimpa false
set_option linter.unusedVariables false
set_option maxRecDepth 100000
namespace Go.Proofs.YtiboeelbmgnbgaaGreatDoor
open Go Go.Av Go.RowKit Go.Cq
theorem main (W : World) (hs : @SeatLay (theLay W)) (avs : List AV) (h : TyAll Tryz.prog 8 Tryz.f8.params.toList avs) : @ACall (theLay W) Tryz.prog 8 avs [] (.bool true) [] := by
  letI := theLay W
  haveI := hs
  obtain ⟨m, rfl, h1⟩ := args_law14_TreeOrder h
  obtain ⟨_, ⟨k1, _⟩, ⟨k2, _⟩, ⟨k3, k4⟩, ⟨k5, _⟩⟩ := h1
  exact w_law14_TreeOrder (treeOrder m ⟨k1, k2, k5, k3, fun z hz => (k4 z hz).2.2.2.1.1, fun z hz => (k4 z hz).2.2.2.2.1⟩ fun n hn => (k4 n hn).1.1)
theorem treeOrder_said : Rows.TreeOrderSaid := said main
theorem treeOrder_card : Rows.TreeOrderCardSaid := card main
end Go.Proofs.YtiboeelbmgnbgaaGreatDoor

