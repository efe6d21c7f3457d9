/- Proved: the law TreeAll of chapter 14 answers true for every argument: the program's CheckAll and the document's MayAll agree on any classes, and the fixed example comes out as it must. -/
import Derived.Test.YtiboeelbmgnbgaaGreatDoorTWa
import Derived.Test.YtiboeelbmgnbgaaGreatDoorTTy
import Derived.Test.YtiboeelbmgnbgaaGreatDoorL8
import Derived.Test.YtiboeelbmgnbgaaGreatDoorRTA
set_option linter.unusedSectionVars false
set_option linter.unusedVariables false
set_option linter.unusedSimpArgs false
set_option linter.unnecessarySimpa false
set_option linter.unusedVariables false
set_option maxRecDepth 100000
namespace Go.Proofs.YtiboeelbmgnbgaaGreatDoor
open Go Go.Av Go.RowKit Go.Cq
theorem main (W : World) (hs : @SeatLay (theLay W)) (avs : List AV) (h : TyAll Tryz.prog 8 Tryz.f6.params.toList avs) : @ACall (theLay W) Tryz.prog 6 avs [] (.bool true) [] := by
  letI := theLay W
  haveI := hs
  obtain ⟨l, rfl, h1⟩ := args_law14_TreeAll h
  exact w_law14_TreeAll (treeAll l fun c hc m hm n hn => by
    obtain ⟨_, _, _, _, k1⟩ := h1.2 c hc
    obtain ⟨_, _, _, ⟨_, k2⟩, _⟩ := k1 m hm
    exact (k2 n hn).1.1)
theorem treeAll_said : Rows.TreeAllSaid := said main
theorem treeAll_card : Rows.TreeAllCardSaid := card main
end Go.Proofs.YtiboeelbmgnbgaaGreatDoor

