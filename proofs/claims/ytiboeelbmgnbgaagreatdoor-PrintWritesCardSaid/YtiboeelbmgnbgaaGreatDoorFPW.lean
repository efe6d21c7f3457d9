/- Proved: the law PrintWrites of chapter 16 answers true for every argument: the program writes any method as the same text, or the same error, as the document, and the fixed example comes out as it must. -/
import Derived.Test.YtiboeelbmgnbgaaGreatDoorWa
import Derived.Test.YtiboeelbmgnbgaaGreatDoorTyp
import Derived.Test.YtiboeelbmgnbgaaGreatDoorP4
import Derived.Test.YtiboeelbmgnbgaaGreatDoorRPW
set_option linter.unusedSectionVars false
set_option linter.unusedVariables false
set_option linter.unusedSimpArgs false
set_option linter.unnecessarySimpa false
set_option maxRecDepth 100000
namespace Go.Proofs.YtiboeelbmgnbgaaGreatDoor
open Go Go.Av Go.RowKit Go.Cq
theorem main (W : World) (hs : @SeatLay (theLay W)) (avs : List AV) (h : TyAll Tryz.prog 8 Tryz.f3.params.toList avs) : @ACall (theLay W) Tryz.prog 3 avs [] (.bool true) [] := by
 letI := theLay W
 haveI := hs
 obtain ⟨m, rfl, h1⟩ := args_law16_PrintWrites h
 obtain ⟨_, _, _, ⟨_, k⟩, _⟩ := h1
 exact w_law16_PrintWrites (printWrites m fun n hn => (k n hn).1.1)
theorem printWrites_said : Rows.PrintWritesSaid := said main
theorem printWrites_card : Rows.PrintWritesCardSaid := card main
end Go.Proofs.YtiboeelbmgnbgaaGreatDoor

