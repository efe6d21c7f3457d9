/- Whatever two methods come in, the program's tree.Check, Same, Free and Sent say of them what the document's May, Same, Free and Sent say. No condition. -/
import Derived.Test.YtphdekcijjgbeaaGreatDoorTWa
import Derived.Test.YtphdekcijjgbeaaGreatDoorTTy
import Derived.Test.YtphdekcijjgbeaaGreatDoorLC
import Derived.Test.YtphdekcijjgbeaaGreatDoorRTT
set_option linter.unusedSectionVars false
set_option linter.unusedVariables false
set_option linter.unusedSimpArgs false
set_option linter.unnecessarySimpa false
set_option maxRecDepth 100000
namespace Go.Proofs.YtphdekcijjgbeaaGreatDoor
open Go Go.Av Go.RowKit Go.Cq
theorem main (W : World) (hs : @SeatLay (theLay W)) (avs : List AV) (h : TyAll Tryz.prog 8 Tryz.f3.params.toList avs) : @ACall (theLay W) Tryz.prog 3 avs [] (.bool true) [] := by
 letI := theLay W
 haveI := hs
 obtain ⟨m, o, rfl, h1, h2⟩ := args_law14_TreeTells h
 exact w_law14_TreeTells (treeTells m o fun n hn => by
  obtain ⟨_, _, _, ⟨_, k2⟩, _⟩ := h1
  exact (k2 n hn).1.1)
theorem treeTells_said : Rows.TreeTellsSaid := said main
theorem treeTells_card : Rows.TreeTellsCardSaid := card main
end Go.Proofs.YtphdekcijjgbeaaGreatDoor

