/- Two names, each with a colon behind, one behind the other, are a selector of two arguments, one alone with a colon of one, as long as they are not too long; with the second colon left out it is none. -/
import Derived.Test.YtmedpledgchipaaGreatDoorMWa
import Derived.Test.YtmedpledgchipaaGreatDoorMTy
import Derived.Test.YtmedpledgchipaaGreatDoorLK
import Derived.Test.YtmedpledgchipaaGreatDoorRMK
set_option linter.unusedSectionVars false
set_option linter.unusedVariables false
set_option linter.unusedSimpArgs false
set_option linter.unnecessarySimpa false
set_option maxRecDepth 100000
namespace Go.Proofs.YtmedpledgchipaaGreatDoor
open Go Go.Av Go.RowKit Go.Cq
theorem main (W : World) (hs : @SeatLay (theLay W)) (avs : List AV) (h : TyAll Tryz.prog 8 Tryz.f6.params.toList avs) : @ACall (theLay W) Tryz.prog 6 avs [] (.bool true) [] := by
 letI := theLay W
 haveI := hs
 obtain ⟨s, t, rfl, h1, h2⟩ := args_law09_MethodKeys h
 exact w_law09_MethodKeys (methodKeys s t)
theorem methodKeys_said : Rows.MethodKeysSaid := said main
theorem methodKeys_card : Rows.MethodKeysCardSaid := card main
end Go.Proofs.YtmedpledgchipaaGreatDoor

