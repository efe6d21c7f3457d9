/- A method that may be, of so many variables, and classes, may be of more, too. -/
import Derived.Test.YtmedpledgchipaaGreatDoorMWa
import Derived.Test.YtmedpledgchipaaGreatDoorMTy
import Derived.Test.YtmedpledgchipaaGreatDoorLO
import Derived.Test.YtmedpledgchipaaGreatDoorRMM
set_option linter.unusedSectionVars false
set_option linter.unusedVariables false
set_option linter.unusedSimpArgs false
set_option linter.unnecessarySimpa false
set_option maxRecDepth 100000
namespace Go.Proofs.YtmedpledgchipaaGreatDoor
open Go Go.Av Go.RowKit Go.Cq
theorem main (W : World) (hs : @SeatLay (theLay W)) (avs : List AV) (h : TyAll Tryz.prog 8 Tryz.f5.params.toList avs) : @ACall (theLay W) Tryz.prog 5 avs [] (.bool true) [] := by
 letI := theLay W
 haveI := hs
 obtain ⟨m, o, r, rfl, h1, h2, h3⟩ := args_law09_MethodMore h
 exact w_law09_MethodMore (methodMore m o r (fun p hp x hx => by
  obtain ⟨_, _, _, k⟩ := h1
  have := (k p hp).2.2.2.2 x hx
  exact ⟨x.toNat, by omega, by omega⟩) h2.1 h2.2 h3.1 h3.2)
theorem methodMore_said : Rows.MethodMoreSaid := said main
theorem methodMore_card : Rows.MethodMoreCardSaid := card main
end Go.Proofs.YtmedpledgchipaaGreatDoor

