/- LexWrites: for every list of words, the law colloquylaw13.LexWrites returns true: the program writes the text of the words, or tells the error, and of each word whether it may be, as chapter 13 says. Conditions: none beyond the card's own. -/
import Derived.Test.YtpagjhigaicfpaaDoorQWa
import Derived.Test.YtpagjhigaicfpaaDoorQTy
import Derived.Test.YtpagjhigaicfpaaDoorLaW
import Derived.Test.YtpagjhigaicfpaaDoorRow
set_option linter.unusedSectionVars false
set_option linter.unusedVariables false
set_option linter.unusedSimpArgs false
set_option linter.unusedVariables false
set_option maxRecDepth 100000
namespace Go.Proofs.YtpagjhigaicfpaaDoor
open Go Go.Av Go.RowKit Go.Cq
theorem seatLay (m : Int) : @SeatLay (theLay m) := @SeatLay.mk (theLay m) ⟨m, .inr ⟨rfl, rfl, rfl⟩⟩ (.inl ⟨rfl, rfl, rfl⟩)
theorem main (m : Int) (avs : List AV) (h : TyAll Tryd.prog 8 Tryd.f4.params.toList avs) : @ACall (theLay m) Tryd.prog 4 avs [] (.bool true) [] := by
  letI := theLay m
  haveI := seatLay m
  obtain ⟨l, rfl, h1, h2⟩ := args_law13_LexWrites h
  exact w_law13_LexWrites (law_writes ⟨by omega, fun w hw => ⟨by have := (h2 w hw).2.1; omega, (h2 w hw).1.1⟩⟩)
theorem lexWrites_said : Rows.LexWritesSaid := said main
theorem lexWrites_card : Rows.LexWritesCardSaid := card main
end Go.Proofs.YtpagjhigaicfpaaDoor

