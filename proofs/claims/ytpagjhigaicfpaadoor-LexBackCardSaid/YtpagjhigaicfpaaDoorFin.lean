/- LexBack: for every list of words, the law colloquylaw13.LexBack returns true: words that may be, written as a text, are read as the same ones, each with the place at which it was written. Conditions: none beyond the card's own. -/
import Derived.Test.YtpagjhigaicfpaaDoorQWa
import Derived.Test.YtpagjhigaicfpaaDoorQTy
import Derived.Test.YtpagjhigaicfpaaDoorLaB
import Derived.Test.YtpagjhigaicfpaaDoorRow
set_option linter.unusedSectionVars false
set_option linter.unusedVariables false
set_option linter.unusedSimpArgs false
set_option linter.unusedVariables false
set_option maxRecDepth 100000
namespace Go.Proofs.YtpagjhigaicfpaaDoor
open Go Go.Av Go.RowKit Go.Cq
theorem seatLay (m : Int) : @SeatLay (theLay m) := @SeatLay.mk (theLay m) ⟨m, .inr ⟨rfl, rfl, rfl⟩⟩ (.inl ⟨rfl, rfl, rfl⟩)
theorem main (m : Int) (avs : List AV) (h : TyAll Tryd.prog 8 Tryd.f5.params.toList avs) : @ACall (theLay m) Tryd.prog 5 avs [] (.bool true) [] := by
  letI := theLay m
  haveI := seatLay m
  obtain ⟨l, rfl, h1, h2⟩ := args_law13_LexBack h
  exact w_law13_LexBack (law_back ⟨by omega, fun w hw => ⟨by have := (h2 w hw).2.1; omega, (h2 w hw).1.1⟩⟩)
theorem lexBack_said : Rows.LexBackSaid := said main
theorem lexBack_card : Rows.LexBackCardSaid := card main
end Go.Proofs.YtpagjhigaicfpaaDoor

