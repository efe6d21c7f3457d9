/- LexApart: for every text, number and byte, the law colloquylaw13.LexApart returns true: wherever between two words of a text more blanks are put, or a remark, the words are the same; and what can't be read stays so. Conditions: none beyond the card's own. -/
import Derived.Test.YtpagjhigaicfpaaDoorQWa
import Derived.Test.YtpagjhigaicfpaaDoorQTy
import Derived.Test.YtpagjhigaicfpaaDoorLaAp
import Derived.Test.YtpagjhigaicfpaaDoorRow
set_option linter.unusedSectionVars false
set_option linter.unusedVariables false
set_option linter.unusedSimpArgs false
set_option linter.unusedVariables false
set_option maxRecDepth 100000
namespace Go.Proofs.YtpagjhigaicfpaaDoor
open Go Go.Av Go.RowKit Go.Cq
theorem seatLay (m : Int) : @SeatLay (theLay m) := @SeatLay.mk (theLay m) ⟨m, .inr ⟨rfl, rfl, rfl⟩⟩ (.inl ⟨rfl, rfl, rfl⟩)
theorem main (m : Int) (avs : List AV) (h : TyAll Tryd.prog 8 Tryd.f6.params.toList avs) : @ACall (theLay m) Tryd.prog 6 avs [] (.bool true) [] := by
  letI := theLay m
  haveI := seatLay m
  obtain ⟨s, k, b, rfl, _, _, h1, h2⟩ := args_law13_LexApart h
  exact w_law13_LexApart (law_apart h1 h2)
theorem lexApart_said : Rows.LexApartSaid := said main
theorem lexApart_card : Rows.LexApartCardSaid := card main
end Go.Proofs.YtpagjhigaicfpaaDoor

