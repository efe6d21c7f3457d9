/- Of every command the program's form and its line, or the error, are those that the document's writer gives of it, and of every value its text or the error: the statement answers true of every command and every value; no condition. -/
import Derived.Test.YteeokchpojaaoaaGreatDoorSWa
import Derived.Test.YteeokchpojaaoaaGreatDoorSTy
import Derived.Test.YteeokchpojaaoaaGreatDoorL5
import Derived.Test.YteeokchpojaaoaaGreatDoorRow
set_option linter.unusedSectionVars false
set_option linter.unusedVariables false
set_option linter.unusedSimpArgs false
set_option linter.unusedVariables false
set_option maxRecDepth 100000
namespace Go.Proofs.YteeokchpojaaoaaGreatDoor
open Go Go.Av Go.RowKit Go.Cq
theorem main (W : World) (hs : @SeatLay (theLay W)) (avs : List AV) (h : TyAll Tryz.prog 8 Tryz.f4.params.toList avs) : @ACall (theLay W) Tryz.prog 4 avs [] (.bool true) [] := by
  letI := theLay W
  haveI := hs
  obtain ⟨c, v, rfl, h1, h2⟩ := args_law30_ScriptWrites h
  obtain ⟨_, ⟨_, k1⟩, ⟨_, k2⟩, _⟩ := h1
  exact w_law30_ScriptWrites (scriptWrites c v ⟨fun n hn => k1 n hn, fun u hu => (k2 u hu).2.1⟩ h2.2.1)
theorem scriptWrites_said : Rows.ScriptWritesSaid := said main
theorem scriptWrites_card : Rows.ScriptWritesCardSaid := card main
end Go.Proofs.YteeokchpojaaoaaGreatDoor

