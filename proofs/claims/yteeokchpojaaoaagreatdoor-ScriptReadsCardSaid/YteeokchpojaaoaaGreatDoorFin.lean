/- The commands that the program reads of any text are those that the document's reader reads of it, or both tell the same line, or the same error: the statement answers true of every text; no condition. -/
import Derived.Test.YteeokchpojaaoaaGreatDoorSWa
import Derived.Test.YteeokchpojaaoaaGreatDoorSTy
import Derived.Test.YteeokchpojaaoaaGreatDoorLR
import Derived.Test.YteeokchpojaaoaaGreatDoorRow
set_option linter.unusedSectionVars false
set_option linter.unusedVariables false
set_option linter.unusedSimpArgs false
set_option linter.unusedVariables false
set_option maxRecDepth 100000
namespace Go.Proofs.YteeokchpojaaoaaGreatDoor
open Go Go.Av Go.RowKit Go.Cq
theorem main (W : World) (hs : @SeatLay (theLay W)) (avs : List AV) (h : TyAll Tryz.prog 8 Tryz.f3.params.toList avs) : @ACall (theLay W) Tryz.prog 3 avs [] (.bool true) [] := by
  letI := theLay W
  haveI := hs
  obtain ⟨t, rfl, h1⟩ := args_law30_ScriptReads h
  exact w_law30_ScriptReads (scriptReads t)
theorem scriptReads_said : Rows.ScriptReadsSaid := said main
theorem scriptReads_card : Rows.ScriptReadsCardSaid := card main
end Go.Proofs.YteeokchpojaaoaaGreatDoor

