/- Commands written line by line by the program are read by it as the same ones, and whatever was read, written again, is the same text: the statement answers true of all commands and every text; no condition. -/
import Derived.Test.YteeokchpojaaoaaGreatDoorSWa
import Derived.Test.YteeokchpojaaoaaGreatDoorSTy
import Derived.Test.YteeokchpojaaoaaGreatDoorL6
import Derived.Test.YteeokchpojaaoaaGreatDoorRow
set_option linter.unusedSectionVars false
set_option linter.unusedVariables false
set_option linter.unusedSimpArgs false
set_option linter.unusedVariables false
set_option maxRecDepth 100000
namespace Go.Proofs.YteeokchpojaaoaaGreatDoor
open Go Go.Av Go.RowKit Go.Cq
theorem main (W : World) (hs : @SeatLay (theLay W)) (avs : List AV) (h : TyAll Tryz.prog 8 Tryz.f5.params.toList avs) : @ACall (theLay W) Tryz.prog 5 avs [] (.bool true) [] := by
  letI := theLay W
  haveI := hs
  obtain ⟨l, t, rfl, ⟨_, h1⟩, h2⟩ := args_law30_ScriptBack h
  refine w_law30_ScriptBack (scriptBack l t fun c hc => ?_)
  obtain ⟨_, ⟨_, k1⟩, ⟨_, k2⟩, _⟩ := h1 c hc
  exact ⟨fun n hn => k1 n hn, fun u hu => (k2 u hu).2.1⟩
theorem scriptBack_said : Rows.ScriptBackSaid := said main
theorem scriptBack_card : Rows.ScriptBackCardSaid := card main
end Go.Proofs.YteeokchpojaaoaaGreatDoor

