/- Proved: the law PrintSources of chapter 16 answers true for every argument: the program writes any row of classes as the same text, or the same error, as the document, and the fixed example comes out as it must. -/
import Derived.Test.YtiboeelbmgnbgaaGreatDoorWa
import Derived.Test.YtiboeelbmgnbgaaGreatDoorTyp
import Derived.Test.YtiboeelbmgnbgaaGreatDoorP4
import Derived.Test.YtiboeelbmgnbgaaGreatDoorRPS
set_option linter.unusedSectionVars false
set_option linter.unusedVariables false
set_option linter.unusedSimpArgs false
set_option linter.unnecessarySimpa false
set_option maxRecDepth 100000
namespace Go.Proofs.YtiboeelbmgnbgaaGreatDoor
open Go Go.Av Go.RowKit Go.Cq
theorem main (W : World) (hs : @SeatLay (zFO W)) (avs : List AV) (h : zLM Tryz.prog 8 Tryz.f4.params.toList avs) : @zAe (zFO W) Tryz.prog 4 avs [] (.bool true) [] := by
 letI := zFO W
 haveI := hs
 obtain ⟨l, rfl, h1⟩ := zFs h
 exact zGu (zLr l fun c hc m hm n hn => by
  obtain ⟨_, _, _, _, k1⟩ := h1.2 c hc
  obtain ⟨_, _, _, ⟨_, k2⟩, _⟩ := k1 m hm
  exact (k2 n hn).1.1)
theorem zOB : Rows.PrintSourcesSaid := said main
theorem printSources_card : Rows.PrintSourcesCardSaid := card main
end Go.Proofs.YtiboeelbmgnbgaaGreatDoor

