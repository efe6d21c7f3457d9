/- LexReads: for every text, the law colloquylaw13.LexReads returns true: the program reads the words of the text as chapter 13 says, or tells the place of the first thing that is none, or that the text is too long. Conditions: none beyond the card's own. -/
import Derived.Test.YtpagjhigaicfpaaDoorQWa
import Derived.Test.YtpagjhigaicfpaaDoorLaL
import Derived.Test.YtpagjhigaicfpaaDoorRow
set_option linter.unusedSectionVars false
set_option linter.unusedVariables false
set_option linter.unusedSimpArgs false
set_option linter.unusedVariables false
set_option maxRecDepth 100000
namespace Go.Proofs.YtpagjhigaicfpaaDoor
open Go Go.Av Go.RowKit Go.Cq
theorem seatLay (m : Int) : @SeatLay (theLay m) := @SeatLay.mk (theLay m) ⟨m, .inr ⟨rfl, rfl, rfl⟩⟩ (.inl ⟨rfl, rfl, rfl⟩)
theorem ty_str {a : AV} (h : TyV Tryd.prog 8 9 a) : ∃ s, a = .str s := by
  obtain ⟨h1, h2⟩ := h
  have hu : Tryd.prog.underlying 9 = some .string := Tryd.underlying9
  have hs : isStr Tryd.prog 9 = false := by kernel_rfl
  rw [hs, cond_false] at h2
  unfold TyD at h1
  rw [hu] at h1
  simp only at h1
  obtain ⟨s, h3⟩ := h1
  rw [h2] at h3
  first
    | exact ⟨s, by simpa using h3⟩
    | exact ⟨s, by simpa using h3.1⟩
theorem main (m : Int) (avs : List AV) (h : TyAll Tryd.prog 8 Tryd.f3.params.toList avs) : @ACall (theLay m) Tryd.prog 3 avs [] (.bool true) [] := by
  letI := theLay m
  haveI := seatLay m
  match avs, h with
  | [a], h =>
    obtain ⟨s, rfl⟩ := ty_str h.1
    exact w_law13_LexReads (law_reads s)
theorem lexReads_said : Rows.LexReadsSaid := said main
theorem lexReads_card : Rows.LexReadsCardSaid := card main
end Go.Proofs.YtpagjhigaicfpaaDoor

