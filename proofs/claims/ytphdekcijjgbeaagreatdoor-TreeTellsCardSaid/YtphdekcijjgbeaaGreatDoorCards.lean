/-
  DERIVED. GIVEN WITH THE SEED: THE CARDS: each row of YtphdekcijjgbeaaGreatDoorRows.lean that lists a variable, with what it lists TIED to the program's text (the seventh form; the later family's looks); each row that meets fmt, with fmt's text TOLD by the authors' own Lean function (tested against real Go, not proved from fmt's source: count such statements apart). THE CARD IS WHAT COUNTS. Prove the row's statement (the work); the ties are given (YtphdekcijjgbeaaGreatDoorTie.lean); close each card by the builder's one call (the guide's Derived/Test/ToyasCard.lean, 'card_holds'). Laid BY PROGRAM, IN A SANDBOX (cutbox-door.mjs). By AI agents, Wed Nov 11 2026. No macro, syntax, notation, axiom, sorry.
-/
import Derived.Test.YtphdekcijjgbeaaGreatDoorRows
import GoSem.ClaimSeven
namespace Go.Proofs.YtphdekcijjgbeaaGreatDoor
namespace Rows

/-- THE TIED CARD OF 'colloquylaw14.TreeTells'. -/
def treeTellsCard : Claim7 := { stood := { row := treeTellsRow, standIns := [], harness := (true, "4ba83f81891f7c8ba4c921d1448cd52780a945cb72bb4f7803605059a1674d1d"), looks := true }, kinds := [], alts := [], laidByText := true, laidKinds := [.data, .handle, .pinned], laidTests := true, laidLooks := .later }
def TreeTellsCardSaid : Prop := Claim7.holds Tryz.pinned (.plain (OpenSpec.ofChange treeTellsSpec)) treeTellsCard

/-- THE TIED CARD OF 'colloquylaw14.TreeBound'. -/
def treeBoundCard : Claim7 := { stood := { row := treeBoundRow, standIns := [], harness := (true, "4ba83f81891f7c8ba4c921d1448cd52780a945cb72bb4f7803605059a1674d1d"), looks := true }, kinds := [], alts := [], laidByText := true, laidKinds := [.data, .handle, .pinned], laidTests := true, laidLooks := .later }
def TreeBoundCardSaid : Prop := Claim7.holds Tryz.pinned (.plain (OpenSpec.ofChange treeBoundSpec)) treeBoundCard

/-- THE SECOND FORM's CARD OF 'colloquylaw14.TreeTells'. -/
def treeTellsUptoCard : Claim7 := { stood := { row := treeTellsUptoRow, standIns := [], harness := (true, "4ba83f81891f7c8ba4c921d1448cd52780a945cb72bb4f7803605059a1674d1d"), looks := true }, kinds := [], alts := [], laidByText := true, laidKinds := [.data, .handle, .pinned], laidTests := true, laidLooks := .later }
def TreeTellsUptoCardSaid : Prop := Claim7.holds Tryz.pinned (.plain (OpenSpec.upto treeTellsSpec)) treeTellsUptoCard

/-- THE SECOND FORM's CARD OF 'colloquylaw14.TreeBound'. -/
def treeBoundUptoCard : Claim7 := { stood := { row := treeBoundUptoRow, standIns := [], harness := (true, "4ba83f81891f7c8ba4c921d1448cd52780a945cb72bb4f7803605059a1674d1d"), looks := true }, kinds := [], alts := [], laidByText := true, laidKinds := [.data, .handle, .pinned], laidTests := true, laidLooks := .later }
def TreeBoundUptoCardSaid : Prop := Claim7.holds Tryz.pinned (.plain (OpenSpec.upto treeBoundSpec)) treeBoundUptoCard
end Rows
end Go.Proofs.YtphdekcijjgbeaaGreatDoor
