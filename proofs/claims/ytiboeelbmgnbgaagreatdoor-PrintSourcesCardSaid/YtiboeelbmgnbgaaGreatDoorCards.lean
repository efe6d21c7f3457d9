/-
  DERIVED. GIVEN WITH THE SEED: THE CARDS: each row of YtiboeelbmgnbgaaGreatDoorRows.lean that lists a variable, with what it lists TIED to the program's text (the seventh form; the later family's looks); each row that meets fmt, with fmt's text TOLD by the authors' own Lean function (tested against real Go, not proved from fmt's source: count such statements apart). THE CARD IS WHAT COUNTS. Prove the row's statement (the work); the ties are given (YtiboeelbmgnbgaaGreatDoorTie.lean); close each card by the builder's one call (the guide's Derived/Test/ToyasCard.lean, 'card_holds'). Laid BY PROGRAM, IN A SANDBOX (cutbox-door.mjs). By AI agents, Wed Nov 11 2026. No macro, syntax, notation, axiom, sorry.
-/
import Derived.Test.YtiboeelbmgnbgaaGreatDoorRows
import GoSem.ClaimSeven
namespace Go.Proofs.YtiboeelbmgnbgaaGreatDoor
namespace Rows

/-- THE TIED CARD OF 'colloquylaw16.PrintWrites'. -/
def printWritesCard : Claim7 := { stood := { row := printWritesRow, standIns := [], harness := (true, "18c76f123aa3ce07eeb4f196d40cd3feb79ed169fa732ed6951aab6f9d6601d2"), looks := true }, kinds := [], alts := [], laidByText := true, laidKinds := [.data, .handle, .pinned], laidTests := true, laidLooks := .later }
def PrintWritesCardSaid : Prop := Claim7.holds Tryz.pinned (.plain (OpenSpec.ofChange printWritesSpec)) printWritesCard

/-- THE TIED CARD OF 'colloquylaw16.PrintSources'. -/
def printSourcesCard : Claim7 := { stood := { row := printSourcesRow, standIns := [], harness := (true, "18c76f123aa3ce07eeb4f196d40cd3feb79ed169fa732ed6951aab6f9d6601d2"), looks := true }, kinds := [], alts := [], laidByText := true, laidKinds := [.data, .handle, .pinned], laidTests := true, laidLooks := .later }
def PrintSourcesCardSaid : Prop := Claim7.holds Tryz.pinned (.plain (OpenSpec.ofChange printSourcesSpec)) printSourcesCard

/-- THE TIED CARD OF 'colloquylaw14.TreeTells'. -/
def treeTellsCard : Claim7 := { stood := { row := treeTellsRow, standIns := [], harness := (true, "18c76f123aa3ce07eeb4f196d40cd3feb79ed169fa732ed6951aab6f9d6601d2"), looks := true }, kinds := [], alts := [], laidByText := true, laidKinds := [.data, .handle, .pinned], laidTests := true, laidLooks := .later }
def TreeTellsCardSaid : Prop := Claim7.holds Tryz.pinned (.plain (OpenSpec.ofChange treeTellsSpec)) treeTellsCard

/-- THE TIED CARD OF 'colloquylaw14.TreeAll'. -/
def treeAllCard : Claim7 := { stood := { row := treeAllRow, standIns := [], harness := (true, "18c76f123aa3ce07eeb4f196d40cd3feb79ed169fa732ed6951aab6f9d6601d2"), looks := true }, kinds := [], alts := [], laidByText := true, laidKinds := [.data, .handle, .pinned], laidTests := true, laidLooks := .later }
def TreeAllCardSaid : Prop := Claim7.holds Tryz.pinned (.plain (OpenSpec.ofChange treeAllSpec)) treeAllCard

/-- THE TIED CARD OF 'colloquylaw14.TreeBound'. -/
def treeBoundCard : Claim7 := { stood := { row := treeBoundRow, standIns := [], harness := (true, "18c76f123aa3ce07eeb4f196d40cd3feb79ed169fa732ed6951aab6f9d6601d2"), looks := true }, kinds := [], alts := [], laidByText := true, laidKinds := [.data, .handle, .pinned], laidTests := true, laidLooks := .later }
def TreeBoundCardSaid : Prop := Claim7.holds Tryz.pinned (.plain (OpenSpec.ofChange treeBoundSpec)) treeBoundCard

/-- THE TIED CARD OF 'colloquylaw14.TreeOrder'. -/
def treeOrderCard : Claim7 := { stood := { row := treeOrderRow, standIns := [], harness := (true, "18c76f123aa3ce07eeb4f196d40cd3feb79ed169fa732ed6951aab6f9d6601d2"), looks := true }, kinds := [], alts := [], laidByText := true, laidKinds := [.data, .handle, .pinned], laidTests := true, laidLooks := .later }
def TreeOrderCardSaid : Prop := Claim7.holds Tryz.pinned (.plain (OpenSpec.ofChange treeOrderSpec)) treeOrderCard

/-- THE TIED CARD OF 'colloquylaw15.ParseReads'. -/
def parseReadsCard : Claim7 := { stood := { row := parseReadsRow, standIns := [], harness := (true, "18c76f123aa3ce07eeb4f196d40cd3feb79ed169fa732ed6951aab6f9d6601d2"), looks := true }, kinds := [], alts := [], laidByText := true, laidKinds := [.data, .handle, .pinned], laidTests := true, laidLooks := .later }
def ParseReadsCardSaid : Prop := Claim7.holds Tryz.pinned (.plain (OpenSpec.ofChange parseReadsSpec)) parseReadsCard

/-- THE TIED CARD OF 'colloquylaw15.ParseSources'. -/
def parseSourcesCard : Claim7 := { stood := { row := parseSourcesRow, standIns := [], harness := (true, "18c76f123aa3ce07eeb4f196d40cd3feb79ed169fa732ed6951aab6f9d6601d2"), looks := true }, kinds := [], alts := [], laidByText := true, laidKinds := [.data, .handle, .pinned], laidTests := true, laidLooks := .later }
def ParseSourcesCardSaid : Prop := Claim7.holds Tryz.pinned (.plain (OpenSpec.ofChange parseSourcesSpec)) parseSourcesCard

/-- THE TIED CARD OF 'colloquylaw15.ParseApart'. -/
def parseApartCard : Claim7 := { stood := { row := parseApartRow, standIns := [], harness := (true, "18c76f123aa3ce07eeb4f196d40cd3feb79ed169fa732ed6951aab6f9d6601d2"), looks := true }, kinds := [], alts := [], laidByText := true, laidKinds := [.data, .handle, .pinned], laidTests := true, laidLooks := .later }
def ParseApartCardSaid : Prop := Claim7.holds Tryz.pinned (.plain (OpenSpec.ofChange parseApartSpec)) parseApartCard

/-- THE TIED CARD OF 'colloquylaw15.ParseWithin'. -/
def parseWithinCard : Claim7 := { stood := { row := parseWithinRow, standIns := [], harness := (true, "18c76f123aa3ce07eeb4f196d40cd3feb79ed169fa732ed6951aab6f9d6601d2"), looks := true }, kinds := [], alts := [], laidByText := true, laidKinds := [.data, .handle, .pinned], laidTests := true, laidLooks := .later }
def ParseWithinCardSaid : Prop := Claim7.holds Tryz.pinned (.plain (OpenSpec.ofChange parseWithinSpec)) parseWithinCard

/-- THE SECOND FORM's CARD OF 'colloquylaw16.PrintWrites'. -/
def printWritesUptoCard : Claim7 := { stood := { row := printWritesUptoRow, standIns := [], harness := (true, "18c76f123aa3ce07eeb4f196d40cd3feb79ed169fa732ed6951aab6f9d6601d2"), looks := true }, kinds := [], alts := [], laidByText := true, laidKinds := [.data, .handle, .pinned], laidTests := true, laidLooks := .later }
def PrintWritesUptoCardSaid : Prop := Claim7.holds Tryz.pinned (.plain (OpenSpec.upto printWritesSpec)) printWritesUptoCard

/-- THE SECOND FORM's CARD OF 'colloquylaw16.PrintSources'. -/
def printSourcesUptoCard : Claim7 := { stood := { row := printSourcesUptoRow, standIns := [], harness := (true, "18c76f123aa3ce07eeb4f196d40cd3feb79ed169fa732ed6951aab6f9d6601d2"), looks := true }, kinds := [], alts := [], laidByText := true, laidKinds := [.data, .handle, .pinned], laidTests := true, laidLooks := .later }
def PrintSourcesUptoCardSaid : Prop := Claim7.holds Tryz.pinned (.plain (OpenSpec.upto printSourcesSpec)) printSourcesUptoCard

/-- THE SECOND FORM's CARD OF 'colloquylaw14.TreeTells'. -/
def treeTellsUptoCard : Claim7 := { stood := { row := treeTellsUptoRow, standIns := [], harness := (true, "18c76f123aa3ce07eeb4f196d40cd3feb79ed169fa732ed6951aab6f9d6601d2"), looks := true }, kinds := [], alts := [], laidByText := true, laidKinds := [.data, .handle, .pinned], laidTests := true, laidLooks := .later }
def TreeTellsUptoCardSaid : Prop := Claim7.holds Tryz.pinned (.plain (OpenSpec.upto treeTellsSpec)) treeTellsUptoCard

/-- THE SECOND FORM's CARD OF 'colloquylaw14.TreeAll'. -/
def treeAllUptoCard : Claim7 := { stood := { row := treeAllUptoRow, standIns := [], harness := (true, "18c76f123aa3ce07eeb4f196d40cd3feb79ed169fa732ed6951aab6f9d6601d2"), looks := true }, kinds := [], alts := [], laidByText := true, laidKinds := [.data, .handle, .pinned], laidTests := true, laidLooks := .later }
def TreeAllUptoCardSaid : Prop := Claim7.holds Tryz.pinned (.plain (OpenSpec.upto treeAllSpec)) treeAllUptoCard

/-- THE SECOND FORM's CARD OF 'colloquylaw14.TreeBound'. -/
def treeBoundUptoCard : Claim7 := { stood := { row := treeBoundUptoRow, standIns := [], harness := (true, "18c76f123aa3ce07eeb4f196d40cd3feb79ed169fa732ed6951aab6f9d6601d2"), looks := true }, kinds := [], alts := [], laidByText := true, laidKinds := [.data, .handle, .pinned], laidTests := true, laidLooks := .later }
def TreeBoundUptoCardSaid : Prop := Claim7.holds Tryz.pinned (.plain (OpenSpec.upto treeBoundSpec)) treeBoundUptoCard

/-- THE SECOND FORM's CARD OF 'colloquylaw14.TreeOrder'. -/
def treeOrderUptoCard : Claim7 := { stood := { row := treeOrderUptoRow, standIns := [], harness := (true, "18c76f123aa3ce07eeb4f196d40cd3feb79ed169fa732ed6951aab6f9d6601d2"), looks := true }, kinds := [], alts := [], laidByText := true, laidKinds := [.data, .handle, .pinned], laidTests := true, laidLooks := .later }
def TreeOrderUptoCardSaid : Prop := Claim7.holds Tryz.pinned (.plain (OpenSpec.upto treeOrderSpec)) treeOrderUptoCard

/-- THE SECOND FORM's CARD OF 'colloquylaw15.ParseReads'. -/
def parseReadsUptoCard : Claim7 := { stood := { row := parseReadsUptoRow, standIns := [], harness := (true, "18c76f123aa3ce07eeb4f196d40cd3feb79ed169fa732ed6951aab6f9d6601d2"), looks := true }, kinds := [], alts := [], laidByText := true, laidKinds := [.data, .handle, .pinned], laidTests := true, laidLooks := .later }
def ParseReadsUptoCardSaid : Prop := Claim7.holds Tryz.pinned (.plain (OpenSpec.upto parseReadsSpec)) parseReadsUptoCard

/-- THE SECOND FORM's CARD OF 'colloquylaw15.ParseSources'. -/
def parseSourcesUptoCard : Claim7 := { stood := { row := parseSourcesUptoRow, standIns := [], harness := (true, "18c76f123aa3ce07eeb4f196d40cd3feb79ed169fa732ed6951aab6f9d6601d2"), looks := true }, kinds := [], alts := [], laidByText := true, laidKinds := [.data, .handle, .pinned], laidTests := true, laidLooks := .later }
def ParseSourcesUptoCardSaid : Prop := Claim7.holds Tryz.pinned (.plain (OpenSpec.upto parseSourcesSpec)) parseSourcesUptoCard

/-- THE SECOND FORM's CARD OF 'colloquylaw15.ParseApart'. -/
def parseApartUptoCard : Claim7 := { stood := { row := parseApartUptoRow, standIns := [], harness := (true, "18c76f123aa3ce07eeb4f196d40cd3feb79ed169fa732ed6951aab6f9d6601d2"), looks := true }, kinds := [], alts := [], laidByText := true, laidKinds := [.data, .handle, .pinned], laidTests := true, laidLooks := .later }
def ParseApartUptoCardSaid : Prop := Claim7.holds Tryz.pinned (.plain (OpenSpec.upto parseApartSpec)) parseApartUptoCard

/-- THE SECOND FORM's CARD OF 'colloquylaw15.ParseWithin'. -/
def parseWithinUptoCard : Claim7 := { stood := { row := parseWithinUptoRow, standIns := [], harness := (true, "18c76f123aa3ce07eeb4f196d40cd3feb79ed169fa732ed6951aab6f9d6601d2"), looks := true }, kinds := [], alts := [], laidByText := true, laidKinds := [.data, .handle, .pinned], laidTests := true, laidLooks := .later }
def ParseWithinUptoCardSaid : Prop := Claim7.holds Tryz.pinned (.plain (OpenSpec.upto parseWithinSpec)) parseWithinUptoCard
end Rows
end Go.Proofs.YtiboeelbmgnbgaaGreatDoor
