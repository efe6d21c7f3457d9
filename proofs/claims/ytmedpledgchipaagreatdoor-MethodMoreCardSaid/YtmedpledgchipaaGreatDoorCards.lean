/-
  DERIVED. GIVEN WITH THE SEED: THE CARDS: each row of YtmedpledgchipaaGreatDoorRows.lean that lists a variable, with what it lists TIED to the program's text (the seventh form; the later family's looks); each row that meets fmt, with fmt's text TOLD by the authors' own Lean function (tested against real Go, not proved from fmt's source: count such statements apart). THE CARD IS WHAT COUNTS. Prove the row's statement (the work); the ties are given (YtmedpledgchipaaGreatDoorTie.lean); close each card by the builder's one call (the guide's Derived/Test/ToyasCard.lean, 'card_holds'). Laid BY PROGRAM, IN A SANDBOX (cutbox-door.mjs). By AI agents, Wed Nov 11 2026. No macro, syntax, notation, axiom, sorry.
-/
import Derived.Test.YtmedpledgchipaaGreatDoorRows
import GoSem.ClaimSeven
namespace Go.Proofs.YtmedpledgchipaaGreatDoor
namespace Rows

/-- THE TIED CARD OF 'colloquylaw09.MethodTells'. -/
def methodTellsCard : Claim7 := { stood := { row := methodTellsRow, standIns := [], harness := (true, "ebef5597fa2f8c91f656c39860e74aaa744c8b09caeb368d815de3520bfe89c7"), looks := true }, kinds := [], alts := [], laidByText := true, laidKinds := [.data, .handle, .pinned], laidTests := true, laidLooks := .later }
def MethodTellsCardSaid : Prop := Claim7.holds Tryz.pinned (.plain (OpenSpec.ofChange methodTellsSpec)) methodTellsCard

/-- THE TIED CARD OF 'colloquylaw09.MethodBack'. -/
def methodBackCard : Claim7 := { stood := { row := methodBackRow, standIns := [], harness := (true, "ebef5597fa2f8c91f656c39860e74aaa744c8b09caeb368d815de3520bfe89c7"), looks := true }, kinds := [], alts := [], laidByText := true, laidKinds := [.data, .handle, .pinned], laidTests := true, laidLooks := .later }
def MethodBackCardSaid : Prop := Claim7.holds Tryz.pinned (.plain (OpenSpec.ofChange methodBackSpec)) methodBackCard

/-- THE TIED CARD OF 'colloquylaw09.MethodMore'. -/
def methodMoreCard : Claim7 := { stood := { row := methodMoreRow, standIns := [], harness := (true, "ebef5597fa2f8c91f656c39860e74aaa744c8b09caeb368d815de3520bfe89c7"), looks := true }, kinds := [], alts := [], laidByText := true, laidKinds := [.data, .handle, .pinned], laidTests := true, laidLooks := .later }
def MethodMoreCardSaid : Prop := Claim7.holds Tryz.pinned (.plain (OpenSpec.ofChange methodMoreSpec)) methodMoreCard

/-- THE TIED CARD OF 'colloquylaw09.MethodKeys'. -/
def methodKeysCard : Claim7 := { stood := { row := methodKeysRow, standIns := [], harness := (true, "ebef5597fa2f8c91f656c39860e74aaa744c8b09caeb368d815de3520bfe89c7"), looks := true }, kinds := [], alts := [], laidByText := true, laidKinds := [.data, .handle, .pinned], laidTests := true, laidLooks := .later }
def MethodKeysCardSaid : Prop := Claim7.holds Tryz.pinned (.plain (OpenSpec.ofChange methodKeysSpec)) methodKeysCard

/-- THE SECOND FORM's CARD OF 'colloquylaw09.MethodTells'. -/
def methodTellsUptoCard : Claim7 := { stood := { row := methodTellsUptoRow, standIns := [], harness := (true, "ebef5597fa2f8c91f656c39860e74aaa744c8b09caeb368d815de3520bfe89c7"), looks := true }, kinds := [], alts := [], laidByText := true, laidKinds := [.data, .handle, .pinned], laidTests := true, laidLooks := .later }
def MethodTellsUptoCardSaid : Prop := Claim7.holds Tryz.pinned (.plain (OpenSpec.upto methodTellsSpec)) methodTellsUptoCard

/-- THE SECOND FORM's CARD OF 'colloquylaw09.MethodBack'. -/
def methodBackUptoCard : Claim7 := { stood := { row := methodBackUptoRow, standIns := [], harness := (true, "ebef5597fa2f8c91f656c39860e74aaa744c8b09caeb368d815de3520bfe89c7"), looks := true }, kinds := [], alts := [], laidByText := true, laidKinds := [.data, .handle, .pinned], laidTests := true, laidLooks := .later }
def MethodBackUptoCardSaid : Prop := Claim7.holds Tryz.pinned (.plain (OpenSpec.upto methodBackSpec)) methodBackUptoCard

/-- THE SECOND FORM's CARD OF 'colloquylaw09.MethodMore'. -/
def methodMoreUptoCard : Claim7 := { stood := { row := methodMoreUptoRow, standIns := [], harness := (true, "ebef5597fa2f8c91f656c39860e74aaa744c8b09caeb368d815de3520bfe89c7"), looks := true }, kinds := [], alts := [], laidByText := true, laidKinds := [.data, .handle, .pinned], laidTests := true, laidLooks := .later }
def MethodMoreUptoCardSaid : Prop := Claim7.holds Tryz.pinned (.plain (OpenSpec.upto methodMoreSpec)) methodMoreUptoCard

/-- THE SECOND FORM's CARD OF 'colloquylaw09.MethodKeys'. -/
def methodKeysUptoCard : Claim7 := { stood := { row := methodKeysUptoRow, standIns := [], harness := (true, "ebef5597fa2f8c91f656c39860e74aaa744c8b09caeb368d815de3520bfe89c7"), looks := true }, kinds := [], alts := [], laidByText := true, laidKinds := [.data, .handle, .pinned], laidTests := true, laidLooks := .later }
def MethodKeysUptoCardSaid : Prop := Claim7.holds Tryz.pinned (.plain (OpenSpec.upto methodKeysSpec)) methodKeysUptoCard
end Rows
end Go.Proofs.YtmedpledgchipaaGreatDoor
