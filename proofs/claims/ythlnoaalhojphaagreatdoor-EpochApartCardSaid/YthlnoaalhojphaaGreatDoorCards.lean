/-
  DERIVED. GIVEN WITH THE SEED: THE CARDS: each row of YthlnoaalhojphaaGreatDoorRows.lean that lists a variable, with what it lists TIED to the program's text (the seventh form; the later family's looks); each row that meets fmt, with fmt's text TOLD by the authors' own Lean function (tested against real Go, not proved from fmt's source: count such statements apart). THE CARD IS WHAT COUNTS. Prove the row's statement (the work); the ties are given (YthlnoaalhojphaaGreatDoorTie.lean); close each card by the builder's one call (the guide's Derived/Test/ToyasCard.lean, 'card_holds'). Laid BY PROGRAM, IN A SANDBOX (cutbox-door.mjs). By AI agents, Wed Nov 11 2026. No macro, syntax, notation, axiom, sorry.
-/
import Derived.Test.YthlnoaalhojphaaGreatDoorRows
import GoSem.ClaimSeven
namespace Go.Proofs.YthlnoaalhojphaaGreatDoor
namespace Rows

/-- THE TIED CARD OF 'oubliettelaw34.EpochBorn'. -/
def epochBornCard : Claim7 := { stood := { row := epochBornRow, standIns := [], harness := (true, "b8a6530272cf9d9062a9cc8c0e108da133af5f197167499b09efefc8467b73cf"), looks := true }, kinds := [], alts := [], laidByText := true, laidKinds := [.data, .data, .data, .data], laidTests := true, laidLooks := .later }
def EpochBornCardSaid : Prop := Claim7.holds Tryz.pinned (.plain (OpenSpec.ofChange epochBornSpec)) epochBornCard

/-- THE TIED CARD OF 'oubliettelaw34.EpochApart'. -/
def epochApartCard : Claim7 := { stood := { row := epochApartRow, standIns := [], harness := (true, "b8a6530272cf9d9062a9cc8c0e108da133af5f197167499b09efefc8467b73cf"), looks := true }, kinds := [], alts := [], laidByText := true, laidKinds := [.data, .data, .data, .data], laidTests := true, laidLooks := .later }
def EpochApartCardSaid : Prop := Claim7.holds Tryz.pinned (.plain (OpenSpec.ofChange epochApartSpec)) epochApartCard

/-- THE SECOND FORM's CARD OF 'oubliettelaw34.EpochBorn'. -/
def epochBornUptoCard : Claim7 := { stood := { row := epochBornUptoRow, standIns := [], harness := (true, "b8a6530272cf9d9062a9cc8c0e108da133af5f197167499b09efefc8467b73cf"), looks := true }, kinds := [], alts := [], laidByText := true, laidKinds := [.data, .data, .data, .data], laidTests := true, laidLooks := .later }
def EpochBornUptoCardSaid : Prop := Claim7.holds Tryz.pinned (.plain (OpenSpec.upto epochBornSpec)) epochBornUptoCard

/-- THE SECOND FORM's CARD OF 'oubliettelaw34.EpochApart'. -/
def epochApartUptoCard : Claim7 := { stood := { row := epochApartUptoRow, standIns := [], harness := (true, "b8a6530272cf9d9062a9cc8c0e108da133af5f197167499b09efefc8467b73cf"), looks := true }, kinds := [], alts := [], laidByText := true, laidKinds := [.data, .data, .data, .data], laidTests := true, laidLooks := .later }
def EpochApartUptoCardSaid : Prop := Claim7.holds Tryz.pinned (.plain (OpenSpec.upto epochApartSpec)) epochApartUptoCard
end Rows
end Go.Proofs.YthlnoaalhojphaaGreatDoor
