/-
  DERIVED. GIVEN WITH THE SEED: THE CARDS: each row of YtfemhhjmfckicaaGreatDoorRows.lean that lists a variable, with what it lists TIED to the program's text (the seventh form; the later family's looks); each row that meets fmt, with fmt's text TOLD by the authors' own Lean function (tested against real Go, not proved from fmt's source: count such statements apart). THE CARD IS WHAT COUNTS. Prove the row's statement (the work); the ties are given (YtfemhhjmfckicaaGreatDoorTie.lean); close each card by the builder's one call (the guide's Derived/Test/ToyasCard.lean, 'card_holds'). Laid BY PROGRAM, IN A SANDBOX (cutbox-door.mjs). By AI agents, Wed Nov 11 2026. No macro, syntax, notation, axiom, sorry.
-/
import Derived.Test.YtfemhhjmfckicaaGreatDoorRows
import GoSem.ClaimSeven
namespace Go.Proofs.YtfemhhjmfckicaaGreatDoor
namespace Rows

/-- THE TIED CARD OF 'oubliettelaw31.LeafLooks'. -/
def leafLooksCard : Claim7 := { stood := { row := leafLooksRow, standIns := [], harness := (true, "e8a2116d1cc66c1a19ee0bf21918248460bbe83ecc093a79386fff297b1b8e93"), looks := true }, kinds := [], alts := [], laidByText := true, laidKinds := [.data, .pinned], laidTests := true, laidLooks := .later }
def LeafLooksCardSaid : Prop := Claim7.holds Tryz.pinned (.plain (OpenSpec.ofChange leafLooksSpec)) leafLooksCard

/-- THE TIED CARD OF 'oubliettelaw17.SuiteApart'. -/
def suiteApartCard : Claim7 := { stood := { row := suiteApartRow, standIns := [], harness := (true, "e8a2116d1cc66c1a19ee0bf21918248460bbe83ecc093a79386fff297b1b8e93"), looks := true }, kinds := [], alts := [], laidByText := true, laidKinds := [.data, .data, .data, .data], laidTests := true, laidLooks := .later }
def SuiteApartCardSaid : Prop := Claim7.holds Tryz.pinned (.plain (OpenSpec.ofChange suiteApartSpec)) suiteApartCard

/-- THE SECOND FORM's CARD OF 'oubliettelaw31.LeafLooks'. -/
def leafLooksUptoCard : Claim7 := { stood := { row := leafLooksUptoRow, standIns := [], harness := (true, "e8a2116d1cc66c1a19ee0bf21918248460bbe83ecc093a79386fff297b1b8e93"), looks := true }, kinds := [], alts := [], laidByText := true, laidKinds := [.data, .pinned], laidTests := true, laidLooks := .later }
def LeafLooksUptoCardSaid : Prop := Claim7.holds Tryz.pinned (.plain (OpenSpec.upto leafLooksSpec)) leafLooksUptoCard

/-- THE SECOND FORM's CARD OF 'oubliettelaw17.SuiteApart'. -/
def suiteApartUptoCard : Claim7 := { stood := { row := suiteApartUptoRow, standIns := [], harness := (true, "e8a2116d1cc66c1a19ee0bf21918248460bbe83ecc093a79386fff297b1b8e93"), looks := true }, kinds := [], alts := [], laidByText := true, laidKinds := [.data, .data, .data, .data], laidTests := true, laidLooks := .later }
def SuiteApartUptoCardSaid : Prop := Claim7.holds Tryz.pinned (.plain (OpenSpec.upto suiteApartSpec)) suiteApartUptoCard
end Rows
end Go.Proofs.YtfemhhjmfckicaaGreatDoor
