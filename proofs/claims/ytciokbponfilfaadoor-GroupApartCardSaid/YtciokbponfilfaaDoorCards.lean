/-
  DERIVED. GIVEN WITH THE SEED: THE CARDS: each row of YtciokbponfilfaaDoorRows.lean that lists a variable, with what it lists TIED to the program's text (the seventh form; the later family's looks); each row that meets fmt, with fmt's text TOLD by the authors' own Lean function (tested against real Go, not proved from fmt's source: count such statements apart). THE CARD IS WHAT COUNTS. Prove the row's statement (the work); the ties are given (YtciokbponfilfaaDoorTie.lean); close each card by the builder's one call (the guide's Derived/Test/ToyasCard.lean, 'card_holds'). Laid BY PROGRAM, IN A SANDBOX (cutbox-door.mjs). By AI agents, Wed Nov 11 2026. No macro, syntax, notation, axiom, sorry.
-/
import Derived.Test.YtciokbponfilfaaDoorRows
import GoSem.ClaimSeven
namespace Go.Proofs.YtciokbponfilfaaDoor
namespace Rows

/-- THE TIED CARD OF 'oubliettelaw03.NameJoins'. -/
def nameJoinsCard : Claim7 := { stood := { row := nameJoinsRow, standIns := [], harness := (true, "2e923e04641d8db321af0636e3d0e45ac50539574c727da654a8e9e91d0d38d7"), looks := false }, kinds := [], alts := [], laidByText := true, laidKinds := [.data, .pinned], laidTests := true, laidLooks := .later }
def NameJoinsCardSaid : Prop := Claim7.holds Tryd.pinned (.plain (OpenSpec.ofChange nameJoinsSpec)) nameJoinsCard

/-- THE TIED CARD OF 'oubliettelaw03.NameBack'. -/
def nameBackCard : Claim7 := { stood := { row := nameBackRow, standIns := [], harness := (true, "2e923e04641d8db321af0636e3d0e45ac50539574c727da654a8e9e91d0d38d7"), looks := false }, kinds := [], alts := [], laidByText := true, laidKinds := [.data, .pinned], laidTests := true, laidLooks := .later }
def NameBackCardSaid : Prop := Claim7.holds Tryd.pinned (.plain (OpenSpec.ofChange nameBackSpec)) nameBackCard

/-- THE TIED CARD OF 'oubliettelaw35.GroupApart'. -/
def groupApartCard : Claim7 := { stood := { row := groupApartRow, standIns := [], harness := (true, "2e923e04641d8db321af0636e3d0e45ac50539574c727da654a8e9e91d0d38d7"), looks := false }, kinds := [], alts := [], laidByText := true, laidKinds := [.data, .data, .data, .data, .pinned], laidTests := true, laidLooks := .later }
def GroupApartCardSaid : Prop := Claim7.holds Tryd.pinned (.plain (OpenSpec.ofChange groupApartSpec)) groupApartCard

/-- THE SECOND FORM's CARD OF 'oubliettelaw03.NameJoins'. -/
def nameJoinsUptoCard : Claim7 := { stood := { row := nameJoinsUptoRow, standIns := [], harness := (true, "2e923e04641d8db321af0636e3d0e45ac50539574c727da654a8e9e91d0d38d7"), looks := false }, kinds := [], alts := [], laidByText := true, laidKinds := [.data, .pinned], laidTests := true, laidLooks := .later }
def NameJoinsUptoCardSaid : Prop := Claim7.holds Tryd.pinned (.plain (OpenSpec.upto nameJoinsSpec)) nameJoinsUptoCard

/-- THE SECOND FORM's CARD OF 'oubliettelaw03.NameBack'. -/
def nameBackUptoCard : Claim7 := { stood := { row := nameBackUptoRow, standIns := [], harness := (true, "2e923e04641d8db321af0636e3d0e45ac50539574c727da654a8e9e91d0d38d7"), looks := false }, kinds := [], alts := [], laidByText := true, laidKinds := [.data, .pinned], laidTests := true, laidLooks := .later }
def NameBackUptoCardSaid : Prop := Claim7.holds Tryd.pinned (.plain (OpenSpec.upto nameBackSpec)) nameBackUptoCard

/-- THE SECOND FORM's CARD OF 'oubliettelaw35.GroupApart'. -/
def groupApartUptoCard : Claim7 := { stood := { row := groupApartUptoRow, standIns := [], harness := (true, "2e923e04641d8db321af0636e3d0e45ac50539574c727da654a8e9e91d0d38d7"), looks := false }, kinds := [], alts := [], laidByText := true, laidKinds := [.data, .data, .data, .data, .pinned], laidTests := true, laidLooks := .later }
def GroupApartUptoCardSaid : Prop := Claim7.holds Tryd.pinned (.plain (OpenSpec.upto groupApartSpec)) groupApartUptoCard
end Rows
end Go.Proofs.YtciokbponfilfaaDoor
