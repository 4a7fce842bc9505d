/-
  DERIVED. GIVEN WITH THE SEED: THE CARDS: each row of YtbmijjodpdbbmaaDoorRows.lean that lists a variable, with what it lists TIED to the program's text (the seventh form; the later family's looks); each row that meets fmt, with fmt's text TOLD by the authors' own Lean function (tested against real Go, not proved from fmt's source: count such statements apart). THE CARD IS WHAT COUNTS. Prove the row's statement (the work); the ties are given (YtbmijjodpdbbmaaDoorTie.lean); close each card by the builder's one call (the guide's Derived/Test/ToyasCard.lean, 'card_holds'). Laid BY PROGRAM, IN A SANDBOX (cutbox-door.mjs). By AI agents, Wed Nov 11 2026. No macro, syntax, notation, axiom, sorry.
-/
import Derived.Test.YtbmijjodpdbbmaaDoorRows
import GoSem.ClaimSeven
namespace Go.Proofs.YtbmijjodpdbbmaaDoor
namespace Rows

/-- THE TIED CARD OF 'oubliettelaw33.RatchetSteps'. -/
def ratchetStepsCard : Claim7 := { stood := { row := ratchetStepsRow, standIns := [], harness := (true, "06e96b624e1a1e80d6cd24d8efa430c7f1b99377f2914b8f3d458e1f603d563c"), looks := true }, kinds := [], alts := [], laidByText := true, laidKinds := [.data], laidTests := true, laidLooks := .later }
def RatchetStepsCardSaid : Prop := Claim7.holds Tryd.pinned (.plain (OpenSpec.ofChange ratchetStepsSpec)) ratchetStepsCard

/-- THE TIED CARD OF 'oubliettelaw33.RatchetOnce'. -/
def ratchetOnceCard : Claim7 := { stood := { row := ratchetOnceRow, standIns := [], harness := (true, "06e96b624e1a1e80d6cd24d8efa430c7f1b99377f2914b8f3d458e1f603d563c"), looks := true }, kinds := [], alts := [], laidByText := true, laidKinds := [.data], laidTests := true, laidLooks := .later }
def RatchetOnceCardSaid : Prop := Claim7.holds Tryd.pinned (.plain (OpenSpec.ofChange ratchetOnceSpec)) ratchetOnceCard

/-- THE TIED CARD OF 'oubliettelaw03.NameJoins'. -/
def nameJoinsCard : Claim7 := { stood := { row := nameJoinsRow, standIns := [], harness := (true, "06e96b624e1a1e80d6cd24d8efa430c7f1b99377f2914b8f3d458e1f603d563c"), looks := true }, kinds := [], alts := [], laidByText := true, laidKinds := [.data, .pinned], laidTests := true, laidLooks := .later }
def NameJoinsCardSaid : Prop := Claim7.holds Tryd.pinned (.plain (OpenSpec.ofChange nameJoinsSpec)) nameJoinsCard

/-- THE TIED CARD OF 'oubliettelaw03.NameBack'. -/
def nameBackCard : Claim7 := { stood := { row := nameBackRow, standIns := [], harness := (true, "06e96b624e1a1e80d6cd24d8efa430c7f1b99377f2914b8f3d458e1f603d563c"), looks := true }, kinds := [], alts := [], laidByText := true, laidKinds := [.data, .pinned], laidTests := true, laidLooks := .later }
def NameBackCardSaid : Prop := Claim7.holds Tryd.pinned (.plain (OpenSpec.ofChange nameBackSpec)) nameBackCard

/-- THE TIED CARD OF 'oubliettelaw14.DrawKeys'. -/
def drawKeysCard : Claim7 := { stood := { row := drawKeysRow, standIns := [], harness := (true, "06e96b624e1a1e80d6cd24d8efa430c7f1b99377f2914b8f3d458e1f603d563c"), looks := true }, kinds := [], alts := [], laidByText := true, laidKinds := [.data, .data, .data, .data], laidTests := true, laidLooks := .later }
def DrawKeysCardSaid : Prop := Claim7.holds Tryd.pinned (.plain (OpenSpec.ofChange drawKeysSpec)) drawKeysCard

/-- THE TIED CARD OF 'oubliettelaw14.DrawAlike'. -/
def drawAlikeCard : Claim7 := { stood := { row := drawAlikeRow, standIns := [], harness := (true, "06e96b624e1a1e80d6cd24d8efa430c7f1b99377f2914b8f3d458e1f603d563c"), looks := true }, kinds := [], alts := [], laidByText := true, laidKinds := [.data, .data, .data, .data], laidTests := true, laidLooks := .later }
def DrawAlikeCardSaid : Prop := Claim7.holds Tryd.pinned (.plain (OpenSpec.ofChange drawAlikeSpec)) drawAlikeCard

/-- THE TIED CARD OF 'oubliettelaw14.DrawBytes'. -/
def drawBytesCard : Claim7 := { stood := { row := drawBytesRow, standIns := [], harness := (true, "06e96b624e1a1e80d6cd24d8efa430c7f1b99377f2914b8f3d458e1f603d563c"), looks := true }, kinds := [], alts := [], laidByText := true, laidKinds := [.data, .data, .data, .data], laidTests := true, laidLooks := .later }
def DrawBytesCardSaid : Prop := Claim7.holds Tryd.pinned (.plain (OpenSpec.ofChange drawBytesSpec)) drawBytesCard

/-- THE SECOND FORM's CARD OF 'oubliettelaw33.RatchetSteps'. -/
def ratchetStepsUptoCard : Claim7 := { stood := { row := ratchetStepsUptoRow, standIns := [], harness := (true, "06e96b624e1a1e80d6cd24d8efa430c7f1b99377f2914b8f3d458e1f603d563c"), looks := true }, kinds := [], alts := [], laidByText := true, laidKinds := [.data], laidTests := true, laidLooks := .later }
def RatchetStepsUptoCardSaid : Prop := Claim7.holds Tryd.pinned (.plain (OpenSpec.upto ratchetStepsSpec)) ratchetStepsUptoCard

/-- THE SECOND FORM's CARD OF 'oubliettelaw33.RatchetOnce'. -/
def ratchetOnceUptoCard : Claim7 := { stood := { row := ratchetOnceUptoRow, standIns := [], harness := (true, "06e96b624e1a1e80d6cd24d8efa430c7f1b99377f2914b8f3d458e1f603d563c"), looks := true }, kinds := [], alts := [], laidByText := true, laidKinds := [.data], laidTests := true, laidLooks := .later }
def RatchetOnceUptoCardSaid : Prop := Claim7.holds Tryd.pinned (.plain (OpenSpec.upto ratchetOnceSpec)) ratchetOnceUptoCard

/-- THE SECOND FORM's CARD OF 'oubliettelaw03.NameJoins'. -/
def nameJoinsUptoCard : Claim7 := { stood := { row := nameJoinsUptoRow, standIns := [], harness := (true, "06e96b624e1a1e80d6cd24d8efa430c7f1b99377f2914b8f3d458e1f603d563c"), looks := true }, kinds := [], alts := [], laidByText := true, laidKinds := [.data, .pinned], laidTests := true, laidLooks := .later }
def NameJoinsUptoCardSaid : Prop := Claim7.holds Tryd.pinned (.plain (OpenSpec.upto nameJoinsSpec)) nameJoinsUptoCard

/-- THE SECOND FORM's CARD OF 'oubliettelaw03.NameBack'. -/
def nameBackUptoCard : Claim7 := { stood := { row := nameBackUptoRow, standIns := [], harness := (true, "06e96b624e1a1e80d6cd24d8efa430c7f1b99377f2914b8f3d458e1f603d563c"), looks := true }, kinds := [], alts := [], laidByText := true, laidKinds := [.data, .pinned], laidTests := true, laidLooks := .later }
def NameBackUptoCardSaid : Prop := Claim7.holds Tryd.pinned (.plain (OpenSpec.upto nameBackSpec)) nameBackUptoCard

/-- THE SECOND FORM's CARD OF 'oubliettelaw14.DrawKeys'. -/
def drawKeysUptoCard : Claim7 := { stood := { row := drawKeysUptoRow, standIns := [], harness := (true, "06e96b624e1a1e80d6cd24d8efa430c7f1b99377f2914b8f3d458e1f603d563c"), looks := true }, kinds := [], alts := [], laidByText := true, laidKinds := [.data, .data, .data, .data], laidTests := true, laidLooks := .later }
def DrawKeysUptoCardSaid : Prop := Claim7.holds Tryd.pinned (.plain (OpenSpec.upto drawKeysSpec)) drawKeysUptoCard

/-- THE SECOND FORM's CARD OF 'oubliettelaw14.DrawAlike'. -/
def drawAlikeUptoCard : Claim7 := { stood := { row := drawAlikeUptoRow, standIns := [], harness := (true, "06e96b624e1a1e80d6cd24d8efa430c7f1b99377f2914b8f3d458e1f603d563c"), looks := true }, kinds := [], alts := [], laidByText := true, laidKinds := [.data, .data, .data, .data], laidTests := true, laidLooks := .later }
def DrawAlikeUptoCardSaid : Prop := Claim7.holds Tryd.pinned (.plain (OpenSpec.upto drawAlikeSpec)) drawAlikeUptoCard

/-- THE SECOND FORM's CARD OF 'oubliettelaw14.DrawBytes'. -/
def drawBytesUptoCard : Claim7 := { stood := { row := drawBytesUptoRow, standIns := [], harness := (true, "06e96b624e1a1e80d6cd24d8efa430c7f1b99377f2914b8f3d458e1f603d563c"), looks := true }, kinds := [], alts := [], laidByText := true, laidKinds := [.data, .data, .data, .data], laidTests := true, laidLooks := .later }
def DrawBytesUptoCardSaid : Prop := Claim7.holds Tryd.pinned (.plain (OpenSpec.upto drawBytesSpec)) drawBytesUptoCard
end Rows
end Go.Proofs.YtbmijjodpdbbmaaDoor
