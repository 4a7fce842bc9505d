/-
  DERIVED. GIVEN WITH THE SEED: THE CARDS: each row of YtplddbaggbdbiaaDoorRows.lean that lists a variable, with what it lists TIED to the program's text (the seventh form; the later family's looks); each row that meets fmt, with fmt's text TOLD by the authors' own Lean function (tested against real Go, not proved from fmt's source: count such statements apart). THE CARD IS WHAT COUNTS. Prove the row's statement (the work); the ties are given (YtplddbaggbdbiaaDoorTie.lean); close each card by the builder's one call (the guide's Derived/Test/ToyasCard.lean, 'card_holds'). Laid BY PROGRAM, IN A SANDBOX (cutbox-door.mjs). By AI agents, Wed Nov 11 2026. No macro, syntax, notation, axiom, sorry.
-/
import Derived.Test.YtplddbaggbdbiaaDoorRows
import GoSem.ClaimSeven
namespace Go.Proofs.YtplddbaggbdbiaaDoor
namespace Rows

/-- THE TIED CARD OF 'oubliettelaw31.LeafOnce'. -/
def leafOnceCard : Claim7 := { stood := { row := leafOnceRow, standIns := [], harness := (true, "181fb78133663a31b998ad37df34509c1deddcef42171d8e62c73aa77d1dbc4a"), looks := true }, kinds := [], alts := [], laidByText := true, laidKinds := [.data, .pinned], laidTests := true, laidLooks := .later }
def LeafOnceCardSaid : Prop := Claim7.holds Tryd.pinned (.plain (OpenSpec.ofChange leafOnceSpec)) leafOnceCard

/-- THE TIED CARD OF 'oubliettelaw33.RatchetForgets'. -/
def ratchetForgetsCard : Claim7 := { stood := { row := ratchetForgetsRow, standIns := [], harness := (true, "181fb78133663a31b998ad37df34509c1deddcef42171d8e62c73aa77d1dbc4a"), looks := true }, kinds := [], alts := [], laidByText := true, laidKinds := [.data, .data, .data, .data], laidTests := true, laidLooks := .later }
def RatchetForgetsCardSaid : Prop := Claim7.holds Tryd.pinned (.plain (OpenSpec.ofChange ratchetForgetsSpec)) ratchetForgetsCard

/-- THE TIED CARD OF 'oubliettelaw31.LeafNames'. -/
def leafNamesCard : Claim7 := { stood := { row := leafNamesRow, standIns := [], harness := (true, "181fb78133663a31b998ad37df34509c1deddcef42171d8e62c73aa77d1dbc4a"), looks := true }, kinds := [], alts := [], laidByText := true, laidKinds := [.data, .pinned], laidTests := true, laidLooks := .later }
def LeafNamesCardSaid : Prop := Claim7.holds Tryd.pinned (.plain (OpenSpec.ofChange leafNamesSpec)) leafNamesCard

/-- THE SECOND FORM's CARD OF 'oubliettelaw31.LeafOnce'. -/
def leafOnceUptoCard : Claim7 := { stood := { row := leafOnceUptoRow, standIns := [], harness := (true, "181fb78133663a31b998ad37df34509c1deddcef42171d8e62c73aa77d1dbc4a"), looks := true }, kinds := [], alts := [], laidByText := true, laidKinds := [.data, .pinned], laidTests := true, laidLooks := .later }
def LeafOnceUptoCardSaid : Prop := Claim7.holds Tryd.pinned (.plain (OpenSpec.upto leafOnceSpec)) leafOnceUptoCard

/-- THE SECOND FORM's CARD OF 'oubliettelaw33.RatchetForgets'. -/
def ratchetForgetsUptoCard : Claim7 := { stood := { row := ratchetForgetsUptoRow, standIns := [], harness := (true, "181fb78133663a31b998ad37df34509c1deddcef42171d8e62c73aa77d1dbc4a"), looks := true }, kinds := [], alts := [], laidByText := true, laidKinds := [.data, .data, .data, .data], laidTests := true, laidLooks := .later }
def RatchetForgetsUptoCardSaid : Prop := Claim7.holds Tryd.pinned (.plain (OpenSpec.upto ratchetForgetsSpec)) ratchetForgetsUptoCard

/-- THE SECOND FORM's CARD OF 'oubliettelaw31.LeafNames'. -/
def leafNamesUptoCard : Claim7 := { stood := { row := leafNamesUptoRow, standIns := [], harness := (true, "181fb78133663a31b998ad37df34509c1deddcef42171d8e62c73aa77d1dbc4a"), looks := true }, kinds := [], alts := [], laidByText := true, laidKinds := [.data, .pinned], laidTests := true, laidLooks := .later }
def LeafNamesUptoCardSaid : Prop := Claim7.holds Tryd.pinned (.plain (OpenSpec.upto leafNamesSpec)) leafNamesUptoCard
end Rows
end Go.Proofs.YtplddbaggbdbiaaDoor
