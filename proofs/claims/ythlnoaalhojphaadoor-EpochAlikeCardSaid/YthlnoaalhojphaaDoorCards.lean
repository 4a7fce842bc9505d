/-
  DERIVED. GIVEN WITH THE SEED: THE CARDS: each row of YthlnoaalhojphaaDoorRows.lean that lists a variable, with what it lists TIED to the program's text (the seventh form; the later family's looks); each row that meets fmt, with fmt's text TOLD by the authors' own Lean function (tested against real Go, not proved from fmt's source: count such statements apart). THE CARD IS WHAT COUNTS. Prove the row's statement (the work); the ties are given (YthlnoaalhojphaaDoorTie.lean); close each card by the builder's one call (the guide's Derived/Test/ToyasCard.lean, 'card_holds'). Laid BY PROGRAM, IN A SANDBOX (cutbox-door.mjs). By AI agents, Wed Nov 11 2026. No macro, syntax, notation, axiom, sorry.
-/
import Derived.Test.YthlnoaalhojphaaDoorRows
import GoSem.ClaimSeven
namespace Go.Proofs.YthlnoaalhojphaaDoor
namespace Rows

/-- THE TIED CARD OF 'oubliettelaw15.TermPlays'. -/
def termPlaysCard : Claim7 := { stood := { row := termPlaysRow, standIns := [], harness := (true, "1604f670878ff16c7233552c9f1788422de9a72b8634ebf14dc415a71ec1b1bb"), looks := true }, kinds := [], alts := [], laidByText := true, laidKinds := [.data, .data, .data], laidTests := true, laidLooks := .later }
def TermPlaysCardSaid : Prop := Claim7.holds Tryd.pinned (.plain (OpenSpec.ofChange termPlaysSpec)) termPlaysCard

/-- THE TIED CARD OF 'oubliettelaw15.TermOnce'. -/
def termOnceCard : Claim7 := { stood := { row := termOnceRow, standIns := [], harness := (true, "1604f670878ff16c7233552c9f1788422de9a72b8634ebf14dc415a71ec1b1bb"), looks := true }, kinds := [], alts := [], laidByText := true, laidKinds := [.data, .data, .data], laidTests := true, laidLooks := .later }
def TermOnceCardSaid : Prop := Claim7.holds Tryd.pinned (.plain (OpenSpec.ofChange termOnceSpec)) termOnceCard

/-- THE TIED CARD OF 'oubliettelaw15.TermSizes'. -/
def termSizesCard : Claim7 := { stood := { row := termSizesRow, standIns := [], harness := (true, "1604f670878ff16c7233552c9f1788422de9a72b8634ebf14dc415a71ec1b1bb"), looks := true }, kinds := [], alts := [], laidByText := true, laidKinds := [.data, .data, .data], laidTests := true, laidLooks := .later }
def TermSizesCardSaid : Prop := Claim7.holds Tryd.pinned (.plain (OpenSpec.ofChange termSizesSpec)) termSizesCard

/-- THE TIED CARD OF 'oubliettelaw34.EpochAlike'. -/
def epochAlikeCard : Claim7 := { stood := { row := epochAlikeRow, standIns := [], harness := (true, "1604f670878ff16c7233552c9f1788422de9a72b8634ebf14dc415a71ec1b1bb"), looks := true }, kinds := [], alts := [], laidByText := true, laidKinds := [.data, .data, .data, .data], laidTests := true, laidLooks := .later }
def EpochAlikeCardSaid : Prop := Claim7.holds Tryd.pinned (.plain (OpenSpec.ofChange epochAlikeSpec)) epochAlikeCard

/-- THE TIED CARD OF 'oubliettelaw33.RatchetForgets'. -/
def ratchetForgetsCard : Claim7 := { stood := { row := ratchetForgetsRow, standIns := [], harness := (true, "1604f670878ff16c7233552c9f1788422de9a72b8634ebf14dc415a71ec1b1bb"), looks := true }, kinds := [], alts := [], laidByText := true, laidKinds := [.data, .data, .data, .data], laidTests := true, laidLooks := .later }
def RatchetForgetsCardSaid : Prop := Claim7.holds Tryd.pinned (.plain (OpenSpec.ofChange ratchetForgetsSpec)) ratchetForgetsCard

/-- THE SECOND FORM's CARD OF 'oubliettelaw15.TermPlays'. -/
def termPlaysUptoCard : Claim7 := { stood := { row := termPlaysUptoRow, standIns := [], harness := (true, "1604f670878ff16c7233552c9f1788422de9a72b8634ebf14dc415a71ec1b1bb"), looks := true }, kinds := [], alts := [], laidByText := true, laidKinds := [.data, .data, .data], laidTests := true, laidLooks := .later }
def TermPlaysUptoCardSaid : Prop := Claim7.holds Tryd.pinned (.plain (OpenSpec.upto termPlaysSpec)) termPlaysUptoCard

/-- THE SECOND FORM's CARD OF 'oubliettelaw15.TermOnce'. -/
def termOnceUptoCard : Claim7 := { stood := { row := termOnceUptoRow, standIns := [], harness := (true, "1604f670878ff16c7233552c9f1788422de9a72b8634ebf14dc415a71ec1b1bb"), looks := true }, kinds := [], alts := [], laidByText := true, laidKinds := [.data, .data, .data], laidTests := true, laidLooks := .later }
def TermOnceUptoCardSaid : Prop := Claim7.holds Tryd.pinned (.plain (OpenSpec.upto termOnceSpec)) termOnceUptoCard

/-- THE SECOND FORM's CARD OF 'oubliettelaw15.TermSizes'. -/
def termSizesUptoCard : Claim7 := { stood := { row := termSizesUptoRow, standIns := [], harness := (true, "1604f670878ff16c7233552c9f1788422de9a72b8634ebf14dc415a71ec1b1bb"), looks := true }, kinds := [], alts := [], laidByText := true, laidKinds := [.data, .data, .data], laidTests := true, laidLooks := .later }
def TermSizesUptoCardSaid : Prop := Claim7.holds Tryd.pinned (.plain (OpenSpec.upto termSizesSpec)) termSizesUptoCard

/-- THE SECOND FORM's CARD OF 'oubliettelaw34.EpochAlike'. -/
def epochAlikeUptoCard : Claim7 := { stood := { row := epochAlikeUptoRow, standIns := [], harness := (true, "1604f670878ff16c7233552c9f1788422de9a72b8634ebf14dc415a71ec1b1bb"), looks := true }, kinds := [], alts := [], laidByText := true, laidKinds := [.data, .data, .data, .data], laidTests := true, laidLooks := .later }
def EpochAlikeUptoCardSaid : Prop := Claim7.holds Tryd.pinned (.plain (OpenSpec.upto epochAlikeSpec)) epochAlikeUptoCard

/-- THE SECOND FORM's CARD OF 'oubliettelaw33.RatchetForgets'. -/
def ratchetForgetsUptoCard : Claim7 := { stood := { row := ratchetForgetsUptoRow, standIns := [], harness := (true, "1604f670878ff16c7233552c9f1788422de9a72b8634ebf14dc415a71ec1b1bb"), looks := true }, kinds := [], alts := [], laidByText := true, laidKinds := [.data, .data, .data, .data], laidTests := true, laidLooks := .later }
def RatchetForgetsUptoCardSaid : Prop := Claim7.holds Tryd.pinned (.plain (OpenSpec.upto ratchetForgetsSpec)) ratchetForgetsUptoCard
end Rows
end Go.Proofs.YthlnoaalhojphaaDoor
