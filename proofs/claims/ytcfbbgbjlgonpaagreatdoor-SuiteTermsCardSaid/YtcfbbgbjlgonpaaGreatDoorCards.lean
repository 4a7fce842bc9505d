/-
  DERIVED. GIVEN WITH THE SEED: THE CARDS: each row of YtcfbbgbjlgonpaaGreatDoorRows.lean that lists a variable, with what it lists TIED to the program's text (the seventh form; the later family's looks); each row that meets fmt, with fmt's text TOLD by the authors' own Lean function (tested against real Go, not proved from fmt's source: count such statements apart). THE CARD IS WHAT COUNTS. Prove the row's statement (the work); the ties are given (YtcfbbgbjlgonpaaGreatDoorTie.lean); close each card by the builder's one call (the guide's Derived/Test/ToyasCard.lean, 'card_holds'). Laid BY PROGRAM, IN A SANDBOX (cutbox-door.mjs). By AI agents, Wed Nov 11 2026. No macro, syntax, notation, axiom, sorry.
-/
import Derived.Test.YtcfbbgbjlgonpaaGreatDoorRows
import GoSem.ClaimSeven
namespace Go.Proofs.YtcfbbgbjlgonpaaGreatDoor
namespace Rows

/-- THE TIED CARD OF 'oubliettelaw17.SuiteTerms'. -/
def suiteTermsCard : Claim7 := { stood := { row := suiteTermsRow, standIns := [], harness := (true, "b611159e2b80e8a4968d9461c5d3e4e5e35711d42289c3d14fba557b91b4d092"), looks := true }, kinds := [], alts := [], laidByText := true, laidKinds := [.data, .data, .data, .data], laidTests := true, laidLooks := .later }
def SuiteTermsCardSaid : Prop := Claim7.holds Tryz.pinned (.plain (OpenSpec.ofChange suiteTermsSpec)) suiteTermsCard

/-- THE TIED CARD OF 'oubliettelaw17.SuiteReal'. -/
def suiteRealCard : Claim7 := { stood := { row := suiteRealRow, standIns := [], harness := (true, "b611159e2b80e8a4968d9461c5d3e4e5e35711d42289c3d14fba557b91b4d092"), looks := true }, kinds := [], alts := [], laidByText := true, laidKinds := [.data, .data, .data, .data], laidTests := true, laidLooks := .later }
def SuiteRealCardSaid : Prop := Claim7.holds Tryz.pinned (.plain (OpenSpec.ofChange suiteRealSpec)) suiteRealCard

/-- THE TIED CARD OF 'oubliettelaw17.SuiteBack'. -/
def suiteBackCard : Claim7 := { stood := { row := suiteBackRow, standIns := [], harness := (true, "b611159e2b80e8a4968d9461c5d3e4e5e35711d42289c3d14fba557b91b4d092"), looks := true }, kinds := [], alts := [], laidByText := true, laidKinds := [.data, .data, .data, .data], laidTests := true, laidLooks := .later }
def SuiteBackCardSaid : Prop := Claim7.holds Tryz.pinned (.plain (OpenSpec.ofChange suiteBackSpec)) suiteBackCard

/-- THE SECOND FORM's CARD OF 'oubliettelaw17.SuiteTerms'. -/
def suiteTermsUptoCard : Claim7 := { stood := { row := suiteTermsUptoRow, standIns := [], harness := (true, "b611159e2b80e8a4968d9461c5d3e4e5e35711d42289c3d14fba557b91b4d092"), looks := true }, kinds := [], alts := [], laidByText := true, laidKinds := [.data, .data, .data, .data], laidTests := true, laidLooks := .later }
def SuiteTermsUptoCardSaid : Prop := Claim7.holds Tryz.pinned (.plain (OpenSpec.upto suiteTermsSpec)) suiteTermsUptoCard

/-- THE SECOND FORM's CARD OF 'oubliettelaw17.SuiteReal'. -/
def suiteRealUptoCard : Claim7 := { stood := { row := suiteRealUptoRow, standIns := [], harness := (true, "b611159e2b80e8a4968d9461c5d3e4e5e35711d42289c3d14fba557b91b4d092"), looks := true }, kinds := [], alts := [], laidByText := true, laidKinds := [.data, .data, .data, .data], laidTests := true, laidLooks := .later }
def SuiteRealUptoCardSaid : Prop := Claim7.holds Tryz.pinned (.plain (OpenSpec.upto suiteRealSpec)) suiteRealUptoCard

/-- THE SECOND FORM's CARD OF 'oubliettelaw17.SuiteBack'. -/
def suiteBackUptoCard : Claim7 := { stood := { row := suiteBackUptoRow, standIns := [], harness := (true, "b611159e2b80e8a4968d9461c5d3e4e5e35711d42289c3d14fba557b91b4d092"), looks := true }, kinds := [], alts := [], laidByText := true, laidKinds := [.data, .data, .data, .data], laidTests := true, laidLooks := .later }
def SuiteBackUptoCardSaid : Prop := Claim7.holds Tryz.pinned (.plain (OpenSpec.upto suiteBackSpec)) suiteBackUptoCard
end Rows
end Go.Proofs.YtcfbbgbjlgonpaaGreatDoor
