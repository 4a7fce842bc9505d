/-
  DERIVED. GIVEN WITH THE SEED: THE CARDS: each row of YtdkmlmbehlooiaaGreatDoorRows.lean that lists a variable, with what it lists TIED to the program's text (the seventh form; the later family's looks); each row that meets fmt, with fmt's text TOLD by the authors' own Lean function (tested against real Go, not proved from fmt's source: count such statements apart). THE CARD IS WHAT COUNTS. Prove the row's statement (the work); the ties are given (YtdkmlmbehlooiaaGreatDoorTie.lean); close each card by the builder's one call (the guide's Derived/Test/ToyasCard.lean, 'card_holds'). Laid BY PROGRAM, IN A SANDBOX (cutbox-door.mjs). By AI agents, Wed Nov 11 2026. No macro, syntax, notation, axiom, sorry.
-/
import Derived.Test.YtdkmlmbehlooiaaGreatDoorRows
import GoSem.ClaimSeven
namespace Go.Proofs.YtdkmlmbehlooiaaGreatDoor
namespace Rows

/-- THE TIED CARD OF 'oubliettelaw30.TreeNils'. -/
def treeNilsCard : Claim7 := { stood := { row := treeNilsRow, standIns := [], harness := (true, "30befe23d7ec1edb5940cf99790f1022097c40f769d9fc0dca2f3db5fb24e5c7"), looks := true }, kinds := [], alts := [], laidByText := true, laidKinds := [.data, .data, .data, .data, .data, .pinned], laidTests := true, laidLooks := .later }
def TreeNilsCardSaid : Prop := Claim7.holds Tryz.pinned (.plain (OpenSpec.ofChange treeNilsSpec)) treeNilsCard

/-- THE SECOND FORM's CARD OF 'oubliettelaw30.TreeNils'. -/
def treeNilsUptoCard : Claim7 := { stood := { row := treeNilsUptoRow, standIns := [], harness := (true, "30befe23d7ec1edb5940cf99790f1022097c40f769d9fc0dca2f3db5fb24e5c7"), looks := true }, kinds := [], alts := [], laidByText := true, laidKinds := [.data, .data, .data, .data, .data, .pinned], laidTests := true, laidLooks := .later }
def TreeNilsUptoCardSaid : Prop := Claim7.holds Tryz.pinned (.plain (OpenSpec.upto treeNilsSpec)) treeNilsUptoCard
end Rows
end Go.Proofs.YtdkmlmbehlooiaaGreatDoor
