/-
  DERIVED. GIVEN WITH THE SEED: THE CARDS: each row of YtadenlhnfkccaaaDoorRows.lean that lists a variable, with what it lists TIED to the program's text (the seventh form; the later family's looks); each row that meets fmt, with fmt's text TOLD by the authors' own Lean function (tested against real Go, not proved from fmt's source: count such statements apart). THE CARD IS WHAT COUNTS. Prove the row's statement (the work); the ties are given (YtadenlhnfkccaaaDoorTie.lean); close each card by the builder's one call (the guide's Derived/Test/ToyasCard.lean, 'card_holds'). Laid BY PROGRAM, IN A SANDBOX (cutbox-door.mjs). By AI agents, Wed Nov 11 2026. No macro, syntax, notation, axiom, sorry.
-/
import Derived.Test.YtadenlhnfkccaaaDoorRows
import GoSem.ClaimSeven
namespace Go.Proofs.YtadenlhnfkccaaaDoor
namespace Rows

/-- THE TIED CARD OF 'oubliettelaw39.OpPrints'. -/
def opPrintsCard : Claim7 := { stood := { row := opPrintsRow, standIns := [], harness := (true, "fe784710fb39b2a8f3a06305eb4d3b0e6a2b7f1d99ffb033a31a138169661a1f"), looks := false }, kinds := [], alts := [], laidByText := true, laidKinds := [.data, .data, .data, .data, .pinned], laidTests := true, laidLooks := .later }
def OpPrintsCardSaid : Prop := Claim7.holds Tryd.pinned (.plain (OpenSpec.ofChange opPrintsSpec)) opPrintsCard

/-- THE TIED CARD OF 'oubliettelaw39.OpBack'. -/
def opBackCard : Claim7 := { stood := { row := opBackRow, standIns := [], harness := (true, "fe784710fb39b2a8f3a06305eb4d3b0e6a2b7f1d99ffb033a31a138169661a1f"), looks := false }, kinds := [], alts := [], laidByText := true, laidKinds := [.data, .data, .data, .data, .pinned], laidTests := true, laidLooks := .later }
def OpBackCardSaid : Prop := Claim7.holds Tryd.pinned (.plain (OpenSpec.ofChange opBackSpec)) opBackCard

/-- THE TIED CARD OF 'oubliettelaw41.ScriptBack'. -/
def scriptBackCard : Claim7 := { stood := { row := scriptBackRow, standIns := [], harness := (true, "fe784710fb39b2a8f3a06305eb4d3b0e6a2b7f1d99ffb033a31a138169661a1f"), looks := false }, kinds := [], alts := [], laidByText := true, laidKinds := [.data, .data, .data, .data, .pinned], laidTests := true, laidLooks := .later }
def ScriptBackCardSaid : Prop := Claim7.holds Tryd.pinned (.plain (OpenSpec.ofChange scriptBackSpec)) scriptBackCard

/-- THE SECOND FORM's CARD OF 'oubliettelaw39.OpPrints'. -/
def opPrintsUptoCard : Claim7 := { stood := { row := opPrintsUptoRow, standIns := [], harness := (true, "fe784710fb39b2a8f3a06305eb4d3b0e6a2b7f1d99ffb033a31a138169661a1f"), looks := false }, kinds := [], alts := [], laidByText := true, laidKinds := [.data, .data, .data, .data, .pinned], laidTests := true, laidLooks := .later }
def OpPrintsUptoCardSaid : Prop := Claim7.holds Tryd.pinned (.plain (OpenSpec.upto opPrintsSpec)) opPrintsUptoCard

/-- THE SECOND FORM's CARD OF 'oubliettelaw39.OpBack'. -/
def opBackUptoCard : Claim7 := { stood := { row := opBackUptoRow, standIns := [], harness := (true, "fe784710fb39b2a8f3a06305eb4d3b0e6a2b7f1d99ffb033a31a138169661a1f"), looks := false }, kinds := [], alts := [], laidByText := true, laidKinds := [.data, .data, .data, .data, .pinned], laidTests := true, laidLooks := .later }
def OpBackUptoCardSaid : Prop := Claim7.holds Tryd.pinned (.plain (OpenSpec.upto opBackSpec)) opBackUptoCard

/-- THE SECOND FORM's CARD OF 'oubliettelaw41.ScriptBack'. -/
def scriptBackUptoCard : Claim7 := { stood := { row := scriptBackUptoRow, standIns := [], harness := (true, "fe784710fb39b2a8f3a06305eb4d3b0e6a2b7f1d99ffb033a31a138169661a1f"), looks := false }, kinds := [], alts := [], laidByText := true, laidKinds := [.data, .data, .data, .data, .pinned], laidTests := true, laidLooks := .later }
def ScriptBackUptoCardSaid : Prop := Claim7.holds Tryd.pinned (.plain (OpenSpec.upto scriptBackSpec)) scriptBackUptoCard
end Rows
end Go.Proofs.YtadenlhnfkccaaaDoor
