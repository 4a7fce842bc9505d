/-
  No cell of these rows narrows 'for every input' (looked for: loops, veiled, ifaces, maps, wideKeys, modest, calm, conditions, laid).
  DERIVED. THE GIVEN ROWS OF THIS SEAT. 7 by the template 'for every input the law returns true; each argument reads behind the call as it read before'; 0 by the template 'total and deterministic' (their statements: YtemfhfhhhjeflaaTotals.lean).
  GIVEN WITH THE SEED: the statements are not yours to turn. If you find one false, say at which input.
  Laid BY PROGRAM, IN A SANDBOX (cutbox-rows.mjs): the forced cells as the released guide's own fill.sh prints them over the translation 2d39abd80d1181db… (all of the seat's roots in one cut). By AI agents, Wed Nov 11 2026. No macro, syntax, notation, axiom, sorry.
-/
import Derived.Test.YtemfhfhhhjeflaaChecked
import GoSem.Claim
import GoSem.ClaimJoined
import GoSem.ClaimMapViews
import Derived.JoinedTies
import Derived.KernelRfl
namespace Go.Proofs.Ytemfhfhhhjeflaa
/- THE CELL 'sum', in the pinned program and in every row, IS THE sha256 OF THE DUMP (.gsa) THAT YtemfhfhhhjeflaaProg.lean LOADS. Nothing in Lean hashes anything: it is a label: what it is worth is what the hold of that sum in a sandbox is worth. -/
noncomputable def Try.pinned : Pinned := { name := "ytemfhfhhhjeflaa", sum := "2d39abd80d1181db4533d9b7a65b4d6fd365089e8870834da5681943cd039a74", checked := Try.checked }
namespace Rows
def none {H : Type} : Left H := { results := [], args := [] }

/-- 'oubliettelaw40.VerdictJudges': WHATEVER THE INPUT: true; the input reads as it did. -/
def verdictJudgesSpec : ChangeSpec := { name := "verdictJudges", fn := fun _ => fun
  | [d1, d2, d3, d4] => { results := [.lit (.bool true)], args := [d1, d2, d3, d4] }
  | _ => none }
def verdictJudgesRow : OpenClaim := { program := "ytemfhfhhhjeflaa", sum := "2d39abd80d1181db4533d9b7a65b4d6fd365089e8870834da5681943cd039a74", func := "oubliette/oubliettelaw40.VerdictJudges", spec := "verdictJudges", unfollowed := true, recurses := true, plainKeys := false, apart := false }
def VerdictJudgesSaid : Prop := verdictJudgesRow.holds Try.pinned (OpenSpec.ofChange verdictJudgesSpec)

/-- ITS FALSE NEIGHBOUR: 'it returns false'. Refute it at one input. -/
def verdictJudgesWrong : ChangeSpec := { name := "verdictJudges", fn := fun _ => fun
  | [d1, d2, d3, d4] => { results := [.lit (.bool false)], args := [d1, d2, d3, d4] }
  | _ => none }
def VerdictJudgesWrongFalsely : Prop := verdictJudgesRow.holds Try.pinned (OpenSpec.ofChange verdictJudgesWrong)

/-- 'oubliettelaw01.NumBytes': WHATEVER THE INPUT: true; the input reads as it did. -/
def numBytesSpec : ChangeSpec := { name := "numBytes", fn := fun _ => fun
  | [d1, d2, d3] => { results := [.lit (.bool true)], args := [d1, d2, d3] }
  | _ => none }
def numBytesRow : OpenClaim := { program := "ytemfhfhhhjeflaa", sum := "2d39abd80d1181db4533d9b7a65b4d6fd365089e8870834da5681943cd039a74", func := "oubliette/oubliettelaw01.NumBytes", spec := "numBytes", unfollowed := true, recurses := true, plainKeys := false, apart := false }
def NumBytesSaid : Prop := numBytesRow.holds Try.pinned (OpenSpec.ofChange numBytesSpec)

/-- ITS FALSE NEIGHBOUR: 'it returns false'. Refute it at one input. -/
def numBytesWrong : ChangeSpec := { name := "numBytes", fn := fun _ => fun
  | [d1, d2, d3] => { results := [.lit (.bool false)], args := [d1, d2, d3] }
  | _ => none }
def NumBytesWrongFalsely : Prop := numBytesRow.holds Try.pinned (OpenSpec.ofChange numBytesWrong)

/-- 'oubliettelaw01.NumRows': WHATEVER THE INPUT: true; the input reads as it did. -/
def numRowsSpec : ChangeSpec := { name := "numRows", fn := fun _ => fun
  | [d1, d2, d3] => { results := [.lit (.bool true)], args := [d1, d2, d3] }
  | _ => none }
def numRowsRow : OpenClaim := { program := "ytemfhfhhhjeflaa", sum := "2d39abd80d1181db4533d9b7a65b4d6fd365089e8870834da5681943cd039a74", func := "oubliette/oubliettelaw01.NumRows", spec := "numRows", unfollowed := true, recurses := true, plainKeys := false, apart := false }
def NumRowsSaid : Prop := numRowsRow.holds Try.pinned (OpenSpec.ofChange numRowsSpec)

/-- ITS FALSE NEIGHBOUR: 'it returns false'. Refute it at one input. -/
def numRowsWrong : ChangeSpec := { name := "numRows", fn := fun _ => fun
  | [d1, d2, d3] => { results := [.lit (.bool false)], args := [d1, d2, d3] }
  | _ => none }
def NumRowsWrongFalsely : Prop := numRowsRow.holds Try.pinned (OpenSpec.ofChange numRowsWrong)

/-- 'oubliettelaw20.TrailDiffs': WHATEVER THE INPUT: true; the input reads as it did. -/
def trailDiffsSpec : ChangeSpec := { name := "trailDiffs", fn := fun _ => fun
  | [d1, d2, d3, d4, d5] => { results := [.lit (.bool true)], args := [d1, d2, d3, d4, d5] }
  | _ => none }
def trailDiffsRow : OpenClaim := { program := "ytemfhfhhhjeflaa", sum := "2d39abd80d1181db4533d9b7a65b4d6fd365089e8870834da5681943cd039a74", func := "oubliette/oubliettelaw20.TrailDiffs", spec := "trailDiffs", unfollowed := true, recurses := true, plainKeys := false, apart := false }
def TrailDiffsSaid : Prop := trailDiffsRow.holds Try.pinned (OpenSpec.ofChange trailDiffsSpec)

/-- ITS FALSE NEIGHBOUR: 'it returns false'. Refute it at one input. -/
def trailDiffsWrong : ChangeSpec := { name := "trailDiffs", fn := fun _ => fun
  | [d1, d2, d3, d4, d5] => { results := [.lit (.bool false)], args := [d1, d2, d3, d4, d5] }
  | _ => none }
def TrailDiffsWrongFalsely : Prop := trailDiffsRow.holds Try.pinned (OpenSpec.ofChange trailDiffsWrong)

/-- 'oubliettelaw27.ShapeLooks': WHATEVER THE INPUT: true; the input reads as it did. -/
def shapeLooksSpec : ChangeSpec := { name := "shapeLooks", fn := fun _ => fun
  | [d1, d2, d3] => { results := [.lit (.bool true)], args := [d1, d2, d3] }
  | _ => none }
def shapeLooksRow : OpenClaim := { program := "ytemfhfhhhjeflaa", sum := "2d39abd80d1181db4533d9b7a65b4d6fd365089e8870834da5681943cd039a74", func := "oubliette/oubliettelaw27.ShapeLooks", spec := "shapeLooks", plainKeys := false, apart := false }
def ShapeLooksSaid : Prop := shapeLooksRow.holds Try.pinned (OpenSpec.ofChange shapeLooksSpec)

/-- ITS FALSE NEIGHBOUR: 'it returns false'. Refute it at one input. -/
def shapeLooksWrong : ChangeSpec := { name := "shapeLooks", fn := fun _ => fun
  | [d1, d2, d3] => { results := [.lit (.bool false)], args := [d1, d2, d3] }
  | _ => none }
def ShapeLooksWrongFalsely : Prop := shapeLooksRow.holds Try.pinned (OpenSpec.ofChange shapeLooksWrong)

/-- 'oubliettelaw27.ShapeWhole': WHATEVER THE INPUT: true; the input reads as it did. -/
def shapeWholeSpec : ChangeSpec := { name := "shapeWhole", fn := fun _ => fun
  | [d] => { results := [.lit (.bool true)], args := [d] }
  | _ => none }
def shapeWholeRow : OpenClaim := { program := "ytemfhfhhhjeflaa", sum := "2d39abd80d1181db4533d9b7a65b4d6fd365089e8870834da5681943cd039a74", func := "oubliette/oubliettelaw27.ShapeWhole", spec := "shapeWhole", plainKeys := false, apart := false }
def ShapeWholeSaid : Prop := shapeWholeRow.holds Try.pinned (OpenSpec.ofChange shapeWholeSpec)

/-- ITS FALSE NEIGHBOUR: 'it returns false'. Refute it at one input. -/
def shapeWholeWrong : ChangeSpec := { name := "shapeWhole", fn := fun _ => fun
  | [d] => { results := [.lit (.bool false)], args := [d] }
  | _ => none }
def ShapeWholeWrongFalsely : Prop := shapeWholeRow.holds Try.pinned (OpenSpec.ofChange shapeWholeWrong)

/-- 'oubliettelaw16.KnowDerives': WHATEVER THE INPUT: true; the input reads as it did. -/
def knowDerivesSpec : ChangeSpec := { name := "knowDerives", fn := fun _ => fun
  | [d1, d2] => { results := [.lit (.bool true)], args := [d1, d2] }
  | _ => none }
def knowDerivesRow : OpenClaim := { program := "ytemfhfhhhjeflaa", sum := "2d39abd80d1181db4533d9b7a65b4d6fd365089e8870834da5681943cd039a74", func := "oubliette/oubliettelaw16.KnowDerives", spec := "knowDerives", inPlace := ["maps.clone"], unfollowed := true, recurses := true, plainKeys := false, apart := false }
def KnowDerivesSaid : Prop := knowDerivesRow.holds Try.pinned (OpenSpec.ofChange knowDerivesSpec)

/-- ITS FALSE NEIGHBOUR: 'it returns false'. Refute it at one input. -/
def knowDerivesWrong : ChangeSpec := { name := "knowDerives", fn := fun _ => fun
  | [d1, d2] => { results := [.lit (.bool false)], args := [d1, d2] }
  | _ => none }
def KnowDerivesWrongFalsely : Prop := knowDerivesRow.holds Try.pinned (OpenSpec.ofChange knowDerivesWrong)

/- THE SECOND FORM. 'bulk': how many values and letters a reading holds, each counted each time it is reached (what is shared counts as often as it is met; a slice's spare places count too). A statement '..UptoSaid' is the law's where the arguments, and the package variables that the reading takes, are together of bulk at most 1048576: NARROWER than '..Said'. Prove '..Said' where nothing that the law and all that it calls make is longer than what came in: it says more and counts as full. Else prove '..UptoSaid'. A law counts once. -/
mutual
def uptoBulk {H : Type} : DataW H → Nat
  | .lit (.string bytes) => bytes.length + 1
  | .lit _ => 1
  | .nil => 1
  | .ptr d => uptoBulk d + 1
  | .slice elems spare => uptoBulkAll elems + uptoBulkAll spare + 1
  | .agg parts => uptoBulkAll parts + 1
  | .iface _ d => uptoBulk d + 1
  | .map entries => uptoBulkEntries entries + 1
  | .held _ => 1
def uptoBulkAll {H : Type} : List (DataW H) → Nat
  | [] => 0
  | d :: r => uptoBulk d + uptoBulkAll r
def uptoBulkEntries {H : Type} : List (Lit × DataW H) → Nat
  | [] => 0
  | x :: r => uptoBulkEntry x + uptoBulkEntries r
def uptoBulkEntry {H : Type} : Lit × DataW H → Nat
  | (.string bytes, d) => bytes.length + uptoBulk d + 1
  | (_, d) => uptoBulk d + 1
 end
def uptoSmall : (H : Type) → List (DataW H) → Bool := fun _ ds => decide (uptoBulkAll ds ≤ 1048576)
def OpenSpec.upto (s : _root_.Go.ChangeSpec) : _root_.Go.OpenSpec := { _root_.Go.OpenSpec.ofChange s with cond := some uptoSmall }

/-- 'oubliettelaw40.VerdictJudges', WHERE WHAT IT READS IS OF BULK AT MOST 1048576: true; the input reads as it did. -/
def verdictJudgesUptoRow : OpenClaim := { program := "ytemfhfhhhjeflaa", sum := "2d39abd80d1181db4533d9b7a65b4d6fd365089e8870834da5681943cd039a74", func := "oubliette/oubliettelaw40.VerdictJudges", spec := "verdictJudges", unfollowed := true, recurses := true, plainKeys := false, apart := false, narrowed := true }
def VerdictJudgesUptoSaid : Prop := verdictJudgesUptoRow.holds Try.pinned (OpenSpec.upto verdictJudgesSpec)

/-- 'oubliettelaw01.NumBytes', WHERE WHAT IT READS IS OF BULK AT MOST 1048576: true; the input reads as it did. -/
def numBytesUptoRow : OpenClaim := { program := "ytemfhfhhhjeflaa", sum := "2d39abd80d1181db4533d9b7a65b4d6fd365089e8870834da5681943cd039a74", func := "oubliette/oubliettelaw01.NumBytes", spec := "numBytes", unfollowed := true, recurses := true, plainKeys := false, apart := false, narrowed := true }
def NumBytesUptoSaid : Prop := numBytesUptoRow.holds Try.pinned (OpenSpec.upto numBytesSpec)

/-- 'oubliettelaw01.NumRows', WHERE WHAT IT READS IS OF BULK AT MOST 1048576: true; the input reads as it did. -/
def numRowsUptoRow : OpenClaim := { program := "ytemfhfhhhjeflaa", sum := "2d39abd80d1181db4533d9b7a65b4d6fd365089e8870834da5681943cd039a74", func := "oubliette/oubliettelaw01.NumRows", spec := "numRows", unfollowed := true, recurses := true, plainKeys := false, apart := false, narrowed := true }
def NumRowsUptoSaid : Prop := numRowsUptoRow.holds Try.pinned (OpenSpec.upto numRowsSpec)

/-- 'oubliettelaw20.TrailDiffs', WHERE WHAT IT READS IS OF BULK AT MOST 1048576: true; the input reads as it did. -/
def trailDiffsUptoRow : OpenClaim := { program := "ytemfhfhhhjeflaa", sum := "2d39abd80d1181db4533d9b7a65b4d6fd365089e8870834da5681943cd039a74", func := "oubliette/oubliettelaw20.TrailDiffs", spec := "trailDiffs", unfollowed := true, recurses := true, plainKeys := false, apart := false, narrowed := true }
def TrailDiffsUptoSaid : Prop := trailDiffsUptoRow.holds Try.pinned (OpenSpec.upto trailDiffsSpec)

/-- 'oubliettelaw27.ShapeLooks', WHERE WHAT IT READS IS OF BULK AT MOST 1048576: true; the input reads as it did. -/
def shapeLooksUptoRow : OpenClaim := { program := "ytemfhfhhhjeflaa", sum := "2d39abd80d1181db4533d9b7a65b4d6fd365089e8870834da5681943cd039a74", func := "oubliette/oubliettelaw27.ShapeLooks", spec := "shapeLooks", plainKeys := false, apart := false, narrowed := true }
def ShapeLooksUptoSaid : Prop := shapeLooksUptoRow.holds Try.pinned (OpenSpec.upto shapeLooksSpec)

/-- 'oubliettelaw27.ShapeWhole', WHERE WHAT IT READS IS OF BULK AT MOST 1048576: true; the input reads as it did. -/
def shapeWholeUptoRow : OpenClaim := { program := "ytemfhfhhhjeflaa", sum := "2d39abd80d1181db4533d9b7a65b4d6fd365089e8870834da5681943cd039a74", func := "oubliette/oubliettelaw27.ShapeWhole", spec := "shapeWhole", plainKeys := false, apart := false, narrowed := true }
def ShapeWholeUptoSaid : Prop := shapeWholeUptoRow.holds Try.pinned (OpenSpec.upto shapeWholeSpec)

/-- 'oubliettelaw16.KnowDerives', WHERE WHAT IT READS IS OF BULK AT MOST 1048576: true; the input reads as it did. -/
def knowDerivesUptoRow : OpenClaim := { program := "ytemfhfhhhjeflaa", sum := "2d39abd80d1181db4533d9b7a65b4d6fd365089e8870834da5681943cd039a74", func := "oubliette/oubliettelaw16.KnowDerives", spec := "knowDerives", inPlace := ["maps.clone"], unfollowed := true, recurses := true, plainKeys := false, apart := false, narrowed := true }
def KnowDerivesUptoSaid : Prop := knowDerivesUptoRow.holds Try.pinned (OpenSpec.upto knowDerivesSpec)

end Rows
end Go.Proofs.Ytemfhfhhhjeflaa
