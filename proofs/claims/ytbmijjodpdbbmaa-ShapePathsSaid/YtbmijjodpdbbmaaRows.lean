/-
  No cell of these rows narrows 'for every input' (looked for: loops, veiled, ifaces, maps, wideKeys, modest, calm, conditions, laid).
  DERIVED. THE GIVEN ROWS OF THIS SEAT. 4 by the template 'for every input the law returns true; each argument reads behind the call as it read before'; 0 by the template 'total and deterministic' (their statements: YtbmijjodpdbbmaaTotals.lean).
  GIVEN WITH THE SEED: the statements are not yours to turn. If you find one false, say at which input.
  Laid BY PROGRAM, IN A SANDBOX (cutbox-rows.mjs): the forced cells as the released guide's own fill.sh prints them over the translation 5567dafd745ba55b… (all of the seat's roots in one cut). By AI agents, Wed Nov 11 2026. No macro, syntax, notation, axiom, sorry.
-/
import Derived.Test.YtbmijjodpdbbmaaChecked
import GoSem.Claim
import GoSem.ClaimJoined
import GoSem.ClaimMapViews
import Derived.JoinedTies
import Derived.KernelRfl
namespace Go.Proofs.Ytbmijjodpdbbmaa
/- THE CELL 'sum', in the pinned program and in every row, IS THE sha256 OF THE DUMP (.gsa) THAT YtbmijjodpdbbmaaProg.lean LOADS. Nothing in Lean hashes anything: it is a label: what it is worth is what the hold of that sum in a sandbox is worth. -/
noncomputable def Try.pinned : Pinned := { name := "ytbmijjodpdbbmaa", sum := "5567dafd745ba55b1dbeda5e44111ca4aae0e2b1e7aee76b8f97e8db19d6d39f", checked := Try.checked }
namespace Rows
def none {H : Type} : Left H := { results := [], args := [] }

/-- 'oubliettelaw20.TrailImages': WHATEVER THE INPUT: true; the input reads as it did. -/
def trailImagesSpec : ChangeSpec := { name := "trailImages", fn := fun _ => fun
  | [d1, d2, d3, d4] => { results := [.lit (.bool true)], args := [d1, d2, d3, d4] }
  | _ => none }
def trailImagesRow : OpenClaim := { program := "ytbmijjodpdbbmaa", sum := "5567dafd745ba55b1dbeda5e44111ca4aae0e2b1e7aee76b8f97e8db19d6d39f", func := "oubliette/oubliettelaw20.TrailImages", spec := "trailImages", unfollowed := true, recurses := true, apart := false }
def TrailImagesSaid : Prop := trailImagesRow.holds Try.pinned (OpenSpec.ofChange trailImagesSpec)

/-- ITS FALSE NEIGHBOUR: 'it returns false'. Refute it at one input. -/
def trailImagesWrong : ChangeSpec := { name := "trailImages", fn := fun _ => fun
  | [d1, d2, d3, d4] => { results := [.lit (.bool false)], args := [d1, d2, d3, d4] }
  | _ => none }
def TrailImagesWrongFalsely : Prop := trailImagesRow.holds Try.pinned (OpenSpec.ofChange trailImagesWrong)

/-- 'oubliettelaw20.TrailMore': WHATEVER THE INPUT: true; the input reads as it did. -/
def trailMoreSpec : ChangeSpec := { name := "trailMore", fn := fun _ => fun
  | [d1, d2, d3] => { results := [.lit (.bool true)], args := [d1, d2, d3] }
  | _ => none }
def trailMoreRow : OpenClaim := { program := "ytbmijjodpdbbmaa", sum := "5567dafd745ba55b1dbeda5e44111ca4aae0e2b1e7aee76b8f97e8db19d6d39f", func := "oubliette/oubliettelaw20.TrailMore", spec := "trailMore", unfollowed := true, recurses := true, apart := false }
def TrailMoreSaid : Prop := trailMoreRow.holds Try.pinned (OpenSpec.ofChange trailMoreSpec)

/-- ITS FALSE NEIGHBOUR: 'it returns false'. Refute it at one input. -/
def trailMoreWrong : ChangeSpec := { name := "trailMore", fn := fun _ => fun
  | [d1, d2, d3] => { results := [.lit (.bool false)], args := [d1, d2, d3] }
  | _ => none }
def TrailMoreWrongFalsely : Prop := trailMoreRow.holds Try.pinned (OpenSpec.ofChange trailMoreWrong)

/-- 'oubliettelaw20.TrailSeen': WHATEVER THE INPUT: true; the input reads as it did. -/
def trailSeenSpec : ChangeSpec := { name := "trailSeen", fn := fun _ => fun
  | [d1, d2] => { results := [.lit (.bool true)], args := [d1, d2] }
  | _ => none }
def trailSeenRow : OpenClaim := { program := "ytbmijjodpdbbmaa", sum := "5567dafd745ba55b1dbeda5e44111ca4aae0e2b1e7aee76b8f97e8db19d6d39f", func := "oubliette/oubliettelaw20.TrailSeen", spec := "trailSeen", unfollowed := true, recurses := true, apart := false }
def TrailSeenSaid : Prop := trailSeenRow.holds Try.pinned (OpenSpec.ofChange trailSeenSpec)

/-- ITS FALSE NEIGHBOUR: 'it returns false'. Refute it at one input. -/
def trailSeenWrong : ChangeSpec := { name := "trailSeen", fn := fun _ => fun
  | [d1, d2] => { results := [.lit (.bool false)], args := [d1, d2] }
  | _ => none }
def TrailSeenWrongFalsely : Prop := trailSeenRow.holds Try.pinned (OpenSpec.ofChange trailSeenWrong)

/-- 'oubliettelaw27.ShapePaths': WHATEVER THE INPUT: true; the input reads as it did. -/
def shapePathsSpec : ChangeSpec := { name := "shapePaths", fn := fun _ => fun
  | [d1, d2, d3, d4] => { results := [.lit (.bool true)], args := [d1, d2, d3, d4] }
  | _ => none }
def shapePathsRow : OpenClaim := { program := "ytbmijjodpdbbmaa", sum := "5567dafd745ba55b1dbeda5e44111ca4aae0e2b1e7aee76b8f97e8db19d6d39f", func := "oubliette/oubliettelaw27.ShapePaths", spec := "shapePaths", unfollowed := true, recurses := true, apart := false }
def ShapePathsSaid : Prop := shapePathsRow.holds Try.pinned (OpenSpec.ofChange shapePathsSpec)

/-- ITS FALSE NEIGHBOUR: 'it returns false'. Refute it at one input. -/
def shapePathsWrong : ChangeSpec := { name := "shapePaths", fn := fun _ => fun
  | [d1, d2, d3, d4] => { results := [.lit (.bool false)], args := [d1, d2, d3, d4] }
  | _ => none }
def ShapePathsWrongFalsely : Prop := shapePathsRow.holds Try.pinned (OpenSpec.ofChange shapePathsWrong)

/- THE SECOND FORM. 'bulk': how many values and letters a reading holds, each counted each time it is reached (what is shared counts as often as it is met; a slice's spare places count too). A statement '..UptoSaid' is the law's where the arguments, and the package variables that the reading takes, are together of bulk at most 1048576: NARROWER than '..Said'. Prove '..Said' where nothing that the law and all that it calls make is longer than what came in: it says more and counts as full. Else prove '..UptoSaid'. A law counts once. -/
mutual
def uptoBulk {H : Type} : DataW H → Nat
  | .lit (.string bytes) => bytes.length + 1
  | .lit _ => 1
  | .nil => 1
  | .ptr d => uptoBulk d + 1
  | .slice elems spare => uptoBulkAll elems + uptoBulkAll spare + 1
  | .agg parts => uptoBulkAll parts + 1
  | .iface _ d => uptoBulk d + 1
  | .map entries => uptoBulkEntries entries + 1
  | .held _ => 1
def uptoBulkAll {H : Type} : List (DataW H) → Nat
  | [] => 0
  | d :: r => uptoBulk d + uptoBulkAll r
def uptoBulkEntries {H : Type} : List (Lit × DataW H) → Nat
  | [] => 0
  | x :: r => uptoBulkEntry x + uptoBulkEntries r
def uptoBulkEntry {H : Type} : Lit × DataW H → Nat
  | (.string bytes, d) => bytes.length + uptoBulk d + 1
  | (_, d) => uptoBulk d + 1
 end
def uptoSmall : (H : Type) → List (DataW H) → Bool := fun _ ds => decide (uptoBulkAll ds ≤ 1048576)
def OpenSpec.upto (s : _root_.Go.ChangeSpec) : _root_.Go.OpenSpec := { _root_.Go.OpenSpec.ofChange s with cond := some uptoSmall }

/-- 'oubliettelaw20.TrailImages', WHERE WHAT IT READS IS OF BULK AT MOST 1048576: true; the input reads as it did. -/
def trailImagesUptoRow : OpenClaim := { program := "ytbmijjodpdbbmaa", sum := "5567dafd745ba55b1dbeda5e44111ca4aae0e2b1e7aee76b8f97e8db19d6d39f", func := "oubliette/oubliettelaw20.TrailImages", spec := "trailImages", unfollowed := true, recurses := true, apart := false, narrowed := true }
def TrailImagesUptoSaid : Prop := trailImagesUptoRow.holds Try.pinned (OpenSpec.upto trailImagesSpec)

/-- 'oubliettelaw20.TrailMore', WHERE WHAT IT READS IS OF BULK AT MOST 1048576: true; the input reads as it did. -/
def trailMoreUptoRow : OpenClaim := { program := "ytbmijjodpdbbmaa", sum := "5567dafd745ba55b1dbeda5e44111ca4aae0e2b1e7aee76b8f97e8db19d6d39f", func := "oubliette/oubliettelaw20.TrailMore", spec := "trailMore", unfollowed := true, recurses := true, apart := false, narrowed := true }
def TrailMoreUptoSaid : Prop := trailMoreUptoRow.holds Try.pinned (OpenSpec.upto trailMoreSpec)

/-- 'oubliettelaw20.TrailSeen', WHERE WHAT IT READS IS OF BULK AT MOST 1048576: true; the input reads as it did. -/
def trailSeenUptoRow : OpenClaim := { program := "ytbmijjodpdbbmaa", sum := "5567dafd745ba55b1dbeda5e44111ca4aae0e2b1e7aee76b8f97e8db19d6d39f", func := "oubliette/oubliettelaw20.TrailSeen", spec := "trailSeen", unfollowed := true, recurses := true, apart := false, narrowed := true }
def TrailSeenUptoSaid : Prop := trailSeenUptoRow.holds Try.pinned (OpenSpec.upto trailSeenSpec)

/-- 'oubliettelaw27.ShapePaths', WHERE WHAT IT READS IS OF BULK AT MOST 1048576: true; the input reads as it did. -/
def shapePathsUptoRow : OpenClaim := { program := "ytbmijjodpdbbmaa", sum := "5567dafd745ba55b1dbeda5e44111ca4aae0e2b1e7aee76b8f97e8db19d6d39f", func := "oubliette/oubliettelaw27.ShapePaths", spec := "shapePaths", unfollowed := true, recurses := true, apart := false, narrowed := true }
def ShapePathsUptoSaid : Prop := shapePathsUptoRow.holds Try.pinned (OpenSpec.upto shapePathsSpec)

end Rows
end Go.Proofs.Ytbmijjodpdbbmaa
