/-
  No cell of these rows narrows 'for every input' (looked for: loops, veiled, ifaces, maps, wideKeys, modest, calm, conditions, laid).
  DERIVED. THE GIVEN ROWS OF THIS SEAT. 3 by the template 'for every input the law returns true; each argument reads behind the call as it read before'; 0 by the template 'total and deterministic' (their statements: YthlnoaalhojphaaTotals.lean).
  GIVEN WITH THE SEED: the statements are not yours to turn. If you find one false, say at which input.
  Laid BY PROGRAM, IN A SANDBOX (cutbox-rows.mjs): the forced cells as the released guide's own fill.sh prints them over the translation 9f910cca2a74c338… (all of the seat's roots in one cut). By AI agents, Wed Nov 11 2026. No macro, syntax, notation, axiom, sorry.
-/
import Derived.Test.YthlnoaalhojphaaChecked
import GoSem.Claim
import GoSem.ClaimJoined
import GoSem.ClaimMapViews
import Derived.JoinedTies
import Derived.KernelRfl
namespace Go.Proofs.Ythlnoaalhojphaa
/- THE CELL 'sum', in the pinned program and in every row, IS THE sha256 OF THE DUMP (.gsa) THAT YthlnoaalhojphaaProg.lean LOADS. Nothing in Lean hashes anything: it is a label: what it is worth is what the hold of that sum in a sandbox is worth. -/
noncomputable def Try.pinned : Pinned := { name := "ythlnoaalhojphaa", sum := "9f910cca2a74c338dfdcc17aa88a6b4b37cd52ce1b1e5daa839586c26405a10e", checked := Try.checked }
namespace Rows
def none {H : Type} : Left H := { results := [], args := [] }

/-- 'oubliettelaw16.KnowDerives': WHATEVER THE INPUT: true; the input reads as it did. -/
def knowDerivesSpec : ChangeSpec := { name := "knowDerives", fn := fun _ => fun
  | [d1, d2] => { results := [.lit (.bool true)], args := [d1, d2] }
  | _ => none }
def knowDerivesRow : OpenClaim := { program := "ythlnoaalhojphaa", sum := "9f910cca2a74c338dfdcc17aa88a6b4b37cd52ce1b1e5daa839586c26405a10e", func := "oubliette/oubliettelaw16.KnowDerives", spec := "knowDerives", inPlace := ["maps.clone"], unfollowed := true, recurses := true, plainKeys := false, apart := false }
def KnowDerivesSaid : Prop := knowDerivesRow.holds Try.pinned (OpenSpec.ofChange knowDerivesSpec)

/-- ITS FALSE NEIGHBOUR: 'it returns false'. Refute it at one input. -/
def knowDerivesWrong : ChangeSpec := { name := "knowDerives", fn := fun _ => fun
  | [d1, d2] => { results := [.lit (.bool false)], args := [d1, d2] }
  | _ => none }
def KnowDerivesWrongFalsely : Prop := knowDerivesRow.holds Try.pinned (OpenSpec.ofChange knowDerivesWrong)

/-- 'oubliettelaw16.KnowWhy': WHATEVER THE INPUT: true; the input reads as it did. -/
def knowWhySpec : ChangeSpec := { name := "knowWhy", fn := fun _ => fun
  | [d1, d2, d3] => { results := [.lit (.bool true)], args := [d1, d2, d3] }
  | _ => none }
def knowWhyRow : OpenClaim := { program := "ythlnoaalhojphaa", sum := "9f910cca2a74c338dfdcc17aa88a6b4b37cd52ce1b1e5daa839586c26405a10e", func := "oubliette/oubliettelaw16.KnowWhy", spec := "knowWhy", inPlace := ["maps.clone"], unfollowed := true, recurses := true, plainKeys := false, apart := false }
def KnowWhySaid : Prop := knowWhyRow.holds Try.pinned (OpenSpec.ofChange knowWhySpec)

/-- ITS FALSE NEIGHBOUR: 'it returns false'. Refute it at one input. -/
def knowWhyWrong : ChangeSpec := { name := "knowWhy", fn := fun _ => fun
  | [d1, d2, d3] => { results := [.lit (.bool false)], args := [d1, d2, d3] }
  | _ => none }
def KnowWhyWrongFalsely : Prop := knowWhyRow.holds Try.pinned (OpenSpec.ofChange knowWhyWrong)

/-- 'oubliettelaw16.KnowMore': WHATEVER THE INPUT: true; the input reads as it did. -/
def knowMoreSpec : ChangeSpec := { name := "knowMore", fn := fun _ => fun
  | [d1, d2, d3] => { results := [.lit (.bool true)], args := [d1, d2, d3] }
  | _ => none }
def knowMoreRow : OpenClaim := { program := "ythlnoaalhojphaa", sum := "9f910cca2a74c338dfdcc17aa88a6b4b37cd52ce1b1e5daa839586c26405a10e", func := "oubliette/oubliettelaw16.KnowMore", spec := "knowMore", inPlace := ["maps.clone"], unfollowed := true, recurses := true, plainKeys := false, apart := false }
def KnowMoreSaid : Prop := knowMoreRow.holds Try.pinned (OpenSpec.ofChange knowMoreSpec)

/-- ITS FALSE NEIGHBOUR: 'it returns false'. Refute it at one input. -/
def knowMoreWrong : ChangeSpec := { name := "knowMore", fn := fun _ => fun
  | [d1, d2, d3] => { results := [.lit (.bool false)], args := [d1, d2, d3] }
  | _ => none }
def KnowMoreWrongFalsely : Prop := knowMoreRow.holds Try.pinned (OpenSpec.ofChange knowMoreWrong)

/- THE SECOND FORM. 'bulk': how many values and letters a reading holds, each counted each time it is reached (what is shared counts as often as it is met; a slice's spare places count too). A statement '..UptoSaid' is the law's where the arguments, and the package variables that the reading takes, are together of bulk at most 1048576: NARROWER than '..Said'. Prove '..Said' where nothing that the law and all that it calls make is longer than what came in: it says more and counts as full. Else prove '..UptoSaid'. A law counts once. -/
mutual
def uptoBulk {H : Type} : DataW H → Nat
  | .lit (.string bytes) => bytes.length + 1
  | .lit _ => 1
  | .nil => 1
  | .ptr d => uptoBulk d + 1
  | .slice elems spare => uptoBulkAll elems + uptoBulkAll spare + 1
  | .agg parts => uptoBulkAll parts + 1
  | .iface _ d => uptoBulk d + 1
  | .map entries => uptoBulkEntries entries + 1
  | .held _ => 1
def uptoBulkAll {H : Type} : List (DataW H) → Nat
  | [] => 0
  | d :: r => uptoBulk d + uptoBulkAll r
def uptoBulkEntries {H : Type} : List (Lit × DataW H) → Nat
  | [] => 0
  | x :: r => uptoBulkEntry x + uptoBulkEntries r
def uptoBulkEntry {H : Type} : Lit × DataW H → Nat
  | (.string bytes, d) => bytes.length + uptoBulk d + 1
  | (_, d) => uptoBulk d + 1
 end
def uptoSmall : (H : Type) → List (DataW H) → Bool := fun _ ds => decide (uptoBulkAll ds ≤ 1048576)
def OpenSpec.upto (s : _root_.Go.ChangeSpec) : _root_.Go.OpenSpec := { _root_.Go.OpenSpec.ofChange s with cond := some uptoSmall }

/-- 'oubliettelaw16.KnowDerives', WHERE WHAT IT READS IS OF BULK AT MOST 1048576: true; the input reads as it did. -/
def knowDerivesUptoRow : OpenClaim := { program := "ythlnoaalhojphaa", sum := "9f910cca2a74c338dfdcc17aa88a6b4b37cd52ce1b1e5daa839586c26405a10e", func := "oubliette/oubliettelaw16.KnowDerives", spec := "knowDerives", inPlace := ["maps.clone"], unfollowed := true, recurses := true, plainKeys := false, apart := false, narrowed := true }
def KnowDerivesUptoSaid : Prop := knowDerivesUptoRow.holds Try.pinned (OpenSpec.upto knowDerivesSpec)

/-- 'oubliettelaw16.KnowWhy', WHERE WHAT IT READS IS OF BULK AT MOST 1048576: true; the input reads as it did. -/
def knowWhyUptoRow : OpenClaim := { program := "ythlnoaalhojphaa", sum := "9f910cca2a74c338dfdcc17aa88a6b4b37cd52ce1b1e5daa839586c26405a10e", func := "oubliette/oubliettelaw16.KnowWhy", spec := "knowWhy", inPlace := ["maps.clone"], unfollowed := true, recurses := true, plainKeys := false, apart := false, narrowed := true }
def KnowWhyUptoSaid : Prop := knowWhyUptoRow.holds Try.pinned (OpenSpec.upto knowWhySpec)

/-- 'oubliettelaw16.KnowMore', WHERE WHAT IT READS IS OF BULK AT MOST 1048576: true; the input reads as it did. -/
def knowMoreUptoRow : OpenClaim := { program := "ythlnoaalhojphaa", sum := "9f910cca2a74c338dfdcc17aa88a6b4b37cd52ce1b1e5daa839586c26405a10e", func := "oubliette/oubliettelaw16.KnowMore", spec := "knowMore", inPlace := ["maps.clone"], unfollowed := true, recurses := true, plainKeys := false, apart := false, narrowed := true }
def KnowMoreUptoSaid : Prop := knowMoreUptoRow.holds Try.pinned (OpenSpec.upto knowMoreSpec)

end Rows
end Go.Proofs.Ythlnoaalhojphaa
