/- made: both tables of the same acts. No condition. -/
import Derived.Test.YthlnoaalhojphaaDoorObTermP
namespace Go.Proofs.YthlnoaalhojphaaDoor
open Go.RowKit
set_option linter.unusedVariables false
/-- Both tables. -/
structure Two (w0 w : World) (g bm : Nat) (T : List Nd) (vl vs vx : Value) : Prop where
  f : TbF w0 w g T vl vs bm
  r : RTo w0 w vx T
def RetMade (w0 : World) (T : List Nd) (e : Ending) (w' : World) : Prop := ∃ g bm vl vs vx, e = .returned (.tuple #[.pointer (some ⟨g, 0, none⟩), vx]) ∧ Two w0 w' g bm T vl vs vx
end Go.Proofs.YthlnoaalhojphaaDoor
