import Derived.Test.YtbmijjodpdbbmaaDoorRows
import Derived.Test.YtbmijjodpdbbmaaDoorObSha
import Derived.ProofKit
import Derived.LaidMore
import Derived.Stop.Joined
import Derived.Stop.LaidErr
import Derived.Lib.LaidTab
import Derived.Below
namespace Go.Proofs.YtbmijjodpdbbmaaDoor
open Go.RowKit

/-! ### the tables, as the door lays them: the Ratchet laws' list -/
abbrev laidS : List (String × DataW Unit) := [("oubliette/sha.k", Rows.laid_oubliette_sha_k)]
theorem door_met (os : Os) (args : Array Value) : laidMetH Tryd.prog laidS ((World.doorLaid Tryd.prog 400 os).forCall (fun _ _ => 0) ⟨#[], args, []⟩).memory :=
  laidMetH_of_parts3 (fuel := 8) (laidMet_of_run' 8 (by kernel_rfl) (by kernel_rfl)) (by kernel_rfl) (by kernel_rfl)
theorem shaK_of {W : World} (h : laidMetH Tryd.prog laidS W) : ShaK W := by
  rw [MakeChecks.laidMetH_plain _ _ _ (by kernel_rfl)] at h
  exact Lib.tabIs_of_head (g := 4) (t := 153) (e := 152) (n := 64) (by kernel_rfl) (by kernel_rfl) Tryd.underlying153 Tryd.underlying152 (by kernel_rfl) (by kernel_rfl) h
end Go.Proofs.YtbmijjodpdbbmaaDoor
