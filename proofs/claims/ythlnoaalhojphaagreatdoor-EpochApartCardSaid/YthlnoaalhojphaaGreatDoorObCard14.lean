import Derived.Test.YthlnoaalhojphaaGreatDoorRows
import Derived.Test.YthlnoaalhojphaaGreatDoorObSha
import Derived.Test.YthlnoaalhojphaaGreatDoorObPow
import Derived.ProofKit
import Derived.LaidMore
import Derived.Stop.Joined
import Derived.Stop.LaidErr
import Derived.Lib.LaidTab
import Derived.Below
namespace Go.Proofs.YthlnoaalhojphaaGreatDoor
open Go.RowKit

/-! ### the tables, as the door lays them: the Draw laws' list -/
abbrev laidS : List (String × DataW Unit) := [("math/bits.deBruijn32tab", Rows.laid_math_bits_deBruijn32tab), ("math/bits.deBruijn64tab", Rows.laid_math_bits_deBruijn64tab), ("internal/strconv.uint64pow10", Rows.laid_internal_strconv_uint64pow10), ("oubliette/sha.k", Rows.laid_oubliette_sha_k)]
theorem door_met (os : Os) (args : Array Value) : laidMetH Tryz.prog laidS ((World.doorLaid Tryz.prog 400 os).forCall (fun _ _ => 0) ⟨#[], args, []⟩).memory :=
  laidMetH_of_parts3 (fuel := 8) (laidMet_of_run' 8 (by kernel_rfl) (by kernel_rfl)) (by kernel_rfl) (by kernel_rfl)
theorem shaK_of {W : World} (h : laidMetH Tryz.prog laidS W) : ShaK W := by
  rw [MakeChecks.laidMetH_plain _ _ _ (by kernel_rfl)] at h
  exact Lib.tabIs_of_head (g := 2) (t := 138) (e := 137) (n := 64) (by kernel_rfl) (by kernel_rfl) Tryz.underlying138 Tryz.underlying137 (by kernel_rfl) (by kernel_rfl) (laidMet.tail (laidMet.tail (laidMet.tail h)))
theorem pow10_of {W : World} (h : laidMetH Tryz.prog laidS W) : Pow10 W := by
  rw [MakeChecks.laidMetH_plain _ _ _ (by kernel_rfl)] at h
  exact Lib.tabIs_of_head (g := 0) (t := 157) (e := 89) (n := 20) (by kernel_rfl) (by kernel_rfl) Tryz.underlying157 Tryz.underlying89 (by kernel_rfl) (by kernel_rfl) (laidMet.tail (laidMet.tail h))
end Go.Proofs.YthlnoaalhojphaaGreatDoor
