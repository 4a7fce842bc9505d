/- The library's tables, as the statements on lines list them. No condition. -/
import Derived.Test.YtadenlhnfkccaaaDoorRows
import Derived.Test.YtadenlhnfkccaaaDoorObOpU
import Derived.Test.YtadenlhnfkccaaaDoorObHand
import Derived.Test.YtadenlhnfkccaaaDoorObPow
import Derived.ProofKit
import Derived.Lay
import Derived.LaidMore
import Derived.LaidOnce
import Derived.PinnedBridge
import Derived.Lib.LaidU8
import Derived.Lib.LaidTab
import Derived.Lib.ItoaNum
import Derived.Stop.Joined
import Derived.Stop.LaidErr
namespace Go.Proofs.YtadenlhnfkccaaaDoor
open Go.RowKit Go.Shelf Go.Lib
abbrev laidS : List (String × DataW Unit) := [("math/bits.deBruijn32tab", Rows.laid_math_bits_deBruijn32tab), ("math/bits.deBruijn64tab", Rows.laid_math_bits_deBruijn64tab), ("internal/strconv.uint64pow10", Rows.laid_internal_strconv_uint64pow10), ("unicode/utf8.acceptRanges", Rows.laid_unicode_utf8_acceptRanges), ("unicode/utf8.first", Rows.laid_unicode_utf8_first)]
theorem pow10_of {W : World} (h : laidMetH Tryd.prog laidS W) : Pow10 W := by
  rw [MakeChecks.laidMetH_plain _ _ _ (by kernel_rfl)] at h
  exact Lib.tabIs_of_head (g := 3) (t := 175) (e := 169) (n := 20) (by kernel_rfl) (by kernel_rfl) Tryd.underlying175 Tryd.underlying169 (by kernel_rfl) (by kernel_rfl) (laidMet.tail (laidMet.tail h))
theorem mlen_of {W : World} (h : W.ShapedOpen Tryd.prog) : MLen W := Tryd.laysM146.s1_3 W h
theorem laid_met (os : Os) (args : Array Value) : laidMetH Tryd.prog laidS ((World.laidAll Tryd.prog os laidS).forCall (fun _ _ => 0) ⟨#[], args, []⟩).memory := by
  rw [MakeChecks.laidMetH_plain _ _ _ (by kernel_rfl)]
  exact laidMet_laidAll _ (by kernel_rfl) (by kernel_rfl)
end Go.Proofs.YtadenlhnfkccaaaDoor
