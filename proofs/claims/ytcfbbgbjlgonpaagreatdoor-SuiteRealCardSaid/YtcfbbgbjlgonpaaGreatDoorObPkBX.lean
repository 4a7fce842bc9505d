/- Own texts of this claim, one behind the other. No condition. -/
import Derived.Test.YtcfbbgbjlgonpaaGreatDoorObPkAF
import Derived.Test.YtcfbbgbjlgonpaaGreatDoorObPkBM
import Derived.Test.YtcfbbgbjlgonpaaGreatDoorObPkBQ
import Derived.Test.YtcfbbgbjlgonpaaGreatDoorObPkBW
import Derived.Test.YtcfbbgbjlgonpaaGreatDoorRows
import Derived.ProofKit
import Derived.LaidMore
import Derived.Stop.Joined
import Derived.Stop.LaidErr
import Derived.Lib.LaidTab
import Derived.Below

/- SuiteReal: the walk. No condition. -/
namespace Go.Proofs.YtcfbbgbjlgonpaaGreatDoor
open Go.RowKit
set_option linter.unusedVariables false
set_option linter.unusedSimpArgs false
set_option maxRecDepth 100000 in
set_option maxHeartbeats 2000000 in
theorem suiteReal_walk (A B : Option Addr) (n c m d : Nat) (seed : List UInt8) (L : List Sa) (w : World) (hs : Bs w A n c seed) (hL : Sas w B m d L) (hK : ShaK w) :
    Calls Tryz.prog 4 #[.slice A n c, .slice B m d] w fun e w' => e = .returned (.bool true) ∧ Below w.heap.size w w' := by
  show Calls _ _ _ _ fun e w' => e = .returned (.bool true) ∧ Gr w w'
  have k1 := hs.cap; have k2 := hs.max; have k3 := hL.2.1.cap; have k4 := hL.2.1.max
  have HS := Lib.hid hs; have HL := Lib.hid hL; have HSK := Lib.hid hK
  have HZ := Lib.hid hK.lt
  have HSL : Hid (seed.length = n) := hs.len
  have HLT := Lib.hid (light17_any B m d L w hL)
  clear hs hL hK
  go_enter Tryz.func4, Tryz.ntmps4
  go_wp2_with fail
  refine HLT.out.mono ?_
  rintro e w1 ⟨q, rfl, hq, h1⟩
  rw [← h1]
  clear h1 w1 HLT
  cases q with
  | false =>
    go_wp2_with (go_at_call 7; refine (alive17_any _).mono ?_; rintro e w1 ⟨rfl, g1⟩; have G1 := Lib.hid g1; clear g1)
    go_ret
    exact ⟨rfl, G1.out⟩
  | true =>
    obtain ⟨h30, hlz⟩ := hq rfl
    have HLZ := Lib.hid hlz
    clear hq hlz
    by_cases h12 : 12 < m
    · have t1 : decide ((12 : Int) < (m : Int)) = true := decide_eq_true (by omega)
      go_wp2_with (go_at_call 7; refine (alive17_any _).mono ?_; rintro e w1 ⟨rfl, g1⟩; have G1 := Lib.hid g1; clear g1)
      go_ret
      exact ⟨rfl, G1.out⟩
    have t1 : decide ((12 : Int) < (m : Int)) = false := decide_eq_false (by omega)
    by_cases h100 : 100 < n
    · have t2 : decide ((100 : Int) < (n : Int)) = true := decide_eq_true (by omega)
      go_wp2_with (go_at_call 7; refine (alive17_any _).mono ?_; rintro e w1 ⟨rfl, g1⟩; have G1 := Lib.hid g1; clear g1)
      go_ret
      exact ⟨rfl, G1.out⟩
    have t2 : decide ((100 : Int) < (n : Int)) = false := decide_eq_false (by omega)
    have hn1000 : n ≤ 1000 := by omega
    go_wp2_with fail
    refine (realNew_any A n c seed w HS.out hn1000 HZ.out).mono ?_
    rintro e w1 ⟨g0, p0, A0, c0, rfl, r1, g1, hg0, hp0⟩
    have R1 := Lib.hid r1; have G1 := Lib.hid g1; have HP0 := Lib.hid hp0
    clear r1 g1 hg0 hp0
    go_wp2_with fail
    refine (realTerms_any g0 w1 R1.out.real R1.out.t0).mono ?_
    rintro e w2 ⟨rfl, h2⟩
    rw [← h2]
    clear h2 w2
    go_wp2_with fail
    refine (realHandle_any g0 1 w1 R1.out.real R1.out.t0).mono ?_
    rintro e w2 ⟨rfl, g2⟩
    have R2 := Lib.hid (R1.out.mono g2); have G2 := Lib.hid (Gr.trans G1.out g2)
    clear g2
    have HPL := Lib.hid (plays_any w w2 G2.out R2.out HP0.out (by omega) (by rw [HSL.out]; omega) HS.out HSK.out B m d L HL.out (by omega) HLZ.out)
    unfold xv xs at HPL
    rw [show ((0 : Nat) : Int) = 0 from rfl] at HPL
    go_wp2_with fail
    refine HPL.out.mono ?_
    rintro e w3 ⟨rfl, g3⟩
    have G3 := Lib.hid g3
    clear g3
    go_wp2_with fail
    refine (alive17_any w3).mono ?_
    rintro e w4 ⟨rfl, g4⟩
    have G4 := Lib.hid (Gr.trans G3.out g4)
    clear g4
    go_wp2_with fail
    go_ret
    exact ⟨rfl, G4.out⟩
end Go.Proofs.YtcfbbgbjlgonpaaGreatDoor

namespace Go.Proofs.YtcfbbgbjlgonpaaGreatDoor
open Go.RowKit

/-! ### the tables, as the door lays them: the Draw laws' list -/
abbrev laidS : List (String × DataW Unit) := [("math/bits.deBruijn32tab", Rows.laid_math_bits_deBruijn32tab), ("math/bits.deBruijn64tab", Rows.laid_math_bits_deBruijn64tab), ("internal/strconv.uint64pow10", Rows.laid_internal_strconv_uint64pow10), ("oubliette/sha.k", Rows.laid_oubliette_sha_k)]
theorem door_met (os : Os) (args : Array Value) : laidMetH Tryz.prog laidS ((World.doorLaid Tryz.prog 400 os).forCall (fun _ _ => 0) ⟨#[], args, []⟩).memory :=
  laidMetH_of_parts3 (fuel := 8) (laidMet_of_run' 8 (by kernel_rfl) (by kernel_rfl)) (by kernel_rfl) (by kernel_rfl)
theorem shaK_of {W : World} (h : laidMetH Tryz.prog laidS W) : ShaK W := by
  rw [MakeChecks.laidMetH_plain _ _ _ (by kernel_rfl)] at h
  exact Lib.tabIs_of_head (g := 1) (t := 187) (e := 119) (n := 64) (by kernel_rfl) (by kernel_rfl) Tryz.underlying187 Tryz.underlying119 (by kernel_rfl) (by kernel_rfl) (laidMet.tail (laidMet.tail (laidMet.tail h)))
theorem pow10_of {W : World} (h : laidMetH Tryz.prog laidS W) : Pow10 W := by
  rw [MakeChecks.laidMetH_plain _ _ _ (by kernel_rfl)] at h
  exact Lib.tabIs_of_head (g := 2) (t := 213) (e := 83) (n := 20) (by kernel_rfl) (by kernel_rfl) Tryz.underlying213 Tryz.underlying83 (by kernel_rfl) (by kernel_rfl) (laidMet.tail (laidMet.tail h))
end Go.Proofs.YtcfbbgbjlgonpaaGreatDoor
