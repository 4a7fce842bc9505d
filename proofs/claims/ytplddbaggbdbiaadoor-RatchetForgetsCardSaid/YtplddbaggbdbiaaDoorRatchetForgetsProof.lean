/-
  oubliettelaw33.RatchetForgets answers true at every input, and leaves its arguments as they were: the given statement Rows.RatchetForgetsSaid. No condition.
-/
import Derived.Test.YtplddbaggbdbiaaDoorRows
import Derived.Test.YtplddbaggbdbiaaDoorObPkAA
import Derived.Test.YtplddbaggbdbiaaDoorObPkAB
import Derived.Test.YtplddbaggbdbiaaDoorObPkAC
import Derived.Test.YtplddbaggbdbiaaDoorObPkAD
import Derived.Test.YtplddbaggbdbiaaDoorObPkAE
import Derived.Test.YtplddbaggbdbiaaDoorObPkAF
import Derived.Test.YtplddbaggbdbiaaDoorObPkAG
import Derived.Test.YtplddbaggbdbiaaDoorObPkAH
import Derived.Test.YtplddbaggbdbiaaDoorObPkAI
import Derived.Test.YtplddbaggbdbiaaDoorObPkAJ
import Derived.Test.YtplddbaggbdbiaaDoorObPkAK
import Derived.Test.YtplddbaggbdbiaaDoorObPkAL
import Derived.Test.YtplddbaggbdbiaaDoorObPkAM
import Derived.Test.YtplddbaggbdbiaaDoorObPkAN
import Derived.Test.YtplddbaggbdbiaaDoorObPkAO
import Derived.Test.YtplddbaggbdbiaaDoorObPkAP
import Derived.Test.YtplddbaggbdbiaaDoorObPkAQ
import Derived.Test.YtplddbaggbdbiaaDoorObPkAR
import Derived.Test.YtplddbaggbdbiaaDoorObPkAS
import Derived.Test.YtplddbaggbdbiaaDoorObPkAT
import Derived.Test.YtplddbaggbdbiaaDoorObPkAU
import Derived.Test.YtplddbaggbdbiaaDoorObPkAV
import Derived.Test.YtplddbaggbdbiaaDoorObPkAW
import Derived.Test.YtplddbaggbdbiaaDoorObPkAX
import Derived.Test.YtplddbaggbdbiaaDoorObPkAY
import Derived.Test.YtplddbaggbdbiaaDoorObPkAZ
import Derived.Test.YtplddbaggbdbiaaDoorObPkBA
import Derived.Test.YtplddbaggbdbiaaDoorObPkBB
import Derived.Test.YtplddbaggbdbiaaDoorObPkBC
import Derived.Test.YtplddbaggbdbiaaDoorObPkBD
import Derived.Test.YtplddbaggbdbiaaDoorObPkBE
import Derived.Test.YtplddbaggbdbiaaDoorObPkBF
import Derived.Test.YtplddbaggbdbiaaDoorObPkBG
import Derived.Test.YtplddbaggbdbiaaDoorObPkBH
import Derived.Test.YtplddbaggbdbiaaDoorObPkBI
import Derived.Test.YtplddbaggbdbiaaDoorObPkBJ
import Derived.Test.YtplddbaggbdbiaaDoorObPkBK
import Derived.Test.YtplddbaggbdbiaaDoorObPkBL
import Derived.Test.YtplddbaggbdbiaaDoorObPkBM
import Derived.Test.YtplddbaggbdbiaaDoorObPkBN
import Derived.Test.YtplddbaggbdbiaaDoorObPkBO
import Derived.Test.YtplddbaggbdbiaaDoorObPkBP
import Derived.Test.YtplddbaggbdbiaaDoorObPkBQ
import Derived.Test.YtplddbaggbdbiaaDoorObPkBR
import Derived.Test.YtplddbaggbdbiaaDoorObPkBS
import Derived.Test.YtplddbaggbdbiaaDoorObPkBT
import Derived.Test.YtplddbaggbdbiaaDoorObPkBU
import Derived.Test.YtplddbaggbdbiaaDoorObPkBV
import Derived.Test.YtplddbaggbdbiaaDoorObPkBW
import Derived.WalkKit
import Derived.ProofKit
import Derived.OpenShut
import Derived.ShutString
import Derived.ChangeOld
import Derived.Below
import Derived.Lib.SmallJoins
import Derived.Test.YtplddbaggbdbiaaDoorCards
import Derived.Test.YtplddbaggbdbiaaDoorTie
import Derived.LaidMore
import Derived.Stop.Joined
import Derived.SevenTiedAt
namespace Go.Proofs.YtplddbaggbdbiaaDoor.ratchetForgets
open Go.ChangeShapes Go.WideShapes Go.ChangeAt Go.RowKit
open Go.ChangeMaps (open_string shut_string)
set_option linter.unusedVariables false

theorem own : ownKnob Tryd.prog.godebug = none := by kernel_rfl
theorem laidOut : laidOutB Tryd.prog = true := by kernel_rfl

set_option maxRecDepth 100000 in
theorem lifted (os : Os) (started : os.Started) (H : Type) (enc : TypeId × Value → H) :
    ReturnsInHanded {} Tryd.checked os 4 .any (fun w args => (Rows.ratchetForgetsSpec.pre enc Tryd.prog Tryd.f4 [] false w args ∧ laidMetH Tryd.prog laidS w) ∧ sizedMet enc Tryd.prog Tryd.f4 (OpenSpec.ofChange Rows.ratchetForgetsSpec) false w args) (Rows.ratchetForgetsSpec.post enc Tryd.prog Tryd.f4 false true false false) := by
  refine returnsInHanded_of_change_and (C := Tryd.checked) (X := (fun w _ => laidMetH Tryd.prog laidS w)) (fun _ _ _ hh h => h.of_heap hh) own started (by kernel_rfl) Tryd.func4
    (ChangeSpec.witness_shaped (enc := enc) (C := Tryd.checked) (os := os) (X := (fun w _ => laidMetH Tryd.prog laidS w)) false (World.doorLaid Tryd.prog 400 os) #[.slice none 0 0, .int .i64 0] 8 rfl (World.shaped_of_RefB (by kernel_rfl) (by kernel_rfl)) (by kernel_rfl) (by kernel_rfl) (by kernel_rfl) (door_met os _)) ?_
  intro W base args ds gs before hval0 hW _ _ hL _
  have hval : ∀ (j : Nat) t v, Tryd.f4.params[j]? = some t → args[j]? = some v → Value.okWide Tryd.prog W .any base t v := hval0
  have hW' := hW
  obtain ⟨p, q, hA0, hV, rfl, hfz, hnd⟩ := hW
  have hA : DataW.TrodAll enc Tryd.prog W 0 (fun _ => true) true Tryd.f4.params.toList args.toList ds p := hA0
  rw [Tryd.params4] at hA hval
  obtain ⟨v0, vs0, d0, ds0, p0, q0, hargs, rfl, rfl, h0, r0⟩ := trodAll_cons hA
  obtain ⟨v1, vs1, d1, ds1, p1, q1, rfl, rfl, rfl, h1, r1⟩ := trodAll_cons r0
  obtain ⟨rfl, rfl, rfl⟩ := trodAll_nil r1
  obtain rfl : args = #[v0, v1] := by cases args; simp_all
  obtain ⟨rfl, rfl⟩ := trodVars_none hV
  obtain ⟨a0, len0, cap0, rfl⟩ := okWide_slice Tryd.underlying36 (hval 0 36 v0 rfl rfl)
  have k0 := h0
  have lt0 : ∀ x ∈ p0, x.block < W.heap.size := by obtain ⟨m, hm⟩ := k0; exact DataW.trod_lt m _ _ _ hm
  obtain ⟨x0, w0⟩ := open_nums Tryd.underlying36 Tryd.underlying3 (by kernel_rfl) h0
  obtain ⟨a1, rfl, rfl, rfl, w1⟩ := open_int Tryd.underlying3 (hval 1 3 v1 rfl rfl) h1
  clear hA0 hval0
  refine (ratchetForgets_walk a0 len0 cap0 a1 x0 W w0.1 (shaK_of hL) (bounds_i64 w1)).mono fun e W' ⟨he, bel⟩ => ?_
  subst he
  exact ⟨_, rfl, _, _, _, [], _, [], hW', trodAll_mk1 (shut_bool Tryd.underlying4 _), (trodAll_cons_mk (Below.trod laidOut (by kernel_rfl) (of_decide_eq_true (by kernel_rfl)) k0 bel lt0) (trodAll_cons_mk (shut_int Tryd.underlying3 w1) trodAll_mk0)), rfl, bel.frame _, fun h => by cases h⟩

theorem over : Rows.ratchetForgetsRow.holds Tryd.pinned (OpenSpec.ofChange Rows.ratchetForgetsSpec) :=
  OpenClaim.holds_of_wide 4 Tryd.f4 rfl rfl rfl rfl rfl rfl rfl ⟨rfl, rfl, rfl, rfl, rfl⟩ rfl rfl rfl rfl rfl (by kernel_rfl) Tryd.func4 (by kernel_rfl)
    (of_decide_eq_true (by kernel_rfl)) (by unfold Func.isWrapper; first | (rw [if_pos (by decide +kernel)]; kernel_rfl) | (rw [if_neg (by decide +kernel)]; exact ⟨rfl, rfl⟩))
    (fun os started H enc _ => lifted os started H enc)

/-- THE TIED CARD -/
theorem proved : Rows.RatchetForgetsCardSaid :=
  Claim7.holds_tied_plain_at .later [] [.data, .data, .data, .data] true (true, "181fb78133663a31b998ad37df34509c1deddcef42171d8e62c73aa77d1dbc4a") true
    over (fun _ h => by cases h) (by kernel_rfl) (fun _ h => by cases h) ratchetForgets_row_tie rfl ⟨rfl, rfl⟩ (by kernel_rfl) rfl
    (fun f fn hf hfn => by
      obtain rfl : f = 4 := Option.some.inj ((show Tryd.prog.funcNamed "oubliette/oubliettelaw33.RatchetForgets" = some 4 by kernel_rfl).symm.trans hf) |>.symm
      obtain rfl : fn = Tryd.f4 := (Option.some.inj (Tryd.func4.symm.trans hfn)).symm
      exact ⟨by kernel_rfl, fun j t ht => by
        rw [Tryd.params4] at ht
        have hm : t ∈ [36, 3] := by simpa using Array.mem_of_getElem? ht
        have hall : ([36, 3].all fun u => !Tryd.prog.wantsStandIn u) = true := by kernel_rfl
        exact (show Tryd.prog.wantsStandIn t = false by simpa using List.all_eq_true.1 hall t hm)⟩)
    (by kernel_rfl)
#print axioms proved
end Go.Proofs.YtplddbaggbdbiaaDoor.ratchetForgets
