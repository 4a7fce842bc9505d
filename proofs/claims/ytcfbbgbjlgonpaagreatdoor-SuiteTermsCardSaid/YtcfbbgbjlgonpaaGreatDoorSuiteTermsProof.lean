/-
  oubliettelaw17.SuiteTerms answers true at every input, and leaves its arguments as they were: the given statement Rows.SuiteTermsSaid. No condition.
-/
import Derived.Test.YtcfbbgbjlgonpaaGreatDoorRows
import Derived.Test.YtcfbbgbjlgonpaaGreatDoorObPkAA
import Derived.Test.YtcfbbgbjlgonpaaGreatDoorObPkAB
import Derived.Test.YtcfbbgbjlgonpaaGreatDoorObPkAC
import Derived.Test.YtcfbbgbjlgonpaaGreatDoorObPkAD
import Derived.Test.YtcfbbgbjlgonpaaGreatDoorObPkAE
import Derived.Test.YtcfbbgbjlgonpaaGreatDoorObPkAF
import Derived.Test.YtcfbbgbjlgonpaaGreatDoorObPkAG
import Derived.Test.YtcfbbgbjlgonpaaGreatDoorObPkAH
import Derived.Test.YtcfbbgbjlgonpaaGreatDoorObPkAI
import Derived.Test.YtcfbbgbjlgonpaaGreatDoorObPkAJ
import Derived.Test.YtcfbbgbjlgonpaaGreatDoorObPkAK
import Derived.Test.YtcfbbgbjlgonpaaGreatDoorObPkAL
import Derived.Test.YtcfbbgbjlgonpaaGreatDoorObPkAM
import Derived.Test.YtcfbbgbjlgonpaaGreatDoorObPkAN
import Derived.Test.YtcfbbgbjlgonpaaGreatDoorObPkAO
import Derived.Test.YtcfbbgbjlgonpaaGreatDoorObPkAP
import Derived.Test.YtcfbbgbjlgonpaaGreatDoorObPkAQ
import Derived.Test.YtcfbbgbjlgonpaaGreatDoorObPkAR
import Derived.Test.YtcfbbgbjlgonpaaGreatDoorObPkAS
import Derived.Test.YtcfbbgbjlgonpaaGreatDoorObPkAT
import Derived.Test.YtcfbbgbjlgonpaaGreatDoorObPkAU
import Derived.Test.YtcfbbgbjlgonpaaGreatDoorObPkAV
import Derived.Test.YtcfbbgbjlgonpaaGreatDoorObPkAW
import Derived.Test.YtcfbbgbjlgonpaaGreatDoorObPkAX
import Derived.Test.YtcfbbgbjlgonpaaGreatDoorObPkAY
import Derived.Test.YtcfbbgbjlgonpaaGreatDoorObPkAZ
import Derived.Test.YtcfbbgbjlgonpaaGreatDoorObPkBA
import Derived.Test.YtcfbbgbjlgonpaaGreatDoorObPkBB
import Derived.Test.YtcfbbgbjlgonpaaGreatDoorObPkBC
import Derived.Test.YtcfbbgbjlgonpaaGreatDoorObPkBD
import Derived.Test.YtcfbbgbjlgonpaaGreatDoorObPkBE
import Derived.Test.YtcfbbgbjlgonpaaGreatDoorObPkBF
import Derived.Test.YtcfbbgbjlgonpaaGreatDoorObPkBG
import Derived.Test.YtcfbbgbjlgonpaaGreatDoorObPkBH
import Derived.Test.YtcfbbgbjlgonpaaGreatDoorObPkBI
import Derived.Test.YtcfbbgbjlgonpaaGreatDoorObPkBJ
import Derived.Test.YtcfbbgbjlgonpaaGreatDoorObPkBK
import Derived.WalkKit
import Derived.ProofKit
import Derived.OpenShut
import Derived.ShutString
import Derived.ChangeOld
import Derived.Below
import Derived.Lib.SmallJoins
import Derived.Test.YtcfbbgbjlgonpaaGreatDoorCards
import Derived.Test.YtcfbbgbjlgonpaaGreatDoorTie
import Derived.LaidMore
import Derived.Stop.Joined
import Derived.SevenTiedAt
namespace Go.Proofs.YtcfbbgbjlgonpaaGreatDoor.suiteTerms
open Go.ChangeShapes Go.WideShapes Go.ChangeAt Go.RowKit
open Go.ChangeMaps (open_string shut_string)
set_option linter.unusedVariables false

theorem own : ownKnob Tryz.prog.godebug = none := by kernel_rfl
theorem laidOut : laidOutB Tryz.prog = true := by kernel_rfl

set_option maxRecDepth 100000 in
theorem lifted (os : Os) (started : os.Started) (H : Type) (enc : TypeId × Value → H) :
    ReturnsInHanded {} Tryz.checked os 3 .any (fun w args => (Rows.suiteTermsSpec.pre enc Tryz.prog Tryz.f3 [] false w args ∧ laidMetH Tryz.prog laidS w) ∧ sizedMet enc Tryz.prog Tryz.f3 (OpenSpec.ofChange Rows.suiteTermsSpec) false w args) (Rows.suiteTermsSpec.post enc Tryz.prog Tryz.f3 false true false false) := by
  refine handed_shaped (C := Tryz.checked) (X := (fun w _ => laidMetH Tryz.prog laidS w)) (fun _ _ _ hh h => h.of_heap hh) own started (by kernel_rfl) Tryz.func3
    (ChangeSpec.witness_shaped (enc := enc) (C := Tryz.checked) (os := os) (X := (fun w _ => laidMetH Tryz.prog laidS w)) false (World.doorLaid Tryz.prog 400 os) #[.slice none 0 0] 8 rfl (World.shaped_of_RefB (by kernel_rfl) (by kernel_rfl)) (by kernel_rfl) (by kernel_rfl) (by kernel_rfl) (door_met os _)) ?_
  intro W base args ds gs before hval0 hW hL hSh
  have hval : ∀ (j : Nat) t v, Tryz.f3.params[j]? = some t → args[j]? = some v → Value.okWide Tryz.prog W .any base t v := hval0
  have hW' := hW
  obtain ⟨p, q, hA0, hV, rfl, hfz, hnd⟩ := hW
  have hA : DataW.TrodAll enc Tryz.prog W 0 (fun _ => true) true Tryz.f3.params.toList args.toList ds p := hA0
  rw [Tryz.params3] at hA hval
  obtain ⟨v0, vs0, d0, ds0, p0, q0, hargs, rfl, rfl, h0, r0⟩ := trodAll_cons hA
  obtain ⟨rfl, rfl, rfl⟩ := trodAll_nil r0
  obtain rfl : args = #[v0] := by cases args; simp_all
  obtain ⟨rfl, rfl⟩ := trodVars_none hV
  obtain ⟨a0, len0, cap0, rfl⟩ := okWide_slice Tryz.underlying22 (hval 0 22 v0 rfl rfl)
  have k0 := h0
  have lt0 : ∀ x ∈ p0, x.block < W.heap.size := by obtain ⟨m, hm⟩ := k0; exact DataW.trod_lt m _ _ _ hm
  obtain ⟨x0, w0⟩ := open_sacts Tryz.underlying22 Tryz.underlying54 (by kernel_rfl) (by kernel_rfl) Tryz.underlying3 Tryz.underlying3 Tryz.underlying3 Tryz.underlying28 Tryz.underlying28 Tryz.underlying9 Tryz.underlying5 (by kernel_rfl) h0
  clear hA0 hval0
  refine (suiteTerms_walk a0 len0 cap0 x0 W w0 (mlenI_of hSh)).mono fun e W' ⟨he, bel⟩ => ?_
  subst he
  exact ⟨_, rfl, _, _, _, [], _, [], hW', trodAll_mk1 (shut_bool Tryz.underlying4 _), (trodAll_cons_mk (Below.trod laidOut (by kernel_rfl) (of_decide_eq_true (by kernel_rfl)) k0 bel lt0) trodAll_mk0), rfl, bel.frame _, fun h => by cases h⟩

theorem over : Rows.suiteTermsRow.holds Tryz.pinned (OpenSpec.ofChange Rows.suiteTermsSpec) :=
  OpenClaim.holds_of_wide 3 Tryz.f3 rfl rfl rfl rfl rfl rfl rfl ⟨rfl, rfl, rfl, rfl, rfl⟩ rfl rfl rfl rfl rfl (by kernel_rfl) Tryz.func3 (by kernel_rfl)
    (of_decide_eq_true (by kernel_rfl)) (by unfold Func.isWrapper; first | (rw [if_pos (by decide +kernel)]; kernel_rfl) | (rw [if_neg (by decide +kernel)]; exact ⟨rfl, rfl⟩))
    (fun os started H enc _ => lifted os started H enc)

/-- THE TIED CARD -/
theorem proved : Rows.SuiteTermsCardSaid :=
  Claim7.holds_tied_plain_at .later [] [.data, .data, .data, .data] true (true, "b611159e2b80e8a4968d9461c5d3e4e5e35711d42289c3d14fba557b91b4d092") true
    over (fun _ h => by cases h) (by kernel_rfl) (fun _ h => by cases h) suiteTerms_row_tie rfl ⟨rfl, rfl⟩ (by kernel_rfl) rfl
    (fun f fn hf hfn => by
      obtain rfl : f = 3 := Option.some.inj ((show Tryz.prog.funcNamed "oubliette/oubliettelaw17.SuiteTerms" = some 3 by kernel_rfl).symm.trans hf) |>.symm
      obtain rfl : fn = Tryz.f3 := (Option.some.inj (Tryz.func3.symm.trans hfn)).symm
      exact ⟨by kernel_rfl, fun j t ht => by
        rw [Tryz.params3] at ht
        have hm : t ∈ [22] := by simpa using Array.mem_of_getElem? ht
        have hall : ([22].all fun u => !Tryz.prog.wantsStandIn u) = true := by kernel_rfl
        exact (show Tryz.prog.wantsStandIn t = false by simpa using List.all_eq_true.1 hall t hm)⟩)
    (by kernel_rfl)
#print axioms proved
end Go.Proofs.YtcfbbgbjlgonpaaGreatDoor.suiteTerms
