/-
  oubliettelaw17.SuiteApart answers true at every input, and leaves its arguments as they were: the given statement Rows.SuiteApartSaid. No condition.
-/
import Derived.Test.YtfemhhjmfckicaaGreatDoorRows
import Derived.Test.YtfemhhjmfckicaaGreatDoorObPkA
import Derived.Test.YtfemhhjmfckicaaGreatDoorObPkB
import Derived.Test.YtfemhhjmfckicaaGreatDoorObPkC
import Derived.Test.YtfemhhjmfckicaaGreatDoorObPkD
import Derived.Test.YtfemhhjmfckicaaGreatDoorObPkE
import Derived.Test.YtfemhhjmfckicaaGreatDoorObPkF
import Derived.Test.YtfemhhjmfckicaaGreatDoorObPkG
import Derived.Test.YtfemhhjmfckicaaGreatDoorObPkH
import Derived.Test.YtfemhhjmfckicaaGreatDoorObPkI
import Derived.Test.YtfemhhjmfckicaaGreatDoorObPkJ
import Derived.Test.YtfemhhjmfckicaaGreatDoorObPkK
import Derived.Test.YtfemhhjmfckicaaGreatDoorObPkL
import Derived.Test.YtfemhhjmfckicaaGreatDoorObPkM
import Derived.Test.YtfemhhjmfckicaaGreatDoorObPkN
import Derived.Test.YtfemhhjmfckicaaGreatDoorObPkO
import Derived.Test.YtfemhhjmfckicaaGreatDoorObPkP
import Derived.Test.YtfemhhjmfckicaaGreatDoorObPkQ
import Derived.Test.YtfemhhjmfckicaaGreatDoorObPkR
import Derived.Test.YtfemhhjmfckicaaGreatDoorObPkS
import Derived.Test.YtfemhhjmfckicaaGreatDoorObPkT
import Derived.Test.YtfemhhjmfckicaaGreatDoorObPkU
import Derived.Test.YtfemhhjmfckicaaGreatDoorObPkV
import Derived.Test.YtfemhhjmfckicaaGreatDoorObPkW
import Derived.Test.YtfemhhjmfckicaaGreatDoorObPkX
import Derived.Test.YtfemhhjmfckicaaGreatDoorObPkY
import Derived.WalkKit
import Derived.ProofKit
import Derived.OpenShut
import Derived.ShutString
import Derived.ChangeOld
import Derived.Below
import Derived.Lib.SmallJoins
import Derived.Test.YtfemhhjmfckicaaGreatDoorCards
import Derived.Test.YtfemhhjmfckicaaGreatDoorTie
import Derived.LaidMore
import Derived.Stop.Joined
import Derived.SevenTiedAt
namespace Go.Proofs.YtfemhhjmfckicaaGreatDoor.suiteApart
open Go.ChangeShapes Go.WideShapes Go.ChangeAt Go.RowKit
open Go.ChangeMaps (open_string shut_string)
set_option linter.unusedVariables false

theorem own : ownKnob Tryz.prog.godebug = none := by kernel_rfl
theorem laidOut : laidOutB Tryz.prog = true := by kernel_rfl

set_option maxRecDepth 100000 in
theorem lifted (os : Os) (started : os.Started) (H : Type) (enc : TypeId × Value → H) :
    ReturnsInHanded {} Tryz.checked os 4 .any (fun w args => (Rows.suiteApartSpec.pre enc Tryz.prog Tryz.f4 [] false w args ∧ laidMetH Tryz.prog laidS w) ∧ sizedMet enc Tryz.prog Tryz.f4 (OpenSpec.ofChange Rows.suiteApartSpec) false w args) (Rows.suiteApartSpec.post enc Tryz.prog Tryz.f4 false true false false) := by
  refine returnsInHanded_of_change_and (C := Tryz.checked) (X := (fun w _ => laidMetH Tryz.prog laidS w)) (fun _ _ _ hh h => h.of_heap hh) own started (by kernel_rfl) Tryz.func4
    (ChangeSpec.witness_shaped (enc := enc) (C := Tryz.checked) (os := os) (X := (fun w _ => laidMetH Tryz.prog laidS w)) false (World.doorLaid Tryz.prog 400 os) #[.slice none 0 0, .slice none 0 0, .slice none 0 0] 8 rfl (World.shaped_of_RefB (by kernel_rfl) (by kernel_rfl)) (by kernel_rfl) (by kernel_rfl) (by kernel_rfl) (door_met os _)) ?_
  intro W base args ds gs before hval0 hW _ _ hL _
  have hval : ∀ (j : Nat) t v, Tryz.f4.params[j]? = some t → args[j]? = some v → Value.okWide Tryz.prog W .any base t v := hval0
  have hW' := hW
  obtain ⟨p, q, hA0, hV, rfl, hfz, hnd⟩ := hW
  have hA : DataW.TrodAll enc Tryz.prog W 0 (fun _ => true) true Tryz.f4.params.toList args.toList ds p := hA0
  rw [Tryz.params4] at hA hval
  obtain ⟨v0, vs0, d0, ds0, p0, q0, hargs, rfl, rfl, h0, r0⟩ := trodAll_cons hA
  obtain ⟨v1, vs1, d1, ds1, p1, q1, rfl, rfl, rfl, h1, r1⟩ := trodAll_cons r0
  obtain ⟨v2, vs2, d2, ds2, p2, q2, rfl, rfl, rfl, h2, r2⟩ := trodAll_cons r1
  obtain ⟨rfl, rfl, rfl⟩ := trodAll_nil r2
  obtain rfl : args = #[v0, v1, v2] := by cases args; simp_all
  obtain ⟨rfl, rfl⟩ := trodVars_none hV
  obtain ⟨a0, len0, cap0, rfl⟩ := okWide_slice Tryz.underlying30 (hval 0 30 v0 rfl rfl)
  have k0 := h0
  have lt0 : ∀ x ∈ p0, x.block < W.heap.size := by obtain ⟨m, hm⟩ := k0; exact DataW.trod_lt m _ _ _ hm
  obtain ⟨x0, w0⟩ := open_bytes Tryz.underlying30 Tryz.underlying5 (by kernel_rfl) h0
  obtain ⟨a1, len1, cap1, rfl⟩ := okWide_slice Tryz.underlying30 (hval 1 30 v1 rfl rfl)
  have k1 := h1
  have lt1 : ∀ x ∈ p1, x.block < W.heap.size := by obtain ⟨m, hm⟩ := k1; exact DataW.trod_lt m _ _ _ hm
  obtain ⟨x1, w1⟩ := open_bytes Tryz.underlying30 Tryz.underlying5 (by kernel_rfl) h1
  obtain ⟨a2, len2, cap2, rfl⟩ := okWide_slice Tryz.underlying30 (hval 2 30 v2 rfl rfl)
  have k2 := h2
  have lt2 : ∀ x ∈ p2, x.block < W.heap.size := by obtain ⟨m, hm⟩ := k2; exact DataW.trod_lt m _ _ _ hm
  obtain ⟨x2, w2⟩ := open_bytes Tryz.underlying30 Tryz.underlying5 (by kernel_rfl) h2
  clear hA0 hval0
  refine (suiteApart_walk a0 a1 a2 len0 cap0 len1 cap1 len2 cap2 x0 x1 x2 W w0 w1 w2).mono fun e W' ⟨he, bel⟩ => ?_
  subst he
  exact ⟨_, rfl, _, _, _, [], _, [], hW', trodAll_mk1 (shut_bool Tryz.underlying4 _), (trodAll_cons_mk (Below.trod laidOut (by kernel_rfl) (of_decide_eq_true (by kernel_rfl)) k0 bel lt0) (trodAll_cons_mk (Below.trod laidOut (by kernel_rfl) (of_decide_eq_true (by kernel_rfl)) k1 bel lt1) (trodAll_cons_mk (Below.trod laidOut (by kernel_rfl) (of_decide_eq_true (by kernel_rfl)) k2 bel lt2) trodAll_mk0))), rfl, bel.frame _, fun h => by cases h⟩

theorem over : Rows.suiteApartRow.holds Tryz.pinned (OpenSpec.ofChange Rows.suiteApartSpec) :=
  OpenClaim.holds_of_wide 4 Tryz.f4 rfl rfl rfl rfl rfl rfl rfl ⟨rfl, rfl, rfl, rfl, rfl⟩ rfl rfl rfl rfl rfl (by kernel_rfl) Tryz.func4 (by kernel_rfl)
    (of_decide_eq_true (by kernel_rfl)) (by unfold Func.isWrapper; first | (rw [if_pos (by decide +kernel)]; kernel_rfl) | (rw [if_neg (by decide +kernel)]; exact ⟨rfl, rfl⟩))
    (fun os started H enc _ => lifted os started H enc)

/-- THE TIED CARD -/
theorem proved : Rows.SuiteApartCardSaid :=
  Claim7.holds_tied_plain_at .later [] [.data, .data, .data, .data] true (true, "e8a2116d1cc66c1a19ee0bf21918248460bbe83ecc093a79386fff297b1b8e93") true
    over (fun _ h => by cases h) (by kernel_rfl) (fun _ h => by cases h) suiteApart_row_tie rfl ⟨rfl, rfl⟩ (by kernel_rfl) rfl
    (fun f fn hf hfn => by
      obtain rfl : f = 4 := Option.some.inj ((show Tryz.prog.funcNamed "oubliette/oubliettelaw17.SuiteApart" = some 4 by kernel_rfl).symm.trans hf) |>.symm
      obtain rfl : fn = Tryz.f4 := (Option.some.inj (Tryz.func4.symm.trans hfn)).symm
      exact ⟨by kernel_rfl, fun j t ht => by
        rw [Tryz.params4] at ht
        have hm : t ∈ [30, 30, 30] := by simpa using Array.mem_of_getElem? ht
        have hall : ([30, 30, 30].all fun u => !Tryz.prog.wantsStandIn u) = true := by kernel_rfl
        exact (show Tryz.prog.wantsStandIn t = false by simpa using List.all_eq_true.1 hall t hm)⟩)
    (by kernel_rfl)
#print axioms proved
end Go.Proofs.YtfemhhjmfckicaaGreatDoor.suiteApart
