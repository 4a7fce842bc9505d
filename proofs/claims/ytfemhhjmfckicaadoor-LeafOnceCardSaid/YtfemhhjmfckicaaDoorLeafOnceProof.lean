/-
  oubliettelaw31.LeafOnce answers true at every input, and leaves its arguments as they were: the given statement Rows.LeafOnceSaid. No condition.
-/
import Derived.Test.YtfemhhjmfckicaaDoorRows
import Derived.Test.YtfemhhjmfckicaaDoorObPkA
import Derived.Test.YtfemhhjmfckicaaDoorObPkB
import Derived.Test.YtfemhhjmfckicaaDoorObPkC
import Derived.Test.YtfemhhjmfckicaaDoorObPkD
import Derived.Test.YtfemhhjmfckicaaDoorObPkE
import Derived.Test.YtfemhhjmfckicaaDoorObPkF
import Derived.Test.YtfemhhjmfckicaaDoorObPkG
import Derived.Test.YtfemhhjmfckicaaDoorObPkH
import Derived.Test.YtfemhhjmfckicaaDoorObPkI
import Derived.Test.YtfemhhjmfckicaaDoorObPkJ
import Derived.Test.YtfemhhjmfckicaaDoorObPkK
import Derived.Test.YtfemhhjmfckicaaDoorObPkL
import Derived.Test.YtfemhhjmfckicaaDoorObPkM
import Derived.Test.YtfemhhjmfckicaaDoorObPkN
import Derived.Test.YtfemhhjmfckicaaDoorObPkO
import Derived.Test.YtfemhhjmfckicaaDoorObPkP
import Derived.Test.YtfemhhjmfckicaaDoorObPkQ
import Derived.Test.YtfemhhjmfckicaaDoorObPkR
import Derived.Test.YtfemhhjmfckicaaDoorObPkS
import Derived.Test.YtfemhhjmfckicaaDoorObPkT
import Derived.Test.YtfemhhjmfckicaaDoorObPkU
import Derived.Test.YtfemhhjmfckicaaDoorObPkV
import Derived.Test.YtfemhhjmfckicaaDoorObPkW
import Derived.Test.YtfemhhjmfckicaaDoorObPkX
import Derived.Test.YtfemhhjmfckicaaDoorObPkY
import Derived.Test.YtfemhhjmfckicaaDoorObPkZ
import Derived.Test.YtfemhhjmfckicaaDoorObPkZA
import Derived.Test.YtfemhhjmfckicaaDoorObPkZB
import Derived.Test.YtfemhhjmfckicaaDoorObPkZC
import Derived.Test.YtfemhhjmfckicaaDoorObPkZD
import Derived.Test.YtfemhhjmfckicaaDoorObPkZE
import Derived.Test.YtfemhhjmfckicaaDoorObPkZF
import Derived.WalkKit
import Derived.ProofKit
import Derived.OpenShut
import Derived.ShutString
import Derived.ChangeOld
import Derived.Below
import Derived.Lib.SmallJoins
import Derived.Test.YtfemhhjmfckicaaDoorCards
import Derived.Test.YtfemhhjmfckicaaDoorTie
import Derived.LaidMore
import Derived.Stop.Joined
import Derived.SevenTiedAt
namespace Go.Proofs.YtfemhhjmfckicaaDoor.leafOnce
open Go.ChangeShapes Go.WideShapes Go.ChangeAt Go.RowKit
open Go.ChangeMaps (open_string shut_string)
set_option linter.unusedVariables false

theorem own : ownKnob Tryd.prog.godebug = none := by kernel_rfl
theorem laidOut : laidOutB Tryd.prog = true := by kernel_rfl

set_option maxRecDepth 100000 in
theorem lifted (os : Os) (started : os.Started) (H : Type) (enc : TypeId × Value → H) :
    ReturnsInHanded {} Tryd.checked os 3 .any (fun w args => (Rows.leafOnceSpec.pre enc Tryd.prog Tryd.f3 [] false w args ∧ laidMetH Tryd.prog laidS w) ∧ sizedMet enc Tryd.prog Tryd.f3 (OpenSpec.ofChange Rows.leafOnceSpec) false w args) (Rows.leafOnceSpec.post enc Tryd.prog Tryd.f3 false true false false) := by
  refine handed_shaped (C := Tryd.checked) (X := (fun w _ => laidMetH Tryd.prog laidS w)) (fun _ _ _ hh h => h.of_heap hh) own started (by kernel_rfl) Tryd.func3
    (ChangeSpec.witness_shaped (enc := enc) (C := Tryd.checked) (os := os) (X := (fun w _ => laidMetH Tryd.prog laidS w)) false (World.laidAll Tryd.prog os laidS) #[.slice none 0 0, .slice none 0 0] 8 (World.laidAll_os _ _ _) (World.shaped_of_ZipB (by kernel_rfl) (by kernel_rfl)) (by kernel_rfl) (by kernel_rfl) (by kernel_rfl) (laid_met os _)) ?_
  intro W base args ds gs before hval0 hW hL hSh
  have hval : ∀ (j : Nat) t v, Tryd.f3.params[j]? = some t → args[j]? = some v → Value.okWide Tryd.prog W .any base t v := hval0
  have hW' := hW
  obtain ⟨p, q, hA0, hV, rfl, hfz, hnd⟩ := hW
  have hA : DataW.TrodAll enc Tryd.prog W 0 (fun _ => true) true Tryd.f3.params.toList args.toList ds p := hA0
  rw [Tryd.params3] at hA hval
  obtain ⟨v0, vs0, d0, ds0, p0, q0, hargs, rfl, rfl, h0, r0⟩ := trodAll_cons hA
  obtain ⟨v1, vs1, d1, ds1, p1, q1, rfl, rfl, rfl, h1, r1⟩ := trodAll_cons r0
  obtain ⟨rfl, rfl, rfl⟩ := trodAll_nil r1
  obtain rfl : args = #[v0, v1] := by cases args; simp_all
  obtain ⟨rfl, rfl⟩ := trodVars_none hV
  obtain ⟨a0, len0, cap0, rfl⟩ := okWide_slice Tryd.underlying22 (hval 0 22 v0 rfl rfl)
  have k0 := h0
  have lt0 : ∀ x ∈ p0, x.block < W.heap.size := by obtain ⟨m, hm⟩ := k0; exact DataW.trod_lt m _ _ _ hm
  obtain ⟨x0, w0⟩ := open_words Tryd.underlying22 Tryd.underlying9 (by kernel_rfl) h0
  obtain ⟨a1, len1, cap1, rfl⟩ := okWide_slice Tryd.underlying23 (hval 1 23 v1 rfl rfl)
  have k1 := h1
  have lt1 : ∀ x ∈ p1, x.block < W.heap.size := by obtain ⟨m, hm⟩ := k1; exact DataW.trod_lt m _ _ _ hm
  obtain ⟨x1, w1⟩ := open_changes Tryd.underlying23 Tryd.underlying35 (by kernel_rfl) (by kernel_rfl) Tryd.underlying9 Tryd.underlying31 Tryd.underlying4 Tryd.underlying5 (by kernel_rfl) h1
  clear hA0 hval0
  refine (leafOnce_walk a0 a1 len0 cap0 len1 cap1 x0 x1 W w0.1 w0.2 w1 (u8tabs_of hL)).mono fun e W' ⟨he, bel⟩ => ?_
  subst he
  exact ⟨_, rfl, _, _, _, [], _, [], hW', trodAll_mk1 (shut_bool Tryd.underlying4 _), (trodAll_cons_mk (Below.trod laidOut (by kernel_rfl) (of_decide_eq_true (by kernel_rfl)) k0 bel lt0) (trodAll_cons_mk (Below.trod laidOut (by kernel_rfl) (of_decide_eq_true (by kernel_rfl)) k1 bel lt1) trodAll_mk0)), rfl, bel.frame _, fun h => by cases h⟩

theorem over : Rows.leafOnceRow.holds Tryd.pinned (OpenSpec.ofChange Rows.leafOnceSpec) :=
  OpenClaim.holds_of_wide 3 Tryd.f3 rfl rfl rfl rfl rfl rfl rfl ⟨rfl, rfl, rfl, rfl, rfl⟩ rfl rfl rfl rfl rfl (by kernel_rfl) Tryd.func3 (by kernel_rfl)
    (of_decide_eq_true (by kernel_rfl)) (by unfold Func.isWrapper; first | (rw [if_pos (by decide +kernel)]; kernel_rfl) | (rw [if_neg (by decide +kernel)]; exact ⟨rfl, rfl⟩))
    (fun os started H enc _ => lifted os started H enc)

/-- THE TIED CARD -/
theorem proved : Rows.LeafOnceCardSaid :=
  Claim7.holds_tied_plain_at .later [] [.data, .pinned] true (true, "0200c7cee8ad4cf65f4fdde57101a225afedb5b2b7726a90b2f2ffd2384a5d11") true
    over (fun _ h => by cases h) (by kernel_rfl) (fun _ h => by cases h) leafOnce_row_tie rfl ⟨rfl, rfl⟩ (by kernel_rfl) rfl
    (fun f fn hf hfn => by
      obtain rfl : f = 3 := Option.some.inj ((show Tryd.prog.funcNamed "oubliette/oubliettelaw31.LeafOnce" = some 3 by kernel_rfl).symm.trans hf) |>.symm
      obtain rfl : fn = Tryd.f3 := (Option.some.inj (Tryd.func3.symm.trans hfn)).symm
      exact ⟨by kernel_rfl, fun j t ht => by
        rw [Tryd.params3] at ht
        have hm : t ∈ [22, 23] := by simpa using Array.mem_of_getElem? ht
        have hall : ([22, 23].all fun u => !Tryd.prog.wantsStandIn u) = true := by kernel_rfl
        exact (show Tryd.prog.wantsStandIn t = false by simpa using List.all_eq_true.1 hall t hm)⟩)
    (by kernel_rfl)
#print axioms proved
end Go.Proofs.YtfemhhjmfckicaaDoor.leafOnce
