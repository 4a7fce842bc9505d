/-
  oubliettelaw31.LeafNames answers true at every input, and leaves its arguments as they were: the given statement Rows.LeafNamesSaid. No condition.
-/
import Derived.Test.YtfemhhjmfckicaaDoorRows
import Derived.Test.YtfemhhjmfckicaaDoorObPkA
import Derived.Test.YtfemhhjmfckicaaDoorObPkB
import Derived.Test.YtfemhhjmfckicaaDoorObPkC
import Derived.Test.YtfemhhjmfckicaaDoorObPkD
import Derived.Test.YtfemhhjmfckicaaDoorObPkE
import Derived.Test.YtfemhhjmfckicaaDoorObPkF
import Derived.Test.YtfemhhjmfckicaaDoorObPkG
import Derived.Test.YtfemhhjmfckicaaDoorObPkH
import Derived.Test.YtfemhhjmfckicaaDoorObPkI
import Derived.Test.YtfemhhjmfckicaaDoorObPkJ
import Derived.Test.YtfemhhjmfckicaaDoorObPkK
import Derived.Test.YtfemhhjmfckicaaDoorObPkL
import Derived.Test.YtfemhhjmfckicaaDoorObPkM
import Derived.Test.YtfemhhjmfckicaaDoorObPkN
import Derived.Test.YtfemhhjmfckicaaDoorObPkO
import Derived.Test.YtfemhhjmfckicaaDoorObPkP
import Derived.Test.YtfemhhjmfckicaaDoorObPkQ
import Derived.Test.YtfemhhjmfckicaaDoorObPkR
import Derived.Test.YtfemhhjmfckicaaDoorObPkS
import Derived.Test.YtfemhhjmfckicaaDoorObPkT
import Derived.Test.YtfemhhjmfckicaaDoorObPkU
import Derived.Test.YtfemhhjmfckicaaDoorObPkV
import Derived.Test.YtfemhhjmfckicaaDoorObPkW
import Derived.Test.YtfemhhjmfckicaaDoorObPkX
import Derived.Test.YtfemhhjmfckicaaDoorObPkY
import Derived.Test.YtfemhhjmfckicaaDoorObPkZ
import Derived.Test.YtfemhhjmfckicaaDoorObPkZA
import Derived.Test.YtfemhhjmfckicaaDoorObPkZB
import Derived.Test.YtfemhhjmfckicaaDoorObPkZC
import Derived.Test.YtfemhhjmfckicaaDoorObPkZD
import Derived.Test.YtfemhhjmfckicaaDoorObPkZE
import Derived.WalkKit
import Derived.ProofKit
import Derived.OpenShut
import Derived.ShutString
import Derived.ChangeOld
import Derived.Below
import Derived.Lib.SmallJoins
import Derived.Test.YtfemhhjmfckicaaDoorCards
import Derived.Test.YtfemhhjmfckicaaDoorTie
import Derived.LaidMore
import Derived.Stop.Joined
import Derived.SevenTiedAt
namespace Go.Proofs.YtfemhhjmfckicaaDoor.leafNames
open Go.ChangeShapes Go.WideShapes Go.ChangeAt Go.RowKit
open Go.ChangeMaps (open_string shut_string)
set_option linter.unusedVariables false

theorem own : ownKnob Tryd.prog.godebug = none := by kernel_rfl
theorem laidOut : laidOutB Tryd.prog = true := by kernel_rfl

set_option maxRecDepth 100000 in
theorem lifted (os : Os) (started : os.Started) (H : Type) (enc : TypeId × Value → H) :
    ReturnsInHanded {} Tryd.checked os 4 .any (fun w args => (Rows.leafNamesSpec.pre enc Tryd.prog Tryd.f4 [] false w args ∧ laidMetH Tryd.prog laidS w) ∧ sizedMet enc Tryd.prog Tryd.f4 (OpenSpec.ofChange Rows.leafNamesSpec) false w args) (Rows.leafNamesSpec.post enc Tryd.prog Tryd.f4 false true false false) := by
  refine handed_shaped (C := Tryd.checked) (X := (fun w _ => laidMetH Tryd.prog laidS w)) (fun _ _ _ hh h => h.of_heap hh) own started (by kernel_rfl) Tryd.func4
    (ChangeSpec.witness_shaped (enc := enc) (C := Tryd.checked) (os := os) (X := (fun w _ => laidMetH Tryd.prog laidS w)) false (World.laidAll Tryd.prog os laidS) #[.slice none 0 0] 8 (World.laidAll_os _ _ _) (World.shaped_of_ZipB (by kernel_rfl) (by kernel_rfl)) (by kernel_rfl) (by kernel_rfl) (by kernel_rfl) (laid_met os _)) ?_
  intro W base args ds gs before hval0 hW hL hSh
  have hval : ∀ (j : Nat) t v, Tryd.f4.params[j]? = some t → args[j]? = some v → Value.okWide Tryd.prog W .any base t v := hval0
  have hW' := hW
  obtain ⟨p, q, hA0, hV, rfl, hfz, hnd⟩ := hW
  have hA : DataW.TrodAll enc Tryd.prog W 0 (fun _ => true) true Tryd.f4.params.toList args.toList ds p := hA0
  rw [Tryd.params4] at hA hval
  obtain ⟨v0, vs0, d0, ds0, p0, q0, hargs, rfl, rfl, h0, r0⟩ := trodAll_cons hA
  obtain ⟨rfl, rfl, rfl⟩ := trodAll_nil r0
  obtain rfl : args = #[v0] := by cases args; simp_all
  obtain ⟨rfl, rfl⟩ := trodVars_none hV
  obtain ⟨a0, len0, cap0, rfl⟩ := okWide_slice Tryd.underlying22 (hval 0 22 v0 rfl rfl)
  have k0 := h0
  have lt0 : ∀ x ∈ p0, x.block < W.heap.size := by obtain ⟨m, hm⟩ := k0; exact DataW.trod_lt m _ _ _ hm
  obtain ⟨x0, w0⟩ := open_words Tryd.underlying22 Tryd.underlying9 (by kernel_rfl) h0
  clear hA0 hval0
  refine (leafNames_walk a0 len0 cap0 x0 W w0.1 w0.2 (u8tabs_of hL) (mlen_of hSh)).mono fun e W' ⟨he, bel⟩ => ?_
  subst he
  exact ⟨_, rfl, _, _, _, [], _, [], hW', trodAll_mk1 (shut_bool Tryd.underlying4 _), (trodAll_cons_mk (Below.trod laidOut (by kernel_rfl) (of_decide_eq_true (by kernel_rfl)) k0 bel lt0) trodAll_mk0), rfl, bel.frame _, fun h => by cases h⟩

theorem over : Rows.leafNamesRow.holds Tryd.pinned (OpenSpec.ofChange Rows.leafNamesSpec) :=
  OpenClaim.holds_of_wide 4 Tryd.f4 rfl rfl rfl rfl rfl rfl rfl ⟨rfl, rfl, rfl, rfl, rfl⟩ rfl rfl rfl rfl rfl (by kernel_rfl) Tryd.func4 (by kernel_rfl)
    (of_decide_eq_true (by kernel_rfl)) (by unfold Func.isWrapper; first | (rw [if_pos (by decide +kernel)]; kernel_rfl) | (rw [if_neg (by decide +kernel)]; exact ⟨rfl, rfl⟩))
    (fun os started H enc _ => lifted os started H enc)

/-- THE TIED CARD -/
theorem proved : Rows.LeafNamesCardSaid :=
  Claim7.holds_tied_plain_at .later [] [.data, .pinned] true (true, "0200c7cee8ad4cf65f4fdde57101a225afedb5b2b7726a90b2f2ffd2384a5d11") true
    over (fun _ h => by cases h) (by kernel_rfl) (fun _ h => by cases h) leafNames_row_tie rfl ⟨rfl, rfl⟩ (by kernel_rfl) rfl
    (fun f fn hf hfn => by
      obtain rfl : f = 4 := Option.some.inj ((show Tryd.prog.funcNamed "oubliette/oubliettelaw31.LeafNames" = some 4 by kernel_rfl).symm.trans hf) |>.symm
      obtain rfl : fn = Tryd.f4 := (Option.some.inj (Tryd.func4.symm.trans hfn)).symm
      exact ⟨by kernel_rfl, fun j t ht => by
        rw [Tryd.params4] at ht
        have hm : t ∈ [22] := by simpa using Array.mem_of_getElem? ht
        have hall : ([22].all fun u => !Tryd.prog.wantsStandIn u) = true := by kernel_rfl
        exact (show Tryd.prog.wantsStandIn t = false by simpa using List.all_eq_true.1 hall t hm)⟩)
    (by kernel_rfl)
#print axioms proved
end Go.Proofs.YtfemhhjmfckicaaDoor.leafNames
