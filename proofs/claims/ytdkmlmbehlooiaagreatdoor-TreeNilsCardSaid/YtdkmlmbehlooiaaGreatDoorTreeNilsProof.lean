/-
  oubliettelaw30.TreeNils answers true at every input, and leaves its arguments as they were: the given statement Rows.TreeNilsSaid. No condition.
-/
import Derived.Test.YtdkmlmbehlooiaaGreatDoorRows
import Derived.Test.YtdkmlmbehlooiaaGreatDoorObPkAA
import Derived.Test.YtdkmlmbehlooiaaGreatDoorObPkAB
import Derived.Test.YtdkmlmbehlooiaaGreatDoorObPkAC
import Derived.Test.YtdkmlmbehlooiaaGreatDoorObPkAD
import Derived.Test.YtdkmlmbehlooiaaGreatDoorObPkAE
import Derived.Test.YtdkmlmbehlooiaaGreatDoorObPkAF
import Derived.Test.YtdkmlmbehlooiaaGreatDoorObPkAG
import Derived.Test.YtdkmlmbehlooiaaGreatDoorObPkAH
import Derived.Test.YtdkmlmbehlooiaaGreatDoorObPkAI
import Derived.Test.YtdkmlmbehlooiaaGreatDoorObPkAJ
import Derived.Test.YtdkmlmbehlooiaaGreatDoorObPkAK
import Derived.Test.YtdkmlmbehlooiaaGreatDoorObPkAL
import Derived.Test.YtdkmlmbehlooiaaGreatDoorObPkAM
import Derived.Test.YtdkmlmbehlooiaaGreatDoorObPkAN
import Derived.Test.YtdkmlmbehlooiaaGreatDoorObPkAO
import Derived.Test.YtdkmlmbehlooiaaGreatDoorObPkAP
import Derived.Test.YtdkmlmbehlooiaaGreatDoorObPkAQ
import Derived.Test.YtdkmlmbehlooiaaGreatDoorObPkAR
import Derived.Test.YtdkmlmbehlooiaaGreatDoorObPkAS
import Derived.Test.YtdkmlmbehlooiaaGreatDoorObPkAT
import Derived.Test.YtdkmlmbehlooiaaGreatDoorObPkAU
import Derived.Test.YtdkmlmbehlooiaaGreatDoorObPkAV
import Derived.Test.YtdkmlmbehlooiaaGreatDoorObPkAW
import Derived.Test.YtdkmlmbehlooiaaGreatDoorObPkAX
import Derived.Test.YtdkmlmbehlooiaaGreatDoorObPkAY
import Derived.Test.YtdkmlmbehlooiaaGreatDoorObPkAZ
import Derived.Test.YtdkmlmbehlooiaaGreatDoorObPkBA
import Derived.Test.YtdkmlmbehlooiaaGreatDoorObPkBB
import Derived.Test.YtdkmlmbehlooiaaGreatDoorObPkBC
import Derived.Test.YtdkmlmbehlooiaaGreatDoorObPkBD
import Derived.Test.YtdkmlmbehlooiaaGreatDoorObPkBE
import Derived.Test.YtdkmlmbehlooiaaGreatDoorObPkBF
import Derived.Test.YtdkmlmbehlooiaaGreatDoorObPkBG
import Derived.Test.YtdkmlmbehlooiaaGreatDoorObPkBH
import Derived.Test.YtdkmlmbehlooiaaGreatDoorObPkBI
import Derived.Test.YtdkmlmbehlooiaaGreatDoorObPkBJ
import Derived.Test.YtdkmlmbehlooiaaGreatDoorObPkBK
import Derived.Test.YtdkmlmbehlooiaaGreatDoorObPkBL
import Derived.Test.YtdkmlmbehlooiaaGreatDoorObPkBM
import Derived.Test.YtdkmlmbehlooiaaGreatDoorObPkBN
import Derived.Test.YtdkmlmbehlooiaaGreatDoorObPkBO
import Derived.Test.YtdkmlmbehlooiaaGreatDoorObPkBP
import Derived.Test.YtdkmlmbehlooiaaGreatDoorObPkBQ
import Derived.Test.YtdkmlmbehlooiaaGreatDoorObPkBR
import Derived.Test.YtdkmlmbehlooiaaGreatDoorObPkBS
import Derived.Test.YtdkmlmbehlooiaaGreatDoorObPkBT
import Derived.Test.YtdkmlmbehlooiaaGreatDoorObPkBU
import Derived.Test.YtdkmlmbehlooiaaGreatDoorObPkBV
import Derived.Test.YtdkmlmbehlooiaaGreatDoorObPkBW
import Derived.WalkKit
import Derived.ProofKit
import Derived.OpenShut
import Derived.ShutString
import Derived.ChangeOld
import Derived.Below
import Derived.Lib.SmallJoins
import Derived.Test.YtdkmlmbehlooiaaGreatDoorCards
import Derived.Test.YtdkmlmbehlooiaaGreatDoorTie
import Derived.LaidMore
import Derived.Stop.Joined
import Derived.SevenTiedAt
namespace Go.Proofs.YtdkmlmbehlooiaaGreatDoor.treeNils
open Go.ChangeShapes Go.WideShapes Go.ChangeAt Go.RowKit
open Go.ChangeMaps (open_string shut_string)
set_option linter.unusedVariables false

theorem own : ownKnob Tryz.prog.godebug = none := by kernel_rfl
theorem laidOut : laidOutB Tryz.prog = true := by kernel_rfl

set_option maxRecDepth 100000 in
theorem lifted (os : Os) (started : os.Started) (H : Type) (enc : TypeId × Value → H) :
    ReturnsInHanded {} Tryz.checked os 3 .any (fun w args => (Rows.treeNilsSpec.pre enc Tryz.prog Tryz.f3 [] false w args ∧ laidMetH Tryz.prog laidS w) ∧ sizedMet enc Tryz.prog Tryz.f3 (OpenSpec.ofChange Rows.treeNilsSpec) false w args) (Rows.treeNilsSpec.post enc Tryz.prog Tryz.f3 false true false false) := by
  refine handed_shaped (C := Tryz.checked) (X := (fun w _ => laidMetH Tryz.prog laidS w)) (fun _ _ _ hh h => h.of_heap hh) own started (by kernel_rfl) Tryz.func3
    (ChangeSpec.witness_shaped (enc := enc) (C := Tryz.checked) (os := os) (X := (fun w _ => laidMetH Tryz.prog laidS w)) false (World.laidAll Tryz.prog os laidS) #[.agg #[.int .i64 0, .int .i64 0, .int .i64 0], .int .i64 0] 8 (World.laidAll_os _ _ _) (World.shaped_of_ZipB (by kernel_rfl) (by kernel_rfl)) (by kernel_rfl) (by kernel_rfl) (by kernel_rfl) (laid_met os _)) ?_
  intro W base args ds gs before hval0 hW hL hSh
  have hval : ∀ (j : Nat) t v, Tryz.f3.params[j]? = some t → args[j]? = some v → Value.okWide Tryz.prog W .any base t v := hval0
  have hW' := hW
  obtain ⟨p, q, hA0, hV, rfl, hfz, hnd⟩ := hW
  have hA : DataW.TrodAll enc Tryz.prog W 0 (fun _ => true) true Tryz.f3.params.toList args.toList ds p := hA0
  rw [Tryz.params3] at hA hval
  obtain ⟨v0, vs0, d0, ds0, p0, q0, hargs, rfl, rfl, h0, r0⟩ := trodAll_cons hA
  obtain ⟨v1, vs1, d1, ds1, p1, q1, rfl, rfl, rfl, h1, r1⟩ := trodAll_cons r0
  obtain ⟨rfl, rfl, rfl⟩ := trodAll_nil r1
  obtain rfl : args = #[v0, v1] := by cases args; simp_all
  obtain ⟨rfl, rfl⟩ := trodVars_none hV
  have k0 := h0
  have lt0 : ∀ x ∈ p0, x.block < W.heap.size := by obtain ⟨m, hm⟩ := k0; exact DataW.trod_lt m _ _ _ hm
  obtain ⟨v0a, v0b, v0c, y0a, y0b, y0c, m0, rfl, hd0, hp0, ha0, hb0, hc0⟩ := Go.Joins.open_agg3 Tryz.underlying23 (by kernel_rfl) (by kernel_rfl) (hval 0 23 v0 rfl rfl) h0
  obtain ⟨c0a, e0a, _, w0a⟩ := DataW.trod_int Tryz.underlying3 ha0
  simp at e0a
  subst e0a
  obtain ⟨c0b, e0b, _, w0b⟩ := DataW.trod_int Tryz.underlying3 hb0
  simp at e0b
  subst e0b
  obtain ⟨c0c, e0c, _, w0c⟩ := DataW.trod_int Tryz.underlying3 hc0
  simp at e0c
  subst e0c
  obtain ⟨a1, rfl, rfl, rfl, w1⟩ := open_int Tryz.underlying3 (hval 1 3 v1 rfl rfl) h1
  clear hA0 hval0
  refine (treeNils_walk c0a c0b c0c a1 W (u8tabs_of hL)).mono fun e W' ⟨he, bel⟩ => ?_
  subst he
  exact ⟨_, rfl, _, _, _, [], _, [], hW', trodAll_mk1 (shut_bool Tryz.underlying4 _), (trodAll_cons_mk (Below.trod laidOut (by kernel_rfl) (of_decide_eq_true (by kernel_rfl)) k0 bel lt0) (trodAll_cons_mk (shut_int Tryz.underlying3 w1) trodAll_mk0)), rfl, bel.frame _, fun h => by cases h⟩

theorem and2 {a b : Bool} (ha : a = true) (hb : b = true) : (a && b) = true := by rw [ha, hb]; rfl
theorem jf1 : (Rows.treeNilsRow.wf (OpenSpec.ofChange Rows.treeNilsSpec)) = true := by kernel_rfl
theorem jf2 : (laidOutB Tryz.prog) = true := by kernel_rfl
theorem jf3 : (mapsRowed Tryz.prog) = true := by kernel_rfl
theorem jf4 : (Tryz.f3.params.all (Tryz.prog.readableRec ·)) = true := by kernel_rfl
theorem jf5 : (namedTie Tryz.prog Rows.treeNilsRow.named Rows.treeNilsSpec.vars) = true := by kernel_rfl
theorem jf6 : ((Rows.treeNilsRow.stops == [])) = true := by kernel_rfl
theorem jf7 : ((Tryz.prog.stops == [])) = true := by kernel_rfl
theorem jf8 : ((Rows.treeNilsRow.knobs == [])) = true := by kernel_rfl
theorem jf9 : ((Tryz.prog.stopKnobs == [])) = true := by kernel_rfl
theorem jf10 : ((Rows.treeNilsRow.inPlace == Tryz.prog.inPlace 3)) = true := by kernel_rfl
theorem jf11 : ((Rows.treeNilsRow.unfollowed == Tryz.prog.unfollowed 3)) = true := by kernel_rfl
theorem jf12 : ((Rows.treeNilsRow.recurses == Tryz.prog.recurses 3)) = true := by kernel_rfl
theorem jf13 : ((Rows.treeNilsRow.named == Tryz.prog.varsNamed 3)) = true := by kernel_rfl
theorem jf14 : ((Rows.treeNilsRow.maps == (Tryz.f3.params.toList ++ Rows.treeNilsSpec.plain.varTypes Tryz.prog).any (Tryz.prog.mapsRec ·))) = true := by kernel_rfl
theorem jf15 : ((Rows.treeNilsRow.ifaces == (Tryz.f3.params.toList ++ Rows.treeNilsSpec.plain.varTypes Tryz.prog).any (Tryz.prog.ifacesRec ·))) = true := by kernel_rfl
theorem jf16 : ((Rows.treeNilsRow.mapsOut == Tryz.prog.mapsAmong Tryz.f3.resultTypes.toList)) = true := by kernel_rfl
theorem jf17 : ((Rows.treeNilsRow.loops == (Tryz.f3.params.toList ++ Rows.treeNilsSpec.plain.varTypes Tryz.prog).any (Tryz.prog.loopsFrom ·))) = true := by kernel_rfl
theorem jf18 : ((Rows.treeNilsRow.wideKeys == (Tryz.f3.params.toList ++ Rows.treeNilsSpec.plain.varTypes Tryz.prog ++ Tryz.f3.resultTypes.toList).any (Tryz.prog.wideKeysFrom ·))) = true := by kernel_rfl
theorem jf19 : (Rows.treeNilsSpec.vars.all (Tryz.prog.varReadable ·)) = true := by kernel_rfl
theorem jf20 : (Tryz.f3.resultTypes.all (fun t => Tryz.prog.readableRec t && decide (t < Tryz.prog.types.size))) = true := by kernel_rfl
theorem jf21 : ((Rows.treeNilsRow.ifacesOut == Tryz.f3.resultTypes.toList.any (Tryz.prog.ifacesRec ·))) = true := by kernel_rfl
theorem jf22 : ((Rows.treeNilsRow.loopsOut == Tryz.f3.resultTypes.toList.any (Tryz.prog.loopsFrom ·))) = true := by kernel_rfl
theorem jf23 : ((Rows.treeNilsRow.plainKeys == Tryz.prog.plainKeys)) = true := by kernel_rfl
theorem jf24 : (Rows.treeNilsRow.shortTexts.isNone) = true := by kernel_rfl
theorem jf25 : (Tryz.prog.stopsHeard) = true := by kernel_rfl
theorem jf26 : (Tryz.prog.mayEnter) = true := by kernel_rfl
theorem jf27 : ((Rows.treeNilsRow.lifted == Tryz.prog.liftsFinal)) = true := by kernel_rfl
theorem jf28 : ((Tryz.prog.make == some Rows.treeNilsRow.make)) = true := by kernel_rfl
theorem jf29 : ((Rows.treeNilsRow.kinds == (if Rows.treeNilsRow.domain.isEmpty then [] else Tryz.f3.params.toList.map fun t => match Tryz.prog.underlying t with | some (.int k) => some k | _ => none))) = true := by kernel_rfl
theorem jf30 : ((Rows.treeNilsRow.pinned == Rows.treeNilsRow.pinnedBy)) = true := by kernel_rfl
theorem jf31 : ((Rows.treeNilsRow.veiled == (Tryz.f3.params.toList ++ Rows.treeNilsSpec.plain.varTypes Tryz.prog ++ Tryz.f3.resultTypes.toList).any (Tryz.prog.veiledRec ·))) = true := by kernel_rfl
theorem jf32 : (Rows.treeNilsRow.veiledFits Tryz.prog Tryz.f3.params.toList (Tryz.f3.params.toList ++ Rows.treeNilsSpec.plain.varTypes Tryz.prog ++ Tryz.f3.resultTypes.toList)) = true := by kernel_rfl
theorem closed : joinedFacts Tryz.prog 3 Tryz.f3 Rows.treeNilsSpec Rows.treeNilsRow = true := by
  unfold joinedFacts
  refine and2 ?_ jf32
  refine and2 ?_ jf31
  refine and2 ?_ jf30
  refine and2 ?_ (by kernel_rfl)
  refine and2 ?_ jf28
  refine and2 ?_ jf27
  refine and2 ?_ jf26
  refine and2 ?_ jf25
  refine and2 ?_ jf24
  refine and2 ?_ jf23
  refine and2 ?_ jf22
  refine and2 ?_ jf21
  refine and2 ?_ jf20
  refine and2 ?_ jf19
  refine and2 ?_ jf18
  refine and2 ?_ jf17
  refine and2 ?_ jf16
  refine and2 ?_ jf15
  refine and2 ?_ jf14
  refine and2 ?_ jf13
  refine and2 ?_ jf12
  refine and2 ?_ jf11
  refine and2 ?_ jf10
  refine and2 ?_ jf9
  refine and2 ?_ jf8
  refine and2 ?_ jf7
  refine and2 ?_ jf6
  refine and2 ?_ jf5
  refine and2 ?_ jf4
  refine and2 ?_ jf3
  refine and2 ?_ jf2
  exact jf1

theorem noGoes : (Tryz.prog.funcs.toList.all fun g => !g.goes) = true := by kernel_rfl
theorem goesNo (P : Program) (c : OpenClaim) (h : (P.funcs.toList.all fun g => !g.goes) = true) (hs : c.start = .entering) : false = c.goesBy P := by
  have h1 : ∀ g ∈ P.funcs.toList, g.goes = false := fun g hg => by simpa using List.all_eq_true.1 h g hg
  have h2 : P.funcs.any Func.goes = false := by
    rw [← Array.any_toList, List.any_eq_false]
    exact fun g hg => by rw [h1 g hg]; decide
  have h3 : ∀ f, P.goes f = false := fun f => by
    unfold Program.goes
    rw [h2, Bool.and_false, Bool.or_false, List.any_eq_false]
    intro g _
    cases e : P.funcs[g]? with
    | none => decide
    | some fn => rw [Option.any_some, h1 fn (Array.mem_toList_iff.2 (Array.mem_of_getElem? e))]; decide
  unfold OpenClaim.goesBy Program.goesAt Program.goesFrom
  rw [hs]
  cases P.funcNamed c.func with
  | none => rfl
  | some f => rw [Option.any_some, h3 f]; rfl
theorem looksIs : true = Tryz.prog.looks [] := by kernel_rfl

theorem over : Rows.treeNilsRow.holds Tryz.pinned (OpenSpec.ofChange Rows.treeNilsSpec) :=
  OpenClaim.holds_of_wide 3 Tryz.f3 rfl rfl rfl rfl rfl rfl rfl ⟨rfl, rfl, rfl, rfl, rfl⟩ rfl rfl rfl rfl rfl (by kernel_rfl) Tryz.func3 closed
    (of_decide_eq_true (by kernel_rfl)) (by unfold Func.isWrapper; first | (rw [if_pos (by decide +kernel)]; kernel_rfl) | (rw [if_neg (by decide +kernel)]; exact ⟨rfl, rfl⟩))
    (fun os started H enc _ => lifted os started H enc)

/-- THE TIED CARD -/
theorem proved : Rows.TreeNilsCardSaid :=
  Claim7.holds_tied_plain_at .later [] [.data, .data, .data, .data, .data, .pinned] true (true, "30befe23d7ec1edb5940cf99790f1022097c40f769d9fc0dca2f3db5fb24e5c7") true
    over (fun _ h => by cases h) (by kernel_rfl) (fun _ h => by cases h) treeNils_row_tie rfl ⟨rfl, rfl⟩ (by kernel_rfl) rfl
    (fun f fn hf hfn => by
      obtain rfl : f = 3 := Option.some.inj ((show Tryz.prog.funcNamed "oubliette/oubliettelaw30.TreeNils" = some 3 by kernel_rfl).symm.trans hf) |>.symm
      obtain rfl : fn = Tryz.f3 := (Option.some.inj (Tryz.func3.symm.trans hfn)).symm
      exact ⟨looksIs, fun j t ht => by
        rw [Tryz.params3] at ht
        have hm : t ∈ [23, 3] := by simpa using Array.mem_of_getElem? ht
        have hall : ([23, 3].all fun u => !Tryz.prog.wantsStandIn u) = true := by kernel_rfl
        exact (show Tryz.prog.wantsStandIn t = false by simpa using List.all_eq_true.1 hall t hm)⟩)
    (goesNo _ _ noGoes rfl)
#print axioms proved
end Go.Proofs.YtdkmlmbehlooiaaGreatDoor.treeNils
