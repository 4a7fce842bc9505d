/-
  oubliettelaw32.VaultKeeps answers true at every input, and leaves its arguments as they were: the given statement Rows.VaultKeepsSaid. No condition.
-/
import Derived.Test.YtipdlnejmcmbbaaGreatDoorRows
import Derived.Test.YtipdlnejmcmbbaaGreatDoorObPkAA
import Derived.Test.YtipdlnejmcmbbaaGreatDoorObPkAB
import Derived.Test.YtipdlnejmcmbbaaGreatDoorObPkAC
import Derived.Test.YtipdlnejmcmbbaaGreatDoorObPkAD
import Derived.Test.YtipdlnejmcmbbaaGreatDoorObPkAE
import Derived.Test.YtipdlnejmcmbbaaGreatDoorObPkAF
import Derived.Test.YtipdlnejmcmbbaaGreatDoorObPkAG
import Derived.Test.YtipdlnejmcmbbaaGreatDoorObPkAH
import Derived.Test.YtipdlnejmcmbbaaGreatDoorObPkAI
import Derived.Test.YtipdlnejmcmbbaaGreatDoorObPkAJ
import Derived.Test.YtipdlnejmcmbbaaGreatDoorObPkAK
import Derived.Test.YtipdlnejmcmbbaaGreatDoorObPkAL
import Derived.Test.YtipdlnejmcmbbaaGreatDoorObPkAM
import Derived.Test.YtipdlnejmcmbbaaGreatDoorObPkAN
import Derived.Test.YtipdlnejmcmbbaaGreatDoorObPkAO
import Derived.Test.YtipdlnejmcmbbaaGreatDoorObPkAP
import Derived.Test.YtipdlnejmcmbbaaGreatDoorObPkAQ
import Derived.Test.YtipdlnejmcmbbaaGreatDoorObPkAR
import Derived.Test.YtipdlnejmcmbbaaGreatDoorObPkAS
import Derived.Test.YtipdlnejmcmbbaaGreatDoorObPkAT
import Derived.Test.YtipdlnejmcmbbaaGreatDoorObPkAU
import Derived.Test.YtipdlnejmcmbbaaGreatDoorObPkAV
import Derived.Test.YtipdlnejmcmbbaaGreatDoorObPkAW
import Derived.Test.YtipdlnejmcmbbaaGreatDoorObPkAX
import Derived.Test.YtipdlnejmcmbbaaGreatDoorObPkAY
import Derived.Test.YtipdlnejmcmbbaaGreatDoorObPkAZ
import Derived.Test.YtipdlnejmcmbbaaGreatDoorObPkBA
import Derived.Test.YtipdlnejmcmbbaaGreatDoorObPkBB
import Derived.Test.YtipdlnejmcmbbaaGreatDoorObPkBC
import Derived.Test.YtipdlnejmcmbbaaGreatDoorObPkBD
import Derived.Test.YtipdlnejmcmbbaaGreatDoorObPkBE
import Derived.Test.YtipdlnejmcmbbaaGreatDoorObPkBF
import Derived.Test.YtipdlnejmcmbbaaGreatDoorObPkBG
import Derived.Test.YtipdlnejmcmbbaaGreatDoorObPkBH
import Derived.Test.YtipdlnejmcmbbaaGreatDoorObPkBI
import Derived.Test.YtipdlnejmcmbbaaGreatDoorObPkBJ
import Derived.Test.YtipdlnejmcmbbaaGreatDoorObPkBK
import Derived.Test.YtipdlnejmcmbbaaGreatDoorObPkBL
import Derived.Test.YtipdlnejmcmbbaaGreatDoorObPkBM
import Derived.Test.YtipdlnejmcmbbaaGreatDoorObPkBN
import Derived.Test.YtipdlnejmcmbbaaGreatDoorObPkBO
import Derived.Test.YtipdlnejmcmbbaaGreatDoorObPkBP
import Derived.Test.YtipdlnejmcmbbaaGreatDoorObPkBQ
import Derived.Test.YtipdlnejmcmbbaaGreatDoorObPkBR
import Derived.Test.YtipdlnejmcmbbaaGreatDoorObPkBS
import Derived.Test.YtipdlnejmcmbbaaGreatDoorObPkBT
import Derived.Test.YtipdlnejmcmbbaaGreatDoorObPkBU
import Derived.Test.YtipdlnejmcmbbaaGreatDoorObPkBV
import Derived.Test.YtipdlnejmcmbbaaGreatDoorObPkBW
import Derived.Test.YtipdlnejmcmbbaaGreatDoorObPkBX
import Derived.Test.YtipdlnejmcmbbaaGreatDoorObPkBY
import Derived.WalkKit
import Derived.ProofKit
import Derived.OpenShut
import Derived.ShutString
import Derived.ChangeOld
import Derived.Below
import Derived.Lib.SmallJoins
import Derived.Test.YtipdlnejmcmbbaaGreatDoorCards
import Derived.Test.YtipdlnejmcmbbaaGreatDoorTie
import Derived.LaidMore
import Derived.Stop.Joined
import Derived.SevenTiedAt
namespace Go.Proofs.YtipdlnejmcmbbaaGreatDoor.vaultKeeps
open Go.ChangeShapes Go.WideShapes Go.ChangeAt Go.RowKit
open Go.ChangeMaps (open_string shut_string)
set_option linter.unusedVariables false

theorem own : ownKnob Tryz.prog.godebug = none := by kernel_rfl
theorem laidOut : laidOutB Tryz.prog = true := by kernel_rfl

set_option maxRecDepth 100000 in
theorem lifted (os : Os) (started : os.Started) (H : Type) (enc : TypeId × Value → H) :
    ReturnsInHanded {} Tryz.checked os 3 .any (fun w args => (Rows.vaultKeepsSpec.pre enc Tryz.prog Tryz.f3 [] false w args ∧ laidMetH Tryz.prog LM w) ∧ sizedMet enc Tryz.prog Tryz.f3 (OpenSpec.ofChange Rows.vaultKeepsSpec) false w args) (Rows.vaultKeepsSpec.post enc Tryz.prog Tryz.f3 false true false false) := by
  refine Vi (C := Tryz.checked) (X := (fun w _ => laidMetH Tryz.prog LM w)) (fun _ _ _ hh h => h.of_heap hh) own started (by kernel_rfl) Tryz.func3
    (ChangeSpec.witness_shaped (enc := enc) (C := Tryz.checked) (os := os) (X := (fun w _ => laidMetH Tryz.prog LM w)) false (World.laidAll Tryz.prog os LM) #[.agg #[.int .i64 0, .int .i64 0, .int .i64 0], .slice none 0 0] 8 (World.laidAll_os _ _ _) (World.shaped_of_ZipB (by kernel_rfl) (by kernel_rfl)) (by kernel_rfl) (by kernel_rfl) (by kernel_rfl) (WU os _)) ?_
  intro W base args ds gs before hval0 hW hL hSh
  have hval : ∀ (j : Nat) t v, Tryz.f3.params[j]? = some t → args[j]? = some v → Value.okWide Tryz.prog W .any base t v := hval0
  have hW' := hW
  obtain ⟨p, q, hA0, hV, rfl, hfz, hnd⟩ := hW
  have hA : DataW.TrodAll enc Tryz.prog W 0 (fun _ => true) true Tryz.f3.params.toList args.toList ds p := hA0
  rw [Tryz.params3] at hA hval
  obtain ⟨v0, vs0, d0, ds0, p0, q0, hargs, rfl, rfl, h0, r0⟩ := trodAll_cons hA
  obtain ⟨v1, vs1, d1, ds1, p1, q1, rfl, rfl, rfl, h1, r1⟩ := trodAll_cons r0
  obtain ⟨rfl, rfl, rfl⟩ := trodAll_nil r1
  obtain rfl : args = #[v0, v1] := by cases args; simp_all
  obtain ⟨rfl, rfl⟩ := trodVars_none hV
  have k0 := h0
  have lt0 : ∀ x ∈ p0, x.block < W.heap.size := by obtain ⟨m, hm⟩ := k0; exact DataW.trod_lt m _ _ _ hm
  obtain ⟨v0a, v0b, v0c, y0a, y0b, y0c, m0, rfl, hd0, hp0, ha0, hb0, hc0⟩ := Go.Joins.open_agg3 Tryz.underlying23 (by kernel_rfl) (by kernel_rfl) (hval 0 23 v0 rfl rfl) h0
  obtain ⟨c0a, e0a, _, w0a⟩ := DataW.trod_int Tryz.underlying3 ha0
  simp at e0a
  subst e0a
  obtain ⟨c0b, e0b, _, w0b⟩ := DataW.trod_int Tryz.underlying3 hb0
  simp at e0b
  subst e0b
  obtain ⟨c0c, e0c, _, w0c⟩ := DataW.trod_int Tryz.underlying3 hc0
  simp at e0c
  subst e0c
  obtain ⟨a1, len1, cap1, rfl⟩ := okWide_slice Tryz.underlying24 (hval 1 24 v1 rfl rfl)
  have k1 := h1
  have lt1 : ∀ x ∈ p1, x.block < W.heap.size := by obtain ⟨m, hm⟩ := k1; exact DataW.trod_lt m _ _ _ hm
  obtain ⟨x1, w1⟩ := Vh Tryz.underlying24 Tryz.underlying41 Tryz.underlying45 (by kernel_rfl) (by kernel_rfl) (by kernel_rfl) Tryz.underlying9 Tryz.underlying43 Tryz.underlying4 Tryz.underlying5 (by kernel_rfl) h1
  clear hA0 hval0
  refine (SV c0a c0b c0c a1 len1 cap1 x1 W w1 (WL hL) (WY hSh)).mono fun e W' ⟨he, bel⟩ => ?_
  subst he
  exact ⟨_, rfl, _, _, _, [], _, [], hW', trodAll_mk1 (shut_bool Tryz.underlying4 _), (trodAll_cons_mk (Below.trod laidOut (by kernel_rfl) (of_decide_eq_true (by kernel_rfl)) k0 bel lt0) (trodAll_cons_mk (Below.trod laidOut (by kernel_rfl) (of_decide_eq_true (by kernel_rfl)) k1 bel lt1) trodAll_mk0)), rfl, bel.frame _, fun h => by cases h⟩

theorem and2 {a b : Bool} (ha : a = true) (hb : b = true) : (a && b) = true := by rw [ha, hb]; rfl
theorem jf1 : (Rows.vaultKeepsRow.wf (OpenSpec.ofChange Rows.vaultKeepsSpec)) = true := by kernel_rfl
theorem jf2 : (laidOutB Tryz.prog) = true := by kernel_rfl
theorem jf3 : (mapsRowed Tryz.prog) = true := by kernel_rfl
theorem jf4 : (Tryz.f3.params.all (Tryz.prog.readableRec ·)) = true := by kernel_rfl
theorem jf5 : (namedTie Tryz.prog Rows.vaultKeepsRow.named Rows.vaultKeepsSpec.vars) = true := by kernel_rfl
theorem jf6 : ((Rows.vaultKeepsRow.stops == [])) = true := by kernel_rfl
theorem jf7 : ((Tryz.prog.stops == [])) = true := by kernel_rfl
theorem jf8 : ((Rows.vaultKeepsRow.knobs == [])) = true := by kernel_rfl
theorem jf9 : ((Tryz.prog.stopKnobs == [])) = true := by kernel_rfl
theorem jf10 : ((Rows.vaultKeepsRow.inPlace == Tryz.prog.inPlace 3)) = true := by kernel_rfl
theorem jf11 : ((Rows.vaultKeepsRow.unfollowed == Tryz.prog.unfollowed 3)) = true := by kernel_rfl
theorem jf12 : ((Rows.vaultKeepsRow.recurses == Tryz.prog.recurses 3)) = true := by kernel_rfl
theorem jf13 : ((Rows.vaultKeepsRow.named == Tryz.prog.varsNamed 3)) = true := by kernel_rfl
theorem jf14 : ((Rows.vaultKeepsRow.maps == (Tryz.f3.params.toList ++ Rows.vaultKeepsSpec.plain.varTypes Tryz.prog).any (Tryz.prog.mapsRec ·))) = true := by kernel_rfl
theorem jf15 : ((Rows.vaultKeepsRow.ifaces == (Tryz.f3.params.toList ++ Rows.vaultKeepsSpec.plain.varTypes Tryz.prog).any (Tryz.prog.ifacesRec ·))) = true := by kernel_rfl
theorem jf16 : ((Rows.vaultKeepsRow.mapsOut == Tryz.prog.mapsAmong Tryz.f3.resultTypes.toList)) = true := by kernel_rfl
theorem jf17 : ((Rows.vaultKeepsRow.loops == (Tryz.f3.params.toList ++ Rows.vaultKeepsSpec.plain.varTypes Tryz.prog).any (Tryz.prog.loopsFrom ·))) = true := by kernel_rfl
theorem jf18 : ((Rows.vaultKeepsRow.wideKeys == (Tryz.f3.params.toList ++ Rows.vaultKeepsSpec.plain.varTypes Tryz.prog ++ Tryz.f3.resultTypes.toList).any (Tryz.prog.wideKeysFrom ·))) = true := by kernel_rfl
theorem jf19 : (Rows.vaultKeepsSpec.vars.all (Tryz.prog.varReadable ·)) = true := by kernel_rfl
theorem jf20 : (Tryz.f3.resultTypes.all (fun t => Tryz.prog.readableRec t && decide (t < Tryz.prog.types.size))) = true := by kernel_rfl
theorem jf21 : ((Rows.vaultKeepsRow.ifacesOut == Tryz.f3.resultTypes.toList.any (Tryz.prog.ifacesRec ·))) = true := by kernel_rfl
theorem jf22 : ((Rows.vaultKeepsRow.loopsOut == Tryz.f3.resultTypes.toList.any (Tryz.prog.loopsFrom ·))) = true := by kernel_rfl
theorem jf23 : ((Rows.vaultKeepsRow.plainKeys == Tryz.prog.plainKeys)) = true := by kernel_rfl
theorem jf24 : (Rows.vaultKeepsRow.shortTexts.isNone) = true := by kernel_rfl
theorem jf25 : (Tryz.prog.stopsHeard) = true := by kernel_rfl
theorem jf26 : (Tryz.prog.mayEnter) = true := by kernel_rfl
theorem jf27 : ((Rows.vaultKeepsRow.lifted == Tryz.prog.liftsFinal)) = true := by kernel_rfl
theorem jf28 : ((Tryz.prog.make == some Rows.vaultKeepsRow.make)) = true := by kernel_rfl
theorem jf29 : ((Rows.vaultKeepsRow.kinds == (if Rows.vaultKeepsRow.domain.isEmpty then [] else Tryz.f3.params.toList.map fun t => match Tryz.prog.underlying t with | some (.int k) => some k | _ => none))) = true := by kernel_rfl
theorem jf30 : ((Rows.vaultKeepsRow.pinned == Rows.vaultKeepsRow.pinnedBy)) = true := by kernel_rfl
theorem jf31 : ((Rows.vaultKeepsRow.veiled == (Tryz.f3.params.toList ++ Rows.vaultKeepsSpec.plain.varTypes Tryz.prog ++ Tryz.f3.resultTypes.toList).any (Tryz.prog.veiledRec ·))) = true := by kernel_rfl
theorem jf32 : (Rows.vaultKeepsRow.veiledFits Tryz.prog Tryz.f3.params.toList (Tryz.f3.params.toList ++ Rows.vaultKeepsSpec.plain.varTypes Tryz.prog ++ Tryz.f3.resultTypes.toList)) = true := by kernel_rfl
theorem closed : joinedFacts Tryz.prog 3 Tryz.f3 Rows.vaultKeepsSpec Rows.vaultKeepsRow = true := by
  unfold joinedFacts
  refine and2 ?_ jf32
  refine and2 ?_ jf31
  refine and2 ?_ jf30
  refine and2 ?_ (by kernel_rfl)
  refine and2 ?_ jf28
  refine and2 ?_ jf27
  refine and2 ?_ jf26
  refine and2 ?_ jf25
  refine and2 ?_ jf24
  refine and2 ?_ jf23
  refine and2 ?_ jf22
  refine and2 ?_ jf21
  refine and2 ?_ jf20
  refine and2 ?_ jf19
  refine and2 ?_ jf18
  refine and2 ?_ jf17
  refine and2 ?_ jf16
  refine and2 ?_ jf15
  refine and2 ?_ jf14
  refine and2 ?_ jf13
  refine and2 ?_ jf12
  refine and2 ?_ jf11
  refine and2 ?_ jf10
  refine and2 ?_ jf9
  refine and2 ?_ jf8
  refine and2 ?_ jf7
  refine and2 ?_ jf6
  refine and2 ?_ jf5
  refine and2 ?_ jf4
  refine and2 ?_ jf3
  refine and2 ?_ jf2
  exact jf1

theorem noGoes : (Tryz.prog.funcs.toList.all fun g => !g.goes) = true := by kernel_rfl
theorem goesNo (P : Program) (c : OpenClaim) (h : (P.funcs.toList.all fun g => !g.goes) = true) (hs : c.start = .entering) : false = c.goesBy P := by
  have h1 : ∀ g ∈ P.funcs.toList, g.goes = false := fun g hg => by simpa using List.all_eq_true.1 h g hg
  have h2 : P.funcs.any Func.goes = false := by
    rw [← Array.any_toList, List.any_eq_false]
    exact fun g hg => by rw [h1 g hg]; decide
  have h3 : ∀ f, P.goes f = false := fun f => by
    unfold Program.goes
    rw [h2, Bool.and_false, Bool.or_false, List.any_eq_false]
    intro g _
    cases e : P.funcs[g]? with
    | none => decide
    | some fn => rw [Option.any_some, h1 fn (Array.mem_toList_iff.2 (Array.mem_of_getElem? e))]; decide
  unfold OpenClaim.goesBy Program.goesAt Program.goesFrom
  rw [hs]
  cases P.funcNamed c.func with
  | none => rfl
  | some f => rw [Option.any_some, h3 f]; rfl
theorem looksIs : true = Tryz.prog.looks [] := by kernel_rfl

theorem over : Rows.vaultKeepsRow.holds Tryz.pinned (OpenSpec.ofChange Rows.vaultKeepsSpec) :=
  OpenClaim.holds_of_wide 3 Tryz.f3 rfl rfl rfl rfl rfl rfl rfl ⟨rfl, rfl, rfl, rfl, rfl⟩ rfl rfl rfl rfl rfl (by kernel_rfl) Tryz.func3 closed
    (of_decide_eq_true (by kernel_rfl)) (by unfold Func.isWrapper; first | (rw [if_pos (by decide +kernel)]; kernel_rfl) | (rw [if_neg (by decide +kernel)]; exact ⟨rfl, rfl⟩))
    (fun os started H enc _ => lifted os started H enc)

/-- THE TIED CARD -/
theorem proved : Rows.VaultKeepsCardSaid :=
  Claim7.holds_tied_plain_at .later [] [.data, .data, .data, .data, .data, .pinned] true (true, "b6729e61faee3af2fe8f59a99eda80534741c3860017ab68c3228fa9de0bd1b6") true
    over (fun _ h => by cases h) (by kernel_rfl) (fun _ h => by cases h) vaultKeeps_row_tie rfl ⟨rfl, rfl⟩ (by kernel_rfl) rfl
    (fun f fn hf hfn => by
      obtain rfl : f = 3 := Option.some.inj ((show Tryz.prog.funcNamed "oubliette/oubliettelaw32.VaultKeeps" = some 3 by kernel_rfl).symm.trans hf) |>.symm
      obtain rfl : fn = Tryz.f3 := (Option.some.inj (Tryz.func3.symm.trans hfn)).symm
      exact ⟨looksIs, fun j t ht => by
        rw [Tryz.params3] at ht
        have hm : t ∈ [23, 24] := by simpa using Array.mem_of_getElem? ht
        have hall : ([23, 24].all fun u => !Tryz.prog.wantsStandIn u) = true := by kernel_rfl
        exact (show Tryz.prog.wantsStandIn t = false by simpa using List.all_eq_true.1 hall t hm)⟩)
    (goesNo _ _ noGoes rfl)
#print axioms proved
end Go.Proofs.YtipdlnejmcmbbaaGreatDoor.vaultKeeps
