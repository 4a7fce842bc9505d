/- Own texts of this claim, one behind the other. No condition. -/
import Derived.Test.YtcfbbgbjlgonpaaGreatDoorObPkAM
import Derived.Test.YtcfbbgbjlgonpaaGreatDoorObPkAO
import Derived.Test.YtcfbbgbjlgonpaaGreatDoorObPkAP
import Derived.Test.YtcfbbgbjlgonpaaGreatDoorObPkAS
import Derived.Test.YtcfbbgbjlgonpaaGreatDoorObPkBH
import Derived.Test.YtcfbbgbjlgonpaaGreatDoorObPkBJ
import Derived.Stop.Joined
import Derived.Handed
import Derived.OpenShut
import Derived.Test.YtcfbbgbjlgonpaaGreatDoorRows
import Derived.ProofKit
import Derived.LaidMore
import Derived.Stop.LaidErr
import Derived.Lib.LaidTab
import Derived.Below

/- SuiteTerms: the walk. No condition. -/
namespace Go.Proofs.YtcfbbgbjlgonpaaGreatDoor
open Go.RowKit
set_option linter.unusedVariables false
set_option linter.unusedSimpArgs false
theorem kind_out {T : List Nd} {z : Int} (h : z < 1 ∨ (T.length : Int) < z) : kindOf T z = 0 := by
  unfold kindOf
  have ho : outside T.length z = true := by unfold outside; simp; omega
  rw [ho, if_pos rfl]
theorem kind_in {T : List Nd} (hK : Kinds T) {id : Nat} (h1 : 1 ≤ id) (h2 : id ≤ T.length) : ∃ x, At T id x ∧ kindOf T (id : Int) = x.k ∧ x.k ≠ 0 := by
  have hlt : id - 1 < T.length := by omega
  have ha : At T id T[id - 1] := ⟨h1, h2, List.getElem?_eq_getElem hlt⟩
  have := hK _ (List.getElem_mem hlt)
  exact ⟨_, ha, ha.kind, by omega⟩
set_option maxRecDepth 100000 in
set_option maxHeartbeats 2000000 in
theorem suiteTerms_walk (B : Option Addr) (m d : Nat) (L : List Sa) (w : World) (hL : Sas w B m d L) (hm : MLenI w) :
    Calls Tryz.prog 3 #[.slice B m d] w fun e w' => e = .returned (.bool true) ∧ Below w.heap.size w w' := by
  show Calls _ _ _ _ fun e w' => e = .returned (.bool true) ∧ Gr w w'
  have k3 := hL.2.1.cap; have k4 := hL.2.1.max
  have HL := Lib.hid hL; have HM := Lib.hid hm
  have HLT := Lib.hid (light17_any B m d L w hL)
  clear hL hm
  go_enter Tryz.func3, Tryz.ntmps3
  go_wp2_with fail
  refine HLT.out.mono ?_
  rintro e w1 ⟨q, rfl, hq, h1⟩
  rw [← h1]
  clear h1 w1 HLT
  cases q with
  | false =>
    go_wp2_with (go_at_call 7; refine (alive17_any _).mono ?_; rintro e w5 ⟨rfl, g5⟩; have G5 := Lib.hid g5; clear g5)
    go_ret
    exact ⟨rfl, G5.out⟩
  | true =>
    obtain ⟨h30, hlz⟩ := hq rfl
    have HLZ := Lib.hid hlz
    clear hq hlz
    go_wp2_with fail
    refine (symbolic2_any w).mono ?_
    rintro e w1 ⟨p, g, bm, bs, rfl, sy, hp, nb, hmp, hbs⟩
    have HPL := Lib.hid (playsT_any w w1 sy.below sy (SumM.nil hmp) nb hbs HM.out B m d L HL.out h30 HLZ.out)
    clear sy hp nb hmp hbs
    unfold tv ts at HPL
    go_wp2_with fail
    refine HPL.out.mono ?_
    rintro e w2 ⟨T, rfl, sy, tg, g2⟩
    have HS := Lib.hid sy; have HT := Lib.hid tg; have G2 := Lib.hid g2
    have htn : T.length ≤ 1000 := by have := tg.g.l; omega
    have HTE := Lib.hid sy.terms
    have HLE := Lib.hid (len_any g T w2 sy.rd)
    clear sy tg g2
    go_wp2_with fail
    refine HTE.out.mono ?_
    rintro e w3 ⟨rfl, h3⟩
    rw [← h3]
    clear h3 w3
    go_wp2_with fail
    refine HLE.out.mono ?_
    rintro e w3 ⟨rfl, h3⟩
    rw [← h3]
    clear h3 w3
    obtain ⟨n, hn⟩ : ∃ n, n = T.length := ⟨_, rfl⟩
    have HN := Lib.hid hn
    rw [← hn] at htn ⊢
    clear hn
    go_wp2_with fail
    go_loopw [5] (fun i wr => ∃ z : Int, -1 ≤ z ∧ z ≤ (n : Int) + 2 ∧ i = .int .i64 z ∧ Gr w2 wr) (fun i _ => ((n : Int) + 2 - Go.RowKit.intOf i).toNat)
    case atStart => exact ⟨-1, by omega, by omega, rfl, Gr.refl _⟩
    case round =>
      obtain ⟨wo, rfl⟩ : ∃ wo : World, wo = wr := ⟨_, rfl⟩
      obtain ⟨z, hz1, hz2, rfl, hgr⟩ := hrel
      have HG := Lib.hid hgr
      clear hgr
      have HSY := Lib.hid (HS.out.gr HG.out)
      by_cases hlt : z ≤ (n : Int) + 1
      · have t0 : decide (z ≤ (n : Int) + 1) = true := decide_eq_true hlt
        by_cases hin : 1 ≤ z ∧ z ≤ (n : Int)
        · obtain ⟨id, rfl⟩ : ∃ id : Nat, z = (id : Int) := ⟨z.toNat, by omega⟩
          have t1 : decide ((1 : Int) ≤ (id : Int)) = true := decide_eq_true hin.1
          have t2 : decide ((id : Int) ≤ (n : Int)) = true := decide_eq_true hin.2
          obtain ⟨x, hat, hk, hk0⟩ := kind_in HT.out.g.i.kinds (T := T) (id := id) (by omega) (by rw [← HN.out]; omega)
          have HTM := Lib.hid (fun W (e : Gr wo W) => (HSY.out.gr e).terms)
          have HKD := Lib.hid (fun W (e : Gr wo W) => kind_any g T (id : Int) W (HSY.out.gr e).rd HT.out.g.i.kinds ⟨by omega, by omega⟩)
          rw [hk] at HKD
          by_cases h2 : x.k = 2
          · have t3 : ((x.k : Int) != 2) = false := by rw [bne_eq_false_iff_eq]; omega
            have hbe : bearsT T (id : Int) = false := by unfold bearsT; rw [hk, h2]; rfl
            have HHN := Lib.hid (fun W (e : Gr wo W) => (HSY.out.gr e).handle_not (id : Int) ⟨by omega, by omega⟩ hbe)
            clear hat hk hk0 h2 hbe
            go_upto_region 11 with (go_at_call 12; refine (HHN.out wo (Gr.refl _)).mono ?_; rintro e w3 ⟨rfl, g3⟩; have G3 := Lib.hid g3; clear g3)
            go_upto_region 12 with (first
              | (go_at_call 10; refine (HTM.out w3 G3.out).mono ?_; rintro e w4 ⟨rfl, h4⟩; rw [← h4]; clear h4 w4)
              | (go_at_call 13; refine (HKD.out w3 G3.out).mono ?_; rintro e w5 ⟨rfl, g5⟩; have GX : Hid (Gr w2 w5) := HG.out.trans (G3.out.trans g5); clear g5))
            go_wp2_with fail
            go_roundw
            case rel => exact ⟨((id : Int)) + 1, by omega, by omega, by go_num, GX.out⟩
            case measure => simp [Go.RowKit.intOf]; omega
          · have t3 : ((x.k : Int) != 2) = true := by rw [bne_iff_ne]; omega
            have hbe : bearsT T (id : Int) = true := by unfold bearsT; rw [hk]; simp [h2, hk0]
            have HHN := Lib.hid (fun W (e : Gr wo W) => (HSY.out.gr e).handle_in id (by omega) hbe)
            have htm := term_handle hat (by rw [← HN.out]; exact htn) h2 hk0
            have HTH := Lib.hid (fun W (e : Gr wo W) A c (hb : Bs W A 32 c (handleL id)) => (HSY.out.gr e).term (by rw [← HN.out]; exact htn) A 32 c (handleL id) hb)
            rw [htm] at HTH
            have HRH := Lib.hid (fun W => refHandle_any id W (by omega))
            have tne : ((id : Int) != (id : Int)) = false := by simp
            clear hat hk hk0 h2 hbe htm
            go_upto_region 11 with (go_at_call 12; refine (HHN.out wo (Gr.refl _)).mono ?_; rintro e w3 ⟨v3, rfl, o3⟩; rw [handleL_len] at o3; obtain ⟨A3, c3, rfl, s3⟩ := o3.slice; have G3 : Hid (Gr wo w3) := o3.below; have S3 : Hid (Bs w3 A3 32 c3 (handleL id)) := s3; clear o3 s3)
            go_upto_region 12 with (first
              | (go_at_call 10; refine (HTM.out w3 G3.out).mono ?_; rintro e w4 ⟨rfl, h4⟩; rw [← h4]; clear h4 w4)
              | (go_at_call 13; refine (HKD.out w3 G3.out).mono ?_; rintro e w5 ⟨rfl, g5⟩; have G5 : Hid (Gr wo w5) := G3.out.trans g5; have S5 : Hid (Bs w5 A3 32 c3 (handleL id)) := Sl.mono S3.out g5; clear g5))
            go_upto_region 9 with (first
              | (go_at_call 14; refine (HTH.out w5 G5.out A3 c3 S5.out).mono ?_; rintro e w6 ⟨rfl, g6⟩; have G6 : Hid (Gr wo w6) := G5.out.trans g6; have S6 : Hid (Bs w6 A3 32 c3 (handleL id)) := Sl.mono S5.out g6; clear g6)
              | (go_at_call 16; refine (HRH.out w6).mono ?_; rintro e w7 ⟨v7, rfl, o7⟩; rw [handleL_len] at o7; obtain ⟨A7, c7, rfl, s7⟩ := o7.slice; have G7 : Hid (Gr wo w7) := G6.out.trans o7.below; have S7 : Hid (Bs w7 A3 32 c3 (handleL id)) := Sl.mono S6.out o7.below; have Z7 : Hid (Bs w7 A7 32 c7 (handleL id)) := s7; clear o7 s7)
              | (go_at_call 15; have hsm := refSame_any A3 A7 32 32 c3 c7 (handleL id) (handleL id) w7 S7.out Z7.out; rw [beq_self_eq_true] at hsm; refine hsm.mono ?_; rintro e w8 ⟨rfl, k8, rfl⟩; have GX : Hid (Gr w2 (w7.drewN k8)) := HG.out.trans (belowN G7.out k8); clear hsm))
            go_wp2_with fail
            go_roundw
            case rel => exact ⟨((id : Int)) + 1, by omega, by omega, by go_num, GX.out⟩
            case measure => simp [Go.RowKit.intOf]; omega
        · have hko : kindOf T z = 0 := kind_out (by rw [← HN.out]; omega)
          have hbe : bearsT T z = false := by unfold bearsT; rw [hko]; rfl
          have HHN := Lib.hid (fun W (e : Gr wo W) => (HSY.out.gr e).handle_not z ⟨by omega, by omega⟩ hbe)
          clear hko hbe
          by_cases h1 : 1 ≤ z
          · have t1 : decide ((1 : Int) ≤ z) = true := decide_eq_true h1
            have t2 : decide (z ≤ (n : Int)) = false := decide_eq_false (by omega)
            go_upto_region 11 with (go_at_call 12; refine (HHN.out wo (Gr.refl _)).mono ?_; rintro e w3 ⟨rfl, g3⟩; have G3 := Lib.hid g3; clear g3)
            have GX : Hid (Gr w2 w3) := HG.out.trans G3.out
            go_wp2_with fail
            go_roundw
            case rel => exact ⟨(z) + 1, by omega, by omega, by go_num, GX.out⟩
            case measure => simp [Go.RowKit.intOf]; omega
          · have t1 : decide ((1 : Int) ≤ z) = false := decide_eq_false h1
            go_upto_region 11 with (go_at_call 12; refine (HHN.out wo (Gr.refl _)).mono ?_; rintro e w3 ⟨rfl, g3⟩; have G3 := Lib.hid g3; clear g3)
            have GX : Hid (Gr w2 w3) := HG.out.trans G3.out
            go_wp2_with fail
            go_roundw
            case rel => exact ⟨(z) + 1, by omega, by omega, by go_num, GX.out⟩
            case measure => simp [Go.RowKit.intOf]; omega
      · have t0 : decide (z ≤ (n : Int) + 1) = false := decide_eq_false hlt
        go_wp2_with (go_at_call 7; refine (alive17_any _).mono ?_; rintro e w5 ⟨rfl, g5⟩; have G5 : Hid (Gr w w5) := G2.out.trans (HG.out.trans g5); clear g5)
        go_ret
        exact ⟨rfl, G5.out⟩
end Go.Proofs.YtcfbbgbjlgonpaaGreatDoor

/- What a call's contract may lean on besides: the shape of the variables that are not listed. No condition. -/
namespace Go.Proofs.YtcfbbgbjlgonpaaGreatDoor
open Go.RowKit
set_option linter.unusedVariables false
section
variable {H : Type} {enc : TypeId × Value → H}
theorem handed_shaped {a : Assume} {C : Checked} {os : Os} {f : FuncId} {fn : Func} {s : ChangeSpec} {conds : List PathCond} {apart fresh handsOn again : Bool} {X : World → Array Value → Prop}
    (hX : ∀ (w w' : World) (args : Array Value), w.heap = w'.heap → X w args → X w' args)
    (own : ownKnob C.prog.godebug = none) (started : os.Started) (noInit : C.prog.inits.idxOf? f = none) (hfn : C.prog.funcs[f]? = some fn)
    (witness : ∃ (w : World) (tape : Tape) (i : Input), w.os = os ∧ (w.forCall tape i).Shaped C.prog ∧ i.vars = [] ∧ Input.okWide C.prog (w.forCall tape i) .any w.heap.size f i ∧
      ((s.pre enc C.prog fn conds apart (w.forCall tape i).memory i.args ∧ X (w.forCall tape i).memory i.args) ∧ sizedMet enc C.prog fn (OpenSpec.ofChange s) apart (w.forCall tape i).memory i.args) ∧ a.holds C.prog (lone (Frame.enter C.prog f i.args .normal) [] (w.forCall tape i)))
    (contract : ∀ (W : World) (base : Nat) (args : Array Value) (ds gs : List (DataW H)) (before : List MemPlace),
      (∀ (j : Nat) t v, fn.params[j]? = some t → args[j]? = some v → Value.okWide C.prog W .any base t v) →
      DataW.Whole enc C.prog fn.params.toList s.vars apart W args.toList ds gs before → X W args → W.ShapedOpen C.prog →
      Calls C.prog f args W fun e W' => ∃ v, e = .returned v ∧ s.post enc C.prog fn apart fresh handsOn again W args v W') :
    ReturnsInHanded a C os f .any (fun w args => (s.pre enc C.prog fn conds apart w args ∧ X w args) ∧ sizedMet enc C.prog fn (OpenSpec.ofChange s) apart w args) (s.post enc C.prog fn apart fresh handsOn again) := by
  refine returnsInHanded_of_calls own started noInit witness fun w tape i _ hshape _ hok hpre _ => ?_
  obtain ⟨_, _, _, fn', hfn', _, _, _, _, hval⟩ := hok
  obtain rfl : fn' = fn := Option.some.inj (hfn'.symm.trans hfn)
  obtain ⟨⟨⟨ds, gs, before, hw, _⟩, hx⟩, _⟩ := hpre
  refine (contract (w.forCall tape i) w.heap.size i.args ds gs before hval (DataW.Whole.of_heap (w' := w.forCall tape i) (by rfl) hw) (hX _ _ _ (by rfl) hx) hshape).mono fun e W' ⟨v, he, hp⟩ => ?_
  subst he
  exact ChangeSpec.post_blind hp
end
theorem mlenI_of {W : World} (h : W.ShapedOpen Tryz.prog) : MLenI W := Tryz.laysM185.s1_3 W h
end Go.Proofs.YtcfbbgbjlgonpaaGreatDoor

namespace Go.Proofs.YtcfbbgbjlgonpaaGreatDoor
open Go.RowKit

/-! ### the tables, as the door lays them: the Draw laws' list -/
abbrev laidS : List (String × DataW Unit) := [("math/bits.deBruijn32tab", Rows.laid_math_bits_deBruijn32tab), ("math/bits.deBruijn64tab", Rows.laid_math_bits_deBruijn64tab), ("internal/strconv.uint64pow10", Rows.laid_internal_strconv_uint64pow10), ("oubliette/sha.k", Rows.laid_oubliette_sha_k)]
theorem door_met (os : Os) (args : Array Value) : laidMetH Tryz.prog laidS ((World.doorLaid Tryz.prog 400 os).forCall (fun _ _ => 0) ⟨#[], args, []⟩).memory :=
  laidMetH_of_parts3 (fuel := 8) (laidMet_of_run' 8 (by kernel_rfl) (by kernel_rfl)) (by kernel_rfl) (by kernel_rfl)
end Go.Proofs.YtcfbbgbjlgonpaaGreatDoor
