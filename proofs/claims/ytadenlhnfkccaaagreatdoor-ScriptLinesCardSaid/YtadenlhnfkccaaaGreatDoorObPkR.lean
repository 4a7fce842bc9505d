/- Own texts of this claim, one behind the other. No condition. -/
import Derived.Test.YtadenlhnfkccaaaGreatDoorObPkD
import Derived.Test.YtadenlhnfkccaaaGreatDoorObPkG
import Derived.Test.YtadenlhnfkccaaaGreatDoorObPkL
import Derived.Test.YtadenlhnfkccaaaGreatDoorObPkN
import Derived.Test.YtadenlhnfkccaaaGreatDoorObPkO
import Derived.Test.YtadenlhnfkccaaaGreatDoorObPkQ
import Derived.Outline
import Derived.Stop.Joined
import Derived.Handed
import Derived.OpenShut
import Derived.Test.YtadenlhnfkccaaaGreatDoorRows
import Derived.ProofKit
import Derived.Lay
import Derived.LaidMore
import Derived.LaidOnce
import Derived.PinnedBridge
import Derived.Lib.LaidU8
import Derived.Lib.LaidTab
import Derived.Lib.ItoaNum
import Derived.Stop.LaidErr

/- ScriptTexts' walk. No condition. -/
namespace Go.Proofs.YtadenlhnfkccaaaGreatDoor
open Go.RowKit
set_option linter.unusedVariables false
set_option linter.unusedSimpArgs false
set_option maxRecDepth 100000 in
set_option maxHeartbeats 8000000 in
theorem scTexts_any (A : Option Addr) (n c : Nat) (L : List LnV) (s : List UInt8) (w : World) (hL : Lns w A n c L) (hN : ∀ x ∈ L, LnNum x.d) (hT : Pow10 w) (hM : MLen w) :
    Calls Tryz.prog 4 #[.slice A n c, strc s] w fun e w' => e = .returned (.bool true) ∧ Gr w w' := by
  have hmax := hL.2.1.max
  have hcap := hL.2.1.cap
  have hln := hL.1
  have HL := Lib.hid hL; have HN := Lib.hid hN; have HT := Lib.hid hT; have HM := Lib.hid hM
  have HAL : Hid (∀ wr, Gr w wr → Calls Tryz.prog 6 #[] wr fun e w' => e = .returned (.bool true) ∧ Gr wr w') := fun wr g => alive41_any wr (hT.mono g) (hM.mono g)
  obtain ⟨st, hst⟩ : ∃ st : ByteArray, st = ⟨s.toArray⟩ := ⟨_, rfl⟩
  have hsz : st.size = s.length := by rw [hst]; exact size_of' _
  have hss : strc s = .string st := by rw [hst]; rfl
  clear hL hN hT hM hst
  by_cases hbig : 20 < n
  · have t1 : decide ((20 : Int) < (n : Int)) = true := decide_eq_true (by omega)
    rw [hss]
    clear hss
    go_enter Tryz.func4, Tryz.ntmps4
    go_wp2_with fail
    refine (HAL.out _ (Gr.refl w)).mono ?_
    rintro e w9 ⟨rfl, g9⟩
    have G9 : Gr w w9 := Gr.trans (Gr.refl w) g9; clear g9
    go_wp2_with fail
    go_ret
    exact ⟨rfl, G9⟩
  have t1 : decide ((20 : Int) < (n : Int)) = false := decide_eq_false (by omega)
  by_cases hbig2 : 1400 < st.size
  · have t2 : decide ((1400 : Int) < (st.size : Int)) = true := decide_eq_true (by omega)
    rw [hss]
    clear hss
    go_enter Tryz.func4, Tryz.ntmps4
    go_wp2_with fail
    refine (HAL.out _ (Gr.refl w)).mono ?_
    rintro e w9 ⟨rfl, g9⟩
    have G9 : Gr w w9 := Gr.trans (Gr.refl w) g9; clear g9
    go_wp2_with fail
    go_ret
    exact ⟨rfl, G9⟩
  have t2 : decide ((1400 : Int) < (st.size : Int)) = false := decide_eq_false (by omega)
  have hsl : s.length ≤ 1400 := by omega
  have HRS : Hid (∀ wr, Gr w wr → Calls Tryz.prog 17 #[strc s] wr (RetRs wr (readS s))) := fun wr g => scRead_any s wr (by omega) (HT.out.mono g) (HM.out.mono g)
  have HRL : Hid ((readS s).1.length ≤ 3000) := by have := readS_len s; show _ ≤ _; omega
  have HRR : Hid (∀ wr, Calls Tryz.prog 18 #[strc s] wr (RetRsR wr (readS s))) := fun wr => refRead41_any s wr (by omega)
  have HLT : Hid (∀ x wr, x ∈ L → Gr w wr → Calls Tryz.prog 5 #[.agg x.arr] wr fun e w' => e = .returned (.bool (lightT x.d)) ∧ Gr wr w') := fun x wr hx g => light41_any x wr ((HL.out.2.2 x hx).gr g)
  have HOF : Hid (∀ (x : LnV) wr, Calls Tryz.prog 8 #[.agg x.arr] wr fun e w' => e = .returned (.agg x.arr) ∧ Gr wr w') := fun x wr => ofLn_any x wr
  generalize readS s = rs at *
  rw [hss] at HRS HRR ⊢
  clear hss hsz hsl
  go_enter Tryz.func4, Tryz.ntmps4
  go_wp2_with fail
  go_loopw [5, 6] (fun v i wr => ∃ k : Nat, k ≤ n ∧ i = .int .i64 k ∧ Own w wr 37 17 v k ((L.take k).flatMap LnV.cells) ∧ ∀ x ∈ L.take k, lightT x.d = true) (fun _ i _ => n - (intOf i).toNat)
  case atStart => exact ⟨0, Nat.zero_le _, rfl, Own.nil _ _ _, fun x hx => by simp at hx⟩
  case round =>
    obtain ⟨k, hk, rfl, own, hli⟩ := hrel
    have OW := Lib.hid own
    have HLI := Lib.hid hli
    have GW : Hid (Gr w wr) := own.below
    obtain ⟨A1, c1, rfl, sl1⟩ := own.slice
    have SL1 := Lib.hid sl1
    clear own sl1 hli
    by_cases hlt : k < n
    · obtain ⟨b, o, rfl, hc⟩ := (HL.out.gr GW.out).at (by omega)
      have hkl : k < L.length := by omega
      have HSN := Lib.hid (lns_snoc hkl)
      have HRG : Hid (∀ wq, Gr w wq → wq.rangeAt b (o + k * 17) (L[k]).cells) := fun wq g => by
        obtain ⟨b', o', e, h⟩ := (HL.out.gr g).at (by omega)
        injection e with e; injection e with e1 e2; subst e1 e2
        exact h k hkl
      have HLC := Lib.hid (fun wr g => HLT.out L[k] wr (List.getElem_mem hkl) g)
      have HTK : Hid (∀ x ∈ L.take (k + 1), x ∈ L.take k ∨ x = L[k]) := fun x hx => by
        rw [List.take_succ_eq_append_getElem hkl] at hx
        rcases List.mem_append.1 hx with hx | hx
        · exact .inl hx
        · exact .inr (by simpa using hx)
      clear hc
      generalize L[k] = x at *
      cases hlx : lightT x.d with
      | false =>
        rw [hlx] at HLC
        clear hlx
        go_wp2_with (refine wpList_load_mid rfl 29 (.tmp 34) rfl b (o + k * 17) rfl x.cells _ (HRG.out _ GW.out) Tryz.underlying29 rfl refLnSize ?_)
        refine (HLC.out _ GW.out).mono ?_
        rintro e w2 ⟨rfl, g2⟩
        have G2 := Lib.hid (GW.out.trans g2); clear g2
        go_wp2_with fail
        refine (HAL.out _ G2.out).mono ?_
        rintro e w9 ⟨rfl, g9⟩
        have G9 : Gr w w9 := Gr.trans G2.out g9; clear g9
        go_wp2_with fail
        go_ret
        exact ⟨rfl, G9⟩
      | true =>
        have HLI2 : Hid (∀ x ∈ L.take (k + 1), lightT x.d = true) := fun y hy => by
          rcases HTK.out y hy with h | h
          · exact HLI.out y h
          · rw [h]; exact hlx
        rw [hlx] at HLC
        clear hlx
        go_wp2_with (refine wpList_load_mid rfl 29 (.tmp 34) rfl b (o + k * 17) rfl x.cells _ (HRG.out _ GW.out) Tryz.underlying29 rfl refLnSize ?_)
        refine (HLC.out _ GW.out).mono ?_
        rintro e w2 ⟨rfl, g2⟩
        have G2 := Lib.hid (GW.out.trans g2)
        have OW2 := Lib.hid (OW.out.mono g2); clear g2
        go_wp2_with (refine wpList_load_mid rfl 29 (.tmp 42) rfl b (o + k * 17) rfl x.cells _ (HRG.out _ G2.out) Tryz.underlying29 rfl refLnSize ?_)
        refine (HOF.out x _).mono ?_
        rintro e w3 ⟨rfl, g3⟩
        have OW3 := Lib.hid (OW2.out.mono g3); clear g3
        go_wp2_with (first
          | (refine wpList_build1 rfl 49 37 (.tmp 44) rfl x.arr rfl Tryz.underlying49 lnSize (by kernel_rfl) (by rw [LnV.sz]; omega) (by rw [LnV.sz]; omega) ?_)
          | (at_builtin; go_loud (refine wpList_pushG rfl (.tmp 39) (.tmp 45) 49 rfl tLines rfl OW3.out x.arr rfl rfl x.one (by omega) ?_); intro v5 w5 o5 k5; obtain ⟨A5, c5, rfl, _⟩ := o5.slice; have O5 : Hid (Own w w5 37 17 (.slice A5 (k + 1) c5) (k + 1) ((L.take (k + 1)).flatMap LnV.cells)) := (by show Own _ _ _ _ _ _ _; rw [HSN.out]; exact o5); clear o5 k5))
        refine ⟨⟨k + 1, by omega, by first | trivial | go_num, O5.out, HLI2.out⟩, ?_⟩
        show n - ((k : Int) + 1).toNat < n - (k : Int).toNat
        omega
    · obtain rfl : k = n := by omega
      have hlk : ∀ x ∈ L, lightT x.d = true := by
        have h := HLI.out
        rw [List.take_of_length_le (by omega)] at h
        exact h
      have LW : Hid (Lns wr A1 k c1 L) := by
        have h := SL1.out
        rw [List.take_of_length_le (by omega)] at h
        exact ⟨HL.out.1, h, fun x hx => (HL.out.2.2 x hx).gr GW.out⟩
      have HWR := Lib.hid (scWrite_any A1 k c1 L wr LW.out (by omega) (fun x hx => ⟨((HN.out x hx).ok (hlk x hx)).1, ((HN.out x hx).ok (hlk x hx)).2.1⟩) (HT.out.mono GW.out) (HM.out.mono GW.out))
      have HRWR : Hid (∀ wr, Gr w wr → Calls Tryz.prog 16 #[.slice A k c] wr fun e w' => e = .returned (.tuple #[strc (writeT (L.map LnV.d)).1, .int .i64 ((writeT (L.map LnV.d)).2 : Int)]) ∧ Gr wr w') := fun wr' g => refWrite41_any A k c L wr' (HL.out.gr g) (by omega) (fun x hx => ⟨((HN.out x hx).ok (hlk x hx)).1, ((HN.out x hx).ok (hlk x hx)).2.1⟩)
      clear hlk
      generalize writeT (L.map LnV.d) = wt at *
      obtain ⟨t, f⟩ := wt
      obtain ⟨tx, htx⟩ : ∃ tx : ByteArray, strc t = .string tx := ⟨_, rfl⟩
      have HWR2 : Hid (Calls Tryz.prog 15 #[.slice A1 k c1] wr fun e w' => e = .returned (.tuple #[.string tx, .int .i64 (f : Int)]) ∧ Gr wr w') := by rw [← htx]; exact HWR.out
      have HRW2 : Hid (∀ wr, Gr w wr → Calls Tryz.prog 16 #[.slice A k c] wr fun e w' => e = .returned (.tuple #[.string tx, .int .i64 (f : Int)]) ∧ Gr wr w') := by rw [← htx]; exact HRWR.out
      have te : (tx.toList == tx.toList) = true := beq_self_eq_true _
      clear htx HWR HRWR
      go_wp2_with fail
      refine HWR2.out.mono ?_
      rintro e w2 ⟨rfl, g2⟩
      have G2 := Lib.hid (GW.out.trans g2); clear g2
      go_wp2_with fail
      refine (HRW2.out _ G2.out).mono ?_
      rintro e w3 ⟨rfl, g3⟩
      have G3 := Lib.hid (G2.out.trans g3); clear g3
      go_wp2_with fail
      refine (HRS.out _ G3.out).mono ?_
      rintro e wa ⟨Ax, nx, cx, X, rfl, hX, hXm, ga⟩
      have GA := Lib.hid (Gr.trans G3.out ga)
      have HNX : Hid (nx = X.length) := hX.1.symm
      have HXL := Lib.hid hX
      have HXM := Lib.hid hXm
      clear ga hX hXm
      go_wp2_with fail
      refine (HRR.out _).mono ?_
      rintro e wb ⟨Ay, ny, cy, Y, rfl, hY, hYm, gb⟩
      have GB := Lib.hid (GA.out.trans gb)
      have HXB := Lib.hid (HXL.out.gr gb)
      have HYL := Lib.hid hY
      have HYM := Lib.hid hYm
      clear gb hY hYm
      have hn3 : nx ≤ 3000 := by
        have := congrArg List.length HXM.out
        rw [List.length_map] at this
        have h2 := HRL.out
        have h3 := HNX.out
        omega
      go_wp2_with fail
      refine (rowsLn_any Ax nx cx X wb HXB.out hn3).mono ?_
      rintro e wd ⟨A3, c3, rfl, hx3, gd⟩
      have GD := Lib.hid (GB.out.trans gd)
      have HX3 := Lib.hid hx3
      have HYD := Lib.hid (HYL.out.gr gd)
      clear hx3 gd
      go_wp2_with fail
      refine (refRows41_any A3 Ay nx c3 ny cy X Y wd HX3.out HYD.out).mono ?_
      rw [show rowsT (X.map LnV.d) (Y.map LnV.d) = true by rw [HXM.out, HYM.out]; exact rowsT_self _]
      rintro e wf ⟨rfl, gf⟩
      have GF := Lib.hid (GD.out.trans gf)
      clear gf
      go_wp2_with fail
      refine (HAL.out _ GF.out).mono ?_
      rintro e w9 ⟨rfl, g9⟩
      have G9 : Gr w w9 := Gr.trans GF.out g9; clear g9
      go_wp2_with fail
      go_ret
      exact ⟨rfl, G9⟩
theorem scTexts_law (A : Option Addr) (n c : Nat) (L : List LnV) (s : ByteArray) (w : World) (hL : Lns w A n c L) (hN : ∀ x ∈ L, LnNum x.d) (hT : Pow10 w) (hM : MLen w) :
    Calls Tryz.prog 4 #[.slice A n c, .string s] w fun e w' => e = .returned (.bool true) ∧ Gr w w' := by
  have h := scTexts_any A n c L s.data.toList w hL hN hT hM
  rw [show strc s.data.toList = .string s by unfold strc; simp] at h
  exact h
end Go.Proofs.YtadenlhnfkccaaaGreatDoor

/- What a call's contract may lean on besides: the shape of the variables that are not listed; rows of texts that came in. No condition. -/
namespace Go.Proofs.YtadenlhnfkccaaaGreatDoor
open Go.RowKit
set_option linter.unusedVariables false
section
variable {H : Type} {enc : TypeId × Value → H}
theorem handed_shaped {a : Assume} {C : Checked} {os : Os} {f : FuncId} {fn : Func} {s : ChangeSpec} {conds : List PathCond} {apart fresh handsOn again : Bool} {X : World → Array Value → Prop}
    (hX : ∀ (w w' : World) (args : Array Value), w.heap = w'.heap → X w args → X w' args)
    (own : ownKnob C.prog.godebug = none) (started : os.Started) (noInit : C.prog.inits.idxOf? f = none) (hfn : C.prog.funcs[f]? = some fn)
    (witness : ∃ (w : World) (tape : Tape) (i : Input), w.os = os ∧ (w.forCall tape i).Shaped C.prog ∧ i.vars = [] ∧ Input.okWide C.prog (w.forCall tape i) .any w.heap.size f i ∧
      ((s.pre enc C.prog fn conds apart (w.forCall tape i).memory i.args ∧ X (w.forCall tape i).memory i.args) ∧ sizedMet enc C.prog fn (OpenSpec.ofChange s) apart (w.forCall tape i).memory i.args) ∧ a.holds C.prog (lone (Frame.enter C.prog f i.args .normal) [] (w.forCall tape i)))
    (contract : ∀ (W : World) (base : Nat) (args : Array Value) (ds gs : List (DataW H)) (before : List MemPlace),
      (∀ (j : Nat) t v, fn.params[j]? = some t → args[j]? = some v → Value.okWide C.prog W .any base t v) →
      DataW.Whole enc C.prog fn.params.toList s.vars apart W args.toList ds gs before → X W args → W.ShapedOpen C.prog →
      Calls C.prog f args W fun e W' => ∃ v, e = .returned v ∧ s.post enc C.prog fn apart fresh handsOn again W args v W') :
    ReturnsInHanded a C os f .any (fun w args => (s.pre enc C.prog fn conds apart w args ∧ X w args) ∧ sizedMet enc C.prog fn (OpenSpec.ofChange s) apart w args) (s.post enc C.prog fn apart fresh handsOn again) := by
  refine returnsInHanded_of_calls own started noInit witness fun w tape i _ hshape _ hok hpre _ => ?_
  obtain ⟨_, _, _, fn', hfn', _, _, _, _, hval⟩ := hok
  obtain rfl : fn' = fn := Option.some.inj (hfn'.symm.trans hfn)
  obtain ⟨⟨⟨ds, gs, before, hw, _⟩, hx⟩, _⟩ := hpre
  refine (contract (w.forCall tape i) w.heap.size i.args ds gs before hval (DataW.Whole.of_heap (w' := w.forCall tape i) (by rfl) hw) (hX _ _ _ (by rfl) hx) hshape).mono fun e W' ⟨v, he, hp⟩ => ?_
  subst he
  exact ChangeSpec.post_blind hp
end
section
variable {H : Type} {enc : TypeId × Value → H} {P : Program} {W : World}
theorem open_words {t e : TypeId} {a : Option Addr} {len cap : Nat} {d : DataW H} {p : List MemPlace} (ht : P.underlying t = some (.slice e)) (he : P.underlying e = some .string) (hc : P.cellsOf e = 1)
    (h : DataW.Trod enc P W 0 (fun _ => true) true t (.slice a len cap) d p) : ∃ ps, Ws W a len cap ps ∧ ∀ p ∈ ps, p.length ≤ 9223372036854775807 := by
  obtain ⟨fuel, hf⟩ := h
  obtain ⟨L, _, hs, hg⟩ := open_elems (α := List UInt8) ht hc (by decide) hf (fun x => [strc x]) (fun _ => rfl) (fun x => x.length ≤ 9223372036854775807) (fun n cs z hl hz => by
    obtain ⟨v, rfl, _, hw⟩ := DataW.trod_string he hz
    refine ⟨v.data.toList, ?_, ?_⟩
    · show [Value.string v] = [strc v.data.toList]
      rfl
    · have : v.data.toList.length = v.size := Array.length_toList
      rw [this]
      exact hw)
  have e : L.flatMap (fun x => [strc x]) = L.map strc := flat_one _ L
  rw [e] at hs
  exact ⟨L, hs, hg⟩
end
end Go.Proofs.YtadenlhnfkccaaaGreatDoor

/- The library's tables, as the statements on lines list them. No condition. -/
namespace Go.Proofs.YtadenlhnfkccaaaGreatDoor
open Go.RowKit Go.Shelf Go.Lib
abbrev laidS : List (String × DataW Unit) := [("math/bits.deBruijn32tab", Rows.laid_math_bits_deBruijn32tab), ("math/bits.deBruijn64tab", Rows.laid_math_bits_deBruijn64tab), ("internal/strconv.uint64pow10", Rows.laid_internal_strconv_uint64pow10), ("unicode/utf8.acceptRanges", Rows.laid_unicode_utf8_acceptRanges), ("unicode/utf8.first", Rows.laid_unicode_utf8_first)]
theorem pow10_of {W : World} (h : laidMetH Tryz.prog laidS W) : Pow10 W := by
  rw [MakeChecks.laidMetH_plain _ _ _ (by kernel_rfl)] at h
  exact Lib.tabIs_of_head (g := 3) (t := 167) (e := 161) (n := 20) (by kernel_rfl) (by kernel_rfl) Tryz.underlying167 Tryz.underlying161 (by kernel_rfl) (by kernel_rfl) (laidMet.tail (laidMet.tail h))
theorem mlen_of {W : World} (h : W.ShapedOpen Tryz.prog) : MLen W := Tryz.laysM146.s1_3 W h
theorem laid_met (os : Os) (args : Array Value) : laidMetH Tryz.prog laidS ((World.laidAll Tryz.prog os laidS).forCall (fun _ _ => 0) ⟨#[], args, []⟩).memory := by
  rw [MakeChecks.laidMetH_plain _ _ _ (by kernel_rfl)]
  exact laidMet_laidAll _ (by kernel_rfl) (by kernel_rfl)
end Go.Proofs.YtadenlhnfkccaaaGreatDoor

/- ScriptLines' walk. No condition. -/
namespace Go.Proofs.YtadenlhnfkccaaaGreatDoor
open Go.RowKit
set_option linter.unusedVariables false
set_option linter.unusedSimpArgs false
theorem Blk.range {w : World} {g : Nat} {t : TypeId} {cs : List Value} (h : Blk w g t cs) : w.rangeAt g 0 cs := fun j v hv => by rw [Nat.zero_add]; exact (h.cell j).trans hv
set_option maxRecDepth 100000 in
set_option maxHeartbeats 8000000 in
theorem scLines_any (x y : LnV) (s : List UInt8) (w : World) (hx : LnAt w x) (hy : LnAt w y) (nx : LnNum x.d) (ny : LnNum y.d) (hT : Pow10 w) (hM : MLen w) :
    Calls Tryz.prog 3 #[.agg x.arr, .agg y.arr, strc s] w fun e w' => e = .returned (.bool true) ∧ Gr w w' := by
  have HAL : Hid (∀ wr, Gr w wr → Calls Tryz.prog 6 #[] wr fun e w' => e = .returned (.bool true) ∧ Gr wr w') := fun wr g => alive41_any wr (hT.mono g) (hM.mono g)
  have HLX : Hid (∀ wr, Gr w wr → Calls Tryz.prog 5 #[.agg x.arr] wr fun e w' => e = .returned (.bool (lightT x.d)) ∧ Gr wr w') := fun wr g => light41_any x wr (hx.gr g)
  have HLY : Hid (∀ wr, Gr w wr → Calls Tryz.prog 5 #[.agg y.arr] wr fun e w' => e = .returned (.bool (lightT y.d)) ∧ Gr wr w') := fun wr g => light41_any y wr (hy.gr g)
  have BX : Hid (∀ wq, Gr ((w.alloc (.cells x.arr 29)).alloc (.cells y.arr 29)) wq → Blk wq w.heap.size 29 x.arr.toList) := fun wq g => ((Blk.new w 29 x.arr).alloc _).mono g
  have BYY : Hid (∀ wq, Gr ((w.alloc (.cells x.arr 29)).alloc (.cells y.arr 29)) wq → Blk wq (w.heap.size + 1) 29 y.arr.toList) := fun wq g => by
    have hB := Blk.new (w.alloc (.cells x.arr 29)) 29 y.arr
    rw [World.size_alloc] at hB
    exact hB.mono g
  have G0 : Hid (Gr w ((w.alloc (.cells x.arr 29)).alloc (.cells y.arr 29))) := (Gr.alloc w _).trans (Gr.alloc _ _)
  have GC : Hid (Gr ((w.alloc (.cells x.arr 29)).alloc (.cells y.arr 29)) ((w.alloc (.cells x.arr 29)).alloc (.cells y.arr 29))) := Gr.refl _
  obtain ⟨st, hst⟩ : ∃ st : ByteArray, st = ⟨s.toArray⟩ := ⟨_, rfl⟩
  have hsz : st.size = s.length := by rw [hst]; exact size_of' _
  have hss : strc s = .string st := by rw [hst]; rfl
  clear hst
  have HX := Lib.hid hx; have HY := Lib.hid hy; have HNX := Lib.hid nx; have HNY := Lib.hid ny; have HT := Lib.hid hT; have HM := Lib.hid hM
  clear hx hy nx ny hT hM
  cases lx : lightT x.d with
  | false =>
    rw [lx] at HLX
    rw [hss]
    clear lx hss
    go_enter Tryz.func3, Tryz.ntmps3
    go_wp2_with (
      first
      | (refine wpList_load_rowG rfl 29 (.tmp 3) rfl w.heap.size rfl 29 x.arr (0, 0) _ (BX.out _ (by first | exact Gr.refl _ | exact GC.out)) Tryz.underlying29 rfl refLnSize ?_)
      | (refine wpList_load_rowG rfl 29 (.tmp 4) rfl (w.heap.size + 1) rfl 29 y.arr (0, 0) _ (BYY.out _ (by first | exact Gr.refl _ | exact GC.out)) Tryz.underlying29 rfl refLnSize ?_)
      )
    refine (HLX.out _ G0.out).mono ?_
    rintro e w2 ⟨rfl, g2⟩
    have G2 := Lib.hid (G0.out.trans g2); clear g2
    go_wp2_with fail
    refine (HAL.out _ G2.out).mono ?_
    rintro e w9 ⟨rfl, g9⟩
    have G9 : Gr w w9 := Gr.trans G2.out g9; clear g9
    go_wp2_with fail
    go_ret
    exact ⟨rfl, G9⟩
  | true =>
  have HOX := Lib.hid (HNX.out.ok lx)
  rw [lx] at HLX
  clear lx
  cases ly : lightT y.d with
  | false =>
    rw [ly] at HLY
    rw [hss]
    clear ly hss
    go_enter Tryz.func3, Tryz.ntmps3
    go_wp2_with (
      first
      | (refine wpList_load_rowG rfl 29 (.tmp 3) rfl w.heap.size rfl 29 x.arr (0, 0) _ (BX.out _ (by first | exact Gr.refl _ | exact GC.out)) Tryz.underlying29 rfl refLnSize ?_)
      | (refine wpList_load_rowG rfl 29 (.tmp 4) rfl (w.heap.size + 1) rfl 29 y.arr (0, 0) _ (BYY.out _ (by first | exact Gr.refl _ | exact GC.out)) Tryz.underlying29 rfl refLnSize ?_)
      )
    refine (HLX.out _ G0.out).mono ?_
    rintro e w2 ⟨rfl, g2⟩
    clear GC
    have GC := Lib.hid g2; clear g2
    go_wp2_with (
      first
      | (refine wpList_load_rowG rfl 29 (.tmp 3) rfl w.heap.size rfl 29 x.arr (0, 0) _ (BX.out _ (by first | exact Gr.refl _ | exact GC.out)) Tryz.underlying29 rfl refLnSize ?_)
      | (refine wpList_load_rowG rfl 29 (.tmp 4) rfl (w.heap.size + 1) rfl 29 y.arr (0, 0) _ (BYY.out _ (by first | exact Gr.refl _ | exact GC.out)) Tryz.underlying29 rfl refLnSize ?_)
      )
    refine (HLY.out _ (G0.out.trans GC.out)).mono ?_
    rintro e w3 ⟨rfl, g3⟩
    have G3 := Lib.hid ((G0.out.trans GC.out).trans g3); clear g3
    go_wp2_with fail
    refine (HAL.out _ G3.out).mono ?_
    rintro e w9 ⟨rfl, g9⟩
    have G9 : Gr w w9 := Gr.trans G3.out g9; clear g9
    go_wp2_with fail
    go_ret
    exact ⟨rfl, G9⟩
  | true =>
  rw [ly] at HLY
  clear ly
  by_cases hbig : 1400 < st.size
  · have t2 : decide ((1400 : Int) < (st.size : Int)) = true := decide_eq_true (by omega)
    rw [hss]
    clear hss
    go_enter Tryz.func3, Tryz.ntmps3
    go_wp2_with (
      first
      | (refine wpList_load_rowG rfl 29 (.tmp 3) rfl w.heap.size rfl 29 x.arr (0, 0) _ (BX.out _ (by first | exact Gr.refl _ | exact GC.out)) Tryz.underlying29 rfl refLnSize ?_)
      | (refine wpList_load_rowG rfl 29 (.tmp 4) rfl (w.heap.size + 1) rfl 29 y.arr (0, 0) _ (BYY.out _ (by first | exact Gr.refl _ | exact GC.out)) Tryz.underlying29 rfl refLnSize ?_)
      )
    refine (HLX.out _ G0.out).mono ?_
    rintro e w2 ⟨rfl, g2⟩
    clear GC
    have GC := Lib.hid g2; clear g2
    go_wp2_with (
      first
      | (refine wpList_load_rowG rfl 29 (.tmp 3) rfl w.heap.size rfl 29 x.arr (0, 0) _ (BX.out _ (by first | exact Gr.refl _ | exact GC.out)) Tryz.underlying29 rfl refLnSize ?_)
      | (refine wpList_load_rowG rfl 29 (.tmp 4) rfl (w.heap.size + 1) rfl 29 y.arr (0, 0) _ (BYY.out _ (by first | exact Gr.refl _ | exact GC.out)) Tryz.underlying29 rfl refLnSize ?_)
      )
    refine (HLY.out _ (G0.out.trans GC.out)).mono ?_
    rintro e w3 ⟨rfl, g3⟩
    have G3 := Lib.hid ((G0.out.trans GC.out).trans g3); clear g3
    go_wp2_with fail
    refine (HAL.out _ G3.out).mono ?_
    rintro e w9 ⟨rfl, g9⟩
    have G9 : Gr w w9 := Gr.trans G3.out g9; clear g9
    go_wp2_with fail
    go_ret
    exact ⟨rfl, G9⟩
  have t2 : decide ((1400 : Int) < (st.size : Int)) = false := decide_eq_false (by omega)
  have HOF : Hid (∀ (z : LnV) wr, Calls Tryz.prog 8 #[.agg z.arr] wr fun e w' => e = .returned (.agg z.arr) ∧ Gr wr w') := fun z wr => ofLn_any z wr
  have HBK : Hid (∀ (z : LnV) wr, Calls Tryz.prog 13 #[.agg z.arr] wr fun e w' => e = .returned (.agg z.arr) ∧ Gr wr w') := fun z wr => backLn_any z wr
  have HPR : Hid (∀ wr, Gr w wr → Calls Tryz.prog 7 #[.agg x.arr] wr fun e w' => e = .returned (.tuple #[strc (printT x.d).1, .int .i64 ((printT x.d).2 : Int)]) ∧ Gr wr w') := fun wr g => scPrint_any x wr HOX.out.1 HOX.out.2.1 (HX.out.gr g) (HT.out.mono g) (HM.out.mono g)
  have HRP : Hid (∀ wr, Gr w wr → Calls Tryz.prog 9 #[.agg x.arr] wr fun e w' => e = .returned (.tuple #[strc (printT x.d).1, .int .i64 ((printT x.d).2 : Int)]) ∧ Gr wr w') := fun wr g => refPrint41_any x wr HOX.out.1 HOX.out.2.1 (HX.out.gr g)
  have HPA : Hid (∀ wr, Gr w wr → Calls Tryz.prog 10 #[strc s] wr (RetLn wr (parseT s))) := fun wr g => scParse_any s wr (by omega) (HM.out.mono g) (HT.out.mono g)
  have HRA : Hid (∀ wr, Calls Tryz.prog 11 #[strc s] wr (RetLnR wr (parseT s))) := fun wr => refParse41_any s wr (by omega)
  obtain ⟨sb, hsb⟩ : ∃ sb, sb = sameT x.d y.d := ⟨_, rfl⟩
  have HSS : Hid (∀ wr, Gr w wr → Calls Tryz.prog 14 #[.agg x.arr, .agg y.arr] wr fun e w' => e = .returned (.bool sb) ∧ Gr wr w') := fun wr g => by rw [hsb]; exact scSame_any x y wr (HX.out.gr g) (HY.out.gr g)
  have HRS : Hid (∀ wr, Gr w wr → Calls Tryz.prog 12 #[.agg x.arr, .agg y.arr] wr fun e w' => e = .returned (.bool sb) ∧ Gr wr w') := fun wr g => by rw [hsb]; exact refSame41_any x y wr (HX.out.gr g) (HY.out.gr g)
  have tsb : (sb == sb) = true := beq_self_eq_true _
  obtain ⟨tx, htx⟩ : ∃ tx : ByteArray, strc (printT x.d).1 = .string tx := ⟨_, rfl⟩
  rw [htx] at HPR HRP
  have te : (tx.toList == tx.toList) = true := beq_self_eq_true _
  rw [hss] at HPA HRA ⊢
  generalize (printT x.d).2 = pf at *
  generalize parseT s = ps at *
  obtain ⟨pd, ff⟩ := ps
  clear hss hsb htx hbig hsz
  go_enter Tryz.func3, Tryz.ntmps3
  go_wp2_with (
    first
    | (refine wpList_load_rowG rfl 29 (.tmp 3) rfl w.heap.size rfl 29 x.arr (0, 0) _ (BX.out _ (by first | exact Gr.refl _ | exact GC.out)) Tryz.underlying29 rfl refLnSize ?_)
    | (refine wpList_load_rowG rfl 29 (.tmp 4) rfl (w.heap.size + 1) rfl 29 y.arr (0, 0) _ (BYY.out _ (by first | exact Gr.refl _ | exact GC.out)) Tryz.underlying29 rfl refLnSize ?_)
    )
  refine (HLX.out _ G0.out).mono ?_
  rintro e w2 ⟨rfl, g2⟩
  clear GC
  have GC := Lib.hid g2; clear g2
  go_wp2_with (
    first
    | (refine wpList_load_rowG rfl 29 (.tmp 3) rfl w.heap.size rfl 29 x.arr (0, 0) _ (BX.out _ (by first | exact Gr.refl _ | exact GC.out)) Tryz.underlying29 rfl refLnSize ?_)
    | (refine wpList_load_rowG rfl 29 (.tmp 4) rfl (w.heap.size + 1) rfl 29 y.arr (0, 0) _ (BYY.out _ (by first | exact Gr.refl _ | exact GC.out)) Tryz.underlying29 rfl refLnSize ?_)
    )
  refine (HLY.out _ (G0.out.trans GC.out)).mono ?_
  rintro e w3 ⟨rfl, g3⟩
  have GC3 := Lib.hid (GC.out.trans g3); clear g3 GC
  have GC := GC3; clear GC3
  go_wp2_with (
    first
    | (refine wpList_load_rowG rfl 29 (.tmp 3) rfl w.heap.size rfl 29 x.arr (0, 0) _ (BX.out _ (by first | exact Gr.refl _ | exact GC.out)) Tryz.underlying29 rfl refLnSize ?_)
    | (refine wpList_load_rowG rfl 29 (.tmp 4) rfl (w.heap.size + 1) rfl 29 y.arr (0, 0) _ (BYY.out _ (by first | exact Gr.refl _ | exact GC.out)) Tryz.underlying29 rfl refLnSize ?_)
    )
  refine (HOF.out x _).mono ?_
  rintro e w4 ⟨rfl, g4⟩
  have GC4 := Lib.hid (GC.out.trans g4); clear g4 GC
  have GC := GC4; clear GC4
  go_wp2_with fail
  refine (HPR.out _ (G0.out.trans GC.out)).mono ?_
  rintro e w5 ⟨rfl, g5⟩
  have GC5 := Lib.hid (GC.out.trans g5); clear g5 GC
  have GC := GC5; clear GC5
  go_wp2_with (
    first
    | (refine wpList_load_rowG rfl 29 (.tmp 3) rfl w.heap.size rfl 29 x.arr (0, 0) _ (BX.out _ (by first | exact Gr.refl _ | exact GC.out)) Tryz.underlying29 rfl refLnSize ?_)
    | (refine wpList_load_rowG rfl 29 (.tmp 4) rfl (w.heap.size + 1) rfl 29 y.arr (0, 0) _ (BYY.out _ (by first | exact Gr.refl _ | exact GC.out)) Tryz.underlying29 rfl refLnSize ?_)
    )
  refine (HRP.out _ (G0.out.trans GC.out)).mono ?_
  rintro e w6 ⟨rfl, g6⟩
  have GC6 := Lib.hid (GC.out.trans g6); clear g6 GC
  have GC := GC6; clear GC6
  go_wp2_with fail
  refine (HPA.out _ (G0.out.trans GC.out)).mono ?_
  rintro e w7 ⟨p, rfl, hpd, hpa, g7, _⟩
  have hpd : p.d = pd := hpd
  have GS0 : Gr w7 ((w7.alloc (.cells #[.int .i64 0, .int .i64 0, .string ⟨#[]⟩, .string ⟨#[]⟩, .int .i64 0, .int .i64 0, .int .i64 0, .int .i64 0, .slice none 0 0, .int .i64 0, .slice none 0 0, .int .i64 0, .int .i64 0, .string ⟨#[]⟩, .int .i64 0, .string ⟨#[]⟩, .slice none 0 0] 37)).setRow w7.heap.size p.arr) := below_row39 ((Below.refl _ _).alloc (Nat.le_refl _) _) (Nat.le_refl _) _
  have HPB := setRow_heap (w7.alloc (.cells #[.int .i64 0, .int .i64 0, .string ⟨#[]⟩, .string ⟨#[]⟩, .int .i64 0, .int .i64 0, .int .i64 0, .int .i64 0, .slice none 0 0, .int .i64 0, .slice none 0 0, .int .i64 0, .int .i64 0, .string ⟨#[]⟩, .int .i64 0, .string ⟨#[]⟩, .slice none 0 0] 37)) w7.heap.size _ p.arr _ _ (heap_alloc_new w7 _)
  have BP : Hid (Blk ((w7.alloc (.cells #[.int .i64 0, .int .i64 0, .string ⟨#[]⟩, .string ⟨#[]⟩, .int .i64 0, .int .i64 0, .int .i64 0, .int .i64 0, .slice none 0 0, .int .i64 0, .slice none 0 0, .int .i64 0, .int .i64 0, .string ⟨#[]⟩, .int .i64 0, .string ⟨#[]⟩, .slice none 0 0] 37)).setRow w7.heap.size p.arr) w7.heap.size 37 p.arr.toList) := HPB
  have PA := Lib.hid (hpa.gr GS0)
  have GC7 := Lib.hid (GC.out.trans (g7.trans GS0)); clear g7 GS0 GC HPB hpa
  have GC := GC7; clear GC7
  go_wp2_with (refine wpList_store_row rfl 37 (.tmp 11) (.tmp 43) rfl w7.heap.size p.arr rfl rfl 37 #[.int .i64 0, .int .i64 0, .string ⟨#[]⟩, .string ⟨#[]⟩, .int .i64 0, .int .i64 0, .int .i64 0, .int .i64 0, .slice none 0 0, .int .i64 0, .slice none 0 0, .int .i64 0, .int .i64 0, .string ⟨#[]⟩, .int .i64 0, .string ⟨#[]⟩, .slice none 0 0] (by exact heap_alloc_new w7 _) lnSize rfl (lnOne _) ?_)
  refine (HRA.out _).mono ?_
  rintro e w8 ⟨q, rfl, hqd, hqa, g8, _⟩
  have hqd : q.d = pd := hqd
  have GS0 : Gr w8 ((w8.alloc (.cells z17 29)).setRow w8.heap.size q.arr) := below_row39 ((Below.refl _ _).alloc (Nat.le_refl _) _) (Nat.le_refl _) _
  have BQ : Hid (Blk ((w8.alloc (.cells z17 29)).setRow w8.heap.size q.arr) w8.heap.size 29 q.arr.toList) := setRow_heap (w8.alloc (.cells z17 29)) w8.heap.size _ q.arr _ _ (heap_alloc_new w8 _)
  have BP8 := Lib.hid (BP.out.mono (g8.trans GS0))
  have PA8 := Lib.hid (PA.out.gr (g8.trans GS0))
  have QA := Lib.hid (hqa.gr GS0)
  have GC8 := Lib.hid (GC.out.trans (g8.trans GS0)); clear g8 GS0 GC hqa BP PA
  have GC := GC8; clear GC8
  have HPQ : Hid (∀ wr, LnAt wr p → LnAt wr q → Calls Tryz.prog 12 #[.agg p.arr, .agg q.arr] wr fun e w' => e = .returned (.bool true) ∧ Gr wr w') := fun wr h1 h2 => by
    have := refSame41_any p q wr h1 h2
    rw [hpd, hqd, sameT_self] at this
    exact this
  clear hpd hqd
  obtain ⟨W, hW⟩ : ∃ W, W = (w8.alloc (.cells z17 29)).setRow w8.heap.size q.arr := ⟨_, rfl⟩
  obtain ⟨b7, hb7⟩ : ∃ b7, b7 = w7.heap.size := ⟨_, rfl⟩
  obtain ⟨b8, hb8⟩ : ∃ b8, b8 = w8.heap.size := ⟨_, rfl⟩
  rw [← hW, ← hb8] at BQ
  rw [← hW, ← hb7] at BP8
  rw [← hW] at PA8 QA GC
  have HW := Lib.hid hW; have HB7 := Lib.hid hb7; have HB8 := Lib.hid hb8
  clear hW hb7 hb8
  go_upto_region 7 with (refine wpList_store_row rfl 29 (.tmp 13) (.tmp 48) rfl w8.heap.size q.arr rfl rfl 29 z17 (by exact heap_alloc_new w8 _) refLnSize rfl (lnOne _) ?_)
  show Code.wp _ _ _ _ ((w8.alloc (.cells z17 29)).setRow w8.heap.size q.arr)
  rw [← HW.out, ← HB7.out, ← HB8.out]
  have GD : Hid (Gr W W.drew) := Gr.drew W
  have GWD : Hid (Gr w W.drew) := (G0.out.trans GC.out).trans GD.out
  have GXD : Hid (Gr ((w.alloc (.cells x.arr 29)).alloc (.cells y.arr 29)) W.drew) := GC.out.trans GD.out
  refine wp_region_grow (by kernel_rfl) [0, 0, 3, 7, 15, 15, 63, 127, 255, 511, 1023, 511, 4095, 8191, 16383, 32767, 32767, 131071, 262143, 524287, 1048575, 2097151, 1048575, 8388607, 16777215, 1048575, 1048575, 134217727, 268435455, 536870911, 1073741823, 2147483647, 4294967295, 8589934591] [.p 0, .p 1, .p 2, .p 3, .p 4, .p 5, .p 6, .p 7, .p 8, .q 9, .q 11, .c 10, .c 12, .p 13, .p 14, .p 15, .p 16, .p 17, .p 18, .p 19, .q 20, .q 22, .q 25, .q 26, .c 21, .c 23, .c 24, .c 27, .p 28, .p 29, .p 30, .c 31, .p 32, .p 33] (by kernel_rfl) (by simp only [mkAll]) ?_
  refine wpG_pe rfl rfl ?_
  apply Exists.intro
  refine ⟨fun wq => ?_, ?_⟩
  · unfold plainAt
    go_simp
    first | exact rfl | exact ⟨rfl, rfl⟩
  go_simp
  refine wpG_pe rfl rfl ?_
  apply Exists.intro
  refine ⟨fun wq => ?_, ?_⟩
  · unfold plainAt
    go_simp
    first | exact rfl | exact ⟨rfl, rfl⟩
  go_simp
  refine wpG_pe rfl rfl ?_
  apply Exists.intro
  refine ⟨fun wq => ?_, ?_⟩
  · unfold plainAt
    go_simp
    first | exact rfl | exact ⟨rfl, rfl⟩
  go_simp
  refine wpG_pe rfl rfl ?_
  apply Exists.intro
  refine ⟨fun wq => ?_, ?_⟩
  · unfold plainAt
    go_simp
    first | exact rfl | exact ⟨rfl, rfl⟩
  go_simp
  refine wpG_pe rfl rfl ?_
  apply Exists.intro
  refine ⟨fun wq => ?_, ?_⟩
  · unfold plainAt
    go_simp
    first | exact rfl | exact ⟨rfl, rfl⟩
  go_simp
  refine wpG_pe rfl rfl ?_
  apply Exists.intro
  refine ⟨fun wq => ?_, ?_⟩
  · unfold plainAt
    go_simp
    first | exact rfl | exact ⟨rfl, rfl⟩
  go_simp
  refine wpG_pe rfl rfl ?_
  apply Exists.intro
  refine ⟨fun wq => ?_, ?_⟩
  · unfold plainAt
    go_simp
    first | exact rfl | exact ⟨rfl, rfl⟩
  go_simp
  refine wpG_pe rfl rfl ?_
  apply Exists.intro
  refine ⟨fun wq => ?_, ?_⟩
  · unfold plainAt
    go_simp
    first | exact rfl | exact ⟨rfl, rfl⟩
  go_simp
  refine wpG_pe rfl rfl ?_
  apply Exists.intro
  refine ⟨fun wq => ?_, ?_⟩
  · unfold plainAt
    go_simp
    first | exact rfl | exact ⟨rfl, rfl⟩
  go_simp
  refine wpG_q rfl rfl (.agg p.arr) (fun wq hq => plain_load_mid 37 (.tmp 11) rfl b7 0 rfl p.cells _ (Blk.range (BP8.out.mono (GD.out.trans hq))) Tryz.underlying37 rfl lnSize) ?_
  go_simp
  refine wpG_q rfl rfl (.agg q.arr) (fun wq hq => plain_load_mid 29 (.tmp 13) rfl b8 0 rfl q.cells _ (Blk.range (BQ.out.mono (GD.out.trans hq))) Tryz.underlying29 rfl refLnSize) ?_
  go_simp
  refine wpG_c rfl rfl ?_
  intro wc gc K hK
  go_simp
  go_at_call 13
  refine (HBK.out p wc).mono ?_
  rintro e wn ⟨rfl, gf⟩
  refine hK _ _ gf ?_; have GX1 := Lib.hid (gc.trans gf); clear gc gf hK
  go_simp
  refine wpG_c rfl rfl ?_
  intro wc gc K hK
  go_simp
  go_at_call 12
  refine (HPQ.out wc (PA8.out.gr (GD.out.trans (GX1.out.trans gc))) (QA.out.gr (GD.out.trans (GX1.out.trans gc)))).mono ?_
  rintro e wn ⟨rfl, gf⟩
  refine hK _ _ gf ?_; have GX2 := Lib.hid (GX1.out.trans (gc.trans gf)); clear gc gf hK
  go_simp
  refine wpG_pe rfl rfl ?_
  apply Exists.intro
  refine ⟨fun wq => ?_, ?_⟩
  · unfold plainAt
    go_simp
    first | exact rfl | exact ⟨rfl, rfl⟩
  go_simp
  refine wpG_pe rfl rfl ?_
  apply Exists.intro
  refine ⟨fun wq => ?_, ?_⟩
  · unfold plainAt
    go_simp
    first | exact rfl | exact ⟨rfl, rfl⟩
  go_simp
  refine wpG_pe rfl rfl ?_
  apply Exists.intro
  refine ⟨fun wq => ?_, ?_⟩
  · unfold plainAt
    go_simp
    first | exact rfl | exact ⟨rfl, rfl⟩
  go_simp
  refine wpG_pe rfl rfl ?_
  apply Exists.intro
  refine ⟨fun wq => ?_, ?_⟩
  · unfold plainAt
    go_simp
    first | exact rfl | exact ⟨rfl, rfl⟩
  go_simp
  refine wpG_pe rfl rfl ?_
  apply Exists.intro
  refine ⟨fun wq => ?_, ?_⟩
  · unfold plainAt
    go_simp
    first | exact rfl | exact ⟨rfl, rfl⟩
  go_simp
  refine wpG_pe rfl rfl ?_
  apply Exists.intro
  refine ⟨fun wq => ?_, ?_⟩
  · unfold plainAt
    go_simp
    first | exact rfl | exact ⟨rfl, rfl⟩
  go_simp
  refine wpG_pe rfl rfl ?_
  apply Exists.intro
  refine ⟨fun wq => ?_, ?_⟩
  · unfold plainAt
    go_simp
    first | exact rfl | exact ⟨rfl, rfl⟩
  go_simp
  refine wpG_q rfl rfl (.agg x.arr) (fun wq hq => plain_load_mid 29 (.tmp 3) rfl _ 0 rfl x.cells _ (Blk.range (BX.out wq (GXD.out.trans (GX2.out.trans hq)))) Tryz.underlying29 rfl refLnSize) ?_
  go_simp
  refine wpG_q rfl rfl (.agg y.arr) (fun wq hq => plain_load_mid 29 (.tmp 4) rfl _ 0 rfl y.cells _ (Blk.range (BYY.out wq (GXD.out.trans (GX2.out.trans hq)))) Tryz.underlying29 rfl refLnSize) ?_
  go_simp
  refine wpG_q rfl rfl (.agg x.arr) (fun wq hq => plain_load_mid 29 (.tmp 3) rfl _ 0 rfl x.cells _ (Blk.range (BX.out wq (GXD.out.trans (GX2.out.trans hq)))) Tryz.underlying29 rfl refLnSize) ?_
  go_simp
  refine wpG_q rfl rfl (.agg y.arr) (fun wq hq => plain_load_mid 29 (.tmp 4) rfl _ 0 rfl y.cells _ (Blk.range (BYY.out wq (GXD.out.trans (GX2.out.trans hq)))) Tryz.underlying29 rfl refLnSize) ?_
  go_simp
  refine wpG_c rfl rfl ?_
  intro wc gc K hK
  go_simp
  go_at_call 8
  refine (HOF.out x wc).mono ?_
  rintro e wn ⟨rfl, gf⟩
  refine hK _ _ gf ?_; have GX3 := Lib.hid (GX2.out.trans (gc.trans gf)); clear gc gf hK
  go_simp
  refine wpG_c rfl rfl ?_
  intro wc gc K hK
  go_simp
  go_at_call 8
  refine (HOF.out y wc).mono ?_
  rintro e wn ⟨rfl, gf⟩
  refine hK _ _ gf ?_; have GX4 := Lib.hid (GX3.out.trans (gc.trans gf)); clear gc gf hK
  go_simp
  refine wpG_c rfl rfl ?_
  intro wc gc K hK
  go_simp
  go_at_call 14
  refine (HSS.out wc (GWD.out.trans (GX4.out.trans gc))).mono ?_
  rintro e wn ⟨rfl, gf⟩
  refine hK _ _ gf ?_; have GX5 := Lib.hid (GX4.out.trans (gc.trans gf)); clear gc gf hK
  go_simp
  refine wpG_c rfl rfl ?_
  intro wc gc K hK
  go_simp
  go_at_call 12
  refine (HRS.out wc (GWD.out.trans (GX5.out.trans gc))).mono ?_
  rintro e wn ⟨rfl, gf⟩
  refine hK _ _ gf ?_; have GX6 := Lib.hid (GX5.out.trans (gc.trans gf)); clear gc gf hK
  go_simp
  refine wpG_pe rfl rfl ?_
  apply Exists.intro
  refine ⟨fun wq => ?_, ?_⟩
  · unfold plainAt
    go_simp
    first | exact rfl | exact ⟨rfl, rfl⟩
  go_simp
  refine wpG_pe rfl rfl ?_
  apply Exists.intro
  refine ⟨fun wq => ?_, ?_⟩
  · unfold plainAt
    go_simp
    first | exact rfl | exact ⟨rfl, rfl⟩
  go_simp
  refine wpG_pe rfl rfl ?_
  apply Exists.intro
  refine ⟨fun wq => ?_, ?_⟩
  · unfold plainAt
    go_simp
    first | exact rfl | exact ⟨rfl, rfl⟩
  go_simp
  refine wpG_c rfl rfl ?_
  intro wc gc K hK
  go_simp
  go_at_call 6
  refine (HAL.out wc (GWD.out.trans (GX6.out.trans gc))).mono ?_
  rintro e wn ⟨rfl, gf⟩
  refine hK _ _ gf ?_; have GX7 := Lib.hid (GX6.out.trans (gc.trans gf)); clear gc gf hK
  go_simp
  refine wpG_pe rfl rfl ?_
  apply Exists.intro
  refine ⟨fun wq => ?_, ?_⟩
  · unfold plainAt
    go_simp
    first | exact rfl | exact ⟨rfl, rfl⟩
  go_simp
  refine wpG_pe rfl rfl ?_
  apply Exists.intro
  refine ⟨fun wq => ?_, ?_⟩
  · unfold plainAt
    go_simp
    first | exact rfl | exact ⟨rfl, rfl⟩
  go_simp
  refine wpG_nil ?_
  intro wz gz
  have GZ := Lib.hid (GWD.out.trans (GX7.out.trans gz)); clear gz
  go_wp2_with fail
  go_ret
  exact ⟨rfl, GZ.out⟩
theorem scLines_law (x y : LnV) (s : ByteArray) (w : World) (hx : LnAt w x) (hy : LnAt w y) (nx : LnNum x.d) (ny : LnNum y.d) (hT : Pow10 w) (hM : MLen w) :
    Calls Tryz.prog 3 #[.agg x.arr, .agg y.arr, .string s] w fun e w' => e = .returned (.bool true) ∧ Gr w w' := by
  have h := scLines_any x y s.data.toList w hx hy nx ny hT hM
  rw [show strc s.data.toList = .string s by unfold strc; simp] at h
  exact h
end Go.Proofs.YtadenlhnfkccaaaGreatDoor
