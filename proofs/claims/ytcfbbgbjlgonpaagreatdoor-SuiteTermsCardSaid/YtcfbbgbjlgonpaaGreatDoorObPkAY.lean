/- Own texts of this claim, one behind the other. No condition. -/
import Derived.Test.YtcfbbgbjlgonpaaGreatDoorObPkAS
import Derived.Test.YtcfbbgbjlgonpaaGreatDoorObPkAT
import Derived.Test.YtcfbbgbjlgonpaaGreatDoorObPkAX

/- The reference of layer 17, of terms: Open. No condition. -/
namespace Go.Proofs.YtcfbbgbjlgonpaaGreatDoor
open Go.RowKit
set_option linter.unusedVariables false
set_option linter.unusedSimpArgs false
def RetOpT (w : World) (r : Option (List UInt8)) (e : Ending) (w' : World) : Prop := ∃ A2 n2 c2, e = .returned (.tuple #[.slice A2 n2 c2, .bool r.isSome]) ∧ FB w w' A2 n2 c2 (r.getD []) ∧ Gr w w'
set_option maxRecDepth 100000 in
set_option maxHeartbeats 4000000 in
theorem tOpen_any (A B D E : Option Addr) (n c m e0 q0 f q1 f1 : Nat) (T : List Nd) (key b : List UInt8) (w : World) (hT : RTb w A n c T) (hi : TIn T) (hn : n ≤ 1000) (hk : Bs w D q0 f key) (hb : Bs w E q1 f1 b) :
    Calls Tryz.prog 66 #[tv A n c B m e0, .slice D q0 f, .slice E q1 f1] w (RetOpT w (openT T key b)) := by
  have hcp := hb.cap; have hmx := hb.max
  have hcpk := hk.cap; have hmxk := hk.max
  have hbl : b.length = q1 := hb.len
  have hTl : T.length = n := hT.1
  have hcT := hT.cap; have hmT := hT.max
  by_cases hsh : b.length < 48 ∨ 60048 < b.length
  · rw [open_short hsh]
    have HB := Lib.hid hb
    clear hb hk hT
    unfold tv
    show Calls _ _ #[.agg #[.bool false, .slice none 0 0, .int .i64 0, .slice A n c, .slice B m e0], _, _] _ _
    by_cases h48 : q1 < 48
    · have t1 : decide ((q1 : Int) < 48) = true := decide_eq_true (by omega)
      obtain ⟨W, hW⟩ : ∃ W, W = tw1 w A n c B m e0 := ⟨_, rfl⟩
      have HX := Lib.hid (tw1_a w A n c B m e0); have HG := Lib.hid (tw1_g w A n c B m e0)
      rw [← hW] at HX HG
      unfold tw1 at hW
      have HW := Lib.hid hW
      clear hW
      go_enter Tryz.func66, Tryz.ntmps66
      go_upto_region 1 with fail
      rw [← HW.out]
      obtain ⟨h, hh⟩ : ∃ h, h = w.heap.size := ⟨_, rfl⟩
      rw [← hh] at HX ⊢
      have HH := Lib.hid hh; clear hh
      have c0 : W.cell? ⟨h, 0, none⟩ = some (.bool false) := HX.out.cell 0
      go_wp2_with fail
      go_ret2
      exact ⟨none, 0, 0, rfl, FB.nil _ _, HG.out⟩
    · have t1 : decide ((q1 : Int) < 48) = false := decide_eq_false (by omega)
      have t2 : decide ((60048 : Int) < (q1 : Int)) = true := decide_eq_true (by omega)
      obtain ⟨W, hW⟩ : ∃ W, W = tw1 w A n c B m e0 := ⟨_, rfl⟩
      have HX := Lib.hid (tw1_a w A n c B m e0); have HG := Lib.hid (tw1_g w A n c B m e0)
      rw [← hW] at HX HG
      unfold tw1 at hW
      have HW := Lib.hid hW
      clear hW
      go_enter Tryz.func66, Tryz.ntmps66
      go_upto_region 1 with fail
      rw [← HW.out]
      obtain ⟨h, hh⟩ : ∃ h, h = w.heap.size := ⟨_, rfl⟩
      rw [← hh] at HX ⊢
      have HH := Lib.hid hh; clear hh
      have c0 : W.cell? ⟨h, 0, none⟩ = some (.bool false) := HX.out.cell 0
      go_wp2_with fail
      go_ret2
      exact ⟨none, 0, 0, rfl, FB.nil _ _, HG.out⟩
  have t1 : decide ((q1 : Int) < 48) = false := decide_eq_false (by omega)
  have t2 : decide ((60048 : Int) < (q1 : Int)) = false := decide_eq_false (by omega)
  obtain ⟨b1, o1, rfl, hbc⟩ := hb.addr (by omega)
  have hb32 : Bs w (some ⟨b1, o1, none⟩) 32 f1 (b.take 32) := by
    have := hb.upto (k := 32) (by omega)
    rwa [← List.map_take] at this
  have HTM := Lib.hid (fun W (g : Gr w W) => refTerm_any A B (some ⟨b1, o1, none⟩) n c m e0 32 f1 T (b.take 32) W (hT.mono g) hi.kinds hn (hb32.mono g))
  have HKD := Lib.hid (fun W (g : Gr w W) => refKind_any A n c T (termB T (b.take 32) : Int) W (hT.mono g))
  have hidl : termB T (b.take 32) ≤ 1000 := Nat.le_trans (termB_le T _) (by omega)
  have HHD := Lib.hid (fun W => refHandle_any (termB T (b.take 32)) W (by omega))
  have HPD := Lib.hid (fun A' c' W' (s : Bs W' A' 32 c' (handleL (termB T (b.take 32)))) => refPad_yes A' 32 c' (handleL (termB T (b.take 32))) q1 W' s (by omega) (by omega))
  have HPT := Lib.hid (fun W (g : Gr w W) => refParts_any A n c T (termB T (b.take 32) : Int) W (hT.mono g) hi.kinds)
  have HBY := Lib.hid (fun id' (hid' : id' ≤ 1000) W (g : Gr w W) => tBytes_any A B n c m e0 T id' W (hT.mono g) hn hid' (tin_sz hi))
  have HB := Lib.hid hb; have HKY := Lib.hid hk
  have hd32 : 32 ≤ f1 := by omega
  have hm32 : 32 ≤ q1 := by omega
  have hd33 : (32 : Int) ≤ (f1 : Int) := by omega
  have hm33 : (32 : Int) ≤ (q1 : Int) := by omega
  have HPL : Hid ((padL (handleL (termB T (b.take 32))) q1).length = q1) := padL_length _ _
  have HLN : Hid (n ≤ 1000 ∧ T.length = n) := ⟨hn, hTl⟩
  unfold tv at HTM HBY ⊢
  show Calls _ _ #[.agg #[.bool false, .slice none 0 0, .int .i64 0, .slice A n c, .slice B m e0], _, _] _ _
  by_cases h5 : kindOf T (termB T (b.take 32)) = 5
  · have HPP := Lib.hid (parts5 hi.parts h5)
    rw [h5] at HKD
    cases hv : b == padL (handleL (termB T (b.take 32))) q1 with
    | false =>
      rw [open_pad (by rw [hbl]; exact beq_eq_false_iff_ne.1 hv)]
      have HV := Lib.hid hv
      clear hb hk hT hi hb32 hbc hbl hTl hsh h5 hv
      generalize termB T (b.take 32) = id at *
      obtain ⟨W, hW⟩ : ∃ W, W = tw1 w A n c B m e0 := ⟨_, rfl⟩
      have HX := Lib.hid (tw1_a w A n c B m e0); have HG := Lib.hid (tw1_g w A n c B m e0)
      rw [← hW] at HX HG
      unfold tw1 at hW
      have HW := Lib.hid hW
      clear hW
      go_enter Tryz.func66, Tryz.ntmps66
      go_upto_region 1 with fail
      rw [← HW.out]
      obtain ⟨h, hh⟩ : ∃ h, h = w.heap.size := ⟨_, rfl⟩
      rw [← hh] at HX ⊢
      have HH := Lib.hid hh; clear hh
      have c0 : W.cell? ⟨h, 0, none⟩ = some (.bool false) := HX.out.cell 0
      go_upto_region 6 with fail
      refine wp_region_grow (by kernel_rfl) [0, 0, 2, 7, 15] [.p 1, .p 2, .q 0, .c 3, .p 4] (by kernel_rfl) (trivial) ?_
      refine wpG_pe rfl rfl ?_
      apply Exists.intro
      refine ⟨fun wq => ?_, ?_⟩
      · unfold plainAt
        go_simp
        first | exact rfl | exact ⟨rfl, rfl⟩
      go_simp
      refine wpG_pe rfl rfl ?_
      apply Exists.intro
      refine ⟨fun wq => ?_, ?_⟩
      · unfold plainAt
        go_simp
        first | exact rfl | exact ⟨rfl, rfl⟩
      go_simp
      refine wpG_qe rfl rfl ⟨.agg (ts A n c B m e0).toArray, fun wq hq => plainRow 33 (.tmp 3) rfl h 0 rfl _ _ (Xk.whole (Gr.blk ((Gr.refl W).trans ((Gr.drew _).trans hq)) HX.out)) Tryz.underlying33 rfl (size5c _ rfl), ?_⟩
      go_simp
      refine wpG_c rfl rfl ?_
      intro w5 g5 K hK
      go_simp
      go_at_call 31
      refine (HTM.out w5 (HG.out.trans ((Gr.drew _).trans g5))).mono ?_
      rintro e wn ⟨rfl, g6⟩
      refine hK _ _ g6 ?_; clear hK; have G6 := Lib.hid (((Gr.drew _).trans g5).trans g6); clear g5 g6
      go_simp
      refine wpG_pe rfl rfl ?_
      apply Exists.intro
      refine ⟨fun wq => ?_, ?_⟩
      · unfold plainAt
        go_simp
        first | exact rfl | exact ⟨rfl, rfl⟩
      go_simp
      refine wpG_nil ?_
      intro w7 g7
      have G7 := Lib.hid (Gr.trans G6.out g7)
      clear g7 G6
      have c3 : w7.cell? ⟨h, 3, none⟩ = some (.slice A n c) := (G7.out.blk HX.out).cell 3
      go_wp2_with fail
      refine (HKD.out w7 (HG.out.trans G7.out)).mono ?_
      rintro e w8 ⟨rfl, h8⟩
      rw [h8]
      clear h8 w8
      go_wp2_with fail
      refine (HHD.out _).mono ?_
      rintro e w9 ⟨v9, rfl, o9⟩
      rw [handleL_len] at o9
      obtain ⟨A9, c9, rfl, s9⟩ := o9.slice
      have G9 := Lib.hid (Gr.trans G7.out o9.below)
      have HPX := Lib.hid (HPD.out A9 c9 w9 s9)
      clear o9 s9
      go_wp2_with fail
      refine HPX.out.mono ?_
      rintro e w10 ⟨v10, rfl, o10⟩
      obtain ⟨A10, c10, rfl, s10⟩ := o10.slice
      have G10 := Lib.hid (Gr.trans G9.out o10.below)
      have HSM := Lib.hid (refSame_any _ A10 _ _ _ c10 b _ w10 (HB.out.mono (HG.out.trans G10.out)) s10)
      rw [HV.out] at HSM
      clear o10 s10
      go_wp2_with fail
      refine HSM.out.mono ?_
      rintro e w11 ⟨rfl, k11, rfl⟩
      have G11 : Hid (Gr W (w10.drewN k11)) := belowN G10.out k11
      have c3' : (w10.drewN k11).cell? ⟨h, 3, none⟩ = some (.slice A n c) := (G11.out.blk HX.out).cell 3
      go_wp2_with fail
      go_ret2
      exact ⟨none, 0, 0, rfl, FB.nil _ _, HG.out.trans G11.out⟩
    | true =>
      obtain ⟨pa, pb, hp, hpa, hpb⟩ := HPP.out
      rw [open_full hsh h5 (by rw [hbl]; exact beq_iff_eq.1 hv) hp, hbl]
      rw [hp] at HPT
      have HV := Lib.hid hv
      have HBA := Lib.hid (HBY.out pa (by omega))
      have HBB := Lib.hid (HBY.out pb (by omega))
      clear hb hk hT hi hb32 hbc hbl hTl hsh h5 hv hp HPP HBY
      generalize termB T (b.take 32) = id at *
      generalize heldT T pa = ka at *
      generalize heldT T pb = kb at *
      obtain ⟨r, hr⟩ : ∃ r, r = if ka = key ∧ kb.length + 48 = q1 then some kb else none := ⟨_, rfl⟩
      rw [← hr]
      have HR := Lib.hid hr
      clear hr
      obtain ⟨W, hW⟩ : ∃ W, W = tw1 w A n c B m e0 := ⟨_, rfl⟩
      have HX := Lib.hid (tw1_a w A n c B m e0); have HG := Lib.hid (tw1_g w A n c B m e0)
      rw [← hW] at HX HG
      unfold tw1 at hW
      have HW := Lib.hid hW
      clear hW
      go_enter Tryz.func66, Tryz.ntmps66
      go_upto_region 1 with fail
      rw [← HW.out]
      obtain ⟨h, hh⟩ : ∃ h, h = w.heap.size := ⟨_, rfl⟩
      rw [← hh] at HX ⊢
      have HH := Lib.hid hh; clear hh
      have c0 : W.cell? ⟨h, 0, none⟩ = some (.bool false) := HX.out.cell 0
      go_upto_region 6 with fail
      refine wp_region_grow (by kernel_rfl) [0, 0, 2, 7, 15] [.p 1, .p 2, .q 0, .c 3, .p 4] (by kernel_rfl) (trivial) ?_
      refine wpG_pe rfl rfl ?_
      apply Exists.intro
      refine ⟨fun wq => ?_, ?_⟩
      · unfold plainAt
        go_simp
        first | exact rfl | exact ⟨rfl, rfl⟩
      go_simp
      refine wpG_pe rfl rfl ?_
      apply Exists.intro
      refine ⟨fun wq => ?_, ?_⟩
      · unfold plainAt
        go_simp
        first | exact rfl | exact ⟨rfl, rfl⟩
      go_simp
      refine wpG_qe rfl rfl ⟨.agg (ts A n c B m e0).toArray, fun wq hq => plainRow 33 (.tmp 3) rfl h 0 rfl _ _ (Xk.whole (Gr.blk ((Gr.refl W).trans ((Gr.drew _).trans hq)) HX.out)) Tryz.underlying33 rfl (size5c _ rfl), ?_⟩
      go_simp
      refine wpG_c rfl rfl ?_
      intro w5 g5 K hK
      go_simp
      go_at_call 31
      refine (HTM.out w5 (HG.out.trans ((Gr.drew _).trans g5))).mono ?_
      rintro e wn ⟨rfl, g6⟩
      refine hK _ _ g6 ?_; clear hK; have G6 := Lib.hid (((Gr.drew _).trans g5).trans g6); clear g5 g6
      go_simp
      refine wpG_pe rfl rfl ?_
      apply Exists.intro
      refine ⟨fun wq => ?_, ?_⟩
      · unfold plainAt
        go_simp
        first | exact rfl | exact ⟨rfl, rfl⟩
      go_simp
      refine wpG_nil ?_
      intro w7 g7
      have G7 := Lib.hid (Gr.trans G6.out g7)
      clear g7 G6
      have c3 : w7.cell? ⟨h, 3, none⟩ = some (.slice A n c) := (G7.out.blk HX.out).cell 3
      go_wp2_with fail
      refine (HKD.out w7 (HG.out.trans G7.out)).mono ?_
      rintro e w8 ⟨rfl, h8⟩
      rw [h8]
      clear h8 w8
      go_wp2_with fail
      refine (HHD.out _).mono ?_
      rintro e w9 ⟨v9, rfl, o9⟩
      rw [handleL_len] at o9
      obtain ⟨A9, c9, rfl, s9⟩ := o9.slice
      have G9 := Lib.hid (Gr.trans G7.out o9.below)
      have HPX := Lib.hid (HPD.out A9 c9 w9 s9)
      clear o9 s9
      go_wp2_with fail
      refine HPX.out.mono ?_
      rintro e w10 ⟨v10, rfl, o10⟩
      obtain ⟨A10, c10, rfl, s10⟩ := o10.slice
      have G10 := Lib.hid (Gr.trans G9.out o10.below)
      have HSM := Lib.hid (refSame_any _ A10 _ _ _ c10 b _ w10 (HB.out.mono (HG.out.trans G10.out)) s10)
      rw [HV.out] at HSM
      clear o10 s10
      go_wp2_with fail
      refine HSM.out.mono ?_
      rintro e w11 ⟨rfl, k11, rfl⟩
      have G11 : Hid (Gr W (w10.drewN k11)) := belowN G10.out k11
      have c3' : (w10.drewN k11).cell? ⟨h, 3, none⟩ = some (.slice A n c) := (G11.out.blk HX.out).cell 3
      go_wp2_with fail
      refine (HPT.out _ (HG.out.trans G11.out)).mono ?_
      rintro e w12 ⟨A7, c7, rfl, i7, g7, _, _⟩
      obtain ⟨b7, o7, rfl, hc7⟩ := Is.addr i7 (show 0 < 2 by decide)
      have e70 : w12.cell? ⟨b7, o7, none⟩ = some (.int .i64 (pa : Int)) := hc7 0 (show 0 < 2 by decide)
      have e71 : w12.cell? ⟨b7, o7 + 1, none⟩ = some (.int .i64 (pb : Int)) := hc7 1 (show 1 < 2 by decide)
      have hcp7 : 2 ≤ c7 := i7.cap
      have hmx7 := i7.max
      have G12 := Lib.hid (Gr.trans G11.out g7)
      clear i7 g7 hc7 c3'
      have E70 : Hid (∀ wq, Gr w12 wq → wq.cell? ⟨b7, o7, none⟩ = some (.int .i64 (pa : Int))) := fun wq hq => (Below.cell hq (World.block_lt_of_cell? w12 _ e70)).trans e70
      have E71 : Hid (∀ wq, Gr w12 wq → wq.cell? ⟨b7, o7 + 1, none⟩ = some (.int .i64 (pb : Int))) := fun wq hq => (Below.cell hq (World.block_lt_of_cell? w12 _ e71)).trans e71
      clear e70 e71
      simp only [List.length_map, List.length_cons, List.length_nil, Nat.zero_add, Nat.reduceAdd]
      go_upto_region 10 with fail
      refine wp_region_grow (by kernel_rfl) [0, 0, 2, 6, 15, 31] [.p 1, .p 2, .q 0, .q 3, .c 4, .p 5] (by kernel_rfl) (trivial) ?_
      refine wpG_pe rfl rfl ?_
      apply Exists.intro
      refine ⟨fun wq => ?_, ?_⟩
      · unfold plainAt
        go_simp
        first | exact rfl | exact ⟨rfl, rfl⟩
      go_simp
      refine wpG_pe rfl rfl ?_
      apply Exists.intro
      refine ⟨fun wq => ?_, ?_⟩
      · unfold plainAt
        go_simp
        first | exact rfl | exact ⟨rfl, rfl⟩
      go_simp
      refine wpG_qe rfl rfl ⟨.agg (ts A n c B m e0).toArray, fun wq hq => plainRow 33 (.tmp 3) rfl h 0 rfl _ _ (Xk.whole (Gr.blk ((G12.out).trans ((Gr.drew _).trans hq)) HX.out)) Tryz.underlying33 rfl (size5c _ rfl), ?_⟩
      go_simp
      refine wpG_qe rfl rfl ?_
      apply Exists.intro
      refine ⟨fun wq hq => ?_, ?_⟩
      · have z1 := E71.out wq ((Gr.drew _).trans hq)
        unfold plainAt
        go_simp
        first | exact rfl | exact ⟨rfl, rfl⟩
      go_simp
      refine wpG_c rfl rfl ?_
      intro w13 g13 K hK
      go_simp
      go_at_call 105
      refine (HBB.out w13 (HG.out.trans (G12.out.trans ((Gr.drew _).trans g13)))).mono ?_
      rintro e wn ⟨A13, n13, c13, rfl, s13, g14⟩
      refine hK _ _ g14 ?_; clear hK; have S13 := Lib.hid (s13.old (Gr.size (HG.out.trans (G12.out.trans ((Gr.drew _).trans g13))))); have G13 := Lib.hid (((Gr.drew _).trans g13).trans g14); clear g13 g14 s13
      go_simp
      refine wpG_pe rfl rfl ?_
      apply Exists.intro
      refine ⟨fun wq => ?_, ?_⟩
      · unfold plainAt
        go_simp
        first | exact rfl | exact ⟨rfl, rfl⟩
      go_simp
      refine wpG_nil ?_
      intro w15 g15
      have S15 := Lib.hid (S13.out.mono g15)
      have G15 := Lib.hid (Gr.trans G13.out g15)
      have HNK : Hid (kb.length = n13) := S15.out.b.len
      have hcpn := S15.out.b.cap; have hmxn := S15.out.b.max
      clear g15 S13 G13
      go_upto_region 11 with fail
      refine wp_region_grow (by kernel_rfl) [0, 0, 2, 6, 15, 0, 63, 127, 255, 511, 1023, 511, 2559, 6655, 16383, 32767] [.p 1, .p 2, .p 5, .q 0, .q 3, .c 4, .c 6, .p 7, .p 8, .p 9, .p 10, .p 11, .p 12, .p 13, .p 14, .p 15] (by kernel_rfl) (trivial) ?_
      refine wpG_pe rfl rfl ?_
      apply Exists.intro
      refine ⟨fun wq => ?_, ?_⟩
      · unfold plainAt
        go_simp
        first | exact rfl | exact ⟨rfl, rfl⟩
      go_simp
      refine wpG_pe rfl rfl ?_
      apply Exists.intro
      refine ⟨fun wq => ?_, ?_⟩
      · unfold plainAt
        go_simp
        first | exact rfl | exact ⟨rfl, rfl⟩
      go_simp
      refine wpG_pe rfl rfl ?_
      apply Exists.intro
      refine ⟨fun wq => ?_, ?_⟩
      · unfold plainAt
        go_simp
        first | exact rfl | exact ⟨rfl, rfl⟩
      go_simp
      refine wpG_qe rfl rfl ⟨.agg (ts A n c B m e0).toArray, fun wq hq => plainRow 33 (.tmp 3) rfl h 0 rfl _ _ (Xk.whole (Gr.blk ((G12.out.trans G15.out).trans ((Gr.drew _).trans hq)) HX.out)) Tryz.underlying33 rfl (size5c _ rfl), ?_⟩
      go_simp
      refine wpG_qe rfl rfl ?_
      apply Exists.intro
      refine ⟨fun wq hq => ?_, ?_⟩
      · have z0 := E70.out wq (G15.out.trans ((Gr.drew _).trans hq))
        unfold plainAt
        go_simp
        first | exact rfl | exact ⟨rfl, rfl⟩
      go_simp
      refine wpG_c rfl rfl ?_
      intro w16 g16 K hK
      go_simp
      go_at_call 105
      refine (HBA.out w16 (HG.out.trans (G12.out.trans (G15.out.trans ((Gr.drew _).trans g16))))).mono ?_
      rintro e wn ⟨A17, n17, c17, rfl, s17, g17⟩
      refine hK _ _ g17 ?_; clear hK; have S17 := Lib.hid s17; have G17 := Lib.hid (((Gr.drew _).trans g16).trans g17); clear g16 g17 s17
      go_simp
      have HSK := Lib.hid (fun W' (g : Gr wn W') => refSame_any A17 D n17 q0 c17 f ka key W' (Sl.mono S17.out.b g) (HKY.out.mono (HG.out.trans (G12.out.trans (G15.out.trans (G17.out.trans g))))))
      have hw48 : IntKind.i64.wrap ((q1 : Int) - 48) = (q1 : Int) - 48 := IntWalk.i64_in _ (by omega)
      by_cases hka : ka = key
      · have tk : (ka == key) = true := beq_iff_eq.2 hka
        have HKA := Lib.hid hka
        rw [tk] at HSK
        clear tk hka
        refine wpG_c rfl rfl ?_
        intro w18 g18 K hK
        go_simp
        go_at_call 15
        refine (HSK.out w18 g18).mono ?_
        rintro e wn ⟨rfl, k18, rfl⟩
        refine hK _ _ (belowN (Gr.refl _) k18) ?_; clear hK; have G18 : Hid (Gr w15 (w18.drewN k18)) := Gr.trans (G17.out.trans g18) (belowN (Gr.refl _) k18); clear g18
        go_simp
        by_cases hlk : n13 + 48 = q1
        · have t9 : ((n13 : Int) != (q1 : Int) - 48) = false := by rw [bne_eq_false_iff_eq]; omega
          have HF : Hid (ka = key ∧ kb.length + 48 = q1) := ⟨HKA.out, by rw [HNK.out]; exact hlk⟩
          obtain rfl : r = some kb := by rw [HR.out, if_pos HF.out]
          clear HR
          refine wpG_pe rfl rfl ?_
          apply Exists.intro
          refine ⟨fun wq => ?_, ?_⟩
          · unfold plainAt
            go_simp
            first | exact rfl | exact ⟨rfl, rfl⟩
          go_simp
          refine wpG_pe rfl rfl ?_
          apply Exists.intro
          refine ⟨fun wq => ?_, ?_⟩
          · unfold plainAt
            go_simp
            first | exact rfl | exact ⟨rfl, rfl⟩
          go_simp
          refine wpG_pe rfl rfl ?_
          apply Exists.intro
          refine ⟨fun wq => ?_, ?_⟩
          · unfold plainAt
            go_simp
            first | exact rfl | exact ⟨rfl, rfl⟩
          go_simp
          refine wpG_pe rfl rfl ?_
          apply Exists.intro
          refine ⟨fun wq => ?_, ?_⟩
          · unfold plainAt
            go_simp
            first | exact rfl | exact ⟨rfl, rfl⟩
          go_simp
          refine wpG_pe rfl rfl ?_
          apply Exists.intro
          refine ⟨fun wq => ?_, ?_⟩
          · unfold plainAt
            go_simp
            first | exact rfl | exact ⟨rfl, rfl⟩
          go_simp
          refine wpG_pe rfl rfl ?_
          apply Exists.intro
          refine ⟨fun wq => ?_, ?_⟩
          · unfold plainAt
            go_simp
            first | exact rfl | exact ⟨rfl, rfl⟩
          go_simp
          refine wpG_pe rfl rfl ?_
          apply Exists.intro
          refine ⟨fun wq => ?_, ?_⟩
          · unfold plainAt
            go_simp
            first | exact rfl | exact ⟨rfl, rfl⟩
          go_simp
          refine wpG_pe rfl rfl ?_
          apply Exists.intro
          refine ⟨fun wq => ?_, ?_⟩
          · unfold plainAt
            go_simp
            first | exact rfl | exact ⟨rfl, rfl⟩
          go_simp
          refine wpG_pe rfl rfl ?_
          apply Exists.intro
          refine ⟨fun wq => ?_, ?_⟩
          · unfold plainAt
            go_simp
            first | exact rfl | exact ⟨rfl, rfl⟩
          go_simp
          refine wpG_nil ?_
          intro w19 g19
          have S19 := Lib.hid (S15.out.mono (G18.out.trans g19))
          have G19 := Lib.hid (HG.out.trans (G12.out.trans (G15.out.trans (G18.out.trans g19))))
          clear g19
          go_wp2_with fail
          go_ret2
          exact ⟨_, _, _, rfl, S19.out, G19.out⟩
        · have t9 : ((n13 : Int) != (q1 : Int) - 48) = true := by rw [bne_iff_ne]; omega
          have HF : Hid (¬ (ka = key ∧ kb.length + 48 = q1)) := fun q => hlk (by rw [← HNK.out]; exact q.2)
          obtain rfl : r = none := by rw [HR.out, if_neg HF.out]
          clear HR
          refine wpG_pe rfl rfl ?_
          apply Exists.intro
          refine ⟨fun wq => ?_, ?_⟩
          · unfold plainAt
            go_simp
            first | exact rfl | exact ⟨rfl, rfl⟩
          go_simp
          refine wpG_pe rfl rfl ?_
          apply Exists.intro
          refine ⟨fun wq => ?_, ?_⟩
          · unfold plainAt
            go_simp
            first | exact rfl | exact ⟨rfl, rfl⟩
          go_simp
          refine wpG_pe rfl rfl ?_
          apply Exists.intro
          refine ⟨fun wq => ?_, ?_⟩
          · unfold plainAt
            go_simp
            first | exact rfl | exact ⟨rfl, rfl⟩
          go_simp
          refine wpG_pe rfl rfl ?_
          apply Exists.intro
          refine ⟨fun wq => ?_, ?_⟩
          · unfold plainAt
            go_simp
            first | exact rfl | exact ⟨rfl, rfl⟩
          go_simp
          refine wpG_pe rfl rfl ?_
          apply Exists.intro
          refine ⟨fun wq => ?_, ?_⟩
          · unfold plainAt
            go_simp
            first | exact rfl | exact ⟨rfl, rfl⟩
          go_simp
          refine wpG_pe rfl rfl ?_
          apply Exists.intro
          refine ⟨fun wq => ?_, ?_⟩
          · unfold plainAt
            go_simp
            first | exact rfl | exact ⟨rfl, rfl⟩
          go_simp
          refine wpG_pe rfl rfl ?_
          apply Exists.intro
          refine ⟨fun wq => ?_, ?_⟩
          · unfold plainAt
            go_simp
            first | exact rfl | exact ⟨rfl, rfl⟩
          go_simp
          refine wpG_pe rfl rfl ?_
          apply Exists.intro
          refine ⟨fun wq => ?_, ?_⟩
          · unfold plainAt
            go_simp
            first | exact rfl | exact ⟨rfl, rfl⟩
          go_simp
          refine wpG_pe rfl rfl ?_
          apply Exists.intro
          refine ⟨fun wq => ?_, ?_⟩
          · unfold plainAt
            go_simp
            first | exact rfl | exact ⟨rfl, rfl⟩
          go_simp
          refine wpG_nil ?_
          intro w19 g19
          have G19 := Lib.hid (HG.out.trans (G12.out.trans (G15.out.trans (G18.out.trans g19))))
          clear g19
          go_wp2_with fail
          go_ret2
          exact ⟨none, 0, 0, rfl, FB.nil _ _, G19.out⟩
      · have tk : (ka == key) = false := beq_eq_false_iff_ne.2 hka
        obtain rfl : r = none := by rw [HR.out, if_neg (fun q => hka q.1)]
        clear HR
        rw [tk] at HSK
        clear tk hka
        refine wpG_c rfl rfl ?_
        intro w18 g18 K hK
        go_simp
        go_at_call 15
        refine (HSK.out w18 g18).mono ?_
        rintro e wn ⟨rfl, k18, rfl⟩
        refine hK _ _ (belowN (Gr.refl _) k18) ?_; clear hK; have G18 : Hid (Gr w15 (w18.drewN k18)) := Gr.trans (G17.out.trans g18) (belowN (Gr.refl _) k18); clear g18
        go_simp
        refine wpG_pe rfl rfl ?_
        apply Exists.intro
        refine ⟨fun wq => ?_, ?_⟩
        · unfold plainAt
          go_simp
          first | exact rfl | exact ⟨rfl, rfl⟩
        go_simp
        refine wpG_pe rfl rfl ?_
        apply Exists.intro
        refine ⟨fun wq => ?_, ?_⟩
        · unfold plainAt
          go_simp
          first | exact rfl | exact ⟨rfl, rfl⟩
        go_simp
        first | refine wpG_skip_p rfl rfl ?_ | refine wpG_skip_q rfl rfl ?_ | refine wpG_skip_c rfl rfl ?_
        go_simp
        first | refine wpG_skip_p rfl rfl ?_ | refine wpG_skip_q rfl rfl ?_ | refine wpG_skip_c rfl rfl ?_
        go_simp
        first | refine wpG_skip_p rfl rfl ?_ | refine wpG_skip_q rfl rfl ?_ | refine wpG_skip_c rfl rfl ?_
        go_simp
        first | refine wpG_skip_p rfl rfl ?_ | refine wpG_skip_q rfl rfl ?_ | refine wpG_skip_c rfl rfl ?_
        go_simp
        first | refine wpG_skip_p rfl rfl ?_ | refine wpG_skip_q rfl rfl ?_ | refine wpG_skip_c rfl rfl ?_
        go_simp
        first | refine wpG_skip_p rfl rfl ?_ | refine wpG_skip_q rfl rfl ?_ | refine wpG_skip_c rfl rfl ?_
        go_simp
        refine wpG_pe rfl rfl ?_
        apply Exists.intro
        refine ⟨fun wq => ?_, ?_⟩
        · unfold plainAt
          go_simp
          first | exact rfl | exact ⟨rfl, rfl⟩
        go_simp
        refine wpG_nil ?_
        intro w19 g19
        have G19 := Lib.hid (HG.out.trans (G12.out.trans (G15.out.trans (G18.out.trans g19))))
        clear g19
        go_wp2_with fail
        go_ret2
        exact ⟨none, 0, 0, rfl, FB.nil _ _, G19.out⟩
  · rw [open_kind h5]
    obtain ⟨q, hq⟩ : ∃ q, q = kindOf T (termB T (b.take 32) : Int) := ⟨_, rfl⟩
    rw [← hq] at HKD h5
    have t3 : ((q : Int) != 5) = true := by rw [bne_iff_ne]; omega
    clear hb hk hT hi hb32 hbc hbl hTl hsh hq
    generalize termB T (b.take 32) = id at *
    obtain ⟨W, hW⟩ : ∃ W, W = tw1 w A n c B m e0 := ⟨_, rfl⟩
    have HX := Lib.hid (tw1_a w A n c B m e0); have HG := Lib.hid (tw1_g w A n c B m e0)
    rw [← hW] at HX HG
    unfold tw1 at hW
    have HW := Lib.hid hW
    clear hW
    go_enter Tryz.func66, Tryz.ntmps66
    go_upto_region 1 with fail
    rw [← HW.out]
    obtain ⟨h, hh⟩ : ∃ h, h = w.heap.size := ⟨_, rfl⟩
    rw [← hh] at HX ⊢
    have HH := Lib.hid hh; clear hh
    have c0 : W.cell? ⟨h, 0, none⟩ = some (.bool false) := HX.out.cell 0
    go_upto_region 6 with fail
    refine wp_region_grow (by kernel_rfl) [0, 0, 2, 7, 15] [.p 1, .p 2, .q 0, .c 3, .p 4] (by kernel_rfl) (trivial) ?_
    refine wpG_pe rfl rfl ?_
    apply Exists.intro
    refine ⟨fun wq => ?_, ?_⟩
    · unfold plainAt
      go_simp
      first | exact rfl | exact ⟨rfl, rfl⟩
    go_simp
    refine wpG_pe rfl rfl ?_
    apply Exists.intro
    refine ⟨fun wq => ?_, ?_⟩
    · unfold plainAt
      go_simp
      first | exact rfl | exact ⟨rfl, rfl⟩
    go_simp
    refine wpG_qe rfl rfl ⟨.agg (ts A n c B m e0).toArray, fun wq hq => plainRow 33 (.tmp 3) rfl h 0 rfl _ _ (Xk.whole (Gr.blk ((Gr.refl W).trans ((Gr.drew _).trans hq)) HX.out)) Tryz.underlying33 rfl (size5c _ rfl), ?_⟩
    go_simp
    refine wpG_c rfl rfl ?_
    intro w5 g5 K hK
    go_simp
    go_at_call 31
    refine (HTM.out w5 (HG.out.trans ((Gr.drew _).trans g5))).mono ?_
    rintro e wn ⟨rfl, g6⟩
    refine hK _ _ g6 ?_; clear hK; have G6 := Lib.hid (((Gr.drew _).trans g5).trans g6); clear g5 g6
    go_simp
    refine wpG_pe rfl rfl ?_
    apply Exists.intro
    refine ⟨fun wq => ?_, ?_⟩
    · unfold plainAt
      go_simp
      first | exact rfl | exact ⟨rfl, rfl⟩
    go_simp
    refine wpG_nil ?_
    intro w7 g7
    have G7 := Lib.hid (Gr.trans G6.out g7)
    clear g7 G6
    have c3 : w7.cell? ⟨h, 3, none⟩ = some (.slice A n c) := (G7.out.blk HX.out).cell 3
    go_wp2_with fail
    refine (HKD.out w7 (HG.out.trans G7.out)).mono ?_
    rintro e w8 ⟨rfl, h8⟩
    rw [h8]
    clear h8 w8
    go_wp2_with fail
    go_ret2
    exact ⟨none, 0, 0, rfl, FB.nil _ _, HG.out.trans G7.out⟩
end Go.Proofs.YtcfbbgbjlgonpaaGreatDoor
