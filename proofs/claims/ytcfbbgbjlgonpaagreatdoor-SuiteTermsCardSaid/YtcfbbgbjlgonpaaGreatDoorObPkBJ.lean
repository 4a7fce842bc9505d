/- Own texts of this claim, one behind the other. No condition. -/
import Derived.Test.YtcfbbgbjlgonpaaGreatDoorObPkBI

/- Acts one behind the other on a suite of terms, and on the document's: both tell the same. No condition. -/
namespace Go.Proofs.YtcfbbgbjlgonpaaGreatDoor
open Go.RowKit
set_option linter.unusedVariables false
set_option linter.unusedSimpArgs false
section
variable {p g bm bs : Nat}
set_option maxRecDepth 100000 in
set_option maxHeartbeats 8000000 in
theorem playsT_any (w0 w : World) (b0 : Gr w0 w) (sy : SymS w0 w p g bm bs []) (sm : SumM w bs []) (nb : bs ≠ bm) (hge : w0.heap.size ≤ bs) (hml : MLenI w0) (LA : Option Addr) (n c : Nat) (L0 : List Sa) (hL : Sas w0 LA n c L0) (hn : n ≤ 30) (hl : ∀ z ∈ L0, z.light) :
    Calls Tryz.prog 9 #[.pointer (some ⟨p, 0, none⟩), tv none 0 0 none 0 0, .slice LA n c] w fun e w' => ∃ T, e = .returned (.bool true) ∧ SymS w0 w' p g bm bs T ∧ TG2 T 90 ∧ Gr w0 w' := by
  unfold tv
  show Calls _ _ #[_, .agg #[.bool false, .slice none 0 0, .int .i64 0, .slice none 0 0, .slice none 0 0], _] _ _
  obtain ⟨W, hW⟩ : ∃ W, W = tw1 w none 0 0 none 0 0 := ⟨_, rfl⟩
  have S0 : Hid (PW w0 w.heap.size p g bm bs 0 none 0 none 0 [] [] (.slice none 0 0) [] W) := by
    have G := tw1_g w none 0 0 none 0 0
    rw [← hW] at G
    have nl : ∀ (e : TypeId) (s : Nat), Own w0 W e s (.slice none 0 0) 0 [] := fun e s => (Own.nil w0 e s).mono (b0.trans G)
    refine ⟨⟨⟨sy.gr G, sm.gr G, nl _ _, ⟨nl _ _, fun r hr => (by cases hr)⟩, nb, hge⟩, by rw [hW]; exact tw1_a w none 0 0 none 0 0, ⟨nl _ _, fun r hr => (by cases hr)⟩, b0.size, fun b hb => (by cases hb)⟩, fun r hr => (by cases hr), ⟨⟨TIn.nil, fun x hx => (by cases hx), Nat.le_refl _⟩, SzT.nil⟩, Nat.le_refl _, rfl⟩
  unfold tw1 at hW
  have HW := Lib.hid hW
  have HL := Lib.hid hL; have HLL := Lib.hid hL.1; have HLT := Lib.hid hl; have HML := Lib.hid hml
  have hcl := hL.2.1.cap; have hml := hL.2.1.max
  clear hW hL hl b0 sy sm
  go_enter Tryz.func9, Tryz.ntmps9
  go_upto_region 1 with fail
  rw [← HW.out]
  obtain ⟨h, hh⟩ : ∃ h, h = w.heap.size := ⟨_, rfl⟩
  rw [← hh] at S0 ⊢
  clear hh HW
  go_wp2_with fail
  go_loopw [7, 8] (fun v i wr => ∃ (k : Nat) (Ar : Option Addr) (cr : Nat) (Br : Option Addr) (er : Nat) (T : List Nd) (L : List BRow) (R : List BRow), k ≤ n ∧ i = .int .i64 (k : Int) ∧ PW w0 h p g bm bs k Ar cr Br er T L v R wr) (fun _ i _ => n - (Go.RowKit.intOf i).toNat)
  case atStart => exact ⟨0, none, 0, none, 0, [], [], [], Nat.zero_le _, rfl, S0.out⟩
  case round =>
    obtain ⟨k, Ar, cr, Br, er, T, L, R, hk, rfl, s⟩ := hrel
    obtain ⟨Av, cv, rfl, hbs⟩ := s.pv.ga.at
    have S1 := Lib.hid s; have HBS := Lib.hid hbs
    have HRL := Lib.hid s.hl; have HLK := Lib.hid s.hL; have HTK := Lib.hid s.tg
    clear s hbs S0
    have p0 : (0 : Int) ≤ k := by omega
    by_cases hlt : k < n
    · have t0 : decide ((k : Int) < (n : Int)) = true := decide_eq_true (by omega)
      have pk : (k : Int) < (n : Int) := by omega
      have hkl : k < L0.length := by rw [HLL.out]; exact hlt
      obtain ⟨bb, o, rfl, q0, q1, q2, q3, q4, q5, qr, hok⟩ := HL.out.row hkl
      have hlz := HLT.out _ (List.getElem_mem hkl)
      obtain ⟨_, hi64, hj64, hbx, hby, _⟩ := hok
      clear q0 q5
      generalize L0[k] = z at *
      obtain ⟨zk, zi, zj, x, y, zs⟩ := z
      obtain ⟨s, hs⟩ : ∃ s : List UInt8, zs = ⟨s.toArray⟩ := ⟨zs.data.toList, by cases zs; simp⟩
      simp only at q1 q2 q3 q4 hi64 hj64 hbx hby hlz
      have hsl : s.length ≤ 40 := by have h1 : zs.size ≤ 40 := hlz.2.2; rw [hs] at h1; exact h1
      have hxn : x.n ≤ 200 := hlz.1
      have hyn : y.n ≤ 200 := hlz.2.1
      subst hs
      have QR : Hid (∀ wq, Gr w0 wq → wq.rangeAt bb (o + k * 6) [.int .i64 zk, .int .i64 zi, .int .i64 zj, x.v, y.v, .string ⟨s.toArray⟩]) := fun wq hq => rangeAt_later qr hq
      have Q1 : Hid (∀ wq, Gr w0 wq → wq.cell? ⟨bb, o + k * 6 + 1, none⟩ = some (.int .i64 zi)) := fun wq hq => (hq.cell (p := ⟨bb, o + k * 6 + 1, none⟩) (World.block_lt_of_cell? w0 _ q1)).trans q1
      have Q2 : Hid (∀ wq, Gr w0 wq → wq.cell? ⟨bb, o + k * 6 + 2, none⟩ = some (.int .i64 zj)) := fun wq hq => (hq.cell (p := ⟨bb, o + k * 6 + 2, none⟩) (World.block_lt_of_cell? w0 _ q2)).trans q2
      have Q3 : Hid (∀ wq, Gr w0 wq → wq.cell? ⟨bb, o + k * 6 + 3, none⟩ = some x.v) := fun wq hq => (hq.cell (p := ⟨bb, o + k * 6 + 3, none⟩) (World.block_lt_of_cell? w0 _ q3)).trans q3
      have Q4 : Hid (∀ wq, Gr w0 wq → wq.cell? ⟨bb, o + k * 6 + 4, none⟩ = some y.v) := fun wq hq => (hq.cell (p := ⟨bb, o + k * 6 + 4, none⟩) (World.block_lt_of_cell? w0 _ q4)).trans q4
      obtain ⟨a, ha⟩ : ∃ a, a = pickR R zi x := ⟨_, rfl⟩
      obtain ⟨b, hb⟩ : ∃ b, b = pickR R zj y := ⟨_, rfl⟩
      have HPA := Lib.hid (fun W' (e : Gr wr W') => pick_any Av R.length cv R zi x W' (HBS.out.mono e) hi64)
      have HPB := Lib.hid (fun W' (e : Gr wr W') => pick_any Av R.length cv R zj y W' (HBS.out.mono e) hj64)
      rw [← ha] at HPA
      rw [← hb] at HPB
      have HA : Hid (RowK w0 wr a ∧ a.n ≤ 200 + 48 * k) := by
        rcases pickR_mem R zi x with h1 | h1 <;> rw [← ha] at h1
        · rw [h1]; exact ⟨.inl hbx, by omega⟩
        · exact ⟨.inr (S1.out.pv.ga.2 _ h1), S1.out.hr _ h1⟩
      have HB : Hid (RowK w0 wr b ∧ b.n ≤ 200 + 48 * k) := by
        rcases pickR_mem R zj y with h1 | h1 <;> rw [← hb] at h1
        · rw [h1]; exact ⟨.inl hby, by omega⟩
        · exact ⟨.inr (S1.out.pv.ga.2 _ h1), S1.out.hr _ h1⟩
      have HSL := Lib.hid hsl
      clear q1 q2 q3 q4 qr hbx hby hlz ha hb hi64 hj64
      obtain ⟨xa, xn, xc, xl⟩ := x
      obtain ⟨ya, yn, yc, yl⟩ := y
      obtain ⟨aa, an, ac, al⟩ := a
      obtain ⟨ba, bn, bc, bl⟩ := b
      simp only [BRow.v] at Q3 Q4 HPA HPB
      have HP0 : Hid (Gr w0 wr) := S1.out.pv.st.below
      go_upto_region 5 with fail
      refine wp_region_grow (by kernel_rfl) [0, 0, 0, 6, 14, 30, 0, 0, 192, 448, 960, 2047, 0, 0, 0, 24576, 57344, 122880, 0, 0, 786432, 1835008, 3932160, 8388607, 16777215, 33554431] [.p 0, .p 1, .p 2, .p 3, .p 4, .p 6, .p 7, .p 8, .p 9, .p 12, .p 13, .p 14, .p 15, .p 16, .p 18, .p 19, .p 20, .p 21, .q 5, .q 10, .q 17, .q 22, .c 11, .c 23, .p 24, .p 25] (by kernel_rfl) (trivial) ?_
      refine wpG_pe rfl rfl ?_
      apply Exists.intro
      refine ⟨fun wq => ?_, ?_⟩
      · unfold plainAt
        go_simp
        first | exact rfl | exact ⟨rfl, rfl⟩
      go_simp
      refine wpG_pe rfl rfl ?_
      apply Exists.intro
      refine ⟨fun wq => ?_, ?_⟩
      · unfold plainAt
        go_simp
        first | exact rfl | exact ⟨rfl, rfl⟩
      go_simp
      refine wpG_pe rfl rfl ?_
      apply Exists.intro
      refine ⟨fun wq => ?_, ?_⟩
      · unfold plainAt
        go_simp
        first | exact rfl | exact ⟨rfl, rfl⟩
      go_simp
      refine wpG_pe rfl rfl ?_
      apply Exists.intro
      refine ⟨fun wq => ?_, ?_⟩
      · unfold plainAt
        go_simp
        first | exact rfl | exact ⟨rfl, rfl⟩
      go_simp
      refine wpG_pe rfl rfl ?_
      apply Exists.intro
      refine ⟨fun wq => ?_, ?_⟩
      · unfold plainAt
        go_simp
        first | exact rfl | exact ⟨rfl, rfl⟩
      go_simp
      refine wpG_pe rfl rfl ?_
      apply Exists.intro
      refine ⟨fun wq => ?_, ?_⟩
      · unfold plainAt
        go_simp
        first | exact rfl | exact ⟨rfl, rfl⟩
      go_simp
      refine wpG_pe rfl rfl ?_
      apply Exists.intro
      refine ⟨fun wq => ?_, ?_⟩
      · unfold plainAt
        go_simp
        first | exact rfl | exact ⟨rfl, rfl⟩
      go_simp
      refine wpG_pe rfl rfl ?_
      apply Exists.intro
      refine ⟨fun wq => ?_, ?_⟩
      · unfold plainAt
        go_simp
        first | exact rfl | exact ⟨rfl, rfl⟩
      go_simp
      refine wpG_pe rfl rfl ?_
      apply Exists.intro
      refine ⟨fun wq => ?_, ?_⟩
      · unfold plainAt
        go_simp
        first | exact rfl | exact ⟨rfl, rfl⟩
      go_simp
      refine wpG_pe rfl rfl ?_
      apply Exists.intro
      refine ⟨fun wq => ?_, ?_⟩
      · unfold plainAt
        go_simp
        first | exact rfl | exact ⟨rfl, rfl⟩
      go_simp
      refine wpG_pe rfl rfl ?_
      apply Exists.intro
      refine ⟨fun wq => ?_, ?_⟩
      · unfold plainAt
        go_simp
        first | exact rfl | exact ⟨rfl, rfl⟩
      go_simp
      refine wpG_pe rfl rfl ?_
      apply Exists.intro
      refine ⟨fun wq => ?_, ?_⟩
      · unfold plainAt
        go_simp
        first | exact rfl | exact ⟨rfl, rfl⟩
      go_simp
      refine wpG_pe rfl rfl ?_
      apply Exists.intro
      refine ⟨fun wq => ?_, ?_⟩
      · unfold plainAt
        go_simp
        first | exact rfl | exact ⟨rfl, rfl⟩
      go_simp
      refine wpG_pe rfl rfl ?_
      apply Exists.intro
      refine ⟨fun wq => ?_, ?_⟩
      · unfold plainAt
        go_simp
        first | exact rfl | exact ⟨rfl, rfl⟩
      go_simp
      refine wpG_pe rfl rfl ?_
      apply Exists.intro
      refine ⟨fun wq => ?_, ?_⟩
      · unfold plainAt
        go_simp
        first | exact rfl | exact ⟨rfl, rfl⟩
      go_simp
      refine wpG_pe rfl rfl ?_
      apply Exists.intro
      refine ⟨fun wq => ?_, ?_⟩
      · unfold plainAt
        go_simp
        first | exact rfl | exact ⟨rfl, rfl⟩
      go_simp
      refine wpG_pe rfl rfl ?_
      apply Exists.intro
      refine ⟨fun wq => ?_, ?_⟩
      · unfold plainAt
        go_simp
        first | exact rfl | exact ⟨rfl, rfl⟩
      go_simp
      refine wpG_pe rfl rfl ?_
      apply Exists.intro
      refine ⟨fun wq => ?_, ?_⟩
      · unfold plainAt
        go_simp
        first | exact rfl | exact ⟨rfl, rfl⟩
      go_simp
      refine wpG_qe rfl rfl ?_
      apply Exists.intro
      refine ⟨fun wq hq => ?_, ?_⟩
      · have cq := Q1.out wq (HP0.out.trans ((Gr.drew _).trans hq))
        unfold plainAt
        go_simp
        first | exact rfl | exact ⟨rfl, rfl⟩
      go_simp
      refine wpG_qe rfl rfl ?_
      apply Exists.intro
      refine ⟨fun wq hq => ?_, ?_⟩
      · have cq := Q3.out wq (HP0.out.trans ((Gr.drew _).trans hq))
        unfold plainAt
        go_simp
        first | exact rfl | exact ⟨rfl, rfl⟩
      go_simp
      refine wpG_qe rfl rfl ?_
      apply Exists.intro
      refine ⟨fun wq hq => ?_, ?_⟩
      · have cq := Q2.out wq (HP0.out.trans ((Gr.drew _).trans hq))
        unfold plainAt
        go_simp
        first | exact rfl | exact ⟨rfl, rfl⟩
      go_simp
      refine wpG_qe rfl rfl ?_
      apply Exists.intro
      refine ⟨fun wq hq => ?_, ?_⟩
      · have cq := Q4.out wq (HP0.out.trans ((Gr.drew _).trans hq))
        unfold plainAt
        go_simp
        first | exact rfl | exact ⟨rfl, rfl⟩
      go_simp
      refine wpG_c rfl rfl ?_
      intro w5 g5 K hK
      go_simp
      go_at_call 27
      refine (HPA.out w5 ((Gr.drew _).trans g5)).mono ?_
      rintro e wn ⟨rfl, rfl⟩
      refine hK _ _ (Gr.refl _) ?_; clear hK; have G5 := Lib.hid ((Gr.drew _).trans g5); clear g5
      go_simp
      refine wpG_c rfl rfl ?_
      intro w6 g6 K hK
      go_simp
      go_at_call 27
      refine (HPB.out w6 (G5.out.trans g6)).mono ?_
      rintro e wn ⟨rfl, rfl⟩
      refine hK _ _ (Gr.refl _) ?_; clear hK; have G6 := Lib.hid (G5.out.trans g6); clear g6
      go_simp
      refine wpG_pe rfl rfl ?_
      apply Exists.intro
      refine ⟨fun wq => ?_, ?_⟩
      · unfold plainAt
        go_simp
        first | exact rfl | exact ⟨rfl, rfl⟩
      go_simp
      refine wpG_pe rfl rfl ?_
      apply Exists.intro
      refine ⟨fun wq => ?_, ?_⟩
      · unfold plainAt
        go_simp
        first | exact rfl | exact ⟨rfl, rfl⟩
      go_simp
      refine wpG_nil ?_
      intro w7 g7
      have G7 := Lib.hid (G6.out.trans g7)
      have S2 := Lib.hid (S1.out.pv.mono G7.out)
      have RA := Lib.hid (HA.out.1.mono G7.out)
      have RB := Lib.hid (HB.out.1.mono G7.out)
      have han : an ≤ 200 + 48 * k := HA.out.2
      have hbn : bn ≤ 200 + 48 * k := HB.out.2
      clear g7 G6 G5 HPA HPB HA HB
      go_upto_region 6 with fail
      have HP7 : Hid (Gr w0 w7) := S2.out.st.below
      have h7 := S2.out.st.below.size
      have H7 := Lib.hid h7
      have HXL : Hid (h < w7.heap.size) := S2.out.x.lt
      clear h7
      refine UG.wp_region_growU KX 33 (fun w w' h => h.1) (fun w w' b cs h hb => h.2 b cs hb) (by kernel_rfl) [0, 0, 0, 0, 12, 28, 0, 0, 255, 511, 1023, 1023, 1023, 1023, 1023, 0, 34815, 102399, 237567, 507903, 1048575] [.p 0, .p 2, .p 3, .p 4, .p 6, .p 7, .q 1, .q 5, .t 8, .p 9, .p 10, .p 11, .p 12, .p 13, .p 14, .m 15 33 #[.bool false, .slice none 0 0, .int .i64 0, .slice none 0 0, .slice none 0 0], .p 16, .p 17, .p 18, .p 19, .s 20] (by kernel_rfl) (⟨⟨fun o ho ρ w => by cases ho; kernel_rfl, rfl⟩, trivial⟩) ?_
      refine UG.wpG_pe rfl rfl ?_
      apply Exists.intro
      refine ⟨fun wq => ?_, ?_⟩
      · unfold plainAt
        go_simp
        first | exact rfl | exact ⟨rfl, rfl⟩
      go_simp
      refine UG.wpG_pe rfl rfl ?_
      apply Exists.intro
      refine ⟨fun wq => ?_, ?_⟩
      · unfold plainAt
        go_simp
        first | exact rfl | exact ⟨rfl, rfl⟩
      go_simp
      refine UG.wpG_pe rfl rfl ?_
      apply Exists.intro
      refine ⟨fun wq => ?_, ?_⟩
      · unfold plainAt
        go_simp
        first | exact rfl | exact ⟨rfl, rfl⟩
      go_simp
      refine UG.wpG_pe rfl rfl ?_
      apply Exists.intro
      refine ⟨fun wq => ?_, ?_⟩
      · unfold plainAt
        go_simp
        first | exact rfl | exact ⟨rfl, rfl⟩
      go_simp
      refine UG.wpG_pe rfl rfl ?_
      apply Exists.intro
      refine ⟨fun wq => ?_, ?_⟩
      · unfold plainAt
        go_simp
        first | exact rfl | exact ⟨rfl, rfl⟩
      go_simp
      refine UG.wpG_pe rfl rfl ?_
      apply Exists.intro
      refine ⟨fun wq => ?_, ?_⟩
      · unfold plainAt
        go_simp
        first | exact rfl | exact ⟨rfl, rfl⟩
      go_simp
      refine UG.wpG_qe rfl rfl ⟨.agg (ts Ar T.length cr Br L.length er).toArray, fun wq hq => plainRow 33 (.tmp 4) rfl h 0 rfl _ _ (Xk.whole (Gr.blk ((Gr.drew _).trans hq) S2.out.x)) Tryz.underlying33 rfl (size5c _ rfl), ?_⟩
      go_simp
      refine UG.wpG_qe rfl rfl ⟨xact zk zi zj ⟨xa, xn, xc, xl⟩ ⟨ya, yn, yc, yl⟩ s, fun wq hq => plainRow 54 (.tmp 51) rfl bb (o + k * 6) rfl _ _ (QR.out wq (HP7.out.trans ((Gr.drew _).trans hq))) Tryz.underlying54 rfl (sizeActT _ _ _ _ _ _), ?_⟩
      go_simp
      refine UG.wpG_t rfl rfl ?_
      intro w8 g8 K hK
      have G8 := Lib.hid ((Gr.drew w7).trans g8)
      have S8 := Lib.hid (S2.out.mono G8.out)
      have HDO := Lib.hid (actT_any zk zi zj ⟨xa, xn, xc, xl⟩ ⟨ya, yn, yc, yl⟩ s ⟨aa, an, ac, al⟩ ⟨ba, bn, bc, bl⟩ w8 S8.out.st (RA.out.mono G8.out) (RB.out.mono G8.out) HTK.out (by omega) (by have := HLK.out; omega) (show an ≤ 20000 by omega) (show bn ≤ 20000 by omega) (by have := HSL.out; omega))
      clear g8
      go_simp
      go_at_call 28
      refine HDO.out.mono ?_
      rintro e w9 ⟨rg, rr, f, A2, c2, B2, e2, T2, L2, rfl, hre, hgo, hro, hrn, st9, kd9, ow9, tg9, hl9⟩
      refine hK _ _ ⟨kd9.1, fun b cs hb => S8.out.st.keepX kd9 hb⟩ ?_
      have P9 := Lib.hid (S8.out.act st9 kd9 ow9)
      have RA9 := Lib.hid ((RA.out.mono G8.out).ku (S8.out.st.ku kd9))
      have RB9 := Lib.hid ((RB.out.mono G8.out).ku (S8.out.st.ku kd9))
      have HRO := Lib.hid (hro.old S8.out.st.below.size)
      have HRE := Lib.hid hre; have HGO := Lib.hid hgo; have HRN := Lib.hid hrn; have HT9 := Lib.hid tg9; have HL9 := Lib.hid hl9
      have HS9 : Hid (w7.heap.size ≤ w9.heap.size) := Nat.le_trans G8.out.size kd9.1
      clear hK hre hgo hro hrn st9 kd9 ow9 tg9 hl9 HDO S8 G8
      obtain ⟨ga, gn, gc, gl⟩ := rg
      obtain ⟨ra, rn, rc, rl⟩ := rr
      simp only [BRow.v]
      go_simp
      refine UG.wpG_pe rfl rfl ?_
      apply Exists.intro
      refine ⟨fun wq => ?_, ?_⟩
      · unfold plainAt
        go_simp
        first | exact rfl | exact ⟨rfl, rfl⟩
      go_simp
      refine UG.wpG_pe rfl rfl ?_
      apply Exists.intro
      refine ⟨fun wq => ?_, ?_⟩
      · unfold plainAt
        go_simp
        first | exact rfl | exact ⟨rfl, rfl⟩
      go_simp
      refine UG.wpG_pe rfl rfl ?_
      apply Exists.intro
      refine ⟨fun wq => ?_, ?_⟩
      · unfold plainAt
        go_simp
        first | exact rfl | exact ⟨rfl, rfl⟩
      go_simp
      refine UG.wpG_pe rfl rfl ?_
      apply Exists.intro
      refine ⟨fun wq => ?_, ?_⟩
      · unfold plainAt
        go_simp
        first | exact rfl | exact ⟨rfl, rfl⟩
      go_simp
      refine UG.wpG_pe rfl rfl ?_
      apply Exists.intro
      refine ⟨fun wq => ?_, ?_⟩
      · unfold plainAt
        go_simp
        first | exact rfl | exact ⟨rfl, rfl⟩
      go_simp
      refine UG.wpG_pe rfl rfl ?_
      apply Exists.intro
      refine ⟨fun wq => ?_, ?_⟩
      · unfold plainAt
        go_simp
        first | exact rfl | exact ⟨rfl, rfl⟩
      go_simp
      refine UG.wpG_m rfl rfl ?_
      intro w10 b15 g10 hbn15 hblk hI
      have G10 := Lib.hid g10; have HBK := Lib.hid hblk; have HBN := Lib.hid hbn15
      clear g10 hblk hI hbn15
      go_simp
      refine UG.wpG_pe rfl rfl ?_
      apply Exists.intro
      refine ⟨fun wq => ?_, ?_⟩
      · unfold plainAt
        go_simp
        first | exact rfl | exact ⟨rfl, rfl⟩
      go_simp
      refine UG.wpG_pe rfl rfl ?_
      apply Exists.intro
      refine ⟨fun wq => ?_, ?_⟩
      · unfold plainAt
        go_simp
        first | exact rfl | exact ⟨rfl, rfl⟩
      go_simp
      refine UG.wpG_pe rfl rfl ?_
      apply Exists.intro
      refine ⟨fun wq => ?_, ?_⟩
      · unfold plainAt
        go_simp
        first | exact rfl | exact ⟨rfl, rfl⟩
      go_simp
      refine UG.wpG_pe rfl rfl ?_
      apply Exists.intro
      refine ⟨fun wq => ?_, ?_⟩
      · unfold plainAt
        go_simp
        first | exact rfl | exact ⟨rfl, rfl⟩
      go_simp
      refine UG.wpG_s rfl rfl ?_
      intro w11 g11 K hK
      have HB11 : Hid (Xk w11 b15 xz) := g11.blk HBK.out
      have G11 := Lib.hid (G10.out.trans g11)
      refine wp_store_row 33 (.tmp 15) (.tmp 60) rfl b15 (ts A2 T2.length c2 B2 L2.length e2).toArray rfl rfl 33 xz.toArray HB11.out (size5 _ rfl) rfl (oneT _ _ _ _ _ _) ?_
      refine hK _ _ ?_
      clear hK g11
      have KU11 := Lib.hid (KU.row HB11.out (ts A2 T2.length c2 B2 L2.length e2).toArray)
      have PT1 := Lib.hid ((P9.out.mono G11.out).row HB11.out (Nat.le_trans H7.out HBN.out) (by have h1 := HXL.out; have h2 := HBN.out; omega) (ts A2 T2.length c2 B2 L2.length e2).toArray)
      have XB1 : Hid (Xk (w11.setRow b15 (ts A2 T2.length c2 B2 L2.length e2).toArray) b15 (ts A2 T2.length c2 B2 L2.length e2)) := HB11.out.row _
      have RA11 := Lib.hid ((RA9.out.mono G11.out).ku KU11.out)
      have RB11 := Lib.hid ((RB9.out.mono G11.out).ku KU11.out)
      have RR11 := Lib.hid ((HRO.out.mono G11.out).ku KU11.out)
      have HGO1 : Hid (BRow.ok (w11.setRow b15 (ts A2 T2.length c2 B2 L2.length e2).toArray) ⟨ga, gn, gc, gl⟩) := Bs.far (Sl.mono HGO.out G11.out) HB11.out xz_not _
      obtain ⟨W11, hW11⟩ : ∃ W11, W11 = w11.setRow b15 (ts A2 T2.length c2 B2 L2.length e2).toArray := ⟨_, rfl⟩
      rw [← hW11] at PT1 XB1 HGO1 RA11 RB11 RR11 ⊢
      clear hW11 HB11 G11 HBK G10 HBN RA9 RB9 HGO HRO P9 KU11 HS9
      go_simp
      refine UG.wpG_nil ?_
      intro w12 g12
      have PT2 := Lib.hid (PT1.out.mono g12)
      have XB2 : Hid (Xk w12 b15 (ts A2 T2.length c2 B2 L2.length e2)) := g12.blk XB1.out
      have RA12 := Lib.hid (RA11.out.mono g12)
      have RB12 := Lib.hid (RB11.out.mono g12)
      have RR12 := Lib.hid (RR11.out.mono g12)
      have HGO2 : Hid (BRow.ok w12 ⟨ga, gn, gc, gl⟩) := Sl.mono HGO1.out g12
      clear g12 PT1 XB1 HGO1 RA11 RB11 RR11
      go_upto_region 8 with (first
        | (refine wpList_load_row rfl 33 (.tmp 15) rfl b15 rfl 33 (ts A2 T2.length c2 B2 L2.length e2).toArray (0, 0) _ XB2.out Tryz.underlying33 rfl (size5 _ rfl) ?_)
        | (refine wpList_store_row rfl 33 (.tmp 4) (.tmp 61) rfl h (ts A2 T2.length c2 B2 L2.length e2).toArray rfl rfl 33 (ts Ar T.length cr Br L.length er).toArray PT2.out.x (size5 _ rfl) rfl (oneT _ _ _ _ _ _) ?_))
      have KU12 := Lib.hid (KU.row PT2.out.x (ts A2 T2.length c2 B2 L2.length e2).toArray)
      have PT3 := Lib.hid (PT2.out.set (ts A2 T2.length c2 B2 L2.length e2))
      have RA3 := Lib.hid (RA12.out.ku KU12.out)
      have RB3 := Lib.hid (RB12.out.ku KU12.out)
      have RR3 := Lib.hid (RR12.out.ku KU12.out)
      have HGO3 : Hid (BRow.ok (w12.setRow h (ts A2 T2.length c2 B2 L2.length e2).toArray) ⟨ga, gn, gc, gl⟩) := Bs.far HGO2.out PT2.out.x (fun u hu x e => ts_not _ _ _ _ _ _ u hu x e) _
      obtain ⟨w13, hw13⟩ : ∃ w13, w13 = w12.setRow h (ts A2 T2.length c2 B2 L2.length e2).toArray := ⟨_, rfl⟩
      rw [← hw13] at PT3 HGO3 RA3 RB3 RR3 ⊢
      clear hw13 PT2 XB2 HGO2 RA12 RB12 RR12 KU12
      obtain rfl : gl = rl := HRE.out
      have HB13 : Hid (Gr w0 w13) := PT3.out.st.below
      have HA4 : Hid (BRow.ok w13 ⟨aa, an, ac, al⟩) := RA3.out.ok HB13.out
      have HB4 : Hid (BRow.ok w13 ⟨ba, bn, bc, bl⟩) := RB3.out.ok HB13.out
      have HSM : Hid (∀ W', Gr w13 W' → Calls Tryz.prog 15 #[.slice ga gn gc, .slice ra rn rc] W' fun e w' => e = .returned (.bool true) ∧ ∃ k, w' = W'.drewN k) := fun W' e => by
        have h1 := refSame_any ga ra gn rn gc rc gl gl W' (Sl.mono HGO3.out e) (Sl.mono RR3.out.b e)
        rwa [beq_self_eq_true] at h1
      have htn : T2.length ≤ 1000 := by have := HT9.out.g.l; omega
      obtain ⟨Ax, cx, hvx, hrb⟩ := Own.rs PT3.out.st.rt
      injection hvx with hvx1 _ hvx3
      subst hvx1 hvx3
      have HRB := Lib.hid hrb
      clear hrb
      have HKN := Lib.hid HT9.out.g.i.kinds
      have HFP := Lib.hid (fun W' (e : Gr w13 W') => (PT3.out.st.sy.gr e).find htn ba bn bc bl (Sl.mono HB4.out e) (by omega) (HML.out.mono (HB13.out.trans e)))
      have HFR := Lib.hid (fun W' (e : Gr w13 W') => tFind_any A2 B2 ba T2.length c2 L2.length e2 bn bc T2 bl W' (HRB.out.mono e) htn (Sl.mono HB4.out e) (by omega))
      have HTP := Lib.hid (fun W' (e : Gr w13 W') => (PT3.out.st.sy.gr e).term htn aa an ac al (Sl.mono HA4.out e))
      have HTR := Lib.hid (fun W' (e : Gr w13 W') => refTerm_any A2 B2 aa T2.length c2 L2.length e2 an ac T2 al W' (HRB.out.mono e) HKN.out htn (Sl.mono HA4.out e))
      have bf : (f != f) = false := by cases f <;> rfl
      have HTL : Hid (termB T2 al ≤ 1000) := Nat.le_trans (termB_le T2 al) htn
      obtain ⟨tn, htn2⟩ : ∃ tn, tn = termB T2 al := ⟨_, rfl⟩
      rw [← htn2] at HTP HTR
      have tne : ((tn : Int) != (tn : Int)) = false := by simp
      obtain ⟨fl, hfl⟩ : ∃ fl, fl = findL T2 bl := ⟨_, rfl⟩
      rw [← hfl] at HFP HFR
      clear htn2 hfl
      refine wp_region_grow (by kernel_rfl) [0, 0, 3, 7, 15, 31, 31, 127, 255, 511, 1023, 1023, 4095, 1023, 1023, 32767, 65535, 131071, 262143, 524287, 1048575, 1048575, 4194303, 1048575, 1048575, 33554431, 67108863, 134217727] [.p 0, .p 1, .c 2, .p 3, .p 4, .p 5, .p 6, .p 7, .p 8, .p 9, .p 10, .p 11, .p 14, .q 13, .c 12, .c 15, .c 16, .p 17, .p 18, .p 19, .p 20, .p 21, .p 24, .q 23, .c 22, .c 25, .p 26, .p 27] (by kernel_rfl) (trivial) ?_
      refine wpG_pe rfl rfl ?_
      apply Exists.intro
      refine ⟨fun wq => ?_, ?_⟩
      · unfold plainAt
        go_simp
        first | exact rfl | exact ⟨rfl, rfl⟩
      go_simp
      refine wpG_pe rfl rfl ?_
      apply Exists.intro
      refine ⟨fun wq => ?_, ?_⟩
      · unfold plainAt
        go_simp
        first | exact rfl | exact ⟨rfl, rfl⟩
      go_simp
      refine wpG_c rfl rfl ?_
      intro w14 g14 K hK
      go_simp
      go_at_call 15
      refine (HSM.out w14 ((Gr.drew _).trans g14)).mono ?_
      rintro e wn ⟨rfl, k14, rfl⟩
      refine hK _ _ (belowN (Gr.refl _) k14) ?_; clear hK; have G14 : Hid (Gr w13 (w14.drewN k14)) := Gr.trans ((Gr.drew _).trans g14) (belowN (Gr.refl _) k14); clear g14
      go_simp
      refine wpG_pe rfl rfl ?_
      apply Exists.intro
      refine ⟨fun wq => ?_, ?_⟩
      · unfold plainAt
        go_simp
        first | exact rfl | exact ⟨rfl, rfl⟩
      go_simp
      refine wpG_pe rfl rfl ?_
      apply Exists.intro
      refine ⟨fun wq => ?_, ?_⟩
      · unfold plainAt
        go_simp
        first | exact rfl | exact ⟨rfl, rfl⟩
      go_simp
      refine wpG_pe rfl rfl ?_
      apply Exists.intro
      refine ⟨fun wq => ?_, ?_⟩
      · unfold plainAt
        go_simp
        first | exact rfl | exact ⟨rfl, rfl⟩
      go_simp
      refine wpG_pe rfl rfl ?_
      apply Exists.intro
      refine ⟨fun wq => ?_, ?_⟩
      · unfold plainAt
        go_simp
        first | exact rfl | exact ⟨rfl, rfl⟩
      go_simp
      refine wpG_pe rfl rfl ?_
      apply Exists.intro
      refine ⟨fun wq => ?_, ?_⟩
      · unfold plainAt
        go_simp
        first | exact rfl | exact ⟨rfl, rfl⟩
      go_simp
      refine wpG_pe rfl rfl ?_
      apply Exists.intro
      refine ⟨fun wq => ?_, ?_⟩
      · unfold plainAt
        go_simp
        first | exact rfl | exact ⟨rfl, rfl⟩
      go_simp
      refine wpG_pe rfl rfl ?_
      apply Exists.intro
      refine ⟨fun wq => ?_, ?_⟩
      · unfold plainAt
        go_simp
        first | exact rfl | exact ⟨rfl, rfl⟩
      go_simp
      refine wpG_pe rfl rfl ?_
      apply Exists.intro
      refine ⟨fun wq => ?_, ?_⟩
      · unfold plainAt
        go_simp
        first | exact rfl | exact ⟨rfl, rfl⟩
      go_simp
      refine wpG_pe rfl rfl ?_
      apply Exists.intro
      refine ⟨fun wq => ?_, ?_⟩
      · unfold plainAt
        go_simp
        first | exact rfl | exact ⟨rfl, rfl⟩
      go_simp
      refine wpG_pe rfl rfl ?_
      apply Exists.intro
      refine ⟨fun wq => ?_, ?_⟩
      · unfold plainAt
        go_simp
        first | exact rfl | exact ⟨rfl, rfl⟩
      go_simp
      refine wpG_qe rfl rfl ⟨.agg (ts A2 T2.length c2 B2 L2.length e2).toArray, fun wq hq => plainRow 33 (.tmp 4) rfl h 0 rfl _ _ (Xk.whole (Gr.blk (G14.out.trans hq) PT3.out.x)) Tryz.underlying33 rfl (size5c _ rfl), ?_⟩
      go_simp
      refine wpG_c rfl rfl ?_
      intro w15 g15 K hK
      go_simp
      go_at_call 25
      refine (HFP.out w15 (G14.out.trans g15)).mono ?_
      rintro e wn ⟨A15, n15, c15, rfl, i15, h15⟩
      refine hK _ _ h15 ?_; clear hK; have I15 := Lib.hid i15; have G15 := Lib.hid ((G14.out.trans g15).trans h15); clear g15 h15 i15
      go_simp
      refine wpG_c rfl rfl ?_
      intro w16 g16 K hK
      go_simp
      go_at_call 30
      refine (HFR.out w16 (G15.out.trans g16)).mono ?_
      rintro e wn ⟨v16, rfl, o16⟩
      obtain ⟨A16, c16, rfl, i16⟩ := o16.slice; have h16 := o16.below; refine hK _ _ h16 ?_; clear hK; have I16 : Hid (Is wn A16 fl.length c16 fl) := i16; have J15 := Lib.hid (Sl.mono I15.out (g16.trans h16)); have G16 := Lib.hid ((G15.out.trans g16).trans h16); clear g16 h16 o16 i16
      go_simp
      have HIN : Hid (∀ W', Gr wn W' → Calls Tryz.prog 29 #[.slice A15 n15 c15, .slice A16 fl.length c16] W' fun e w' => e = .returned (.bool true) ∧ ∃ k, w' = W'.drewN k) := fun W' e => by
        have h1 := ints_any A15 A16 n15 fl.length c15 c16 fl fl W' (Sl.mono J15.out e) (Sl.mono I16.out e)
        rwa [beq_self_eq_true] at h1
      refine wpG_c rfl rfl ?_
      intro w17 g17 K hK
      go_simp
      go_at_call 29
      refine (HIN.out w17 g17).mono ?_
      rintro e wn ⟨rfl, k17, rfl⟩
      refine hK _ _ (belowN (Gr.refl _) k17) ?_; clear hK; have G17 : Hid (Gr w13 (w17.drewN k17)) := Gr.trans (G16.out.trans g17) (belowN (Gr.refl _) k17); clear g17
      go_simp
      refine wpG_pe rfl rfl ?_
      apply Exists.intro
      refine ⟨fun wq => ?_, ?_⟩
      · unfold plainAt
        go_simp
        first | exact rfl | exact ⟨rfl, rfl⟩
      go_simp
      refine wpG_pe rfl rfl ?_
      apply Exists.intro
      refine ⟨fun wq => ?_, ?_⟩
      · unfold plainAt
        go_simp
        first | exact rfl | exact ⟨rfl, rfl⟩
      go_simp
      refine wpG_pe rfl rfl ?_
      apply Exists.intro
      refine ⟨fun wq => ?_, ?_⟩
      · unfold plainAt
        go_simp
        first | exact rfl | exact ⟨rfl, rfl⟩
      go_simp
      refine wpG_pe rfl rfl ?_
      apply Exists.intro
      refine ⟨fun wq => ?_, ?_⟩
      · unfold plainAt
        go_simp
        first | exact rfl | exact ⟨rfl, rfl⟩
      go_simp
      refine wpG_pe rfl rfl ?_
      apply Exists.intro
      refine ⟨fun wq => ?_, ?_⟩
      · unfold plainAt
        go_simp
        first | exact rfl | exact ⟨rfl, rfl⟩
      go_simp
      refine wpG_pe rfl rfl ?_
      apply Exists.intro
      refine ⟨fun wq => ?_, ?_⟩
      · unfold plainAt
        go_simp
        first | exact rfl | exact ⟨rfl, rfl⟩
      go_simp
      refine wpG_qe rfl rfl ⟨.agg (ts A2 T2.length c2 B2 L2.length e2).toArray, fun wq hq => plainRow 33 (.tmp 4) rfl h 0 rfl _ _ (Xk.whole (Gr.blk (G17.out.trans hq) PT3.out.x)) Tryz.underlying33 rfl (size5c _ rfl), ?_⟩
      go_simp
      refine wpG_c rfl rfl ?_
      intro w18 g18 K hK
      go_simp
      go_at_call 14
      refine (HTP.out w18 (G17.out.trans g18)).mono ?_
      rintro e wn ⟨rfl, h18⟩
      refine hK _ _ h18 ?_; clear hK; have G18 := Lib.hid ((G17.out.trans g18).trans h18); clear g18 h18
      go_simp
      refine wpG_c rfl rfl ?_
      intro w19 g19 K hK
      go_simp
      go_at_call 31
      refine (HTR.out w19 (G18.out.trans g19)).mono ?_
      rintro e wn ⟨rfl, h19⟩
      refine hK _ _ h19 ?_; clear hK; have G19 := Lib.hid ((G18.out.trans g19).trans h19); clear g19 h19
      go_simp
      refine wpG_pe rfl rfl ?_
      apply Exists.intro
      refine ⟨fun wq => ?_, ?_⟩
      · unfold plainAt
        go_simp
        first | exact rfl | exact ⟨rfl, rfl⟩
      go_simp
      refine wpG_pe rfl rfl ?_
      apply Exists.intro
      refine ⟨fun wq => ?_, ?_⟩
      · unfold plainAt
        go_simp
        first | exact rfl | exact ⟨rfl, rfl⟩
      go_simp
      refine wpG_nil ?_
      intro w20 g20
      have GX := Lib.hid (G19.out.trans g20)
      have PT4 := Lib.hid (PT3.out.mono GX.out)
      have RR4 := Lib.hid (RR3.out.mono GX.out)
      clear g20 G19 G18 G17 G16 G15 G14 HSM HIN bf tne PT3 HGO3 RA3 RB3 RR3 HFP HFR HTP HTR I15 I16 J15
      have HRR : Hid (R.length ≤ 100) := by show _ ≤ _; rw [HRL.out]; omega
      go_wp2_with (at_builtin; refine wpList_pushG rfl (.tmp 90) (.tmp 92) 31 rfl tRows rfl PT4.out.ga.1 #[.slice ra rn rc] rfl rfl (by intro u hu; simp at hu; subst hu; rfl) (by have := HRR.out; omega) ?_; intro v21 w21 own21 kept21; have PS5 := Lib.hid ((PT4.out.mono (Gr.alloc _ _)).push (r := ⟨ra, rn, rc, gl⟩) own21 kept21 (RR4.out.mono (Gr.alloc _ _))); clear own21 kept21)
      have PS6 : Hid (PW w0 h p g bm bs (k + 1) A2 c2 B2 e2 T2 L2 v21 (R ++ [⟨ra, rn, rc, gl⟩]) w21) := by
        refine ⟨PS5.out, fun r hm => ?_, HT9.out.le (by omega), by have h1 := HL9.out; have h2 := HLK.out; omega, by rw [List.length_append, HRL.out]; rfl⟩
        rcases List.mem_append.1 hm with hm | hm
        · have := S1.out.hr r hm; omega
        · obtain rfl : r = ⟨ra, rn, rc, gl⟩ := by simpa using hm
          have h1 : rn ≤ bn + 48 := HRN.out
          show rn ≤ _
          omega
      go_roundw
      case rel => exact ⟨k + 1, A2, c2, B2, e2, T2, L2, _, by omega, by go_num, PS6.out⟩
      case measure => simp [Go.RowKit.intOf]; omega
    · have t0 : decide ((k : Int) < (n : Int)) = false := decide_eq_false (by omega)
      go_wp2_with fail
      go_ret
      exact ⟨T, rfl, S1.out.pv.st.sy, HTK.out.le (by omega), S1.out.pv.st.below⟩
end
end Go.Proofs.YtcfbbgbjlgonpaaGreatDoor
