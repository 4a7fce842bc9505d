/- Own texts of this claim, one behind the other. No condition. -/
import Derived.Test.YtcfbbgbjlgonpaaGreatDoorObPkBV

/- Acts one behind the other on a real suite, and on the document's: both tell the same. No condition. -/
namespace Go.Proofs.YtcfbbgbjlgonpaaGreatDoor
open Go.RowKit
set_option linter.unusedVariables false
set_option linter.unusedSimpArgs false
theorem sizeAct (k i j : Int) (x y : BRow) (s : List UInt8) : (Tryz.prog.info? 54).map (·.size) = some ([.int .i64 k, .int .i64 i, .int .i64 j, x.v, y.v, .string ⟨s.toArray⟩] : List Value).length := by kernel_rfl
theorem rangeAt_mono {w w' : World} {b o : Nat} {cs : List Value} (h : w.rangeAt b o cs) (g : Gr w w') : w'.rangeAt b o cs := fun j v hv => (g.cell (p := ⟨b, o + j, none⟩) (World.block_lt_of_cell? w _ (h j v hv))).trans (h j v hv)
section
variable {g p : Nat} {A0 : Option Addr} {n0 c0 : Nat} {seed : List UInt8} {SA : Option Addr} {sn sc : Nat}
set_option maxRecDepth 100000 in
set_option maxHeartbeats 8000000 in
theorem plays_any (w0 w : World) (b0 : Gr w0 w) (re : RealW w g p A0 n0 c0 seed 0) (hp0 : w0.heap.size ≤ p) (hsn : sn ≤ 1000) (hn0 : n0 ≤ 1000) (sd : Bs w0 SA sn sc seed) (sk : ShaK w0) (LA : Option Addr) (n c : Nat) (L : List Sa) (hL : Sas w0 LA n c L) (hn : n ≤ 12) (hl : ∀ z ∈ L, z.light) :
    Calls Tryz.prog 9 #[.pointer (some ⟨g, 0, none⟩), xv SA sn sc 0, .slice LA n c] w fun e w' => e = .returned (.bool true) ∧ Gr w0 w' := by
  unfold xv
  show Calls _ _ #[_, .agg #[.bool true, .slice SA sn sc, .int .i64 0, .slice none 0 0, .slice none 0 0], _] _ _
  obtain ⟨W, hW⟩ : ∃ W, W = xw1 w SA sn sc 0 := ⟨_, rfl⟩
  have S0 : Hid (PS w0 w.heap.size g p A0 n0 c0 seed SA sn sc 0 0 (.slice none 0 0) [] W) := by
    have hg := World.block_lt_of_cell? w _ re.s
    have G := xw1_g w SA sn sc 0
    rw [← hW] at G
    exact ⟨b0.trans G, re.mono G, by rw [hW]; exact xw1_a w SA sn sc 0, (Gath.nil w0 _).mono (b0.trans G), (fun r hr => by cases hr), Nat.le_refl _, rfl, b0.size, hp0, Nat.ne_of_lt hg, Apart.nil _, fun e => by cases e⟩
  unfold xw1 at hW
  have HW : Hid (W = w.alloc (.cells #[.bool true, .slice SA sn sc, .int .i64 0, .slice none 0 0, .slice none 0 0] 33)) := hW
  have HL := Lib.hid hL; have HLL := Lib.hid hL.1; have HSD := Lib.hid sd; have HSK := Lib.hid sk; have HLT := Lib.hid hl
  have hcl := hL.2.1.cap; have hml := hL.2.1.max
  clear hW hL sd sk hl b0 re hp0
  go_enter Tryz.func9, Tryz.ntmps9
  go_upto_region 1 with fail
  rw [← HW.out]
  obtain ⟨h, hh⟩ : ∃ h, h = w.heap.size := ⟨_, rfl⟩
  rw [← hh] at S0 ⊢
  clear hh HW
  go_wp2_with fail
  go_loopw [7, 8] (fun v i wr => ∃ (k d : Nat) (R : List BRow), k ≤ n ∧ i = .int .i64 (k : Int) ∧ PS w0 h g p A0 n0 c0 seed SA sn sc k d v R wr) (fun _ i _ => n - (Go.RowKit.intOf i).toNat)
  case atStart => exact ⟨0, 0, [], Nat.zero_le _, rfl, S0.out⟩
  case round =>
    obtain ⟨k, d, R, hk, rfl, s⟩ := hrel
    obtain ⟨Av, cv, rfl, hbs⟩ := s.ga.bss
    have S1 := Lib.hid s; have HBS := Lib.hid hbs
    have HRL := Lib.hid s.hl; have HDK := Lib.hid s.hd
    clear s hbs S0
    have p0 : (0 : Int) ≤ k := by omega
    by_cases hlt : k < n
    · have t0 : decide ((k : Int) < (n : Int)) = true := decide_eq_true (by omega)
      have pk : (k : Int) < (n : Int) := by omega
      have hkl : k < L.length := by rw [HLL.out]; exact hlt
      obtain ⟨bb, o, rfl, q0, q1, q2, q3, q4, q5, qr, hok⟩ := HL.out.row hkl
      have hlz := HLT.out _ (List.getElem_mem hkl)
      obtain ⟨_, hi64, hj64, hbx, hby, _⟩ := hok
      clear q0 q5
      generalize L[k] = z at *
      obtain ⟨zk, zi, zj, x, y, zs⟩ := z
      obtain ⟨s, hs⟩ : ∃ s : List UInt8, zs = ⟨s.toArray⟩ := ⟨zs.data.toList, by cases zs; simp⟩
      simp only at q1 q2 q3 q4 hi64 hj64 hbx hby hlz
      have hsl : s.length ≤ 40 := by have h1 : zs.size ≤ 40 := hlz.2.2; rw [hs] at h1; exact h1
      have hxn : x.n ≤ 200 := hlz.1
      have hyn : y.n ≤ 200 := hlz.2.1
      subst hs
      have QR : Hid (∀ wq, Gr w0 wq → wq.rangeAt bb (o + k * 6) [.int .i64 zk, .int .i64 zi, .int .i64 zj, x.v, y.v, .string ⟨s.toArray⟩]) := fun wq hq => rangeAt_mono qr hq
      have Q1 : Hid (∀ wq, Gr w0 wq → wq.cell? ⟨bb, o + k * 6 + 1, none⟩ = some (.int .i64 zi)) := fun wq hq => (hq.cell (p := ⟨bb, o + k * 6 + 1, none⟩) (World.block_lt_of_cell? w0 _ q1)).trans q1
      have Q2 : Hid (∀ wq, Gr w0 wq → wq.cell? ⟨bb, o + k * 6 + 2, none⟩ = some (.int .i64 zj)) := fun wq hq => (hq.cell (p := ⟨bb, o + k * 6 + 2, none⟩) (World.block_lt_of_cell? w0 _ q2)).trans q2
      have Q3 : Hid (∀ wq, Gr w0 wq → wq.cell? ⟨bb, o + k * 6 + 3, none⟩ = some x.v) := fun wq hq => (hq.cell (p := ⟨bb, o + k * 6 + 3, none⟩) (World.block_lt_of_cell? w0 _ q3)).trans q3
      have Q4 : Hid (∀ wq, Gr w0 wq → wq.cell? ⟨bb, o + k * 6 + 4, none⟩ = some y.v) := fun wq hq => (hq.cell (p := ⟨bb, o + k * 6 + 4, none⟩) (World.block_lt_of_cell? w0 _ q4)).trans q4
      obtain ⟨a, ha⟩ : ∃ a, a = pickR R zi x := ⟨_, rfl⟩
      obtain ⟨b, hb⟩ : ∃ b, b = pickR R zj y := ⟨_, rfl⟩
      have HPA := Lib.hid (fun W' (e : Gr wr W') => pick_any Av R.length cv R zi x W' (HBS.out.mono e) hi64)
      have HPB := Lib.hid (fun W' (e : Gr wr W') => pick_any Av R.length cv R zj y W' (HBS.out.mono e) hj64)
      rw [← ha] at HPA
      rw [← hb] at HPB
      have HA : Hid (a.ok wr ∧ a.n ≤ 200 + 48 * k) := by
        rcases pickR_mem R zi x with h1 | h1 <;> rw [← ha] at h1
        · rw [h1]; exact ⟨Sl.mono hbx S1.out.gr, by omega⟩
        · exact ⟨HBS.out.2 _ h1, S1.out.hr _ h1⟩
      have HB : Hid (b.ok wr ∧ b.n ≤ 200 + 48 * k) := by
        rcases pickR_mem R zj y with h1 | h1 <;> rw [← hb] at h1
        · rw [h1]; exact ⟨Sl.mono hby S1.out.gr, by omega⟩
        · exact ⟨HBS.out.2 _ h1, S1.out.hr _ h1⟩
      have HSL := Lib.hid hsl
      clear q1 q2 q3 q4 qr hbx hby hlz ha hb hi64 hj64
      obtain ⟨xa, xn, xc, xl⟩ := x
      obtain ⟨ya, yn, yc, yl⟩ := y
      obtain ⟨aa, an, ac, al⟩ := a
      obtain ⟨ba, bn, bc, bl⟩ := b
      simp only [BRow.v] at Q3 Q4 HPA HPB
      go_upto_region 5 with fail
      refine wp_region_grow (by kernel_rfl) [0, 0, 0, 6, 14, 30, 0, 0, 192, 448, 960, 2047, 0, 0, 0, 24576, 57344, 122880, 0, 0, 786432, 1835008, 3932160, 8388607, 16777215, 33554431] [.p 0, .p 1, .p 2, .p 3, .p 4, .p 6, .p 7, .p 8, .p 9, .p 12, .p 13, .p 14, .p 15, .p 16, .p 18, .p 19, .p 20, .p 21, .q 5, .q 10, .q 17, .q 22, .c 11, .c 23, .p 24, .p 25] (by kernel_rfl) (trivial) ?_
      refine wpG_pe rfl rfl ?_
      apply Exists.intro
      refine ⟨fun wq => ?_, ?_⟩
      · unfold plainAt
        go_simp
        first | exact rfl | exact ⟨rfl, rfl⟩
      go_simp
      refine wpG_pe rfl rfl ?_
      apply Exists.intro
      refine ⟨fun wq => ?_, ?_⟩
      · unfold plainAt
        go_simp
        first | exact rfl | exact ⟨rfl, rfl⟩
      go_simp
      refine wpG_pe rfl rfl ?_
      apply Exists.intro
      refine ⟨fun wq => ?_, ?_⟩
      · unfold plainAt
        go_simp
        first | exact rfl | exact ⟨rfl, rfl⟩
      go_simp
      refine wpG_pe rfl rfl ?_
      apply Exists.intro
      refine ⟨fun wq => ?_, ?_⟩
      · unfold plainAt
        go_simp
        first | exact rfl | exact ⟨rfl, rfl⟩
      go_simp
      refine wpG_pe rfl rfl ?_
      apply Exists.intro
      refine ⟨fun wq => ?_, ?_⟩
      · unfold plainAt
        go_simp
        first | exact rfl | exact ⟨rfl, rfl⟩
      go_simp
      refine wpG_pe rfl rfl ?_
      apply Exists.intro
      refine ⟨fun wq => ?_, ?_⟩
      · unfold plainAt
        go_simp
        first | exact rfl | exact ⟨rfl, rfl⟩
      go_simp
      refine wpG_pe rfl rfl ?_
      apply Exists.intro
      refine ⟨fun wq => ?_, ?_⟩
      · unfold plainAt
        go_simp
        first | exact rfl | exact ⟨rfl, rfl⟩
      go_simp
      refine wpG_pe rfl rfl ?_
      apply Exists.intro
      refine ⟨fun wq => ?_, ?_⟩
      · unfold plainAt
        go_simp
        first | exact rfl | exact ⟨rfl, rfl⟩
      go_simp
      refine wpG_pe rfl rfl ?_
      apply Exists.intro
      refine ⟨fun wq => ?_, ?_⟩
      · unfold plainAt
        go_simp
        first | exact rfl | exact ⟨rfl, rfl⟩
      go_simp
      refine wpG_pe rfl rfl ?_
      apply Exists.intro
      refine ⟨fun wq => ?_, ?_⟩
      · unfold plainAt
        go_simp
        first | exact rfl | exact ⟨rfl, rfl⟩
      go_simp
      refine wpG_pe rfl rfl ?_
      apply Exists.intro
      refine ⟨fun wq => ?_, ?_⟩
      · unfold plainAt
        go_simp
        first | exact rfl | exact ⟨rfl, rfl⟩
      go_simp
      refine wpG_pe rfl rfl ?_
      apply Exists.intro
      refine ⟨fun wq => ?_, ?_⟩
      · unfold plainAt
        go_simp
        first | exact rfl | exact ⟨rfl, rfl⟩
      go_simp
      refine wpG_pe rfl rfl ?_
      apply Exists.intro
      refine ⟨fun wq => ?_, ?_⟩
      · unfold plainAt
        go_simp
        first | exact rfl | exact ⟨rfl, rfl⟩
      go_simp
      refine wpG_pe rfl rfl ?_
      apply Exists.intro
      refine ⟨fun wq => ?_, ?_⟩
      · unfold plainAt
        go_simp
        first | exact rfl | exact ⟨rfl, rfl⟩
      go_simp
      refine wpG_pe rfl rfl ?_
      apply Exists.intro
      refine ⟨fun wq => ?_, ?_⟩
      · unfold plainAt
        go_simp
        first | exact rfl | exact ⟨rfl, rfl⟩
      go_simp
      refine wpG_pe rfl rfl ?_
      apply Exists.intro
      refine ⟨fun wq => ?_, ?_⟩
      · unfold plainAt
        go_simp
        first | exact rfl | exact ⟨rfl, rfl⟩
      go_simp
      refine wpG_pe rfl rfl ?_
      apply Exists.intro
      refine ⟨fun wq => ?_, ?_⟩
      · unfold plainAt
        go_simp
        first | exact rfl | exact ⟨rfl, rfl⟩
      go_simp
      refine wpG_pe rfl rfl ?_
      apply Exists.intro
      refine ⟨fun wq => ?_, ?_⟩
      · unfold plainAt
        go_simp
        first | exact rfl | exact ⟨rfl, rfl⟩
      go_simp
      refine wpG_qe rfl rfl ?_
      apply Exists.intro
      refine ⟨fun wq hq => ?_, ?_⟩
      · have cq := Q1.out wq (S1.out.gr.trans ((Gr.drew _).trans hq))
        unfold plainAt
        go_simp
        first | exact rfl | exact ⟨rfl, rfl⟩
      go_simp
      refine wpG_qe rfl rfl ?_
      apply Exists.intro
      refine ⟨fun wq hq => ?_, ?_⟩
      · have cq := Q3.out wq (S1.out.gr.trans ((Gr.drew _).trans hq))
        unfold plainAt
        go_simp
        first | exact rfl | exact ⟨rfl, rfl⟩
      go_simp
      refine wpG_qe rfl rfl ?_
      apply Exists.intro
      refine ⟨fun wq hq => ?_, ?_⟩
      · have cq := Q2.out wq (S1.out.gr.trans ((Gr.drew _).trans hq))
        unfold plainAt
        go_simp
        first | exact rfl | exact ⟨rfl, rfl⟩
      go_simp
      refine wpG_qe rfl rfl ?_
      apply Exists.intro
      refine ⟨fun wq hq => ?_, ?_⟩
      · have cq := Q4.out wq (S1.out.gr.trans ((Gr.drew _).trans hq))
        unfold plainAt
        go_simp
        first | exact rfl | exact ⟨rfl, rfl⟩
      go_simp
      refine wpG_c rfl rfl ?_
      intro w5 g5 K hK
      go_simp
      go_at_call 27
      refine (HPA.out w5 ((Gr.drew _).trans g5)).mono ?_
      rintro e wn ⟨rfl, rfl⟩
      refine hK _ _ (Gr.refl _) ?_; clear hK; have G5 := Lib.hid ((Gr.drew _).trans g5); clear g5
      go_simp
      refine wpG_c rfl rfl ?_
      intro w6 g6 K hK
      go_simp
      go_at_call 27
      refine (HPB.out w6 (G5.out.trans g6)).mono ?_
      rintro e wn ⟨rfl, rfl⟩
      refine hK _ _ (Gr.refl _) ?_; clear hK; have G6 := Lib.hid (G5.out.trans g6); clear g6
      go_simp
      refine wpG_pe rfl rfl ?_
      apply Exists.intro
      refine ⟨fun wq => ?_, ?_⟩
      · unfold plainAt
        go_simp
        first | exact rfl | exact ⟨rfl, rfl⟩
      go_simp
      refine wpG_pe rfl rfl ?_
      apply Exists.intro
      refine ⟨fun wq => ?_, ?_⟩
      · unfold plainAt
        go_simp
        first | exact rfl | exact ⟨rfl, rfl⟩
      go_simp
      refine wpG_nil ?_
      intro w7 g7
      have G7 := Lib.hid (G6.out.trans g7)
      have S2 := Lib.hid (S1.out.mono G7.out)
      have HA2 : Hid (BRow.ok w7 ⟨aa, an, ac, al⟩) := Sl.mono HA.out.1 G7.out
      have HB2 : Hid (BRow.ok w7 ⟨ba, bn, bc, bl⟩) := Sl.mono HB.out.1 G7.out
      have han : an ≤ 200 + 48 * k := HA.out.2
      have hbn : bn ≤ 200 + 48 * k := HB.out.2
      clear g7 G6 G5 HPA HPB
      go_upto_region 6 with fail
      have hpl : p < w7.heap.size := S2.out.re.src.1.lt
      have HPL := Lib.hid hpl
      clear hpl
      refine TG.wp_region_growT p HPL.out (by kernel_rfl) [0, 0, 0, 0, 12, 28, 0, 0, 255, 511, 1023, 1023, 1023, 1023, 1023, 0, 34815, 102399, 237567, 507903, 1048575] [.p 0, .p 2, .p 3, .p 4, .p 6, .p 7, .q 1, .q 5, .t 8, .p 9, .p 10, .p 11, .p 12, .p 13, .p 14, .m 15 33 #[.bool false, .slice none 0 0, .int .i64 0, .slice none 0 0, .slice none 0 0], .p 16, .p 17, .p 18, .p 19, .s 20] (by kernel_rfl) (⟨fun o ho ρ w => by cases ho; kernel_rfl, trivial⟩) ?_
      refine TG.wpG_pe rfl rfl ?_
      apply Exists.intro
      refine ⟨fun wq => ?_, ?_⟩
      · unfold plainAt
        go_simp
        first | exact rfl | exact ⟨rfl, rfl⟩
      go_simp
      refine TG.wpG_pe rfl rfl ?_
      apply Exists.intro
      refine ⟨fun wq => ?_, ?_⟩
      · unfold plainAt
        go_simp
        first | exact rfl | exact ⟨rfl, rfl⟩
      go_simp
      refine TG.wpG_pe rfl rfl ?_
      apply Exists.intro
      refine ⟨fun wq => ?_, ?_⟩
      · unfold plainAt
        go_simp
        first | exact rfl | exact ⟨rfl, rfl⟩
      go_simp
      refine TG.wpG_pe rfl rfl ?_
      apply Exists.intro
      refine ⟨fun wq => ?_, ?_⟩
      · unfold plainAt
        go_simp
        first | exact rfl | exact ⟨rfl, rfl⟩
      go_simp
      refine TG.wpG_pe rfl rfl ?_
      apply Exists.intro
      refine ⟨fun wq => ?_, ?_⟩
      · unfold plainAt
        go_simp
        first | exact rfl | exact ⟨rfl, rfl⟩
      go_simp
      refine TG.wpG_pe rfl rfl ?_
      apply Exists.intro
      refine ⟨fun wq => ?_, ?_⟩
      · unfold plainAt
        go_simp
        first | exact rfl | exact ⟨rfl, rfl⟩
      go_simp
      refine TG.wpG_qe rfl rfl ⟨.agg (xs SA sn sc d).toArray, fun wq hq => plainRow 33 (.tmp 4) rfl h 0 rfl _ _ (Xk.whole (Gr.blk ((Gr.drew _).trans hq) S2.out.x)) Tryz.underlying33 rfl (sizeXc _ _ _ _), ?_⟩
      go_simp
      refine TG.wpG_qe rfl rfl ⟨xact zk zi zj ⟨xa, xn, xc, xl⟩ ⟨ya, yn, yc, yl⟩ s, fun wq hq => plainRow 54 (.tmp 51) rfl bb (o + k * 6) rfl _ _ (QR.out wq (S2.out.gr.trans ((Gr.drew _).trans hq))) Tryz.underlying54 rfl (sizeAct _ _ _ _ _ _), ?_⟩
      go_simp
      refine TG.wpG_t rfl rfl ?_
      intro w8 g8 K hK
      have G8 := Lib.hid ((Gr.drew w7).trans g8)
      have S8 := Lib.hid (S2.out.mono G8.out)
      have HDO := Lib.hid (do_any zk zi zj ⟨xa, xn, xc, xl⟩ ⟨ya, yn, yc, yl⟩ s ⟨aa, an, ac, al⟩ ⟨ba, bn, bc, bl⟩ w8 S8.out.re (HSD.out.mono S8.out.gr) (Sl.mono HA2.out G8.out) (Sl.mono HB2.out G8.out) (HSK.out.mono S8.out.gr) hsn hn0 (by have := HDK.out; omega) (show an ≤ 20000 by omega) (show bn ≤ 20000 by omega) (by have := HSL.out; omega))
      clear g8
      go_simp
      go_at_call 28
      refine HDO.out.mono ?_
      rintro e w9 ⟨rg, rr, f, d', rfl, hre, hgo, hro, hrn, hd1, re9, t9, _, hfr⟩
      refine hK _ _ t9 ?_
      have T9 : Hid (Tch (fun u => u = p) w7 w9) := (Tch.gr G8.out).trans t9
      have RE9 := Lib.hid re9; have HRE := Lib.hid hre; have HGO := Lib.hid hgo; have HRO := Lib.hid hro; have HRN := Lib.hid hrn; have HD1 := Lib.hid hd1
      have HFR : Hid (FreshR w7 rr.a rr.n) := hfr.old G8.out.size
      have HA9 : Hid (BRow.ok w9 ⟨aa, an, ac, al⟩) := BRow.tch HA2.out T9.out (fun u e => by subst e; exact ⟨_, _, S2.out.re.src.1, src_no _ _ _ _⟩)
      clear hK re9 hre hgo hro hrn hd1 hfr t9 HDO S8 G8
      obtain ⟨ga, gn, gc, gl⟩ := rg
      obtain ⟨ra, rn, rc, rl⟩ := rr
      simp only [BRow.v]
      go_simp
      refine TG.wpG_pe rfl rfl ?_
      apply Exists.intro
      refine ⟨fun wq => ?_, ?_⟩
      · unfold plainAt
        go_simp
        first | exact rfl | exact ⟨rfl, rfl⟩
      go_simp
      refine TG.wpG_pe rfl rfl ?_
      apply Exists.intro
      refine ⟨fun wq => ?_, ?_⟩
      · unfold plainAt
        go_simp
        first | exact rfl | exact ⟨rfl, rfl⟩
      go_simp
      refine TG.wpG_pe rfl rfl ?_
      apply Exists.intro
      refine ⟨fun wq => ?_, ?_⟩
      · unfold plainAt
        go_simp
        first | exact rfl | exact ⟨rfl, rfl⟩
      go_simp
      refine TG.wpG_pe rfl rfl ?_
      apply Exists.intro
      refine ⟨fun wq => ?_, ?_⟩
      · unfold plainAt
        go_simp
        first | exact rfl | exact ⟨rfl, rfl⟩
      go_simp
      refine TG.wpG_pe rfl rfl ?_
      apply Exists.intro
      refine ⟨fun wq => ?_, ?_⟩
      · unfold plainAt
        go_simp
        first | exact rfl | exact ⟨rfl, rfl⟩
      go_simp
      refine TG.wpG_pe rfl rfl ?_
      apply Exists.intro
      refine ⟨fun wq => ?_, ?_⟩
      · unfold plainAt
        go_simp
        first | exact rfl | exact ⟨rfl, rfl⟩
      go_simp
      refine TG.wpG_m rfl rfl ?_
      intro w10 b15 g10 hbn15 hblk hI
      have G10 := Lib.hid g10; have HBK := Lib.hid hblk; have HBN := Lib.hid hbn15
      clear g10 hblk hI hbn15
      go_simp
      refine TG.wpG_pe rfl rfl ?_
      apply Exists.intro
      refine ⟨fun wq => ?_, ?_⟩
      · unfold plainAt
        go_simp
        first | exact rfl | exact ⟨rfl, rfl⟩
      go_simp
      refine TG.wpG_pe rfl rfl ?_
      apply Exists.intro
      refine ⟨fun wq => ?_, ?_⟩
      · unfold plainAt
        go_simp
        first | exact rfl | exact ⟨rfl, rfl⟩
      go_simp
      refine TG.wpG_pe rfl rfl ?_
      apply Exists.intro
      refine ⟨fun wq => ?_, ?_⟩
      · unfold plainAt
        go_simp
        first | exact rfl | exact ⟨rfl, rfl⟩
      go_simp
      refine TG.wpG_pe rfl rfl ?_
      apply Exists.intro
      refine ⟨fun wq => ?_, ?_⟩
      · unfold plainAt
        go_simp
        first | exact rfl | exact ⟨rfl, rfl⟩
      go_simp
      refine TG.wpG_s rfl rfl ?_
      intro w11 g11 K hK
      have HB11 : Hid (Xk w11 b15 xz) := g11.blk HBK.out
      have G11 := Lib.hid (G10.out.trans g11)
      refine wp_store_row 33 (.tmp 15) (.tmp 60) rfl b15 (xs SA sn sc d').toArray rfl rfl 33 xz.toArray HB11.out (sizeX _ _ _ _) rfl (oneX _ _ _ _) ?_
      refine hK _ _ ?_
      clear hK g11
      obtain ⟨pt, xb⟩ := S2.out.acted (rw_ := ⟨ra, rn, rc, rl⟩) (T9.out.trans (Tch.gr G11.out)) (RE9.out.mono G11.out) HB11.out HBN.out (Sl.mono HRO.out G11.out) HFR.out
      have PT1 := Lib.hid pt; have XB1 := Lib.hid xb
      have HA11 : Hid (BRow.ok (w11.setRow b15 (xs SA sn sc d').toArray) ⟨aa, an, ac, al⟩) := Bs.far (Sl.mono HA9.out G11.out) HB11.out xz_not _
      have HGO1 : Hid (BRow.ok (w11.setRow b15 (xs SA sn sc d').toArray) ⟨ga, gn, gc, gl⟩) := Bs.far (Sl.mono HGO.out G11.out) HB11.out xz_not _
      obtain ⟨W11, hW11⟩ : ∃ W11, W11 = w11.setRow b15 (xs SA sn sc d').toArray := ⟨_, rfl⟩
      rw [← hW11] at PT1 XB1 HGO1 HA11 ⊢
      clear pt xb hW11 HB11 G11 HBK G10 HBN T9 RE9 HGO HRO HFR HPL
      go_simp
      refine TG.wpG_nil ?_
      intro w12 g12
      have PT2 := Lib.hid (PT1.out.mono g12)
      have XB2 : Hid (Xk w12 b15 (xs SA sn sc d')) := g12.blk XB1.out
      have HA12 : Hid (BRow.ok w12 ⟨aa, an, ac, al⟩) := Sl.mono HA11.out g12
      have HGO2 : Hid (BRow.ok w12 ⟨ga, gn, gc, gl⟩) := Sl.mono HGO1.out g12
      clear g12 PT1 XB1 HGO1
      go_upto_region 8 with (first
        | (refine wpList_load_row rfl 33 (.tmp 15) rfl b15 rfl 33 (xs SA sn sc d').toArray (0, 0) _ XB2.out Tryz.underlying33 rfl (sizeX _ _ _ _) ?_)
        | (refine wpList_store_row rfl 33 (.tmp 4) (.tmp 61) rfl h (xs SA sn sc d').toArray rfl rfl 33 (xs SA sn sc d).toArray PT2.out.x (sizeX _ _ _ _) rfl (oneX _ _ _ _) ?_))
      have PT3 := Lib.hid (PT2.out.stored (xs_not _ _ _ _))
      have HA3 : Hid (BRow.ok (w12.setRow h (xs SA sn sc d').toArray) ⟨aa, an, ac, al⟩) := Bs.far HA12.out PT2.out.x (xs_not _ _ _ _) _
      have HGO3 : Hid (BRow.ok (w12.setRow h (xs SA sn sc d').toArray) ⟨ga, gn, gc, gl⟩) := Bs.far HGO2.out PT2.out.x (xs_not _ _ _ _) _
      obtain ⟨w13, hw13⟩ : ∃ w13, w13 = w12.setRow h (xs SA sn sc d').toArray := ⟨_, rfl⟩
      rw [← hw13] at PT3 HGO3 HA3 ⊢
      clear hw13 PT2 XB2 HGO2
      obtain rfl : gl = rl := HRE.out
      have HSM : Hid (∀ W', Gr w13 W' → Calls Tryz.prog 15 #[.slice ga gn gc, .slice ra rn rc] W' fun e w' => e = .returned (.bool true) ∧ ∃ k, w' = W'.drewN k) := fun W' e => by
        have h1 := refSame_any ga ra gn rn gc rc gl gl W' (Sl.mono HGO3.out e) (Sl.mono PT3.out.rk e)
        rwa [beq_self_eq_true] at h1
      have HIN : Hid (∀ W', Calls Tryz.prog 29 #[.slice none 0 0, .slice none 0 0] W' fun e w' => e = .returned (.bool true) ∧ ∃ k, w' = W'.drewN k) := fun W' => ints_any none none 0 0 0 0 [] [] W' (Sl.nil _ _) (Sl.nil _ _)
      have bf : (f != f) = false := by cases f <;> rfl
      refine wp_region_grow (by kernel_rfl) [0, 0, 3, 7, 15, 31, 31, 127, 255, 511, 1023, 1023, 4095, 1023, 1023, 32767, 65535, 131071, 262143, 524287, 1048575, 1048575, 4194303, 1048575, 1048575, 33554431, 67108863, 134217727] [.p 0, .p 1, .c 2, .p 3, .p 4, .p 5, .p 6, .p 7, .p 8, .p 9, .p 10, .p 11, .p 14, .q 13, .c 12, .c 15, .c 16, .p 17, .p 18, .p 19, .p 20, .p 21, .p 24, .q 23, .c 22, .c 25, .p 26, .p 27] (by kernel_rfl) (trivial) ?_
      refine wpG_pe rfl rfl ?_
      apply Exists.intro
      refine ⟨fun wq => ?_, ?_⟩
      · unfold plainAt
        go_simp
        first | exact rfl | exact ⟨rfl, rfl⟩
      go_simp
      refine wpG_pe rfl rfl ?_
      apply Exists.intro
      refine ⟨fun wq => ?_, ?_⟩
      · unfold plainAt
        go_simp
        first | exact rfl | exact ⟨rfl, rfl⟩
      go_simp
      refine wpG_c rfl rfl ?_
      intro w14 g14 K hK
      go_simp
      go_at_call 15
      refine (HSM.out w14 ((Gr.drew _).trans g14)).mono ?_
      rintro e wn ⟨rfl, k14, rfl⟩
      refine hK _ _ (belowN (Gr.refl _) k14) ?_; clear hK; have G14 : Hid (Gr w13 (w14.drewN k14)) := Gr.trans ((Gr.drew _).trans g14) (belowN (Gr.refl _) k14); clear g14
      go_simp
      refine wpG_pe rfl rfl ?_
      apply Exists.intro
      refine ⟨fun wq => ?_, ?_⟩
      · unfold plainAt
        go_simp
        first | exact rfl | exact ⟨rfl, rfl⟩
      go_simp
      refine wpG_pe rfl rfl ?_
      apply Exists.intro
      refine ⟨fun wq => ?_, ?_⟩
      · unfold plainAt
        go_simp
        first | exact rfl | exact ⟨rfl, rfl⟩
      go_simp
      refine wpG_pe rfl rfl ?_
      apply Exists.intro
      refine ⟨fun wq => ?_, ?_⟩
      · unfold plainAt
        go_simp
        first | exact rfl | exact ⟨rfl, rfl⟩
      go_simp
      refine wpG_pe rfl rfl ?_
      apply Exists.intro
      refine ⟨fun wq => ?_, ?_⟩
      · unfold plainAt
        go_simp
        first | exact rfl | exact ⟨rfl, rfl⟩
      go_simp
      refine wpG_pe rfl rfl ?_
      apply Exists.intro
      refine ⟨fun wq => ?_, ?_⟩
      · unfold plainAt
        go_simp
        first | exact rfl | exact ⟨rfl, rfl⟩
      go_simp
      refine wpG_pe rfl rfl ?_
      apply Exists.intro
      refine ⟨fun wq => ?_, ?_⟩
      · unfold plainAt
        go_simp
        first | exact rfl | exact ⟨rfl, rfl⟩
      go_simp
      refine wpG_pe rfl rfl ?_
      apply Exists.intro
      refine ⟨fun wq => ?_, ?_⟩
      · unfold plainAt
        go_simp
        first | exact rfl | exact ⟨rfl, rfl⟩
      go_simp
      refine wpG_pe rfl rfl ?_
      apply Exists.intro
      refine ⟨fun wq => ?_, ?_⟩
      · unfold plainAt
        go_simp
        first | exact rfl | exact ⟨rfl, rfl⟩
      go_simp
      refine wpG_pe rfl rfl ?_
      apply Exists.intro
      refine ⟨fun wq => ?_, ?_⟩
      · unfold plainAt
        go_simp
        first | exact rfl | exact ⟨rfl, rfl⟩
      go_simp
      refine wpG_pe rfl rfl ?_
      apply Exists.intro
      refine ⟨fun wq => ?_, ?_⟩
      · unfold plainAt
        go_simp
        first | exact rfl | exact ⟨rfl, rfl⟩
      go_simp
      refine wpG_qe rfl rfl ⟨.agg (xs SA sn sc d').toArray, fun wq hq => plainRow 33 (.tmp 4) rfl h 0 rfl _ _ (Xk.whole (Gr.blk (G14.out.trans hq) PT3.out.x)) Tryz.underlying33 rfl (sizeXc _ _ _ _), ?_⟩
      go_simp
      refine wpG_c rfl rfl ?_
      intro w15 g15 K hK
      go_simp
      go_at_call 25
      refine (realFind_any g ba bn bc w15 (PT3.out.re.mono (G14.out.trans g15)).real).mono ?_
      rintro e wn ⟨rfl, h15⟩
      refine hK _ _ (h15 ▸ Gr.refl _) ?_; clear hK; have G15 := Lib.hid (G14.out.trans (h15 ▸ g15)); clear g15 h15
      go_simp
      refine wpG_c rfl rfl ?_
      intro w16 g16 K hK
      go_simp
      go_at_call 30
      refine (xFind_any SA ba sn sc d' bn bc w16).mono ?_
      rintro e wn ⟨rfl, h16⟩
      refine hK _ _ h16 ?_; clear hK; have G16 := Lib.hid ((G15.out.trans g16).trans h16); clear g16 h16
      go_simp
      refine wpG_c rfl rfl ?_
      intro w17 g17 K hK
      go_simp
      go_at_call 29
      refine (HIN.out w17).mono ?_
      rintro e wn ⟨rfl, k17, rfl⟩
      refine hK _ _ (belowN (Gr.refl _) k17) ?_; clear hK; have G17 : Hid (Gr w13 (w17.drewN k17)) := Gr.trans (G16.out.trans g17) (belowN (Gr.refl _) k17); clear g17
      go_simp
      refine wpG_pe rfl rfl ?_
      apply Exists.intro
      refine ⟨fun wq => ?_, ?_⟩
      · unfold plainAt
        go_simp
        first | exact rfl | exact ⟨rfl, rfl⟩
      go_simp
      refine wpG_pe rfl rfl ?_
      apply Exists.intro
      refine ⟨fun wq => ?_, ?_⟩
      · unfold plainAt
        go_simp
        first | exact rfl | exact ⟨rfl, rfl⟩
      go_simp
      refine wpG_pe rfl rfl ?_
      apply Exists.intro
      refine ⟨fun wq => ?_, ?_⟩
      · unfold plainAt
        go_simp
        first | exact rfl | exact ⟨rfl, rfl⟩
      go_simp
      refine wpG_pe rfl rfl ?_
      apply Exists.intro
      refine ⟨fun wq => ?_, ?_⟩
      · unfold plainAt
        go_simp
        first | exact rfl | exact ⟨rfl, rfl⟩
      go_simp
      refine wpG_pe rfl rfl ?_
      apply Exists.intro
      refine ⟨fun wq => ?_, ?_⟩
      · unfold plainAt
        go_simp
        first | exact rfl | exact ⟨rfl, rfl⟩
      go_simp
      refine wpG_pe rfl rfl ?_
      apply Exists.intro
      refine ⟨fun wq => ?_, ?_⟩
      · unfold plainAt
        go_simp
        first | exact rfl | exact ⟨rfl, rfl⟩
      go_simp
      refine wpG_qe rfl rfl ⟨.agg (xs SA sn sc d').toArray, fun wq hq => plainRow 33 (.tmp 4) rfl h 0 rfl _ _ (Xk.whole (Gr.blk (G17.out.trans hq) PT3.out.x)) Tryz.underlying33 rfl (sizeXc _ _ _ _), ?_⟩
      go_simp
      refine wpG_c rfl rfl ?_
      intro w18 g18 K hK
      go_simp
      go_at_call 14
      refine (realTerm_any g aa an ac al w18 (PT3.out.re.mono (G17.out.trans g18)).real (PT3.out.re.mono (G17.out.trans g18)).t0 (Sl.mono HA3.out (G17.out.trans g18))).mono ?_
      rintro e wn ⟨rfl, h18⟩
      refine hK _ _ h18 ?_; clear hK; have G18 := Lib.hid ((G17.out.trans g18).trans h18); clear g18 h18
      go_simp
      refine wpG_c rfl rfl ?_
      intro w19 g19 K hK
      go_simp
      go_at_call 31
      refine (xTerm_any SA aa sn sc d' an ac al w19 (Sl.mono HA3.out (G18.out.trans g19))).mono ?_
      rintro e wn ⟨rfl, h19⟩
      refine hK _ _ h19 ?_; clear hK; have G19 := Lib.hid ((G18.out.trans g19).trans h19); clear g19 h19
      go_simp
      refine wpG_pe rfl rfl ?_
      apply Exists.intro
      refine ⟨fun wq => ?_, ?_⟩
      · unfold plainAt
        go_simp
        first | exact rfl | exact ⟨rfl, rfl⟩
      go_simp
      refine wpG_pe rfl rfl ?_
      apply Exists.intro
      refine ⟨fun wq => ?_, ?_⟩
      · unfold plainAt
        go_simp
        first | exact rfl | exact ⟨rfl, rfl⟩
      go_simp
      refine wpG_nil ?_
      intro w20 g20
      have PT4 := Lib.hid (PT3.out.mono (G19.out.trans g20))
      clear g20 G19 G18 G17 G16 G15 G14 HSM HIN bf PT3 HGO3 HA3
      have HRR : Hid (R.length ≤ 100) := by show _ ≤ _; rw [HRL.out]; omega
      go_wp2_with (at_builtin; refine wpList_pushG rfl (.tmp 90) (.tmp 92) 31 rfl tRows rfl PT4.out.ga.1 #[.slice ra rn rc] rfl rfl (by intro u hu; simp at hu; subst hu; rfl) (by have := HRR.out; omega) ?_; intro v21 w21 own21 kept21; have PS5 := Lib.hid (PT4.out.pushed (k := k) own21 kept21 S1.out.hr (by have h1 := HRN.out; show rn ≤ _; have h2 : rn ≤ bn + 48 := h1; omega) (by have h1 := HD1.out; have h2 := HDK.out; omega) HRL.out S1.out.p0); clear own21 kept21)
      go_roundw
      case rel => exact ⟨k + 1, d', _, by omega, by go_num, PS5.out⟩
      case measure => simp [Go.RowKit.intOf]; omega
    · have t0 : decide ((k : Int) < (n : Int)) = false := decide_eq_false (by omega)
      go_wp2_with fail
      go_ret
      exact ⟨rfl, S1.out.gr⟩
end
end Go.Proofs.YtcfbbgbjlgonpaaGreatDoor
