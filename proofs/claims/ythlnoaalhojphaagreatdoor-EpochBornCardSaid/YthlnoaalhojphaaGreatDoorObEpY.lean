/- EpochBorn walked. No condition. -/
import Derived.Test.YthlnoaalhojphaaGreatDoorObEpX
import Derived.Test.YthlnoaalhojphaaGreatDoorObEpF
import Derived.Outline
namespace Go.Proofs.YthlnoaalhojphaaGreatDoor
open Go.RowKit
set_option linter.unusedVariables false
/-- A birth that lies in a block. -/
def BiW (w : World) (g : Nat) (b : Brt) : Prop := ∃ (A1 : Option Addr) (n1 c1 : Nat) (A2 : Option Addr) (n2 c2 : Nat) (A3 : Option Addr) (c3 : Nat) (M : List BRow), Blk w g 30 [.slice A1 n1 c1, .slice A2 n2 c2, .slice A3 b.ch.length c3] ∧ Bs w A1 n1 c1 b.ex ∧ Bs w A2 n2 c2 b.ini ∧ Chr w A3 b.ch.length c3 M ∧ M.map BRow.l = b.ch
theorem BiW.gr {w w' : World} {g : Nat} {b : Brt} (h : BiW w g b) (hg : Gr w w') : BiW w' g b := by
  obtain ⟨A1, n1, c1, A2, n2, c2, A3, c3, M, h0, h1, h2, h3, h4⟩ := h
  exact ⟨A1, n1, c1, A2, n2, c2, A3, c3, M, hg.blk h0, h1.mono hg, h2.mono hg, h3.mono hg, h4⟩
theorem BiW.new {w : World} {b : Brt} {A1 A2 A3 : Option Addr} {n1 c1 n2 c2 c3 : Nat} {M : List BRow} (h1 : Bs w A1 n1 c1 b.ex) (h2 : Bs w A2 n2 c2 b.ini) (h3 : Chr w A3 b.ch.length c3 M) (h4 : M.map BRow.l = b.ch) : BiW (w.alloc (.cells #[.slice A1 n1 c1, .slice A2 n2 c2, .slice A3 b.ch.length c3] 30)) w.heap.size b :=
  ⟨A1, n1, c1, A2, n2, c2, A3, c3, M, Blk.new _ _ _, h1.mono (Gr.alloc _ _), h2.mono (Gr.alloc _ _), h3.mono (Gr.alloc _ _), h4⟩
theorem sameBi_any (A1 A2 A3 B1 B2 B3 : Option Addr) (n1 c1 n2 c2 c3 m1 d1 m2 d2 d3 : Nat) (b : Brt) (R R' : List CRow) (w : World) (h1 : Bs w A1 n1 c1 b.ex) (h2 : Bs w A2 n2 c2 b.ini) (h3 : Rch w A3 b.ch.length c3 R) (h4 : R.map (fun r => r.x.l) = b.ch) (k1 : Bs w B1 m1 d1 b.ex) (k2 : Bs w B2 m2 d2 b.ini) (k3 : Rch w B3 b.ch.length d3 R') (k4 : R'.map (fun r => r.x.l) = b.ch) (hl : b.ch.length ≤ 100) :
    Calls Tryz.prog 11 #[.agg #[.slice A1 n1 c1, .slice A2 n2 c2, .slice A3 b.ch.length c3], .agg #[.slice B1 m1 d1, .slice B2 m2 d2, .slice B3 b.ch.length d3]] w fun e w' => e = .returned (.bool true) ∧ Gr w w' :=
  same34_yes A1 B1 A2 B2 A3 B3 n1 c1 m1 d1 n2 c2 m2 d2 b.ch.length c3 d3 b.ex b.ini R R' w h1 k1 h2 k2 h3 k3 (k4.trans h4.symm) hl
set_option maxRecDepth 100000 in
set_option maxHeartbeats 4000000 in
theorem epochBorn_walk (A B : Option Addr) (n c m d : Nat) (la lb : List UInt8) (snd : Int) (w : World) (ha : Bs w A n c la) (hb : Bs w B m d lb) (hs : -9223372036854775808 ≤ snd ∧ snd ≤ 9223372036854775807) (hK : ShaK w) :
    Calls Tryz.prog 3 #[.slice A n c, .slice B m d, .int .i64 snd] w fun e w' => e = .returned (.bool true) ∧ Below w.heap.size w w' := by
  have HAL : Hid (∀ W, Gr w W → Calls Tryz.prog 5 #[] W fun e w' => e = .returned (.bool true) ∧ Gr W w') := fun W hW => alive34 W (hK.mono hW)
  have hcap := ha.cap; have hmax := ha.max; have hcap2 := hb.cap; have hmax2 := hb.max
  have HA := Lib.hid ha; have HB := Lib.hid hb; have HK := Lib.hid hK
  have HZ := Lib.hid hK.lt
  clear ha hb hK
  by_cases hn : 100 < n
  · skip
    go_enter Tryz.func3, Tryz.ntmps3
    go_wp2_with fail
    refine (HAL.out w (Gr.refl _)).mono ?_
    rintro e w1 ⟨rfl, g1⟩
    have G1 := Lib.hid g1; clear g1
    go_wp2_with fail
    go_ret
    exact ⟨rfl, G1.out⟩
  by_cases hm : 100 < m
  · skip
    go_enter Tryz.func3, Tryz.ntmps3
    go_wp2_with fail
    refine (HAL.out w (Gr.refl _)).mono ?_
    rintro e w1 ⟨rfl, g1⟩
    have G1 := Lib.hid g1; clear g1
    go_wp2_with fail
    go_ret
    exact ⟨rfl, G1.out⟩
  obtain ⟨f1, hf1⟩ : ∃ f1, f1 = whyL snd [⟨A, n, c, la⟩] := ⟨_, rfl⟩
  obtain ⟨f2, hf2⟩ : ∃ f2, f2 = whyL snd [⟨A, n, c, la⟩, ⟨B, m, d, lb⟩] := ⟨_, rfl⟩
  obtain ⟨b1, hb1⟩ : ∃ b1, b1 = if f1 = 0 then bornR (deriveL la joinS) snd.toNat else noB := ⟨_, rfl⟩
  obtain ⟨b2, hb2⟩ : ∃ b2, b2 = if f2 = 0 then bornR (deriveL (macL la lb) joinS) snd.toNat else noB := ⟨_, rfl⟩
  obtain ⟨b3, hb3⟩ : ∃ b3, b3 = if f1 = 0 then bornR la snd.toNat else noB := ⟨_, rfl⟩
  have HF : Hid (∀ gs W, Gr w W → RealB W gs → Calls Tryz.prog 7 #[.pointer (some ⟨gs, 0, none⟩), .slice A n c, .int .i64 snd] W (RetBi W f1 b1)) := fun gs W hW hR => by rw [hb1]; exact firstBi_any hR (HK.out.mono hW) A n c la snd (HA.out.mono hW) f1 hf1.symm
  have HN : Hid (∀ gs W, Gr w W → RealB W gs → Calls Tryz.prog 8 #[.pointer (some ⟨gs, 0, none⟩), .slice A n c, .slice B m d, .int .i64 snd] W (RetBi W f2 b2)) := fun gs W hW hR => by rw [hb2]; exact nextBi_any hR (HK.out.mono hW) A B n c m d la lb snd (HA.out.mono hW) (HB.out.mono hW) f2 hf2.symm
  have HBO : Hid (∀ gs W, Gr w W → RealB W gs → Calls Tryz.prog 9 #[.pointer (some ⟨gs, 0, none⟩), .slice A n c, .int .i64 snd] W (RetBi W f1 b3)) := fun gs W hW hR => by rw [hb3]; exact bornBi_any hR (HK.out.mono hW) A n c la snd (HA.out.mono hW) f1 hf1.symm
  have HW1 : Hid (∀ W, Gr w W → Calls Tryz.prog 10 #[.slice (some ⟨W.heap.size, 0, none⟩) 1 1, .int .i64 snd] (W.alloc (.cells #[.slice A n c] 22)) fun e w' => e = .returned (.int .i64 f1) ∧ Gr W w') := fun W hW => (refWhy_any snd _ 1 1 [⟨A, n, c, la⟩] _ (row1_sl W ⟨A, n, c, la⟩ _)).mono (by
    rintro e w' ⟨he, hg⟩
    rw [← hf1] at he
    exact ⟨he, (Gr.alloc _ _).trans hg⟩)
  have HW2 : Hid (∀ W, Gr w W → Calls Tryz.prog 10 #[.slice (some ⟨W.heap.size, 0, none⟩) 2 2, .int .i64 snd] (W.alloc (.cells #[.slice A n c, .slice B m d] 22)) fun e w' => e = .returned (.int .i64 f2) ∧ Gr W w') := fun W hW => (refWhy_any snd _ 2 2 [⟨A, n, c, la⟩, ⟨B, m, d, lb⟩] _ (row2_sl W ⟨A, n, c, la⟩ ⟨B, m, d, lb⟩ _)).mono (by
    rintro e w' ⟨he, hg⟩
    rw [← hf2] at he
    exact ⟨he, (Gr.alloc _ _).trans hg⟩)
  have HF1 := Lib.hid hf1; have HF2 := Lib.hid hf2; have HB1 := Lib.hid hb1; have HB2 := Lib.hid hb2; have HB3 := Lib.hid hb3
  clear hf1 hf2 hb1 hb2 hb3
  have t11 : ((f1 : Int) != f1) = false := by simp
  have t22 : ((f2 : Int) != f2) = false := by simp
  go_enter Tryz.func3, Tryz.ntmps3
  go_wp2_with fail
  refine (realB_any w HZ.out).mono ?_
  rintro e w1 ⟨gs, rfl, r1, g1, _⟩
  have R1 := Lib.hid r1; have G1 : Hid (Gr w w1) := g1
  clear r1 g1
  go_wp2_with fail
  refine (HF.out gs w1 G1.out R1.out).mono ?_
  rintro e w2 ⟨A1, n1, c1, A2, n2, c2, A3, c3, M, rfl, s1, s2, s3, sm, g2⟩
  have HX := Lib.hid (BiW.new s1 s2 s3 sm)
  have G3 : Hid (Gr w (w2.alloc (.cells #[.slice A1 n1 c1, .slice A2 n2 c2, .slice A3 b1.ch.length c3] 30))) := (Gr.trans G1.out g2).trans (Gr.alloc _ _)
  have GS : Hid (Gr _ (w2.alloc (.cells #[.slice A1 n1 c1, .slice A2 n2 c2, .slice A3 b1.ch.length c3] 30))) := Gr.trans g2 (Gr.alloc _ _)
  have R3 : Hid (RealB (w2.alloc (.cells #[.slice A1 n1 c1, .slice A2 n2 c2, .slice A3 b1.ch.length c3] 30)) gs) := R1.out.gr (Gr.trans g2 (Gr.alloc _ _))
  obtain ⟨pa, hpa⟩ : ∃ x, x = w2.heap.size := ⟨_, rfl⟩
  rw [← hpa] at HX
  have Hpa := Lib.hid hpa
  clear hpa s1 s2 s3 sm g2
  go_wp2_with fail
  rw [← Hpa.out]
  generalize w2.alloc (.cells #[.slice A1 n1 c1, .slice A2 n2 c2, .slice A3 b1.ch.length c3] 30) = w3 at *
  clear GS
  refine (HN.out gs w3 G3.out R3.out).mono ?_
  rintro e w4 ⟨A1, n1, c1, A2, n2, c2, A3, c3, M, rfl, s1, s2, s3, sm, g2⟩
  have HY := Lib.hid (BiW.new s1 s2 s3 sm)
  have G5 : Hid (Gr w (w4.alloc (.cells #[.slice A1 n1 c1, .slice A2 n2 c2, .slice A3 b2.ch.length c3] 30))) := (Gr.trans G3.out g2).trans (Gr.alloc _ _)
  have GS : Hid (Gr _ (w4.alloc (.cells #[.slice A1 n1 c1, .slice A2 n2 c2, .slice A3 b2.ch.length c3] 30))) := Gr.trans g2 (Gr.alloc _ _)
  have R5 : Hid (RealB (w4.alloc (.cells #[.slice A1 n1 c1, .slice A2 n2 c2, .slice A3 b2.ch.length c3] 30)) gs) := R3.out.gr (Gr.trans g2 (Gr.alloc _ _))
  obtain ⟨pb, hpb⟩ : ∃ x, x = w4.heap.size := ⟨_, rfl⟩
  rw [← hpb] at HY
  have Hpb := Lib.hid hpb
  clear hpb s1 s2 s3 sm g2
  go_wp2_with fail
  rw [← Hpb.out]
  generalize w4.alloc (.cells #[.slice A1 n1 c1, .slice A2 n2 c2, .slice A3 b2.ch.length c3] 30) = w5 at *
  have HX5 := Lib.hid (HX.out.gr GS.out)
  clear GS HX
  refine (HBO.out gs w5 G5.out R5.out).mono ?_
  rintro e w6 ⟨A1, n1, c1, A2, n2, c2, A3, c3, M, rfl, s1, s2, s3, sm, g2⟩
  have HV := Lib.hid (BiW.new s1 s2 s3 sm)
  have G7 : Hid (Gr w (w6.alloc (.cells #[.slice A1 n1 c1, .slice A2 n2 c2, .slice A3 b3.ch.length c3] 30))) := (Gr.trans G5.out g2).trans (Gr.alloc _ _)
  have GS : Hid (Gr _ (w6.alloc (.cells #[.slice A1 n1 c1, .slice A2 n2 c2, .slice A3 b3.ch.length c3] 30))) := Gr.trans g2 (Gr.alloc _ _)
  have R7 : Hid (RealB (w6.alloc (.cells #[.slice A1 n1 c1, .slice A2 n2 c2, .slice A3 b3.ch.length c3] 30)) gs) := R5.out.gr (Gr.trans g2 (Gr.alloc _ _))
  obtain ⟨pc, hpc⟩ : ∃ x, x = w6.heap.size := ⟨_, rfl⟩
  rw [← hpc] at HV
  have Hpc := Lib.hid hpc
  clear hpc s1 s2 s3 sm g2
  go_wp2_with fail
  rw [← Hpc.out]
  generalize w6.alloc (.cells #[.slice A1 n1 c1, .slice A2 n2 c2, .slice A3 b3.ch.length c3] 30) = w7 at *
  have HX7 := Lib.hid (HX5.out.gr GS.out); have HY7 := Lib.hid (HY.out.gr GS.out)
  clear GS HX5 HY
  refine (firstNil_any snd A n c w7).mono ?_
  rintro e w8 ⟨rfl, g8⟩
  have GS : Hid (Gr w7 (w8.alloc (.cells #[.slice none 0 0, .slice none 0 0, .slice none 0 0] 30))) := Gr.trans g8 (Gr.alloc _ _)
  clear g8
  have S9 : Hid ((w8.alloc (.cells #[.slice none 0 0, .slice none 0 0, .slice none 0 0] 30)).heap.size = w8.heap.size + 1) := by show _ = _; simp
  go_wp2_with fail
  rw [← S9.out]
  generalize w8.alloc (.cells #[.slice none 0 0, .slice none 0 0, .slice none 0 0] 30) = w9 at *
  have X9 := Lib.hid (HX7.out.gr GS.out); have Y9 := Lib.hid (HY7.out.gr GS.out); have V9 := Lib.hid (HV.out.gr GS.out); have G9 : Hid (Gr w w9) := G7.out.trans GS.out
  clear GS HX7 HY7 HV G7 G5 G3 R7 R5 R3 R1 HF HN HBO
  refine (HW1.out w9 G9.out).mono ?_
  rintro e w10 ⟨rfl, g10⟩
  have GS : Hid (Gr w9 w10) := g10; clear g10
  have X10 := Lib.hid (X9.out.gr GS.out); have Y10 := Lib.hid (Y9.out.gr GS.out); have V10 := Lib.hid (V9.out.gr GS.out); have G10 : Hid (Gr w w10) := G9.out.trans GS.out
  clear GS X9 Y9 V9 G9
  go_wp2_with fail
  refine (HW2.out w10 G10.out).mono ?_
  rintro e w11 ⟨rfl, g11⟩
  have GS : Hid (Gr w10 w11) := g11; clear g11
  have X11 := Lib.hid (X10.out.gr GS.out); have Y11 := Lib.hid (Y10.out.gr GS.out); have V11 := Lib.hid (V10.out.gr GS.out); have G11 : Hid (Gr w w11) := G10.out.trans GS.out
  clear GS X10 Y10 V10 G10 HW1 HW2
  have BL1 : Hid (b1.ch.length ≤ 100) := by
    show _ ≤ _
    rw [HB1.out]
    by_cases h : f1 = 0
    · rw [if_pos h, bornR_len]; have := (why_zero (HF1.out.symm.trans h)).1; omega
    · rw [if_neg h]; exact Nat.zero_le _
  have BL2 : Hid (b2.ch.length ≤ 100) := by
    show _ ≤ _
    rw [HB2.out]
    by_cases h : f2 = 0
    · rw [if_pos h, bornR_len]; have := (why_zero (HF2.out.symm.trans h)).1; omega
    · rw [if_neg h]; exact Nat.zero_le _
  have BL3 : Hid (b3.ch.length ≤ 100) := by
    show _ ≤ _
    rw [HB3.out]
    by_cases h : f1 = 0
    · rw [if_pos h, bornR_len]; have := (why_zero (HF1.out.symm.trans h)).1; omega
    · rw [if_neg h]; exact Nat.zero_le _
  have RZ : Hid (∀ W, Rch W none 0 0 []) := fun W => ⟨Sl.nil _ _, rfl, fun x hx => by cases hx⟩
  by_cases hz1 : f1 = 0
  · subst hz1
    obtain ⟨⟨q1, q4⟩, q32⟩ := why_zero HF1.out.symm
    obtain rfl : n = 32 := q32 ⟨A, n, c, la⟩ List.mem_cons_self
    obtain ⟨k, rfl⟩ : ∃ k : Nat, snd = k := ⟨snd.toNat, by omega⟩
    have E1 : Hid (b1 = bornR (deriveL la joinS) k) := by show _ = _; rw [HB1.out, if_pos rfl]; rfl
    have E3 : Hid (b3 = bornR la k) := by show _ = _; rw [HB3.out, if_pos rfl]; rfl
    have HR1 : Hid (∀ W, Gr w W → Calls Tryz.prog 13 #[.slice A 32 c, .int .i64 (k : Int)] W (RetRi W b1)) := fun W hW => by rw [E1.out]; exact (refFirst34_any A c la k W (HA.out.mono hW) (by omega)).mono fun e w' h => h.ri
    have HR3 : Hid (∀ W, Gr w W → Calls Tryz.prog 14 #[.slice A 32 c, .int .i64 (k : Int)] W (RetRi W b3)) := fun W hW => by rw [E3.out]; exact (refBorn34_any A c la k W (HA.out.mono hW) (by omega)).mono fun e w' h => h.ri
    by_cases hz2 : f2 = 0
    · subst hz2
      obtain ⟨_, q32⟩ := why_zero HF2.out.symm
      obtain rfl : m = 32 := q32 ⟨B, m, d, lb⟩ (List.mem_cons_of_mem _ List.mem_cons_self)
      have E2 : Hid (b2 = bornR (deriveL (macL la lb) joinS) k) := by show _ = _; rw [HB2.out, if_pos rfl]; rfl
      have HR2 : Hid (∀ W, Gr w W → Calls Tryz.prog 15 #[.slice A 32 c, .slice B 32 d, .int .i64 (k : Int)] W (RetRi W b2)) := fun W hW => by rw [E2.out]; exact (refNext34_any B A d c la lb k W (HA.out.mono hW) (HB.out.mono hW) (by omega)).mono fun e w' h => h.ri
      clear HF1 HF2 HB1 HB2 HB3 E1 E2 E3
      obtain ⟨A1, n1, c1, A2, n2, c2, A3, c3, M, hb, h1, h2, h3, hm⟩ := X11.out
      have x0 : w11.cell? ⟨pa, 0, none⟩ = some (.slice A1 n1 c1) := (hb.cell 0).trans rfl
      have x1 : w11.cell? ⟨pa, 1, none⟩ = some (.slice A2 n2 c2) := (hb.cell 1).trans rfl
      have x2 : w11.cell? ⟨pa, 2, none⟩ = some (.slice A3 b1.ch.length c3) := (hb.cell 2).trans rfl
      have HBK := Lib.hid (backBi_any A1 A2 A3 n1 c1 n2 c2 c3 b1 M w11 h1 h2 h3 hm BL1.out)
      clear hb h1 h2 h3 hm
      go_wp2_with fail
      refine HBK.out.mono ?_
      rintro e wax ⟨B1, m1, d1, B2, m2, d2, B3, d3, R, rfl, r1, r2, r3, rm, g⟩
      have GA : Hid (Gr w11 wax) := g
      have P1 := Lib.hid r1; have P2 := Lib.hid r2; have P3 := Lib.hid r3; have PM := Lib.hid rm
      clear x0 x1 x2 HBK r1 r2 r3 rm g
      go_wp2_with fail
      refine (HR1.out wax (G11.out.trans GA.out)).mono ?_
      rintro e wbx ⟨D1, k1, e1, D2, k2, e2, D3, e3, Q, rfl, q1, q2, q3, qm, g⟩
      have GB : Hid (Gr wax wbx) := g
      have HSM := Lib.hid (sameBi_any B1 B2 B3 D1 D2 D3 m1 d1 m2 d2 d3 k1 e1 k2 e2 e3 b1 R Q wbx (P1.out.mono g) (P2.out.mono g) (P3.out.mono g) PM.out q1 q2 q3 qm BL1.out)
      clear q1 q2 q3 qm g P1 P2 P3 PM
      go_wp2_with fail
      refine HSM.out.mono ?_
      rintro e wcx ⟨rfl, g⟩
      have GS : Hid (Gr w11 wcx) := (GA.out.trans GB.out).trans g
      clear g GA GB HSM
      have V12 := Lib.hid (V11.out.gr GS.out); have Y12 := Lib.hid (Y11.out.gr GS.out); have G12 : Hid (Gr w wcx) := G11.out.trans GS.out
      clear GS V11 Y11 G11
      clear X11
      obtain ⟨A1, n1, c1, A2, n2, c2, A3, c3, M, hb, h1, h2, h3, hm⟩ := V12.out
      have x0 : wcx.cell? ⟨pc, 0, none⟩ = some (.slice A1 n1 c1) := (hb.cell 0).trans rfl
      have x1 : wcx.cell? ⟨pc, 1, none⟩ = some (.slice A2 n2 c2) := (hb.cell 1).trans rfl
      have x2 : wcx.cell? ⟨pc, 2, none⟩ = some (.slice A3 b3.ch.length c3) := (hb.cell 2).trans rfl
      have HBK := Lib.hid (backBi_any A1 A2 A3 n1 c1 n2 c2 c3 b3 M wcx h1 h2 h3 hm BL3.out)
      clear hb h1 h2 h3 hm
      go_wp2_with fail
      refine HBK.out.mono ?_
      rintro e wav ⟨B1, m1, d1, B2, m2, d2, B3, d3, R, rfl, r1, r2, r3, rm, g⟩
      have GA : Hid (Gr wcx wav) := g
      have P1 := Lib.hid r1; have P2 := Lib.hid r2; have P3 := Lib.hid r3; have PM := Lib.hid rm
      clear x0 x1 x2 HBK r1 r2 r3 rm g
      go_wp2_with fail
      refine (HR3.out wav (G12.out.trans GA.out)).mono ?_
      rintro e wbv ⟨D1, k1, e1, D2, k2, e2, D3, e3, Q, rfl, q1, q2, q3, qm, g⟩
      have GB : Hid (Gr wav wbv) := g
      have HSM := Lib.hid (sameBi_any B1 B2 B3 D1 D2 D3 m1 d1 m2 d2 d3 k1 e1 k2 e2 e3 b3 R Q wbv (P1.out.mono g) (P2.out.mono g) (P3.out.mono g) PM.out q1 q2 q3 qm BL3.out)
      clear q1 q2 q3 qm g P1 P2 P3 PM
      go_wp2_with fail
      refine HSM.out.mono ?_
      rintro e wcv ⟨rfl, g⟩
      have GS : Hid (Gr wcx wcv) := (GA.out.trans GB.out).trans g
      clear g GA GB HSM
      have V13 := Lib.hid (V12.out.gr GS.out); have Y13 := Lib.hid (Y12.out.gr GS.out); have G13 : Hid (Gr w wcv) := G12.out.trans GS.out
      clear GS V12 Y12 G12
      obtain ⟨A1, n1, c1, A2, n2, c2, A3, c3, M, hb, h1, h2, h3, hm⟩ := Y13.out
      have x0 : wcv.cell? ⟨pb, 0, none⟩ = some (.slice A1 n1 c1) := (hb.cell 0).trans rfl
      have x1 : wcv.cell? ⟨pb, 1, none⟩ = some (.slice A2 n2 c2) := (hb.cell 1).trans rfl
      have x2 : wcv.cell? ⟨pb, 2, none⟩ = some (.slice A3 b2.ch.length c3) := (hb.cell 2).trans rfl
      have HBK := Lib.hid (backBi_any A1 A2 A3 n1 c1 n2 c2 c3 b2 M wcv h1 h2 h3 hm BL2.out)
      clear hb h1 h2 h3 hm
      go_wp2_with fail
      refine HBK.out.mono ?_
      rintro e way ⟨B1, m1, d1, B2, m2, d2, B3, d3, R, rfl, r1, r2, r3, rm, g⟩
      have GA : Hid (Gr wcv way) := g
      have P1 := Lib.hid r1; have P2 := Lib.hid r2; have P3 := Lib.hid r3; have PM := Lib.hid rm
      clear x0 x1 x2 HBK r1 r2 r3 rm g
      go_wp2_with fail
      refine (HR2.out way (G13.out.trans GA.out)).mono ?_
      rintro e wby ⟨D1, k1, e1, D2, k2, e2, D3, e3, Q, rfl, q1, q2, q3, qm, g⟩
      have GB : Hid (Gr way wby) := g
      have HSM := Lib.hid (sameBi_any B1 B2 B3 D1 D2 D3 m1 d1 m2 d2 d3 k1 e1 k2 e2 e3 b2 R Q wby (P1.out.mono g) (P2.out.mono g) (P3.out.mono g) PM.out q1 q2 q3 qm BL2.out)
      clear q1 q2 q3 qm g P1 P2 P3 PM
      go_wp2_with fail
      refine HSM.out.mono ?_
      rintro e wcy ⟨rfl, g⟩
      have GS : Hid (Gr wcv wcy) := (GA.out.trans GB.out).trans g
      clear g GA GB HSM
      have V14 := Lib.hid (V13.out.gr GS.out); have Y14 := Lib.hid (Y13.out.gr GS.out); have G14 : Hid (Gr w wcy) := G13.out.trans GS.out
      clear GS V13 Y13 G13
      go_wp2_with fail
      refine (HAL.out wcy G14.out).mono ?_
      rintro e wz ⟨rfl, gz⟩
      have GZ : Hid (Gr w wz) := G14.out.trans gz
      clear gz
      go_wp2_with fail
      go_ret
      exact ⟨rfl, GZ.out⟩
    · have tz2 : ((f2 : Int) != 0) = true := bne_iff_ne.2 hz2
      obtain rfl : b2 = noB := by rw [HB2.out, if_neg hz2]
      clear HF1 HF2 HB1 HB2 HB3 E1 E3
      obtain ⟨A1, n1, c1, A2, n2, c2, A3, c3, M, hb, h1, h2, h3, hm⟩ := Y11.out
      have x0 : w11.cell? ⟨pb, 0, none⟩ = some (.slice A1 n1 c1) := (hb.cell 0).trans rfl
      have x1 : w11.cell? ⟨pb, 1, none⟩ = some (.slice A2 n2 c2) := (hb.cell 1).trans rfl
      have x2 : w11.cell? ⟨pb, 2, none⟩ = some (.slice A3 noB.ch.length c3) := (hb.cell 2).trans rfl
      have HBK := Lib.hid (backBi_any A1 A2 A3 n1 c1 n2 c2 c3 noB M w11 h1 h2 h3 hm BL2.out)
      clear hb h1 h2 h3 hm
      go_wp2_with fail
      refine HBK.out.mono ?_
      rintro e way ⟨B1, m1, d1, B2, m2, d2, B3, d3, R, rfl, r1, r2, r3, rm, g⟩
      have GA : Hid (Gr w11 way) := g
      have P1 := Lib.hid r1; have P2 := Lib.hid r2; have P3 := Lib.hid r3; have PM := Lib.hid rm
      clear x0 x1 x2 HBK r1 r2 r3 rm g
      have HSM := Lib.hid (sameBi_any B1 B2 B3 none none none m1 d1 m2 d2 d3 0 0 0 0 0 noB R [] way P1.out P2.out P3.out PM.out (Sl.nil _ _) (Sl.nil _ _) (RZ.out _) rfl (by decide))
      clear P1 P2 P3 PM
      go_wp2_with fail
      refine HSM.out.mono ?_
      rintro e wcy ⟨rfl, g⟩
      have GS : Hid (Gr w11 wcy) := GA.out.trans g
      clear g GA HSM
      have V12 := Lib.hid (V11.out.gr GS.out); have X12 := Lib.hid (X11.out.gr GS.out); have G12 : Hid (Gr w wcy) := G11.out.trans GS.out
      clear GS V11 X11 G11
      clear Y11
      obtain ⟨A1, n1, c1, A2, n2, c2, A3, c3, M, hb, h1, h2, h3, hm⟩ := X12.out
      have x0 : wcy.cell? ⟨pa, 0, none⟩ = some (.slice A1 n1 c1) := (hb.cell 0).trans rfl
      have x1 : wcy.cell? ⟨pa, 1, none⟩ = some (.slice A2 n2 c2) := (hb.cell 1).trans rfl
      have x2 : wcy.cell? ⟨pa, 2, none⟩ = some (.slice A3 b1.ch.length c3) := (hb.cell 2).trans rfl
      have HBK := Lib.hid (backBi_any A1 A2 A3 n1 c1 n2 c2 c3 b1 M wcy h1 h2 h3 hm BL1.out)
      clear hb h1 h2 h3 hm
      go_wp2_with fail
      refine HBK.out.mono ?_
      rintro e wax ⟨B1, m1, d1, B2, m2, d2, B3, d3, R, rfl, r1, r2, r3, rm, g⟩
      have GA : Hid (Gr wcy wax) := g
      have P1 := Lib.hid r1; have P2 := Lib.hid r2; have P3 := Lib.hid r3; have PM := Lib.hid rm
      clear x0 x1 x2 HBK r1 r2 r3 rm g
      go_wp2_with fail
      refine (HR1.out wax (G12.out.trans GA.out)).mono ?_
      rintro e wbx ⟨D1, k1, e1, D2, k2, e2, D3, e3, Q, rfl, q1, q2, q3, qm, g⟩
      have GB : Hid (Gr wax wbx) := g
      have HSM := Lib.hid (sameBi_any B1 B2 B3 D1 D2 D3 m1 d1 m2 d2 d3 k1 e1 k2 e2 e3 b1 R Q wbx (P1.out.mono g) (P2.out.mono g) (P3.out.mono g) PM.out q1 q2 q3 qm BL1.out)
      clear q1 q2 q3 qm g P1 P2 P3 PM
      go_wp2_with fail
      refine HSM.out.mono ?_
      rintro e wcx ⟨rfl, g⟩
      have GS : Hid (Gr wcy wcx) := (GA.out.trans GB.out).trans g
      clear g GA GB HSM
      have V13 := Lib.hid (V12.out.gr GS.out); have X13 := Lib.hid (X12.out.gr GS.out); have G13 : Hid (Gr w wcx) := G12.out.trans GS.out
      clear GS V12 X12 G12
      obtain ⟨A1, n1, c1, A2, n2, c2, A3, c3, M, hb, h1, h2, h3, hm⟩ := V13.out
      have x0 : wcx.cell? ⟨pc, 0, none⟩ = some (.slice A1 n1 c1) := (hb.cell 0).trans rfl
      have x1 : wcx.cell? ⟨pc, 1, none⟩ = some (.slice A2 n2 c2) := (hb.cell 1).trans rfl
      have x2 : wcx.cell? ⟨pc, 2, none⟩ = some (.slice A3 b3.ch.length c3) := (hb.cell 2).trans rfl
      have HBK := Lib.hid (backBi_any A1 A2 A3 n1 c1 n2 c2 c3 b3 M wcx h1 h2 h3 hm BL3.out)
      clear hb h1 h2 h3 hm
      go_wp2_with fail
      refine HBK.out.mono ?_
      rintro e wav ⟨B1, m1, d1, B2, m2, d2, B3, d3, R, rfl, r1, r2, r3, rm, g⟩
      have GA : Hid (Gr wcx wav) := g
      have P1 := Lib.hid r1; have P2 := Lib.hid r2; have P3 := Lib.hid r3; have PM := Lib.hid rm
      clear x0 x1 x2 HBK r1 r2 r3 rm g
      go_wp2_with fail
      refine (HR3.out wav (G13.out.trans GA.out)).mono ?_
      rintro e wbv ⟨D1, k1, e1, D2, k2, e2, D3, e3, Q, rfl, q1, q2, q3, qm, g⟩
      have GB : Hid (Gr wav wbv) := g
      have HSM := Lib.hid (sameBi_any B1 B2 B3 D1 D2 D3 m1 d1 m2 d2 d3 k1 e1 k2 e2 e3 b3 R Q wbv (P1.out.mono g) (P2.out.mono g) (P3.out.mono g) PM.out q1 q2 q3 qm BL3.out)
      clear q1 q2 q3 qm g P1 P2 P3 PM
      go_wp2_with fail
      refine HSM.out.mono ?_
      rintro e wcv ⟨rfl, g⟩
      have GS : Hid (Gr wcx wcv) := (GA.out.trans GB.out).trans g
      clear g GA GB HSM
      have V14 := Lib.hid (V13.out.gr GS.out); have X14 := Lib.hid (X13.out.gr GS.out); have G14 : Hid (Gr w wcv) := G13.out.trans GS.out
      clear GS V13 X13 G13
      go_wp2_with fail
      refine (HAL.out wcv G14.out).mono ?_
      rintro e wz ⟨rfl, gz⟩
      have GZ : Hid (Gr w wz) := G14.out.trans gz
      clear gz
      go_wp2_with fail
      go_ret
      exact ⟨rfl, GZ.out⟩
  · have tz1 : ((f1 : Int) != 0) = true := bne_iff_ne.2 hz1
    have hz2 : f2 ≠ 0 := fun h => hz1 (by
      obtain ⟨⟨q1, q4⟩, q32⟩ := why_zero (HF2.out.symm.trans h)
      rw [HF1.out]
      unfold whyL
      rw [if_neg (by omega), if_neg]
      intro hh
      obtain ⟨x, hx, ho⟩ := List.any_eq_true.1 hh
      obtain rfl := List.mem_singleton.1 hx
      unfold oddK at ho
      rw [q32 ⟨A, n, c, la⟩ List.mem_cons_self] at ho
      cases ho)
    have tz2 : ((f2 : Int) != 0) = true := bne_iff_ne.2 hz2
    have te1 : ((f1 : Int) == 0) = false := beq_eq_false_iff_ne.2 hz1
    obtain rfl : b1 = noB := by rw [HB1.out, if_neg hz1]
    obtain rfl : b3 = noB := by rw [HB3.out, if_neg hz1]
    obtain rfl : b2 = noB := by rw [HB2.out, if_neg hz2]
    clear HF1 HF2 HB1 HB2 HB3
    obtain ⟨A1, n1, c1, A2, n2, c2, A3, c3, M, hb, h1, h2, h3, hm⟩ := X11.out
    have x0 : w11.cell? ⟨pa, 0, none⟩ = some (.slice A1 n1 c1) := (hb.cell 0).trans rfl
    have x1 : w11.cell? ⟨pa, 1, none⟩ = some (.slice A2 n2 c2) := (hb.cell 1).trans rfl
    have x2 : w11.cell? ⟨pa, 2, none⟩ = some (.slice A3 noB.ch.length c3) := (hb.cell 2).trans rfl
    have HBK := Lib.hid (backBi_any A1 A2 A3 n1 c1 n2 c2 c3 noB M w11 h1 h2 h3 hm BL1.out)
    clear hb h1 h2 h3 hm
    go_wp2_with fail
    refine HBK.out.mono ?_
    rintro e wax ⟨B1, m1, d1, B2, m2, d2, B3, d3, R, rfl, r1, r2, r3, rm, g⟩
    have GA : Hid (Gr w11 wax) := g
    have P1 := Lib.hid r1; have P2 := Lib.hid r2; have P3 := Lib.hid r3; have PM := Lib.hid rm
    clear x0 x1 x2 HBK r1 r2 r3 rm g
    have HSM := Lib.hid (sameBi_any B1 B2 B3 none none none m1 d1 m2 d2 d3 0 0 0 0 0 noB R [] wax P1.out P2.out P3.out PM.out (Sl.nil _ _) (Sl.nil _ _) (RZ.out _) rfl (by decide))
    clear P1 P2 P3 PM
    go_wp2_with fail
    refine HSM.out.mono ?_
    rintro e wcx ⟨rfl, g⟩
    have GS : Hid (Gr w11 wcx) := GA.out.trans g
    clear g GA HSM
    have V12 := Lib.hid (V11.out.gr GS.out); have Y12 := Lib.hid (Y11.out.gr GS.out); have G12 : Hid (Gr w wcx) := G11.out.trans GS.out
    clear GS V11 Y11 G11
    clear X11
    obtain ⟨A1, n1, c1, A2, n2, c2, A3, c3, M, hb, h1, h2, h3, hm⟩ := V12.out
    have x0 : wcx.cell? ⟨pc, 0, none⟩ = some (.slice A1 n1 c1) := (hb.cell 0).trans rfl
    have x1 : wcx.cell? ⟨pc, 1, none⟩ = some (.slice A2 n2 c2) := (hb.cell 1).trans rfl
    have x2 : wcx.cell? ⟨pc, 2, none⟩ = some (.slice A3 noB.ch.length c3) := (hb.cell 2).trans rfl
    have HBK := Lib.hid (backBi_any A1 A2 A3 n1 c1 n2 c2 c3 noB M wcx h1 h2 h3 hm BL3.out)
    clear hb h1 h2 h3 hm
    go_wp2_with fail
    refine HBK.out.mono ?_
    rintro e wav ⟨B1, m1, d1, B2, m2, d2, B3, d3, R, rfl, r1, r2, r3, rm, g⟩
    have GA : Hid (Gr wcx wav) := g
    have P1 := Lib.hid r1; have P2 := Lib.hid r2; have P3 := Lib.hid r3; have PM := Lib.hid rm
    clear x0 x1 x2 HBK r1 r2 r3 rm g
    have HSM := Lib.hid (sameBi_any B1 B2 B3 none none none m1 d1 m2 d2 d3 0 0 0 0 0 noB R [] wav P1.out P2.out P3.out PM.out (Sl.nil _ _) (Sl.nil _ _) (RZ.out _) rfl (by decide))
    clear P1 P2 P3 PM
    go_wp2_with fail
    refine HSM.out.mono ?_
    rintro e wcv ⟨rfl, g⟩
    have GS : Hid (Gr wcx wcv) := GA.out.trans g
    clear g GA HSM
    have V13 := Lib.hid (V12.out.gr GS.out); have Y13 := Lib.hid (Y12.out.gr GS.out); have G13 : Hid (Gr w wcv) := G12.out.trans GS.out
    clear GS V12 Y12 G12
    obtain ⟨A1, n1, c1, A2, n2, c2, A3, c3, M, hb, h1, h2, h3, hm⟩ := Y13.out
    have x0 : wcv.cell? ⟨pb, 0, none⟩ = some (.slice A1 n1 c1) := (hb.cell 0).trans rfl
    have x1 : wcv.cell? ⟨pb, 1, none⟩ = some (.slice A2 n2 c2) := (hb.cell 1).trans rfl
    have x2 : wcv.cell? ⟨pb, 2, none⟩ = some (.slice A3 noB.ch.length c3) := (hb.cell 2).trans rfl
    have HBK := Lib.hid (backBi_any A1 A2 A3 n1 c1 n2 c2 c3 noB M wcv h1 h2 h3 hm BL2.out)
    clear hb h1 h2 h3 hm
    go_wp2_with fail
    refine HBK.out.mono ?_
    rintro e way ⟨B1, m1, d1, B2, m2, d2, B3, d3, R, rfl, r1, r2, r3, rm, g⟩
    have GA : Hid (Gr wcv way) := g
    have P1 := Lib.hid r1; have P2 := Lib.hid r2; have P3 := Lib.hid r3; have PM := Lib.hid rm
    clear x0 x1 x2 HBK r1 r2 r3 rm g
    have HSM := Lib.hid (sameBi_any B1 B2 B3 none none none m1 d1 m2 d2 d3 0 0 0 0 0 noB R [] way P1.out P2.out P3.out PM.out (Sl.nil _ _) (Sl.nil _ _) (RZ.out _) rfl (by decide))
    clear P1 P2 P3 PM
    go_wp2_with fail
    refine HSM.out.mono ?_
    rintro e wcy ⟨rfl, g⟩
    have GS : Hid (Gr wcv wcy) := GA.out.trans g
    clear g GA HSM
    have V14 := Lib.hid (V13.out.gr GS.out); have Y14 := Lib.hid (Y13.out.gr GS.out); have G14 : Hid (Gr w wcy) := G13.out.trans GS.out
    clear GS V13 Y13 G13
    go_wp2_with fail
    refine (HAL.out wcy G14.out).mono ?_
    rintro e wz ⟨rfl, gz⟩
    have GZ : Hid (Gr w wz) := G14.out.trans gz
    clear gz
    go_wp2_with fail
    go_ret
    exact ⟨rfl, GZ.out⟩
end Go.Proofs.YthlnoaalhojphaaGreatDoor
