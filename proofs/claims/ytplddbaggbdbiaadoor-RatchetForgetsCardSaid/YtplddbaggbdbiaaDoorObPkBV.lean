/- Own texts of this claim, one behind the other. No condition. -/
import Derived.Test.YtplddbaggbdbiaaDoorObPkAG
import Derived.Test.YtplddbaggbdbiaaDoorObPkBF
import Derived.Test.YtplddbaggbdbiaaDoorObPkBU
import Derived.Outline
import Derived.Deep.DeepCutAuto

/- RatchetForgets: the walk. No condition. -/
namespace Go.Proofs.YtplddbaggbdbiaaDoor
open Go.RowKit
set_option linter.unusedVariables false
set_option linter.unusedSimpArgs false
set_option maxRecDepth 100000 in
set_option maxHeartbeats 16000000 in
theorem ratchetForgets_walk (A : Option Addr) (n c : Nat) (win : Int) (l : List Int) (w : World) (hl : Is w A n c l) (hK : ShaK w) (hw : -9223372036854775808 ≤ win ∧ win ≤ 9223372036854775807) :
    Calls Tryd.prog 4 #[.slice A n c, .int .i64 win] w fun e w' => e = .returned (.bool true) ∧ Below w.heap.size w w' := by
  have hn1 := hl.cap; have hn2 := hl.max
  obtain ⟨wl1, wl2⟩ := hw
  have HAL : Hid (∀ W, Below w.heap.size w W → Calls Tryd.prog 10 #[] W fun e w' => e = .returned (.bool true) ∧ Below W.heap.size W w') := fun W hW => alive33 W (hK.mono hW)
  have HLL := Lib.hid hl
  clear hl hK
  by_cases hn : 12 < n
  · skip
    go_enter Tryd.func4, Tryd.ntmps4
    go_wp2_with fail
    refine (HAL.out w (Below.refl _ _)).mono ?_
    rintro e w1 ⟨rfl, b1⟩
    have B1 := Lib.hid b1; clear b1
    go_wp2_with fail
    go_ret
    exact ⟨rfl, B1.out⟩
  by_cases h1 : win < 1
  · skip
    go_enter Tryd.func4, Tryd.ntmps4
    go_wp2_with fail
    refine (HAL.out w (Below.refl _ _)).mono ?_
    rintro e w1 ⟨rfl, b1⟩
    have B1 := Lib.hid b1; clear b1
    go_wp2_with fail
    go_ret
    exact ⟨rfl, B1.out⟩
  by_cases h2 : 8 < win
  · skip
    go_enter Tryd.func4, Tryd.ntmps4
    go_wp2_with fail
    refine (HAL.out w (Below.refl _ _)).mono ?_
    rintro e w1 ⟨rfl, b1⟩
    have B1 := Lib.hid b1; clear b1
    go_wp2_with fail
    go_ret
    exact ⟨rfl, B1.out⟩
  go_enter Tryd.func4, Tryd.ntmps4
  go_wp2_with fail
  refine (symbolic_any w).mono ?_
  rintro e w1 ⟨p, g, bm, bs, rfl, s1, _⟩
  have S1 := Lib.hid s1; clear s1
  go_wp2_with fail
  refine (S1.out.draw (by decide)).mono ?_
  rintro e w2 ⟨v2, rfl, o2, s2, f2⟩
  obtain ⟨A2, c2, rfl, sl2⟩ := o2.slice
  have S2 := Lib.hid s2
  have HST := Lib.hid (startT_any A2 32 c2 (handleL (atomT []).2) w2 sl2 (by omega))
  have hid1 : (atomT []).2 = 1 := rfl
  rw [hid1] at HST
  clear s2 o2 f2 sl2 hid1
  go_wp2_with fail
  refine HST.out.mono ?_
  rintro e w3 ⟨A3, c3, v3, M3, rfl, r3, o3, k3⟩
  obtain ⟨B3, d3, rfl, _⟩ := o3.wrs
  have hM : M3 = [] := List.map_eq_nil_iff.1 k3
  subst hM
  have hhl : (handleL 1).length = 32 := handleL_len 1
  rw [hhl] at r3
  rw [hhl]
  have G3 : Hid (Gr w2 w3) := o3.1.below
  have R3 : Hid (RowO w w3 _) := r3.base S2.out.below
  have O3 : Hid (OwnT w w3 _ _) := o3.base S2.out.below
  have S3 := Lib.hid (S2.out.gr G3.out)
  clear r3 o3 k3 hhl HST
  go_wp2_with fail
  obtain ⟨gc, hgc⟩ : ∃ gc, gc = w3.heap.size := ⟨_, rfl⟩
  obtain ⟨w4, hw4⟩ : ∃ w4, w4 = w3.alloc (.cells #[.int .i64 0, .slice A3 32 c3, .slice B3 ([] : List Wr).length d3] 41) := ⟨_, rfl⟩
  have MID0 : Hid (FgMid w w4 p g gc bm bs 0 1 (.slice none 0 0)) := by
    have G4 : Gr w3 w4 := by rw [hw4]; exact Gr.alloc _ _
    have S4 := S3.out.gr G4
    refine ⟨(atomT []).1, 0, handleL 1, A3, 32, c3, B3, d3, [], [1], [], [], ⟨S4, ?_, R3.out.mono G4, O3.out.mono G4, ChS.start, by omega, by simp⟩, ToldO.nil S4.below, by simp, by simp [atomT]⟩
    rw [hw4, hgc]
    exact Blk.new w3 _ _
  have HGW0 : Hid (w.heap.size ≤ w3.heap.size) := S3.out.below.size
  clear S3 R3 O3 G3 S2 S1
  first | rw [← hw4] | (simp only [List.length_nil] at hw4; rw [← hw4])
  rw [← hgc]
  have HGW : Hid (w.heap.size ≤ gc) := by rw [hgc]; exact HGW0.out
  clear hw4 hgc HGW0
  go_loopw [7, 8] (fun v i wr => ∃ k : Nat, k ≤ n ∧ i = .int .i64 (k : Int) ∧ FgMid w wr p g gc bm bs k (1 + 37 * k) v) (fun _ i _ => n - (Go.RowKit.intOf i).toNat)
  case atStart => exact ⟨0, Nat.zero_le _, rfl, MID0.out⟩
  case round =>
    obtain ⟨k, hk, rfl, hmid⟩ := hrel
    have BWR : Hid (Below w.heap.size w wr) := hmid.below
    by_cases hlt : k < n
    · obtain ⟨bb, oo, rfl, hcc⟩ := Is.addr HLL.out (show 0 < n by omega)
      have hlt2 : (k : Int) < n := by omega
      have CE : Hid (∀ W, Below w.heap.size w W → W.cell? ⟨bb, oo + k, none⟩ = some (.int .i64 (iAt l k))) := fun W hW => (hW.cell (World.block_lt_of_cell? w _ (hcc k hlt))).trans (hcc k hlt)
      clear hcc
      generalize iAt l k = x at *
      have ce := CE.out wr BWR.out
      by_cases hx0 : x < 0
      · clear hmid
        go_wp2_with (go_at_call 10; refine (HAL.out wr BWR.out).mono ?_; rintro e w' ⟨rfl, b1⟩; have B1 := Lib.hid (below_both BWR.out b1); clear b1)
        go_ret
        exact ⟨rfl, B1.out⟩
      by_cases hx : 30 < x
      · clear hmid
        go_wp2_with (go_at_call 10; refine (HAL.out wr BWR.out).mono ?_; rintro e w' ⟨rfl, b1⟩; have B1 := Lib.hid (below_both BWR.out b1); clear b1)
        go_ret
        exact ⟨rfl, B1.out⟩
      obtain ⟨T, pn, cur, A4, n4, c4, B4, d4, M4, cl, kl, R, rd, td, hR, hT⟩ := hmid
      obtain ⟨Av, cv, rfl, _⟩ := td.1.slice
      have RD := Lib.hid rd; have TD := Lib.hid td; have HR := Lib.hid hR; have HT := Lib.hid hT
      have x0 : wr.cell? ⟨gc, 0, none⟩ = some (.int .i64 (pn : Int)) := (rd.bk.cell 0).trans rfl
      have x1 : wr.cell? ⟨gc, 1, none⟩ = some (.slice A4 n4 c4) := (rd.bk.cell 1).trans rfl
      have x2 : wr.cell? ⟨gc, 2, none⟩ = some (.slice B4 M4.length d4) := (rd.bk.cell 2).trans rfl
      have HGR : Hid (gc < wr.heap.size) := rd.bk.lt
      have HAT : Hid (∀ W, Gr wr W → Calls Tryd.prog 14 #[.pointer (some ⟨p, 0, none⟩), .agg #[.int .i64 (pn : Int), .slice A4 n4 c4, .slice B4 M4.length d4], .int .i64 x, .int .i64 win] W (RetL2 w W p g bm bs T (R.map BRow.l))) := fun W hW => ((RD.out.gr hW).at (by have := HT.out; omega) x win (by omega) (by omega) (by omega) (by omega)).mono (fun e w' h => h.two)
      have HSZ : Hid (w.heap.size ≤ wr.heap.size) := BWR.out.size
      clear rd td hR hT
      go_upto_region 11 with fail
      go_cut [9, 10, 11] (fun v9 v10 v11 wx => FgCut w wx p g gc bm bs k (1 + 37 * k) (.slice Av R.length cv) v9 v10 v11)
      case first =>
        have N1 : Hid (∀ W : World, Blk (W.alloc (.cells #[.int .i64 0, .slice none 0 0, .slice none 0 0] 41)) W.heap.size 41 [.int .i64 0, .slice none 0 0, .slice none 0 0]) := fun W => Blk.new W _ _
        have GA : Hid (Gr wr (wr.alloc (.cells #[.int .i64 0, .slice none 0 0, .slice none 0 0] 41))) := Gr.alloc _ _
        have x0' := (GA.out.cell (World.block_lt_of_cell? wr _ x0)).trans x0
        have x1' := (GA.out.cell (World.block_lt_of_cell? wr _ x1)).trans x1
        have x2' := (GA.out.cell (World.block_lt_of_cell? wr _ x2)).trans x2
        have ce' := CE.out _ (below_both BWR.out GA.out)
        go_region_law (first
          | (go_simp; go_at_call 14; refine (HAT.out _ (by first | exact Gr.drew _ | exact GA.out.trans (Gr.drew _))).mono ?_; rintro e w10 ⟨A1, n1, c1, q, A2, n2, c2, A3, m3, c3, f, rfl, lp⟩; have LP := Lib.hid lp; have HS10 : Hid (wr.heap.size ≤ w10.heap.size) := (by first | exact lp.size | exact Nat.le_trans (GA.out.trans (Gr.drew _)).size lp.size); (first
              | (have BK := Lib.hid (lp.blk ((Gr.drew _).blk (N1.out wr))); have z0 := BK.out.cell 0; have z1 := BK.out.cell 1; have z2 := BK.out.cell 2; have y0 := BK.out.free 0; have y1 := BK.out.free 1; have y2 := BK.out.free 2)
              | have BK : Hid True := trivial); clear lp x0 x1 x2 x0' x1' x2' ce ce'))
        all_goals
          go_wp2_with fail
          go_meet
          case rel =>
            first
              | exact fgCut_fin RD.out TD.out HR.out HT.out (Gr.drew _) LP.out (Sc.gr (Gr.alloc _ _) (Nat.le_refl _)) (Below.mono (Gr.alloc w10 _) (Nat.le_trans HSZ.out HS10.out)) (Nat.ne_of_gt (Nat.lt_of_lt_of_le HGR.out HS10.out)) (Blk.new w10 _ _)
              | exact fgCut_fin RD.out TD.out HR.out HT.out (GA.out.trans (Gr.drew _)) LP.out (Sc.one BK.out (Nat.le_of_eq (setF_all BK.out).2.1.symm) (fun b h => (setF_all BK.out).2.2.1 b h)) ((setF_all BK.out).2.2.2 _ HSZ.out) (Nat.ne_of_gt HGR.out) (setF_all BK.out).1
      case rest =>
        rcases hcut with ⟨f, nb, hf, rfl, rfl, hm⟩ | ⟨nb, A1, n1, c1, key, T', pn', cur', A2, n2, c2, A3, n3, M, cl', kl', R', pn0, A0, n0, c0, B0, m0, d0, rfl, rfl, rfl, hgc0, hnb, hne, r1, r2, o3, s3, hT3, ch3, hp3, hm3, td', hR'⟩
        · have MN := Lib.hid (hm.up (N' := k + 1) (L' := 1 + 37 * (k + 1)) (by omega) (by omega))
          have fne : (f != 0) = true := by rw [bne_iff_ne]; omega
          clear hm RD TD HR HT x0 x1 x2 ce
          go_wp2_with fail
          go_roundw
          case rel => exact ⟨k + 1, by omega, by go_num, MN.out⟩
          case measure => simp [Go.RowKit.intOf]; omega
        · obtain ⟨Ay, cy, ey, _⟩ := td'.1.slice
          injection ey with ey1 ey2 ey3
          rw [ey2] at td' ⊢
          have TDc := Lib.hid td'; have HRc := Lib.hid hR'; have R1c := Lib.hid r1; have R2c := Lib.hid r2; have O3c := Lib.hid o3; have S3c := Lib.hid s3; have HT3 := Lib.hid hT3; have CH3 := Lib.hid ch3
          have BGc := Lib.hid hgc0; have BNc := Lib.hid hnb; have HNE := Lib.hid hne; have HP3 := Lib.hid hp3; have HM3 := Lib.hid hm3
          have hr12 : R'.length ≤ 12 := by omega
          clear td' hR' r1 r2 o3 s3 hT3 ch3 hgc0 hnb hne hp3 hm3 ey1 ey2 ey3 RD TD HR HT HAT HGR x0 x1 x2 ce
          go_wp2_with (first
            | (at_builtin; refine wpList_pushG rfl (.tmp 64) (.tmp 66) 44 rfl tRows rfl TDc.out.1 #[.slice A1 n1 c1] rfl rfl (by intro u hu; simp at hu; subst hu; rfl) (by omega) ?_; intro v14 w14 own14 kept14; obtain ⟨A14, c14, rfl, _⟩ := own14.slice; have OW14 := Lib.hid own14; have KP14 : Hid (Kept (wc.alloc (.cells #[.slice A1 n1 c1] 31)) w14 (.slice Av R'.length cv) (.slice A14 (R'.length + 1) c14)) := kept14; have BG14 : Hid (Blk w14 gc 41 [.int .i64 ((pn0 : Nat) : Int), .slice A0 n0 c0, .slice B0 m0 d0]) := blk_keptR (TDc.out.1.mono (Gr.alloc _ _)) KP14.out (by decide) (BGc.out.alloc _); have BN14 : Hid (Blk w14 nb 41 [.int .i64 ((pn' : Nat) : Int), .slice A2 n2 c2, .slice A3 M.length n3]) := blk_keptR (TDc.out.1.mono (Gr.alloc _ _)) KP14.out (by decide) (BNc.out.alloc _); have z0 : w14.cell? ⟨nb, 0, none⟩ = some (.int .i64 ((pn' : Nat) : Int)) := (BN14.out.cell 0).trans rfl; have z1 : w14.cell? ⟨nb, 1, none⟩ = some (.slice A2 n2 c2) := (BN14.out.cell 1).trans rfl; have z2 : w14.cell? ⟨nb, 2, none⟩ = some (.slice A3 M.length n3) := (BN14.out.cell 2).trans rfl; clear own14 kept14)
            | (refine wpList_store_ch rfl (.tmp 6) (.tmp 68) rfl gc (pn' : Int) A2 A3 n2 c2 M.length n3 rfl rfl BG14.out ?_))
          obtain ⟨W15, hW15⟩ : ∃ W15, W15 = w14.setRow gc #[.int .i64 ((pn' : Nat) : Int), .slice A2 n2 c2, .slice A3 M.length n3] := ⟨_, rfl⟩
          obtain ⟨R, hRR⟩ : ∃ R, R = R' ++ [(⟨A1, n1, c1, key⟩ : BRow)] := ⟨_, rfl⟩
          have FT := fg_told TDc.out R1c.out R2c.out O3c.out S3c.out CH3.out HP3.out HM3.out OW14.out KP14.out BG14.out HGW.out hW15 rfl
          rw [← hRR] at FT
          have hrl : R'.length + 1 = R.length := by rw [hRR, List.length_append]; rfl
          rw [← hW15]
          rw [hrl] at FT ⊢
          have hr13 : R.length ≤ k + 1 := by have := HRc.out; omega
          have RD := Lib.hid FT.1; have TD := Lib.hid FT.2; have HR13 := Lib.hid hr13
          clear FT hW15 hRR hrl hr12 hr13 TDc HRc R1c R2c O3c S3c CH3 BGc BNc HNE OW14 KP14 BG14 BN14 z0 z1 z2
          have HLEN : Hid (T'.length ≤ 600) := by have := HT3.out; show _ ≤ _; omega
          have HTM := Lib.hid RD.out.sy.terms
          refine HTM.out.mono ?_
          rintro e w1 ⟨rfl, h1⟩
          subst h1
          clear HTM
          go_wp2_with fail
          refine (Kn1.new W15 g T' W15 (Below.refl _ _)).mono ?_
          rintro e w16 ⟨s, rfl, kn, _, _, _⟩
          have KN := Lib.hid kn; have G16 : Hid (Gr W15 w16) := kn.bel; clear kn
          have TERM : Hid (∀ W A n c b, Gr W15 W → Bs W A n c b → Calls Tryd.prog 18 #[.pointer (some ⟨p, 0, none⟩), .slice A n c] W fun e w' => e = .returned (.int .i64 (termB T' b : Int)) ∧ Gr W w') := fun W A n c b hW hb => (RD.out.sy.gr hW).term (by have := HLEN.out; omega) A n c b hb
          have BC : Hid (Blk W15 gc 41 [.int .i64 (pn' : Int), .slice A2 n2 c2, .slice A3 M.length n3]) := RD.out.bk
          have HIN : Hid (∀ x ∈ lrn T' cur' (M.map Wr.kk), outside T'.length x = false) := RD.out.ch.lrn_in (by have := HLEN.out; omega)
          have HIQ : Hid (∀ q : Nat, q ≤ T'.length → In64 (q : Int)) := fun q hq => ⟨by omega, by have := HLEN.out; omega⟩
          have HOC : Hid (outside T'.length (termB T' cur' : Int) = false) := HIN.out _ (List.mem_cons_self)
          have y1 : w16.cell? ⟨gc, 1, none⟩ = some (.slice A2 n2 c2) := ((G16.out.blk BC.out).cell 1).trans rfl
          have HT1 := Lib.hid (TERM.out w16 A2 n2 c2 cur' G16.out (RD.out.cu.mono G16.out).bs)
          go_wp2_with fail
          refine HT1.out.mono ?_
          rintro e w17 ⟨rfl, g17⟩
          have K17 := Lib.hid ((KN.out.gr g17).gr (Gr.alloc w17 (.cells #[.int .i64 (termB T' cur' : Int)] 3)))
          clear g17 y1 HT1
          go_wp2_with fail
          refine (K17.out.learn RD.out.sy.rd RD.out.sy.i.kinds (is_one w17 (termB T' cur' : Int)) (fun x hx => by
            obtain rfl := List.mem_singleton.1 hx
            exact HIQ.out _ (termB_le T' cur')) (by omega)).mono ?_
          rintro e w18 ⟨rfl, k18, _⟩
          rw [okIds_one HOC.out] at k18
          have K18 : Hid (Kn1 W15 w18 g T' s (1 + 0) (lrn T' cur' ((M.take 0).map Wr.kk))) := by
            show Kn1 _ _ _ _ _ _ _
            simpa [lrn] using k18
          clear k18 K17
          obtain ⟨ml, hml⟩ : ∃ ml, ml = M.length := ⟨_, rfl⟩
          have HML := Lib.hid hml
          have hm8 : ml ≤ 8 := by rw [hml]; exact HM3.out
          have HW3 : Hid (∀ W, Gr W15 W → ∃ Bx dx, (Value.slice A3 ml n3) = .slice Bx ml dx ∧ Wrs W Bx ml dx M) := fun W hW => by
            obtain ⟨Bx, dx, ex, hwr⟩ := (RD.out.sk.mono hW).wrs
            rw [hml]
            exact ⟨Bx, dx, ex, hwr⟩
          have BC' : Hid (Blk W15 gc 41 [.int .i64 (pn' : Int), .slice A2 n2 c2, .slice A3 ml n3]) := by rw [hml]; exact BC.out
          clear hml
          go_wp2_with fail
          go_loopw [13] (fun i wt => ∃ j : Nat, j ≤ ml ∧ i = .int .i64 (j : Int) ∧ Kn1 W15 wt g T' s (1 + j) (lrn T' cur' ((M.take j).map Wr.kk))) (fun i _ => ml - (Go.RowKit.intOf i).toNat)
          case atStart => exact ⟨0, Nat.zero_le _, rfl, K18.out⟩
          case round =>
            obtain ⟨j, hj, rfl, kt⟩ := hrel
            have KT := Lib.hid kt
            have GT : Hid (Gr W15 wr) := kt.bel
            have y2 : wr.cell? ⟨gc, 2, none⟩ = some (.slice A3 ml n3) := ((GT.out.blk BC'.out).cell 2).trans rfl
            have p0' : (0 : Int) ≤ j := by omega
            by_cases hjl : j < ml
            · have hjl2 : (j : Int) < ml := by omega
              obtain ⟨Bx, dx, ex, hwr⟩ := HW3.out wr GT.out
              injection ex with ex1 _ ex3
              subst ex1 ex3
              obtain ⟨b, o, ⟨xp, xr⟩, rfl, hx, e1, e2, hrow, _, _⟩ := hwr.row hjl
              simp only at e1 e2 hrow
              have HX := Lib.hid hx
              have HTR := Lib.hid (TERM.out wr xr.a xr.n xr.c xr.l GT.out hrow)
              have HSN := Lib.hid (lrn_snoc T' cur' M j ⟨xp, xr⟩ hx)
              have HOX : Hid (outside T'.length (termB T' xr.l : Int) = false) := HIN.out _ (List.mem_cons_of_mem _ (List.mem_map.2 ⟨Wr.kk ⟨xp, xr⟩, List.mem_map_of_mem (List.mem_of_getElem? hx), rfl⟩))
              have HTB := Lib.hid (termB_le T' xr.l)
              clear kt hx hrow hwr
              go_wp2_with fail
              refine HTR.out.mono ?_
              rintro e w4 ⟨rfl, g4⟩
              have K4 := Lib.hid ((KT.out.gr g4).gr (Gr.alloc w4 (.cells #[.int .i64 (termB T' xr.l : Int)] 3)))
              clear g4 e1 e2 y2
              go_wp2_with fail
              refine (K4.out.learn RD.out.sy.rd RD.out.sy.i.kinds (is_one w4 (termB T' xr.l : Int)) (fun x hx => by
                obtain rfl := List.mem_singleton.1 hx
                exact HIQ.out _ HTB.out) (by omega)).mono ?_
              rintro e w5 ⟨rfl, k5, _⟩
              rw [okIds_one HOX.out, ← HSN.out] at k5
              have K5 := Lib.hid k5; clear k5
              go_wp2_with fail
              go_roundw
              case rel => exact ⟨j + 1, by omega, by go_num, K5.out⟩
              case measure => simp [Go.RowKit.intOf]; omega
            · obtain rfl : j = ml := by omega
              obtain ⟨L, hL⟩ : ∃ L, L = lrn T' cur' (M.map Wr.kk) := ⟨_, rfl⟩
              have KL : Hid (Kn1 W15 wr g T' s (1 + j) L) := by
                have h := KT.out
                rw [List.take_of_length_le (by rw [HML.out]; exact Nat.le_refl _), ← hL] at h
                exact h
              obtain ⟨rl, hrl⟩ : ∃ rl, rl = R.length := ⟨_, rfl⟩
              obtain ⟨dd, hdd⟩ : ∃ dd, dd = allL T' L := ⟨_, rfl⟩
              have HTE : Hid (Tells T' (InL L) dd) := by rw [hdd]; exact allL_tells RD.out.sy.i.parts L
              have HKT : Hid (KnT W15 g T' L) := ⟨RD.out.sy.rd, RD.out.sy.i.parts, RD.out.sy.i.kinds, by have := HLEN.out; omega, by rw [hL]; exact HIN.out⟩
              have HRL : Hid (rl = R.length) := hrl
              have HL := Lib.hid hL
              have hr13 : rl ≤ 13 := by have := HR13.out; omega
              have SLR : Hid (∀ W, Gr W15 W → Sl W A14 rl c14 1 (R.map BRow.v)) := fun W hW => by
                obtain ⟨Ax, cx, ex, hs⟩ := (TD.out.mono hW).1.slice
                injection ex with ex1 _ ex3
                rw [hrl, ex1, ex3]
                exact hs
              rw [← hrl]
              clear kt KT hL hdd hrl K18
              go_wp2_with fail
              clear y2
              go_loopw [14] (fun i wt => ∃ u : Nat, u ≤ rl ∧ i = .int .i64 (u : Int) ∧ Kn1 W15 wt g T' s (1 + j) L) (fun i _ => rl - (Go.RowKit.intOf i).toNat)
              case atStart => exact ⟨0, Nat.zero_le _, rfl, KL.out⟩
              case round =>
                obtain ⟨u, hu, rfl, ku⟩ := hrel
                have KU := Lib.hid ku
                have GU : Hid (Gr W15 wr) := ku.bel
                have p1' : (0 : Int) ≤ u := by omega
                by_cases hul : u < rl
                · have hul2 : (u : Int) < rl := by omega
                  have hrlt : u < R.length := by rw [← HRL.out]; exact hul
                  obtain ⟨⟨xa, xn, xc, xl⟩, hx⟩ : ∃ x, R[u]? = some x := ⟨_, List.getElem?_eq_getElem hrlt⟩
                  have hxm := List.mem_of_getElem? hx
                  have hlost := RD.out.ch.lost (by have := HLEN.out; omega) (b := xl) (List.mem_map.2 ⟨_, hxm, rfl⟩)
                  have HD : Hid (dAt dd (termB T' xl) = false) := by
                    show dAt dd (termB T' xl) = false
                    have h := HTE.out.2 (termB T' xl)
                    rw [← HL.out] at hlost
                    exact Bool.eq_false_iff.2 (fun q => hlost.2.2 (h.1 q))
                  have t0 : ((termB T' xl : Int) == 0) = false := by rw [beq_eq_false_iff_ne]; have := hlost.2.1; omega
                  obtain ⟨b, o, rfl, hcc⟩ := (SLR.out wr GU.out).addr (by omega)
                  have e1 : wr.cell? ⟨b, o + u, none⟩ = some (.slice xa xn xc) := hcc u _ (by rw [List.getElem?_map, hx]; rfl)
                  have RB : Hid (∀ W, Gr W15 W → Bs W xa xn xc xl) := fun W hW => ((TD.out.2 _ hxm).mono hW).bs
                  have HTB := Lib.hid (termB_le T' xl)
                  have HDV := Lib.hid (fun W (h : Kn1 W15 W g T' s (1 + j) L) => h.derives HKT.out HTE.out (termB T' xl) (by have := HTB.out; have := HLEN.out; omega))
                  rw [HD.out] at HDV
                  clear ku hx hcc hrlt hxm hlost
                  go_wp2_with fail
                  refine (TERM.out wr xa xn xc xl GU.out (RB.out wr GU.out)).mono ?_
                  rintro e w4 ⟨rfl, g4⟩
                  have K4 := Lib.hid (KU.out.gr g4)
                  have G4 : Hid (Gr W15 w4) := GU.out.trans g4
                  have e2 : w4.cell? ⟨b, o + u, none⟩ = some (.slice xa xn xc) := (g4.cell (World.block_lt_of_cell? wr _ e1)).trans e1
                  clear g4 e1
                  go_wp2_with fail
                  refine (TERM.out w4 xa xn xc xl G4.out (RB.out w4 G4.out)).mono ?_
                  rintro e w5 ⟨rfl, g5⟩
                  have K5 := Lib.hid (K4.out.gr g5)
                  clear g5 e2 t0
                  go_wp2_with fail
                  refine (HDV.out w5 K5.out).mono ?_
                  rintro e w6 ⟨rfl, k6, _⟩
                  have K6 := Lib.hid k6
                  clear k6
                  go_wp2_with fail
                  go_roundw
                  case rel => exact ⟨u + 1, by omega, by go_num, K6.out⟩
                  case measure => simp [Go.RowKit.intOf]; omega
                · obtain rfl : u = rl := by omega
                  obtain ⟨vk, vp, vi, kn⟩ := ku
                  obtain ⟨vl, vs, tb15⟩ := RD.out.sy.t
                  obtain ⟨h0, ho, hlen, htin, ⟨kl2, hch2⟩, hout, hder⟩ := RD.out.ch.more (by have := HLEN.out; omega)
                  have y1 : wr.cell? ⟨gc, 1, none⟩ = some (.slice A2 n2 c2) := ((GU.out.blk BC'.out).cell 1).trans rfl
                  have HDE := Lib.hid (deriveK_any vl vs (RD.out.sy.gr GU.out) (tb15.gr GU.out) (by have := HLEN.out; omega) A2 n2 c2 cur' (RD.out.cu.mono GU.out).bs h0 keyB (by decide))
                  obtain ⟨T2, hT2⟩ : ∃ T2, T2 = (derT T' cur' keyB).1 := ⟨_, rfl⟩
                  obtain ⟨hb, hhb⟩ : ∃ hb, hb = handleL (derT T' cur' keyB).2 := ⟨_, rfl⟩
                  rw [← hT2] at HDE ho hlen htin hch2 hout hder
                  rw [← hhb] at HDE hout hder
                  have KN2 := Lib.hid kn; have TB15 := Lib.hid tb15; have HO := Lib.hid ho; have HLN := Lib.hid hlen; have HTI := Lib.hid htin; have HC2 := Lib.hid hch2; have HOU := Lib.hid hout; have HDR := Lib.hid hder
                  unfold keyB at HDE
                  clear kn tb15 ho hlen htin hch2 hout hder h0 hT2 hhb
                  go_wp2_with fail
                  refine HDE.out.mono ?_
                  rintro e w19 ⟨v19, vl', vs', rfl, o19, s19, f19, t19, c19⟩
                  obtain ⟨A19, c19', rfl, sl19⟩ := o19.slice
                  have S19 := Lib.hid s19; have F19 := Lib.hid f19; have T19 := Lib.hid t19; have C19 := Lib.hid c19
                  have HT19 := Lib.hid (s19.term (by have := HLN.out; have := HLEN.out; omega) A19 32 c19' hb sl19)
                  clear o19 sl19 s19 f19 t19 c19 y1 HDE
                  go_wp2_with fail
                  refine HT19.out.mono ?_
                  rintro e w20 ⟨rfl, g20⟩
                  have G20 := Lib.hid g20
                  obtain ⟨k0, R0, d0, rk⟩ := fg_raw KN2.out TB15.out RD.out.sy.below.size C19.out T19.out g20 HO.out
                  have HB20 : Hid (Below w.heap.size w w20) := S19.out.below.trans (Below.mono g20 S19.out.below.size)
                  have FT := fun W' (t : Tch (KV s.gk vk vp) w20 W') => fg_tb KN2.out TB15.out C19.out (T19.out.gr g20) t (fg_bel KN2.out RD.out.sy.below.size HB20.out t)
                  have HFT := Lib.hid FT
                  have HDV := Lib.hid (rk.derives (fun W' t => (FT W' t).rd) HTI.out (by have := HLN.out; have := HLEN.out; omega) (fun x hx => by rw [HL.out] at hx; exact outside_up (HIN.out x hx) HO.out.len) (termB T2 hb) HOU.out)
                  clear g20 rk FT HT19
                  go_wp2_with fail
                  refine HDV.out.mono ?_
                  rintro e w21 ⟨r, rfl, hr, t21⟩
                  have hrt : r = true := hr.2 (by rw [HL.out]; exact HDR.out)
                  subst hrt
                  have FIN : Hid (FgMid w w21 p g gc bm bs (k + 1) (1 + 37 * (k + 1)) (.slice A14 u c14)) := by
                    have h := fg_end (N := k + 1) (L := 1 + 37 * (k + 1)) RD.out TD.out GU.out F19.out S19.out G20.out (fun b hb => t21.keep b (by have := HB20.out.size; have h1 := GU.out.size; have h2 := C19.out.size; have h3 := G20.out.size; omega) (fun q => by have := (KN2.out.kv b q).1; omega)) (HFT.out w21 t21) HC2.out HR13.out (by have := HLN.out; have := HT3.out; omega)
                    rw [← HRL.out] at h
                    exact h
                  clear hr t21 HDV
                  go_wp2_with fail
                  go_roundw
                  case rel => exact ⟨k + 1, by omega, by go_num, FIN.out⟩
                  case measure => simp [Go.RowKit.intOf]; omega
    · obtain rfl : k = n := by omega
      clear hmid
      go_wp2_with (go_at_call 10; refine (HAL.out wr BWR.out).mono ?_; rintro e w' ⟨rfl, b1⟩; have B1 := Lib.hid (below_both BWR.out b1); clear b1)
      go_ret
      exact ⟨rfl, B1.out⟩
end Go.Proofs.YtplddbaggbdbiaaDoor
