/- Own texts, one behind the other. No condition. -/
import Derived.Test.YtdkmlmbehlooiaaGreatDoorObPkAU
import Derived.Test.YtdkmlmbehlooiaaGreatDoorObPkAV
import Derived.Laws.EntriesVeiled
set_option linter.unusedVariables false
set_option linter.unusedSimpArgs false
namespace Go.Proofs.YtdkmlmbehlooiaaGreatDoor
section
open Go.RowKit
def thenM (r : Mc × Int) (f : Mc → Mc × Int) : Mc × Int := if r.2 = 0 then f r.1 else r
def sprSec (a d l : Int) (x : Spr) : Sec := ⟨2, x.life, x.base, x.gen, markG a d l⟩
def Mc.superWrite (m : Mc) (a d l : Int) (x : Spr) : Mc × Int :=
 thenM ((m.enc (2 + x.life % 2) (sprSec a d l x)).write (2 + x.life % 2) (encS m.S (2 + x.life % 2) (sprSec a d l x))) Mc.flush
def Mc.clear (m : Mc) : Mc × Int := thenM (thenM (m.write 2 blankL) fun m => m.write 3 blankL) Mc.flush
theorem write_kept (m : Mc) (place : Nat) (l : List UInt8) : (m.write place l).1.d.kept.length = m.d.kept.length := by
 unfold Mc.write
 split
 · rfl
 · show (m.d.pushed place l).burn.1.kept.length = _
   rw [(burn_len _).1]
   rfl
theorem flush_kept (m : Mc) : m.flush.1.d.kept.length = m.d.kept.length := by
 unfold Mc.flush
 split
 · rfl
 · show m.d.flush.1.kept.length = _
   unfold Dk.flush
   split
   · show (m.d.burn.1.keeps m.d.pend).kept.length = _
     rw [(keeps_all _ _).2.1, (burn_len _).1]
   · rw [(burn_len _).1]
theorem thenM_ok {r : Mc × Int} {f : Mc → Mc × Int} {n k : Nat} (h : r.1.Ok n) (hf : ∀ m : Mc, m.Ok n → (f m).1.Ok k) (hk : n ≤ k) : (thenM r f).1.Ok k := by
 unfold thenM
 split
 · exact hf _ h
 · exact h.le hk
theorem Mc.Ok.enc {m : Mc} {n : Nat} (h : m.Ok n) (place : Nat) (x : Sec) : (m.enc place x).Ok (n + 1) := h.sum _
theorem Mc.Ok.superWrite {m : Mc} {n : Nat} (h : m.Ok n) (a d l : Int) (x : Spr) : (m.superWrite a d l x).1.Ok (n + 3) := thenM_ok ((h.enc _ _).write _ _) (fun m h => h.flush) (by omega)
theorem Mc.Ok.clear {m : Mc} {n : Nat} (h : m.Ok n) : m.clear.1.Ok (n + 3) := thenM_ok (thenM_ok (h.write _ _) (fun m h => h.write _ _) (by omega)) (fun m h => h.flush) (by omega)
section
variable {w0 w w' : World} {L : Pl} {m : Mc} {n : Nat} {a d l : Int}
theorem sprSec_right (g : Geo a d l) (x : Spr) (hb : x.base ≤ 1073741824) : (sprSec a d l x).right (2 + x.life % 2) = true := by
 have := Nat.mod_lt x.life (show 0 < 2 by decide)
 unfold Sec.right sprSec markG
 simp only [Bool.and_eq_true, decide_eq_true_eq]
 refine ⟨⟨⟨⟨by decide, by decide⟩, by omega⟩, hb⟩, by simp⟩
theorem KQ.sec {kb : Nat} {w w' : World} (h : KQ kb w w') {b : Nat} {cs : List Value} (hb : Blk w b 129 cs) : Blk w' b 129 cs := h.blk hb (by unfold tyM; decide) (fun e => absurd e (by decide))
set_option maxRecDepth 100000 in
set_option maxHeartbeats 4000000 in
theorem superWrite_any (h : MSt w0 L m w) (f : Fit m a d l) (ho : m.Ok n) (hn : n + 3 ≤ 900) (x : Spr) (hl : x.life < 18446744073709551616) (hb : x.base ≤ 1073741824) (hg : x.gen < 18446744073709551616) :
 Calls Tryz.prog 145 #[.pointer (some ⟨L.dp, 0, none⟩), .pointer (some ⟨L.p, 0, none⟩), .agg #[.int .i64 a, .int .i64 d, .int .i64 l], .agg (sprC x)] w (RetF w0 w L (m.superWrite a d l x)) := by
 have hpl : 2 + x.life % 2 < m.d.kept.length := by
  have := f.s; have := f.g.l; have := (pgE a d l).1; have := Nat.mod_lt x.life (show 0 < 2 by decide); unfold sizeI at *; omega
 have HSR := Lib.hid (sprSec_right f.g x hb)
 have HBO := Lib.hid (fun wr (g : Gr w wr) => superBoth_any (h.mono g) f)
 have HSP := Lib.hid (fun wr => gSuper_any x.life wr hl)
 have HMK := Lib.hid (fun wr => superMark_any (a := a) (d := d) (l := l) wr f.g)
 have HH := Lib.hid h
 have g0 : Gr w ((w.alloc (.cells #[.int .i64 a, .int .i64 d, .int .i64 l] 23)).alloc (.cells (sprC x) 108)) := (Gr.alloc _ _).trans (Gr.alloc _ _)
 have gb : Blk ((w.alloc (.cells #[.int .i64 a, .int .i64 d, .int .i64 l] 23)).alloc (.cells (sprC x) 108)) w.heap.size 23 [.int .i64 a, .int .i64 d, .int .i64 l] := (Blk.new w _ _).alloc _
 have rb : Blk ((w.alloc (.cells #[.int .i64 a, .int .i64 d, .int .i64 l] 23)).alloc (.cells (sprC x) 108)) (w.heap.size + 1) 108 (sprC x).toList := heap_alloc2_new w _ _
 obtain ⟨W, hW⟩ : ∃ W, W = (w.alloc (.cells #[.int .i64 a, .int .i64 d, .int .i64 l] 23)).alloc (.cells (sprC x) 108) := ⟨_, rfl⟩
 rw [← hW] at g0 gb rb
 obtain ⟨z0, z1, z2⟩ := spr_cells rb
 have G0 := Lib.hid g0; have GB := Lib.hid gb; have RB := Lib.hid rb; have HW := Lib.hid hW
 have k0 := gb.cell 0
 have k1 := gb.cell 1
 have k2 := gb.cell 2
 obtain ⟨R, hR⟩ : ∃ R, R = m.superWrite a d l x := ⟨_, rfl⟩
 rw [← hR]
 unfold Mc.superWrite at hR
 obtain ⟨v, hv⟩ : ∃ v, v = 2 + x.life % 2 := ⟨_, rfl⟩
 rw [← hv] at hR HSP HSR hpl
 have HO2 := Lib.hid (ho.enc v (sprSec a d l x))
 have HO3 := Lib.hid ((ho.enc v (sprSec a d l x)).write v (encS m.S v (sprSec a d l x)))
 obtain ⟨r1, hr1⟩ : ∃ r1, r1 = (m.enc v (sprSec a d l x)).write v (encS m.S v (sprSec a d l x)) := ⟨_, rfl⟩
 rw [← hr1] at hR HO3
 have HR1 := Lib.hid hr1; have HR := Lib.hid hR; have HPL := Lib.hid hpl; have HO := Lib.hid ho
 clear hW g0 gb rb h f hR hr1 hpl ho hv
 unfold sprC
 go_enter Tryz.func145, Tryz.ntmps145
 go_upto_region 1 with fail
 change Code.wp _ _ _ _ ((w.alloc (.cells #[.int .i64 a, .int .i64 d, .int .i64 l] 23)).alloc (.cells (sprC x) 108))
 rw [← HW.out]
 go_wp2_with fail
 refine (HBO.out _ G0.out).mono ?_
 rintro e w1 ⟨rfl, g1⟩
 obtain ⟨y0, y1, y2⟩ := spr_cells (RB.out.mono g1)
 have G1 := Lib.hid (G0.out.trans g1); have GB1 := Lib.hid (GB.out.mono g1); have RB1 := Lib.hid (RB.out.mono g1)
 clear g1 k0 k1 k2 z0 z1 z2
 go_wp2_with fail
 refine (HSP.out _).mono ?_
 rintro e w2 ⟨rfl, h2⟩
 subst h2
 go_upto_region 5 with fail
 clear y0 y1 y2
 have H1 := Lib.hid (HH.out.mono G1.out)
 refine UG.wrU (KQ L.kb) 129 (fun w w' h => h.1) (fun w w' b cs h hb => h.sec hb) (by kernel_rfl) [0, 0, 0, 4, 0, 16, 0, 64, 0, 256, 1020, 2047, 4095, 8191, 8191, 16383, 65535] [.p 0, .p 1, .p 2, .p 4, .p 6, .q 3, .q 5, .q 7, .q 8, .c 9, .p 10, .t 11, .p 12, .p 13, .p 14, .p 15, .p 16] (by kernel_rfl) (trivial) ?_
 iterate 5
  refine UG.wPe rfl rfl ?_
  apply Exists.intro
  refine ⟨fun wq => ?_, ?_⟩
  · unfold pLa
    go_simp
    first | exact rfl | exact ⟨rfl, rfl⟩
  go_simp
 iterate 3
  refine UG.wQe rfl rfl ?_
  apply Exists.intro
  refine ⟨fun wq hq => ?_, ?_⟩
  · obtain ⟨y0, y1, y2⟩ := spr_cells (RB1.out.mono ((Gr.drew _).trans hq))
    unfold pLa
    go_simp
    first | exact rfl | exact ⟨rfl, rfl⟩
  go_simp
 refine UG.wQe rfl rfl ?_
 apply Exists.intro
 refine ⟨fun wq hq => ?_, ?_⟩
 · have k0 := (GB1.out.mono ((Gr.drew _).trans hq)).cell 0; have k1 := (GB1.out.mono ((Gr.drew _).trans hq)).cell 1; have k2 := (GB1.out.mono ((Gr.drew _).trans hq)).cell 2
   unfold pLa
   go_simp
   first | exact rfl | exact ⟨rfl, rfl⟩
 go_simp
 refine UG.wpG_c rfl rfl ?_
 intro w3 g3 K hK
 go_simp
 go_at_call 195
 refine (HMK.out w3).mono ?_
 rintro e wn ⟨A4, c4, rfl, o4⟩
 refine hK _ _ o4.below ?_; have G4 := Lib.hid (((Gr.drew w1).trans g3).trans o4.below); obtain ⟨_, _, hv4, s4⟩ := o4.slice; injection hv4 with e1 _ e2; subst e1 e2; have S4 : Hid (Bs wn A4 3 c4 (markG a d l)) := s4; clear g3 o4 s4 hK
 go_simp
 refine UG.wPe rfl rfl ?_
 apply Exists.intro
 refine ⟨fun wq => ?_, ?_⟩
 · unfold pLa
   go_simp
   first | exact rfl | exact ⟨rfl, rfl⟩
 go_simp
 refine UG.wpG_t rfl rfl ?_
 intro w5 g5 K hK
 go_simp
 go_at_call 80
 refine ((H1.out.mono (G4.out.trans g5)).encode HO.out (by omega) v (sprSec a d l x) A4 c4 HSR.out hl hg (S4.out.mono g5)).mono ?_
 rintro e wn ⟨A6, c6, rfl, q6, h6, k6⟩
 refine hK _ _ k6 ?_; have K6 := Lib.hid ((KQ.gr (kb := L.kb) (G1.out.trans (G4.out.trans g5))).trans k6); have H6 := Lib.hid h6; have Q6 := Lib.hid q6; clear g5 q6 h6 k6 hK
 go_simp
 iterate 5
  refine UG.wPe rfl rfl ?_
  apply Exists.intro
  refine ⟨fun wq => ?_, ?_⟩
  · unfold pLa
    go_simp
    first | exact rfl | exact ⟨rfl, rfl⟩
  go_simp
 refine UG.wNi ?_
 intro w7 g7
 have K7 := Lib.hid (K6.out.trans (KQ.gr g7)); have H7 := Lib.hid (H6.out.mono g7); have Q7 := Lib.hid (Q6.out.mono g7)
 clear g7
 go_wp2_with fail
 have HWR := Lib.hid (H7.out.write HO2.out (by omega) v HPL.out A6 c6 _ Q7.out)
 rw [← HR1.out] at HWR
 refine HWR.out.mono ?_
 rintro e w8 ⟨rfl, h8, k8⟩
 have K8 := Lib.hid (K7.out.trans k8); have H8 := Lib.hid h8
 clear h8 k8
 by_cases hf : r1.2 = 0
 · have hr : R = r1.1.flush := by rw [HR.out]; unfold thenM; rw [if_pos hf]
   rw [hf]
   have HFL := Lib.hid (H8.out.flush HO3.out (by omega))
   rw [← hr] at HFL
   clear hr hf
   go_wp2_with fail
   refine HFL.out.mono ?_
   rintro e w9 ⟨rfl, h9, k9⟩
   have H9 := Lib.hid h9; have K9 := Lib.hid (K8.out.trans k9)
   clear h9 k9
   go_wp2_with fail
   go_ret
   exact ⟨rfl, H9.out, K9.out⟩
 · have hr : R = r1 := by rw [HR.out]; unfold thenM; rw [if_neg hf]
   subst hr
   obtain ⟨q, hq⟩ : ∃ q, q = R.2 := ⟨_, rfl⟩
   rw [← hq] at hf ⊢
   have t : (q != 0) = true := by rw [bne_iff_ne]; exact hf
   have HQ := Lib.hid hq
   clear hf hq
   go_wp2_with fail
   go_ret
   exact ⟨by rw [← HQ.out]; rfl, H8.out, K8.out⟩
set_option maxRecDepth 100000 in
set_option maxHeartbeats 4000000 in
theorem superClear_any (h : MSt w0 L m w) (f : Fit m a d l) (ho : m.Ok n) (hn : n + 3 ≤ 900) :
 Calls Tryz.prog 86 #[.pointer (some ⟨L.dp, 0, none⟩), .agg #[.int .i64 a, .int .i64 d, .int .i64 l]] w (RetF w0 w L m.clear) := by
 have hpl : 3 < m.d.kept.length := by
  have := f.s; have := f.g.l; have := (pgE a d l).1; unfold sizeI at *; omega
 have HBO := Lib.hid (fun wr (g : Gr w wr) => superRight_any (h.mono g) f)
 have HPL := Lib.hid (fun wr => superPlaces_any wr)
 have HB := Lib.hid (fun wr => blank_any wr)
 have HH := Lib.hid h
 have G0 : Hid (Gr w (w.alloc (.cells #[.int .i64 a, .int .i64 d, .int .i64 l] 23))) := Gr.alloc _ _
 have gb : Blk (w.alloc (.cells #[.int .i64 a, .int .i64 d, .int .i64 l] 23)) w.heap.size 23 [.int .i64 a, .int .i64 d, .int .i64 l] := Blk.new w _ _
 have k0 := gb.cell 0
 have k1 := gb.cell 1
 have k2 := gb.cell 2
 obtain ⟨R, hR⟩ : ∃ R, R = m.clear := ⟨_, rfl⟩
 rw [← hR]
 unfold Mc.clear at hR
 obtain ⟨r1, hr1⟩ : ∃ r1, r1 = m.write 2 blankL := ⟨_, rfl⟩
 have HO1 := Lib.hid (ho.write 2 blankL)
 have hk1 := write_kept m 2 blankL
 rw [← hr1] at hR HO1 hk1
 have HR1 := Lib.hid hr1; have HR := Lib.hid hR; have HO := Lib.hid ho
 have HX0 : Hid (∀ W : World, (Instr.index 166 (.agg #[.int .i64 2, .int .i64 3]) (.int .i64 0)).run Tryz.prog W = .ok (.int .i64 2) W) := fun W => by kernel_rfl
 have HX1 : Hid (∀ W : World, (Instr.index 166 (.agg #[.int .i64 2, .int .i64 3]) (.int .i64 1)).run Tryz.prog W = .ok (.int .i64 3) W) := fun W => by kernel_rfl
 clear gb h f hR hr1 ho
 go_enter Tryz.func86, Tryz.ntmps86
 go_wp2_with fail
 refine (HBO.out _ G0.out).mono ?_
 rintro e w1 ⟨rfl, g1⟩
 have G1 := Lib.hid (G0.out.trans g1)
 clear g1 k0 k1 k2
 go_wp2_with fail
 refine (HPL.out _).mono ?_
 rintro e w2 ⟨rfl, g2⟩
 have G2 := Lib.hid (G1.out.trans g2)
 clear g2
 have hx0 := HX0.out
 have hx1 := HX1.out
 go_wp2_with fail
 refine wp_loop_rounds 3 ?_
 rw [rounds_succ]
 go_wp2_with fail
 refine (HB.out _).mono ?_
 rintro e w3 ⟨A3, rfl, o3⟩
 have Q3 := Lib.hid (QB.own (kb := L.kb) o3)
 have H3 := Lib.hid (HH.out.mono (G2.out.trans o3.below))
 have K3 := Lib.hid (KQ.gr (kb := L.kb) (G2.out.trans o3.below))
 clear o3
 go_wp2_with fail
 have HW1 := Lib.hid (H3.out.write HO.out (by omega) 2 (by omega) A3 512 blankL Q3.out)
 rw [← HR1.out] at HW1
 refine HW1.out.mono ?_
 rintro e w4 ⟨rfl, h4, k4⟩
 have H4 := Lib.hid h4; have K4 := Lib.hid (K3.out.trans k4)
 clear h4 k4
 by_cases hf : r1.2 = 0
 case neg =>
  have hr : R = r1 := by rw [HR.out]; unfold thenM; rw [if_neg hf, if_neg hf]
  subst hr
  obtain ⟨q, hq⟩ : ∃ q, q = R.2 := ⟨_, rfl⟩
  rw [← hq] at hf ⊢
  have t : (q != 0) = true := by rw [bne_iff_ne]; exact hf
  have HQ := Lib.hid hq
  clear hf hq
  go_wp2_with fail
  go_ret
  exact ⟨by rw [← HQ.out]; rfl, H4.out, K4.out⟩
 obtain ⟨r2, hr2⟩ : ∃ r2, r2 = r1.1.write 3 blankL := ⟨_, rfl⟩
 have HO2 := Lib.hid (HO1.out.write 3 blankL)
 rw [← hr2] at HO2
 have HRX : Hid (R = thenM r2 Mc.flush) := by show _ = _; rw [HR.out, hr2]; unfold thenM; rw [if_pos hf]
 have HR2 := Lib.hid hr2
 rw [hf]
 clear hf hr2
 go_wp2_with fail
 rw [rounds_succ]
 go_wp2_with fail
 refine (HB.out _).mono ?_
 rintro e w5 ⟨A5, rfl, o5⟩
 have Q5 := Lib.hid (QB.own (kb := L.kb) o5)
 have H5 := Lib.hid (H4.out.mono o5.below)
 have K5 := Lib.hid (K4.out.trans (KQ.gr (kb := L.kb) o5.below))
 clear o5
 go_wp2_with fail
 have HW2 := Lib.hid (H5.out.write HO1.out (by omega) 3 (by omega) A5 512 blankL Q5.out)
 rw [← HR2.out] at HW2
 refine HW2.out.mono ?_
 rintro e w6 ⟨rfl, h6, k6⟩
 have H6 := Lib.hid h6; have K6 := Lib.hid (K5.out.trans k6)
 clear h6 k6
 by_cases hf : r2.2 = 0
 case neg =>
  have hr : R = r2 := by rw [HRX.out]; unfold thenM; rw [if_neg hf]
  subst hr
  obtain ⟨q, hq⟩ : ∃ q, q = R.2 := ⟨_, rfl⟩
  rw [← hq] at hf ⊢
  have t : (q != 0) = true := by rw [bne_iff_ne]; exact hf
  have HQ := Lib.hid hq
  clear hf hq
  go_wp2_with fail
  go_ret
  exact ⟨by rw [← HQ.out]; rfl, H6.out, K6.out⟩
 have hr : R = r2.1.flush := by rw [HRX.out]; unfold thenM; rw [if_pos hf]
 have HFL := Lib.hid (H6.out.flush HO2.out (by omega))
 rw [← hr] at HFL
 rw [hf]
 clear hr hf
 go_wp2_with fail
 rw [rounds_succ]
 go_wp2_with fail
 refine HFL.out.mono ?_
 rintro e w9 ⟨rfl, h9, k9⟩
 have H9 := Lib.hid h9; have K9 := Lib.hid (K6.out.trans k9)
 clear h9 k9
 go_wp2_with fail
 go_ret
 exact ⟨rfl, H9.out, K9.out⟩
end
end
section
open Go.RowKit
def Mc.rootWrite (m : Mc) (gen : Nat) (b : List UInt8) : Mc × Int := thenM (m.write (gen % 2) b) Mc.flush
def keySec (gen : Nat) (key : List UInt8) : Sec := ⟨1, 0, 0, gen, key⟩
def Mc.rootPut (m : Mc) (gen : Nat) (key : List UInt8) : Mc × Int := (m.enc (gen % 2) (keySec gen key)).rootWrite gen (encS m.S (gen % 2) (keySec gen key))
def Mc.rootErase (m : Mc) (gen : Nat) : Mc × Int := m.rootWrite gen blankL
theorem Mc.Ok.rootWrite {m : Mc} {n : Nat} (h : m.Ok n) (gen : Nat) (b : List UInt8) : (m.rootWrite gen b).1.Ok (n + 2) := thenM_ok (h.write _ _) (fun m h => h.flush) (by omega)
theorem Mc.Ok.rootPut {m : Mc} {n : Nat} (h : m.Ok n) (gen : Nat) (key : List UInt8) : (m.rootPut gen key).1.Ok (n + 3) := (h.enc _ _).rootWrite _ _
theorem Mc.Ok.rootErase {m : Mc} {n : Nat} (h : m.Ok n) (gen : Nat) : (m.rootErase gen).1.Ok (n + 2) := h.rootWrite _ _
theorem thenM_kept {r : Mc × Int} {f : Mc → Mc × Int} {k : Nat} (h : r.1.d.kept.length = k) (hf : ∀ m : Mc, m.d.kept.length = k → (f m).1.d.kept.length = k) : (thenM r f).1.d.kept.length = k := by
 unfold thenM
 split
 · exact hf _ h
 · exact h
theorem rootWrite_kept (m : Mc) (gen : Nat) (b : List UInt8) : (m.rootWrite gen b).1.d.kept.length = m.d.kept.length := thenM_kept (write_kept _ _ _) (fun m h => (flush_kept m).trans h)
section
variable {w0 w w' : World} {L : Pl} {m : Mc} {n : Nat} {a d l : Int}
theorem rootWriteFn_any (h : MSt w0 L m w) (ho : m.Ok n) (hn : n ≤ 900) (pd pp pb place : Nat) (A : Option Addr) (c : Nat) (b : List UInt8) (hp : place < m.d.kept.length) (h1 : Blk w pd 26 [.pointer (some ⟨L.dp, 0, none⟩)]) (h2 : Blk w pp 3 [.int .i64 (place : Int)]) (h3 : Blk w pb 36 [.slice A 512 c]) (hb : QB L.kb w A 512 c b) :
 Calls Tryz.prog 155 #[.pointer (some ⟨pd, 0, none⟩), .pointer (some ⟨pp, 0, none⟩), .pointer (some ⟨pb, 0, none⟩)] w (RetF w0 w L (m.write place b)) := by
 have c1 := h1.cell 0
 have c2 := h2.cell 0
 have c3 := h3.cell 0
 have HW := Lib.hid (h.write ho (by omega) place hp A c b hb)
 clear h h1 h2 h3 hb
 obtain ⟨r, hr⟩ : ∃ r, r = m.write place b := ⟨_, rfl⟩
 rw [← hr] at HW ⊢
 clear hr
 go_enter Tryz.func155, Tryz.ntmps155
 go_wp2_with fail
 refine HW.out.mono ?_
 rintro e w1 ⟨rfl, h1, k1⟩
 have H1 := Lib.hid h1; have K1 := Lib.hid k1
 clear h1 k1
 go_wp2_with fail
 go_ret
 exact ⟨rfl, H1.out, K1.out⟩
set_option maxRecDepth 100000 in
set_option maxHeartbeats 4000000 in
theorem rootWrite_any (h : MSt w0 L m w) (ho : m.Ok n) (hn : n + 2 ≤ 900) (hk : 2 ≤ m.d.kept.length) (gen : Nat) (hg : gen < 18446744073709551616) (A : Option Addr) (c : Nat) (b : List UInt8) (hb : QB L.kb w A 512 c b) :
 Calls Tryz.prog 82 #[.pointer (some ⟨L.dp, 0, none⟩), .int .u64 (gen : Int), .slice A 512 c] w (RetF w0 w L (m.rootWrite gen b)) := by
 have hlt := Nat.mod_lt gen (show 0 < 2 by decide)
 have HRT := Lib.hid (fun wr => gRoot_any gen wr hg)
 obtain ⟨R, hR⟩ : ∃ R, R = m.rootWrite gen b := ⟨_, rfl⟩
 rw [← hR]
 unfold Mc.rootWrite at hR
 obtain ⟨v, hv⟩ : ∃ v, v = gen % 2 := ⟨_, rfl⟩
 rw [← hv] at hR HRT hlt
 obtain ⟨r1, hr1⟩ : ∃ r1, r1 = m.write v b := ⟨_, rfl⟩
 have HO1 := Lib.hid (ho.write v b)
 rw [← hr1] at hR HO1
 have HR1 := Lib.hid hr1; have HR := Lib.hid hR; have HH := Lib.hid h; have HO := Lib.hid ho; have HB := Lib.hid hb
 have HLT : Hid (v < m.d.kept.length) := by show v < _; omega
 clear hR hr1 h ho hb hk hlt hv
 go_enter Tryz.func82, Tryz.ntmps82
 go_wp2_with fail
 go_step3
 go_wp2_with fail
 refine (HRT.out _).mono ?_
 rintro e w1 ⟨rfl, h1⟩
 subst h1
 go_wp2_with fail
 go_step3
 go_wp2_with fail
 obtain ⟨FN, hFN⟩ : ∃ FN, FN = (Obj.cells #[.func (.func 155) #[] #[.pointer (some ⟨w.heap.size, 0, none⟩), .pointer (some ⟨w.heap.size + 1 + 1, 0, none⟩), .pointer (some ⟨w.heap.size + 1, 0, none⟩)], .func (.func 157) #[.pointer (some ⟨L.dp, 0, none⟩)] #[]] 208) := ⟨_, rfl⟩
 have b1 : Blk ((((w.alloc (.cells #[.pointer (some ⟨L.dp, 0, none⟩)] 26)).alloc (.cells #[.slice A 512 c] 36)).alloc (.cells #[.int .i64 (v : Int)] 3)).alloc FN) w.heap.size 26 [.pointer (some ⟨L.dp, 0, none⟩)] := (((Blk.new w _ _).alloc _).alloc _).alloc _
 have b2 : Blk ((((w.alloc (.cells #[.pointer (some ⟨L.dp, 0, none⟩)] 26)).alloc (.cells #[.slice A 512 c] 36)).alloc (.cells #[.int .i64 (v : Int)] 3)).alloc FN) (w.heap.size + 1) 36 [.slice A 512 c] := by
  have := ((Blk.new (w.alloc (.cells #[.pointer (some ⟨L.dp, 0, none⟩)] 26)) 36 #[.slice A 512 c]).alloc (.cells #[.int .i64 (v : Int)] 3)).alloc FN
  rwa [World.size_alloc] at this
 have b3 : Blk ((((w.alloc (.cells #[.pointer (some ⟨L.dp, 0, none⟩)] 26)).alloc (.cells #[.slice A 512 c] 36)).alloc (.cells #[.int .i64 (v : Int)] 3)).alloc FN) (w.heap.size + 1 + 1) 3 [.int .i64 (v : Int)] := by
  have := (Blk.new ((w.alloc (.cells #[.pointer (some ⟨L.dp, 0, none⟩)] 26)).alloc (.cells #[.slice A 512 c] 36)) 3 #[.int .i64 (v : Int)]).alloc FN
  rwa [World.size_alloc, World.size_alloc] at this
 have g1 : Gr w ((((w.alloc (.cells #[.pointer (some ⟨L.dp, 0, none⟩)] 26)).alloc (.cells #[.slice A 512 c] 36)).alloc (.cells #[.int .i64 (v : Int)] 3)).alloc FN) := (((Gr.alloc _ _).trans (Gr.alloc _ _)).trans (Gr.alloc _ _)).trans (Gr.alloc _ _)
 rw [← hFN]
 obtain ⟨W, hW⟩ : ∃ W, W = ((((w.alloc (.cells #[.pointer (some ⟨L.dp, 0, none⟩)] 26)).alloc (.cells #[.slice A 512 c] 36)).alloc (.cells #[.int .i64 (v : Int)] 3)).alloc FN) := ⟨_, rfl⟩
 rw [← hW] at b1 b2 b3 g1 ⊢
 have H1 := Lib.hid (HH.out.mono g1)
 have K1 := Lib.hid (KQ.gr (kb := L.kb) g1)
 have HF1 := Lib.hid (rootWriteFn_any H1.out HO.out (by omega) w.heap.size (w.heap.size + 1 + 1) (w.heap.size + 1) v A c b HLT.out b1 b3 b2 (HB.out.mono g1))
 rw [← HR1.out] at HF1
 clear hW b1 b2 b3 g1 hFN
 obtain ⟨F1, hF1⟩ : ∃ F1, F1 = Value.func (.func 155) #[] #[.pointer (some ⟨w.heap.size, 0, none⟩), .pointer (some ⟨w.heap.size + 1 + 1, 0, none⟩), .pointer (some ⟨w.heap.size + 1, 0, none⟩)] := ⟨_, rfl⟩
 have hx0 : ∀ W : World, (Instr.index 208 (.agg #[.func (.func 155) #[] #[.pointer (some ⟨w.heap.size, 0, none⟩), .pointer (some ⟨w.heap.size + 1 + 1, 0, none⟩), .pointer (some ⟨w.heap.size + 1, 0, none⟩)], .func (.func 157) #[.pointer (some ⟨L.dp, 0, none⟩)] #[]]) (.int .i64 0)).run Tryz.prog W = .ok (.func (.func 155) #[] #[.pointer (some ⟨w.heap.size, 0, none⟩), .pointer (some ⟨w.heap.size + 1 + 1, 0, none⟩), .pointer (some ⟨w.heap.size + 1, 0, none⟩)]) W := fun W => by kernel_rfl
 have hx1 : ∀ W : World, (Instr.index 208 (.agg #[.func (.func 155) #[] #[.pointer (some ⟨w.heap.size, 0, none⟩), .pointer (some ⟨w.heap.size + 1 + 1, 0, none⟩), .pointer (some ⟨w.heap.size + 1, 0, none⟩)], .func (.func 157) #[.pointer (some ⟨L.dp, 0, none⟩)] #[]]) (.int .i64 1)).run Tryz.prog W = .ok (.func (.func 157) #[.pointer (some ⟨L.dp, 0, none⟩)] #[]) W := fun W => by kernel_rfl
 clear hF1
 refine wp_loop_rounds 3 ?_
 rw [rounds_succ]
 go_wp2_with fail
 refine HF1.out.mono ?_
 rintro e w2 ⟨rfl, h2, k2⟩
 have H2 := Lib.hid h2; have K2 := Lib.hid (K1.out.trans k2)
 clear h2 k2
 by_cases hf : r1.2 = 0
 · have hr : R = r1.1.flush := by rw [HR.out]; unfold thenM; rw [if_pos hf]
   rw [hf]
   have HFL := Lib.hid (H2.out.flush HO1.out (by omega))
   rw [← hr] at HFL
   clear hr hf
   go_wp2_with fail
   rw [rounds_succ]
   go_wp2_with fail
   refine HFL.out.mono ?_
   rintro e w9 ⟨rfl, h9, k9⟩
   have H9 := Lib.hid h9; have K9 := Lib.hid (K2.out.trans k9)
   clear h9 k9
   obtain ⟨q, hq⟩ : ∃ q, q = R.2 := ⟨_, rfl⟩
   rw [← hq]
   have HQ := Lib.hid hq
   by_cases hf2 : q = 0
   · subst hf2
     clear hq
     go_wp2_with fail
     rw [rounds_succ]
     go_wp2_with fail
     try rw [Exit.noGoto_ret]
     go_ret
     exact ⟨by rw [← HQ.out]; rfl, H9.out, K9.out⟩
   · have t : (q != 0) = true := by rw [bne_iff_ne]; exact hf2
     clear hf2 hq
     go_wp2_with fail
     try rw [Exit.noGoto_ret]
     go_ret
     exact ⟨by rw [← HQ.out]; rfl, H9.out, K9.out⟩
 · have hr : R = r1 := by rw [HR.out]; unfold thenM; rw [if_neg hf]
   subst hr
   obtain ⟨q, hq⟩ : ∃ q, q = R.2 := ⟨_, rfl⟩
   rw [← hq] at hf ⊢
   have t : (q != 0) = true := by rw [bne_iff_ne]; exact hf
   have HQ := Lib.hid hq
   clear hf hq
   go_wp2_with fail
   try rw [Exit.noGoto_ret]
   go_ret
   exact ⟨by rw [← HQ.out]; rfl, H2.out, K2.out⟩
theorem keySec_right (gen : Nat) (key : List UInt8) (h : key.length = 32) : (keySec gen key).right (gen % 2) = true := by
 have := Nat.mod_lt gen (show 0 < 2 by decide)
 unfold Sec.right keySec
 simp only [Bool.and_eq_true, decide_eq_true_eq]
 refine ⟨⟨⟨⟨by decide, by decide⟩, by omega⟩, by omega⟩, by omega⟩
set_option maxRecDepth 100000 in
set_option maxHeartbeats 4000000 in
theorem rootPut_any (h : MSt w0 L m w) (ho : m.Ok n) (hn : n + 3 ≤ 900) (hk : 2 ≤ m.d.kept.length) (gen : Nat) (hg : gen < 18446744073709551616) (A : Option Addr) (c : Nat) (key : List UInt8) (hb : Bs w A 32 c key) :
 Calls Tryz.prog 32 #[.pointer (some ⟨L.dp, 0, none⟩), .pointer (some ⟨L.p, 0, none⟩), .int .u64 (gen : Int), .slice A 32 c] w (RetF w0 w L (m.rootPut gen key)) := by
 have hkl : key.length = 32 := hb.len
 have HRT := Lib.hid (fun wr => gRoot_any gen wr hg)
 have HEN := Lib.hid (h.encode ho (by omega) (gen % 2) (keySec gen key) A c (keySec_right gen key hkl) (by show 0 < _; decide) hg (by show Bs w A key.length c key; rw [hkl]; exact hb))
 have hex : secV (keySec gen key) A c = .agg #[.int .i64 1, .int .u64 0, .int .i64 0, .int .u64 (gen : Int), .slice A 32 c] := by unfold secV keySec; simp only; rw [hkl]; rfl
 rw [hex] at HEN
 obtain ⟨R, hR⟩ : ∃ R, R = m.rootPut gen key := ⟨_, rfl⟩
 rw [← hR]
 unfold Mc.rootPut at hR
 have HO1 := Lib.hid (ho.enc (gen % 2) (keySec gen key))
 have hk1 : 2 ≤ (m.enc (gen % 2) (keySec gen key)).d.kept.length := hk
 obtain ⟨m1, hm1⟩ : ∃ m1, m1 = m.enc (gen % 2) (keySec gen key) := ⟨_, rfl⟩
 obtain ⟨b, hb1⟩ : ∃ b, b = encS m.S (gen % 2) (keySec gen key) := ⟨_, rfl⟩
 rw [← hm1, ← hb1] at HEN
 rw [← hm1] at HO1 hk1
 rw [← hm1, ← hb1] at hR
 have HR := Lib.hid hR; have HK1 := Lib.hid hk1
 clear h ho hk hb hkl hex hR hm1 hb1 hk1
 go_enter Tryz.func32, Tryz.ntmps32
 go_wp2_with fail
 refine (HRT.out _).mono ?_
 rintro e w1 ⟨rfl, h1⟩
 subst h1
 go_wp2_with fail
 refine HEN.out.mono ?_
 rintro e w2 ⟨A2, c2, rfl, q2, h2, k2⟩
 have HW := Lib.hid (rootWrite_any h2 HO1.out (by omega) HK1.out gen hg A2 c2 b q2)
 rw [← HR.out] at HW
 have K2 := Lib.hid k2
 clear q2 h2 k2
 go_wp2_with fail
 refine HW.out.mono ?_
 rintro e w3 ⟨rfl, h3, k3⟩
 have H3 := Lib.hid h3; have K3 := Lib.hid (K2.out.trans k3)
 clear h3 k3
 go_wp2_with fail
 go_ret
 exact ⟨rfl, H3.out, K3.out⟩
theorem rootErase_any (h : MSt w0 L m w) (ho : m.Ok n) (hn : n + 2 ≤ 900) (hk : 2 ≤ m.d.kept.length) (gen : Nat) (hg : gen < 18446744073709551616) :
 Calls Tryz.prog 34 #[.pointer (some ⟨L.dp, 0, none⟩), .int .u64 (gen : Int)] w (RetF w0 w L (m.rootErase gen)) := by
 have HB := Lib.hid (blank_any w)
 obtain ⟨R, hR⟩ : ∃ R, R = m.rootErase gen := ⟨_, rfl⟩
 rw [← hR]
 unfold Mc.rootErase at hR
 have HR := Lib.hid hR; have HH := Lib.hid h; have HO := Lib.hid ho
 clear h ho hR
 go_enter Tryz.func34, Tryz.ntmps34
 go_wp2_with fail
 refine HB.out.mono ?_
 rintro e w2 ⟨A2, rfl, o2⟩
 have HW := Lib.hid (rootWrite_any (HH.out.mono o2.below) HO.out hn hk gen hg A2 512 blankL (QB.own o2))
 rw [← HR.out] at HW
 have K2 := Lib.hid (KQ.gr (kb := L.kb) o2.below)
 clear o2
 go_wp2_with fail
 refine HW.out.mono ?_
 rintro e w3 ⟨rfl, h3, k3⟩
 have H3 := Lib.hid h3; have K3 := Lib.hid (K2.out.trans k3)
 clear h3 k3
 go_wp2_with fail
 go_ret
 exact ⟨rfl, H3.out, K3.out⟩
end
end
end Go.Proofs.YtdkmlmbehlooiaaGreatDoor
