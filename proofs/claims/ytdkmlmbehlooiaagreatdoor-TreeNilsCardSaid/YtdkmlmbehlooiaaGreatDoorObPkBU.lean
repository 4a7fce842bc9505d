/- Own texts, one behind the other. No condition. -/
import Derived.Test.YtdkmlmbehlooiaaGreatDoorObPkBT
set_option linter.unusedVariables false
set_option linter.unusedSimpArgs false
namespace Go.Proofs.YtdkmlmbehlooiaaGreatDoor
section
open Go.RowKit Go.Maps
section
variable {w0 w w' : World} {L : Pl} {m m' : Mc} {n n' : Nat} {x : Spr} {vl vk : Value} {next : Nat} {due : Bool} {pt ps b c : Nat} {R : List BRow}
theorem search_any (TA : Option Addr) (tc : Nat) (k : Int) (h : Is w TA 2 tc [0, 2]) : Calls Tryz.prog 180 #[.slice TA 2 tc, .int .i64 k] w fun e w' => ∃ j : Nat, e = .returned (.tuple #[.int .i64 (j : Int), .bool (([0, 2] : List Int).contains k)]) ∧ Gr w w' := by
 obtain ⟨bb, oo, rfl, hc⟩ := h.addr (by decide)
 refine (Tryz.slices_BinarySearch_int bb oo 2 tc [0, 2] k w (by decide) (by decide) (fun j hj => ?_) (by decide)).mono ?_
 · have := hc j hj
   rcases (show j = 0 ∨ j = 1 by simp at hj; omega) with e | e <;> subst e <;> exact this
 · rintro e w' ⟨rfl, q, rfl⟩
   exact ⟨_, rfl, belowN (Gr.refl w) q⟩
set_option maxRecDepth 100000 in
set_option maxHeartbeats 1000000 in
theorem workChild1_any {pw mb tc : Nat} {TA : Option Addr} {vo : Value} (hw : Blk w pw 96 (workC pt mb TA tc vo)) (ht : Is w TA 2 tc [0, 2]) (KA RA : Option Addr) (kn kc rc : Nat) :
 Calls Tryz.prog 116 #[.pointer (some ⟨pw, 0, none⟩), .int .i64 1, .slice KA kn kc, .slice RA 0 rc] w fun e w' => e = .returned (.tuple #[.slice none 0 0, .int .i64 0]) ∧ Gr w w' := by
 have HSR := Lib.hid (search_any TA tc 1 ht)
 rw [show (([0, 2] : List Int).contains 1) = false by decide] at HSR
 have k2 := hw.cell 2
 clear hw ht
 go_enter Tryz.func116, Tryz.ntmps116
 go_wp2_with fail
 refine HSR.out.mono ?_
 rintro e w1 ⟨j, rfl, g1⟩
 have G1 := Lib.hid g1
 clear g1
 go_wp2_with fail
 go_ret2
 exact ⟨rfl, G1.out⟩
theorem LfF.pre {pw mb tc kc : Nat} {TA KA : Option Addr} {vo : Value} {w1 : World} (g : Gr w w1) (h : LfF w0 L m n x vl next due vk pt ps b c R pw mb TA tc vo KA kc w1 w') : LfF w0 L m n x vl next due vk pt ps b c R pw mb TA tc vo KA kc w w' := by
 obtain ⟨A', c', h1, BA, bc, h2, h3⟩ := h.wk
 exact ⟨h.tp, h.ke, ⟨A', c', h1, BA, bc, h2, fun z q => Nat.le_trans g.size (h3 z q)⟩, (KX.gr g).trans h.kx⟩
set_option maxRecDepth 100000 in
set_option maxHeartbeats 1000000 in
theorem workChild2_any {pw mb tc vc : Nat} {TA VA : Option Addr} (h : TrP w0 L m n x vl next due vk pt ps b c R w) (hn : n + 4 ≤ 900) (hT : U8 w0) (hge : w0.heap.size ≤ pw) (hw : Blk w pw 96 (workC pt mb TA tc (.slice none 0 0))) (ht : Is w TA 2 tc [0, 2]) (hm : ChM w mb VA vc) (hv : QB L.kb w VA 1 vc [7]) (KA RA : Option Addr) (kn kc rc : Nat) :
 Calls Tryz.prog 116 #[.pointer (some ⟨pw, 0, none⟩), .int .i64 2, .slice KA kn kc, .slice RA 0 rc] w fun e w' => ∃ KA kc, e = .returned (.tuple #[.slice KA 32 kc, .int .i64 0]) ∧ LfF w0 L m n x vl next due vk pt ps b c R pw mb TA tc (.slice none 0 0) KA kc w w' := by
 have HSR := Lib.hid (search_any TA tc 2 ht)
 rw [show (([0, 2] : List Int).contains 2) = true by decide] at HSR
 have HSL := Lib.hid (fun wr => slot_any 2 1 3 2 wr)
 rw [show slotI 2 1 3 2 = 1 by decide] at HSL
 have HLF := Lib.hid (fun wr (g : Gr w wr) => workLeaf_any (h.gr g) hn hT hge (hw.mono g) (hm.mono g) (hv.mono g))
 have HH := Lib.hid h; have HW := Lib.hid hw
 have k2 := hw.cell 2
 clear h hT hw ht hm hv
 go_enter Tryz.func116, Tryz.ntmps116
 go_wp2_with fail
 refine HSR.out.mono ?_
 rintro e w1 ⟨j, rfl, g1⟩
 have G1 := Lib.hid g1
 clear g1 k2
 have k0 := (HW.out.mono G1.out).cell 0
 obtain ⟨s1, s2, s3, s4, s5, s6⟩ := (HH.out.gr G1.out).cells
 go_wp2_with fail
 refine (HSL.out w1).mono ?_
 rintro e w2 ⟨rfl, g2⟩
 have G2 := Lib.hid (G1.out.trans (show Gr w1 w2 from g2))
 have HL2 := Lib.hid (HLF.out w2 G2.out)
 clear g2 k0 s1 s2 s3 s4 s5 s6
 go_wp2_with fail
 refine HL2.out.mono ?_
 rintro e w3 ⟨KA3, kc3, rfl, f3⟩
 have F3 := Lib.hid (f3.pre G2.out)
 clear f3
 go_wp2_with fail
 go_ret2
 exact ⟨KA3, kc3, rfl, F3.out⟩
theorem TrP.le (h : TrP w0 L m n x vl next due vk pt ps b c R w) (h1 : n ≤ n') (h2 : n' ≤ 900) : TrP w0 L m n' x vl next due vk pt ps b c R w := ⟨h.ms, h.ok.le h1, h2, h.ft, h.fx, h.fp, h.c1, h.c2, h.sm⟩
structure NdS (w0 : World) (L : Pl) (m : Mc) (n : Nat) (x : Spr) (vl : Value) (next : Nat) (due : Bool) (vk : Value) (pt ps b c : Nat) (R : List BRow) (pw mb : Nat) (TA : Option Addr) (tc : Nat) (A' : Option Addr) (c' K : Nat) (P : List PRow) (KA NA : Option Addr) (kc nc : Nat) (key nxt : List UInt8) (bo : Nat) (RR : List BRow) (w : World) : Prop where
 tp : TrP w0 L m n x vl next due vk pt ps b c R w
 ke : QB L.kb w KA 32 kc key
 nx : QB L.kb w NA 32 nc nxt
 wk : Blk w pw 96 (workC pt mb TA tc (.slice A' K c'))
 pg : Pgw w0 L.kb w A' c' K P
 pr : Pgo w0 L.kb w bo 2 2 RR
 bb : bo ≠ b
def lfB (m : Mc) : List UInt8 := fieldL [97] ++ fieldL (sealB m.draw.T m.key [7])
def ndB (m : Mc) (nxt : List UInt8) : List UInt8 := rowsE [[], sealB ((m.draw).seal m.key [7]).T nxt m.key]
structure NdF (w0 : World) (L : Pl) (m : Mc) (n : Nat) (x : Spr) (vl : Value) (next : Nat) (due : Bool) (vk : Value) (pt ps b c : Nat) (R : List BRow) (pw mb : Nat) (TA : Option Addr) (tc : Nat) (nxt : List UInt8) (w w' : World) : Prop where
 tp : TrP w0 L (((m.draw).seal m.key [7]).seal nxt m.key) (n + 8) x vl next due vk pt ps b c R w'
 wk : ∃ A' c' BA bc DA dc, Blk w' pw 96 (workC pt mb TA tc (.slice A' 2 c')) ∧ Pgw w0 L.kb w' A' c' 2 [⟨2, ⟨BA, (lfB m).length, bc, lfB m⟩⟩, ⟨0, ⟨DA, (ndB m nxt).length, dc, ndB m nxt⟩⟩]
 kx : KX (fun z => z = pw) L.kb w w'
section
variable {pw mb tc c' K kc nc bo : Nat} {TA A' KA NA : Option Addr} {P : List PRow} {key nxt : List UInt8} {RR : List BRow}
theorem NdS.gr (h : NdS w0 L m n x vl next due vk pt ps b c R pw mb TA tc A' c' K P KA NA kc nc key nxt bo RR w) (g : Gr w w') : NdS w0 L m n x vl next due vk pt ps b c R pw mb TA tc A' c' K P KA NA kc nc key nxt bo RR w' := ⟨h.tp.gr g, h.ke.mono g, h.nx.mono g, h.wk.mono g, h.pg.mono g, h.pr.mono g, h.bb⟩
theorem NdS.kq (h : NdS w0 L m n x vl next due vk pt ps b c R pw mb TA tc A' c' K P KA NA kc nc key nxt bo RR w) (k : KQ L.kb w w') (ms : MSt w0 L m' w') (ok : m'.Ok n') (n9 : n' ≤ 900) : NdS w0 L m' n' x vl next due vk pt ps b c R pw mb TA tc A' c' K P KA NA kc nc key nxt bo RR w' :=
 ⟨h.tp.kq k ms ok n9, h.ke.kq k, h.nx.kq k, k.blk h.wk (by unfold tyM; decide) (fun e => absurd e (by decide)), h.pg.kx (KX.kq (S := fun _ => False) k) ms.below (fun z s => s.elim), h.pr.kx (KX.kq (S := fun _ => False) k) ms.below (fun z s => s.elim), h.bb⟩
theorem NdS.set (h : NdS w0 L m n x vl next due vk pt ps b c R pw mb TA tc A' c' K P KA NA kc nc key nxt bo RR w) (j : Nat) (r : BRow) (hr : QB L.kb w r.a r.n r.c r.l) : NdS w0 L m n x vl next due vk pt ps b c R pw mb TA tc A' c' K P KA NA kc nc key nxt bo (RR.set j r) (w.setCell ⟨bo, j, none⟩ r.v) := by
 obtain ⟨cs, zb⟩ := h.pr.o.blk_at (b := bo) rfl
 have T : Tch (fun z => z = bo) w (w.setCell ⟨bo, j, none⟩ r.v) := Tch.set ⟨bo, j, none⟩ _ rfl
 have ms : MSt w0 L m (w.setCell ⟨bo, j, none⟩ r.v) := h.tp.ms.off T (fun z e => by subst e; exact h.pr.o.ge rfl) (fun z e => by subst e; exact ⟨_, _, zb, by unfold tyA tyM; decide⟩)
 have hty : ∀ z, z = bo → ∃ t cs, Blk w z t cs ∧ ¬ tyB t := fun z e => by subst e; exact ⟨_, _, zb, by unfold tyB; decide⟩
 exact ⟨h.tp.kx (KX.tch T) ms h.tp.ok h.tp.n9 (fun z e => by subst e; exact ⟨_, _, zb, by decide, by decide, .inr h.bb, by unfold tyB; decide⟩), h.ke.tchT T hty, h.nx.tchT T hty, h.wk.tch T (fun e => by have := h.wk; rw [e] at this; exact absurd (bTy this zb) (by decide)), h.pg.kx (KX.tch T) ms.below (fun z e => by subst e; exact ⟨_, _, zb, by unfold tyB; decide, by decide⟩), h.pr.set j r hr, h.bb⟩
end
set_option maxRecDepth 100000 in
set_option maxHeartbeats 4000000 in
theorem workNode_any {pw mb tc vc : Nat} {TA VA : Option Addr} (h : TrP w0 L m n x vl next due vk pt ps b c R w) (r0 : BRow) (hr0 : R[0]? = some r0) (hl0 : r0.l = []) (hn : n + 8 ≤ 900) (hT : U8 w0) (hge : w0.heap.size ≤ pw) (hw : Blk w pw 96 (workC pt mb TA tc (.slice none 0 0))) (ht : Is w TA 2 tc [0, 2]) (hm : ChM w mb VA vc) (hv : QB L.kb w VA 1 vc [7]) (KA NA : Option Addr) (kc nc : Nat) (nxt : List UInt8) (hN : QB L.kb w NA 32 nc nxt) :
 Calls Tryz.prog 49 #[.pointer (some ⟨pw, 0, none⟩), .int .i64 0, .slice KA 32 kc, .slice NA 32 nc] w fun e w' => e = .returned (.int .i64 0) ∧ NdF w0 L m n x vl next due vk pt ps b c R pw mb TA tc nxt w w' := by
 have HPG := Lib.hid (fun wr (g : Gr w wr) => (h.gr g).page 0 r0 hr0)
 rw [hl0] at HPG
 have HDC := Lib.hid (fun wr A c => nodeDecode0_any (kb := L.kb) (w := wr) geo213 2 rfl A c)
 have HC1 := Lib.hid (fun wr => child_any 2 1 3 0 0 wr)
 rw [show childI 2 1 3 0 0 = 1 by decide] at HC1
 have HC2 := Lib.hid (fun wr => child_any 2 1 3 0 1 wr)
 rw [show childI 2 1 3 0 1 = 2 by decide] at HC2
 have HK1 := Lib.hid (fun wr (g : Gr w wr) RA rc => workChild1_any (hw.mono g) (ht.mono g) KA RA 32 kc rc)
 have HK2 := Lib.hid (fun wr (g : Gr w wr) RA rc => workChild2_any (h.gr g) (by omega) hT hge (hw.mono g) (ht.mono g) (hm.mono g) (hv.mono g) KA RA 32 kc rc)
 have HH := Lib.hid h; have HW := Lib.hid hw; have HN := Lib.hid hN
 clear h hr0 hl0 hT hw ht hm hv hN
 go_enter Tryz.func49, Tryz.ntmps49
 go_upto_region 1 with fail
 refine wrG (by kernel_rfl) [0, 1, 3, 7, 15, 31, 63, 0, 128, 384, 896, 1920, 3968, 8064, 0, 32640, 65535, 131071, 262143, 262143, 524287, 2097151] [.p 0, .p 1, .p 2, .p 7, .p 8, .p 9, .p 14, .q 3, .p 4, .p 5, .q 6, .q 10, .p 11, .p 12, .q 13, .c 15, .c 16, .p 17, .p 18, .p 19, .p 20, .p 21] (by kernel_rfl) (trivial) ?_
 iterate 7
  refine wPe rfl rfl ?_
  apply Exists.intro
  refine ⟨fun wq => ?_, ?_⟩
  · unfold pLa
    go_simp
    first | exact rfl | exact ⟨rfl, rfl⟩
  go_simp
 refine wQe rfl rfl ?_
 apply Exists.intro
 refine ⟨fun wq hq => ?_, ?_⟩
 · have k0 := (HW.out.mono ((Gr.drew _).trans hq)).cell 0
   unfold pLa
   go_simp
   first | exact rfl | exact ⟨rfl, rfl⟩
 go_simp
 iterate 2
  refine wPe rfl rfl ?_
  apply Exists.intro
  refine ⟨fun wq => ?_, ?_⟩
  · unfold pLa
    go_simp
    first | exact rfl | exact ⟨rfl, rfl⟩
  go_simp
 refine wQe rfl rfl ?_
 apply Exists.intro
 refine ⟨fun wq hq => ?_, ?_⟩
 · obtain ⟨s1, s2, s3, s4, s5, s6⟩ := (HH.out.gr ((Gr.drew _).trans hq)).cells
   unfold pLa
   go_simp
   first | exact rfl | exact ⟨rfl, rfl⟩
 go_simp
 refine wQe rfl rfl ?_
 apply Exists.intro
 refine ⟨fun wq hq => ?_, ?_⟩
 · have k0 := (HW.out.mono ((Gr.drew _).trans hq)).cell 0
   unfold pLa
   go_simp
   first | exact rfl | exact ⟨rfl, rfl⟩
 go_simp
 iterate 2
  refine wPe rfl rfl ?_
  apply Exists.intro
  refine ⟨fun wq => ?_, ?_⟩
  · unfold pLa
    go_simp
    first | exact rfl | exact ⟨rfl, rfl⟩
  go_simp
 refine wQe rfl rfl ?_
 apply Exists.intro
 refine ⟨fun wq hq => ?_, ?_⟩
 · obtain ⟨s1, s2, s3, s4, s5, s6⟩ := (HH.out.gr ((Gr.drew _).trans hq)).cells
   unfold pLa
   go_simp
   first | exact rfl | exact ⟨rfl, rfl⟩
 go_simp
 refine wpG_c rfl rfl ?_
 intro w2 g2 K hK
 go_simp
 go_at_call 39
 refine (HPG.out w2 ((Gr.drew _).trans g2)).mono ?_
 rintro e wn ⟨v3, rfl, o3⟩
 refine hK _ _ o3.below ?_; obtain ⟨A3, c3, rfl, b3⟩ := o3.slice; have G3 := Lib.hid (((Gr.drew w).trans g2).trans (show Gr w2 wn from o3.below)); clear g2 o3 b3 hK
 go_simp
 refine wpG_c rfl rfl ?_
 intro w4 g4 K hK
 go_simp
 go_at_call 41
 refine (HDC.out w4 A3 c3).mono ?_
 rintro e wn ⟨bo, RR, rfl, g5, _, p5, m5⟩
 refine hK _ _ g5 ?_; have G5 := Lib.hid (G3.out.trans (g4.trans g5)); have P5 : Hid (Pgo w0 L.kb wn bo 2 2 RR) := ⟨p5.o.base (HH.out.gr (G3.out.trans g4)).ms.below, p5.q⟩; have M5 := Lib.hid m5; have hbo : w.heap.size ≤ bo := Nat.le_trans (G3.out.trans g4).size (by assumption); clear g4 g5 p5 m5 hK
 go_simp
 iterate 5
  refine wPe rfl rfl ?_
  apply Exists.intro
  refine ⟨fun wq => ?_, ?_⟩
  · unfold pLa
    go_simp
    first | exact rfl | exact ⟨rfl, rfl⟩
  go_simp
 refine wNi ?_
 intro w6 g6
 have G6 := Lib.hid (G5.out.trans g6)
 have P6 := Lib.hid (P5.out.mono g6)
 have hRR : ∃ y0 y1, RR = [y0, y1] ∧ y0.l = [] ∧ y1.l = [] := by
  match RR, M5.out with
  | [y0, y1], hh =>
   injection hh with e1 hh
   injection hh with e2 _
   exact ⟨y0, y1, rfl, e1, e2⟩
 obtain ⟨y0, y1, rfl, e0, e1⟩ := hRR
 have hn0 : y0.n = 0 := by have := (P6.out.q y0 List.mem_cons_self).b.len; rw [e0] at this; simpa using this.symm
 have hn1 : y1.n = 0 := by have := (P6.out.q y1 (List.mem_cons_of_mem _ List.mem_cons_self)).b.len; rw [e1] at this; simpa using this.symm
 obtain ⟨ya0, yn0, yc0, yl0⟩ := y0
 obtain ⟨ya1, yn1, yc1, yl1⟩ := y1
 simp only at hn0 hn1 e0 e1
 subst hn0 hn1 e0 e1
 clear M5 P5 g6
 have c0 : w6.cell? ⟨bo, 0, none⟩ = some (.slice ya0 0 yc0) := P6.out.cell (k := 0) rfl
 have k0 := (HW.out.mono G6.out).cell 0
 obtain ⟨s1, s2, s3, s4, s5, s6⟩ := (HH.out.gr G6.out).cells
 go_wp2_with fail
 refine wp_loop_rounds 3 ?_
 rw [rounds_succ]
 go_wp2_with fail
 refine (HC1.out w6).mono ?_
 rintro e w7 ⟨rfl, g7⟩
 have G67 := Lib.hid (show Gr w6 w7 from g7)
 have HK7 := Lib.hid (HK1.out w7 (G6.out.trans G67.out) ya0 yc0)
 clear g7
 go_wp2_with fail
 refine HK7.out.mono ?_
 rintro e w8 ⟨rfl, g8⟩
 have G68 := Lib.hid (G67.out.trans g8)
 have G8 := Lib.hid (G6.out.trans G68.out)
 have P8 := Lib.hid (P6.out.mono G68.out)
 clear g8 c0 k0 s1 s2 s3 s4 s5 s6
 have c0 : w8.cell? ⟨bo, 0, none⟩ = some (.slice ya0 0 yc0) := P8.out.cell (k := 0) rfl
 have f0 := P8.out.o.1.frozenAt 0
 go_upto_region 11 with fail
 obtain ⟨w9, hw9⟩ : ∃ w9, w9 = w8.setCell ⟨bo, 0, none⟩ (.slice none 0 0) := ⟨_, rfl⟩
 rw [← hw9]
 have P9 : Hid (Pgo w0 L.kb w9 bo 2 2 [⟨none, 0, 0, []⟩, ⟨ya1, 0, yc1, []⟩]) := by show Pgo _ _ _ _ _ _ _; rw [hw9]; exact P8.out.set 0 ⟨none, 0, 0, []⟩ (QB.nil _ _)
 have G9 : Hid (Gr w w9) := Tch.below (S := fun z => z = bo) G8.out (by rw [hw9]; exact Tch.set ⟨bo, 0, none⟩ _ rfl) G8.out.size (fun z e => e ▸ hbo)
 clear c0 f0 hw9
 have c1 : w9.cell? ⟨bo, 1, none⟩ = some (.slice ya1 0 yc1) := P9.out.cell (k := 1) rfl
 have k0 := (HW.out.mono G9.out).cell 0
 obtain ⟨s1, s2, s3, s4, s5, s6⟩ := (HH.out.gr G9.out).cells
 go_wp2_with fail
 rw [rounds_succ]
 go_wp2_with fail
 refine (HC2.out w9).mono ?_
 rintro e wa ⟨rfl, ga⟩
 have Ga := Lib.hid (G9.out.trans (show Gr w9 wa from ga))
 have Pa := Lib.hid (P9.out.mono ga)
 have HKa := Lib.hid (HK2.out wa Ga.out ya1 yc1)
 clear ga
 go_wp2_with fail
 refine HKa.out.mono ?_
 rintro e wb ⟨KA2, kc2, rfl, fb⟩
 obtain ⟨A', c', hwk, BA, bc, hpw, hnb⟩ := fb.wk
 have HNBK : Hid (∀ z, (Value.slice A' 1 c').ownBlock = some z → w.heap.size ≤ z) := fun z q => Nat.le_trans Ga.out.size (hnb z q)
 have hbb : bo ≠ b := fun e => by
  obtain ⟨cs, z⟩ := HH.out.fp.o.blk_at (b := b) rfl
  have := z.lt
  omega
 have Sb : Hid (NdS w0 L ((m.draw).seal m.key [7]) (n + 4) x vl next due vk pt ps b c R pw mb TA tc A' c' 1 _ KA2 NA kc2 nc m.key nxt bo _ wb) := ⟨fb.tp, fb.ke, (HN.out.mono Ga.out).kx fb.kx (fun z e => by subst e; exact ⟨_, _, HW.out.mono Ga.out, by unfold tyB; decide⟩), hwk, hpw, Pa.out.kx fb.kx fb.tp.ms.below (fun z e => by
  subst e
  refine ⟨fun q => ?_, _, _, HW.out.mono Ga.out, by unfold tyB; decide⟩
  obtain ⟨cs, z2⟩ := Pa.out.o.blk_at (b := bo) rfl
  rw [← q] at z2
  exact absurd (bTy z2 (HW.out.mono Ga.out)) (by decide)), hbb⟩
 have KXb := Lib.hid ((KX.gr Ga.out).trans fb.kx)
 clear fb hwk hpw hnb c1 k0 s1 s2 s3 s4 s5 s6
 have c1 : wb.cell? ⟨bo, 1, none⟩ = some (.slice ya1 0 yc1) := Sb.out.pr.cell (k := 1) rfl
 have f1 := Sb.out.pr.o.1.frozenAt 1
 go_upto_region 11 with fail
 obtain ⟨wc, hwc⟩ : ∃ wc, wc = wb.setCell ⟨bo, 1, none⟩ (.slice none 0 0) := ⟨_, rfl⟩
 rw [← hwc]
 have Sc := Lib.hid (Sb.out.set 1 ⟨none, 0, 0, []⟩ (QB.nil _ _))
 have Tc : Hid (Tch (fun z => z = bo) wb wc) := by show Tch _ _ _; rw [hwc]; exact Tch.set ⟨bo, 1, none⟩ _ rfl
 have hv0 : (BRow.mk none 0 0 []).v = .slice none 0 0 := rfl
 rw [hv0, ← hwc] at Sc
 clear c1 f1 hwc Sb
 have k0 := Sc.out.wk.cell 0
 obtain ⟨s1, s2, s3, s4, s5, s6⟩ := Sc.out.tp.cells
 have HSE := Lib.hid (Sc.out.tp.ms.seal Sc.out.tp.ok Sc.out.tp.n9 NA KA2 nc 32 kc2 nxt m.key Sc.out.nx.b Sc.out.ke (by decide))
 obtain ⟨z1, hz1⟩ : ∃ z1, z1 = sealB ((m.draw).seal m.key [7]).T nxt m.key := ⟨_, rfl⟩
 rw [← hz1, show 32 + 48 = 80 from rfl] at HSE
 have HZ1 := Lib.hid hz1
 clear hz1
 go_wp2_with fail
 refine HSE.out.mono ?_
 rintro e wd ⟨SA, sc, rfl, od, md, kd⟩
 have Qd := Lib.hid (QB.own (kb := L.kb) od)
 have hz80 : z1.length = 80 := by have := Qd.out.b.len; omega
 have Sd := Lib.hid (Sc.out.kq kd md (Sc.out.tp.ok.seal (by have := Sc.out.nx.b.len; omega) (by rw [key_len]; decide)) (by omega))
 have Kd := Lib.hid kd
 clear od md kd k0 s1 s2 s3 s4 s5 s6 HSE
 have c1 : wd.cell? ⟨bo, 1, none⟩ = some (.slice none 0 0) := Sd.out.pr.cell (k := 1) rfl
 have f1 := Sd.out.pr.o.1.frozenAt 1
 have HLE := Lib.hid (show ∀ wx : World, Gr wx wx from fun wx => Gr.refl wx)
 go_wp2_with fail
 obtain ⟨we, hwe⟩ : ∃ we, we = wd.setCell ⟨bo, 1, none⟩ (.slice SA 80 sc) := ⟨_, rfl⟩
 rw [← hwe]
 have Se := Lib.hid (Sd.out.set 1 ⟨SA, 80, sc, z1⟩ Qd.out)
 have Te : Hid (Tch (fun z => z = bo) wd we) := by show Tch _ _ _; rw [hwe]; exact Tch.set ⟨bo, 1, none⟩ _ rfl
 have hv1 : (BRow.mk SA 80 sc z1).v = .slice SA 80 sc := rfl
 rw [hv1, ← hwe] at Se
 clear c1 f1 hwe Sd HLE
 have hss : ∃ sl : Sl we (some ⟨bo, 0, none⟩) 2 2 1 ([(⟨none, 0, 0, []⟩ : BRow), ⟨SA, 80, sc, z1⟩].map BRow.v), True := by
  obtain ⟨_, _, hv, sl⟩ := Se.out.pr.o.slice
  injection hv with e1 _ e2
  subst e1 e2
  exact ⟨sl, trivial⟩
 obtain ⟨sl, _⟩ := hss
 have HEN := Lib.hid (nodeEncode_any geo213 (some ⟨bo, 0, none⟩) 2 2 [⟨none, 0, 0, []⟩, ⟨SA, 80, sc, z1⟩] rfl sl (fun r hr => (Se.out.pr.q r hr).b) (fun r hr => by
  rcases List.mem_cons.1 hr with q | hr
  · rw [q]; rfl
  · rw [List.mem_singleton.1 hr]; rfl) rfl)
 rw [show ([(⟨none, 0, 0, []⟩ : BRow), ⟨SA, 80, sc, z1⟩].map BRow.l) = [[], z1] from rfl] at HEN
 obtain ⟨NB, hNB⟩ : ∃ NB, NB = rowsE [[], z1] := ⟨_, rfl⟩
 rw [← hNB] at HEN
 have HNB : Hid (NB = ndB m nxt) := by show _ = _; rw [hNB, HZ1.out]; rfl
 clear hNB sl
 have k0 := Se.out.wk.cell 0
 obtain ⟨s1, s2, s3, s4, s5, s6⟩ := Se.out.tp.cells
 rw [rounds_succ]
 go_wp2_with fail
 refine HEN.out.mono ?_
 rintro e wf ⟨vf, rfl, of⟩
 obtain ⟨DA, dc, rfl, _⟩ := of.slice
 have Gf := Lib.hid (show Gr we wf from of.below)
 have Qf := Lib.hid (QB.own (kb := L.kb) of)
 have Sf := Lib.hid (Se.out.gr of.below)
 clear of k0 s1 s2 s3 s4 s5 s6
 have HPU := Lib.hid (workPut_any Sf.out.wk Sf.out.pg.o hge (by decide) 0 DA NB.length dc)
 go_wp2_with fail
 refine HPU.out.mono ?_
 rintro e wg ⟨rfl, vo, pf⟩
 have PF := Lib.hid pf
 clear pf
 go_wp2_with fail
 go_ret
 obtain ⟨A2, c2, rfl, _⟩ := PF.out.o.slice
 have hty : ∀ z, (z = pw ∨ (Value.slice A' 1 c').ownBlock = some z) → w0.heap.size ≤ z ∧ ∃ t cs, Blk wf z t cs ∧ (t = 96 ∨ t = 188) := fun z q => by
  rcases q with q | q
  · subst q; exact ⟨hge, _, _, Sf.out.wk, .inl rfl⟩
  · obtain ⟨cs, z2⟩ := Sf.out.pg.o.blk_at q
    exact ⟨Sf.out.pg.o.ge q, _, _, z2, .inr rfl⟩
 have hB : ∀ z, (z = pw ∨ (Value.slice A' 1 c').ownBlock = some z) → ∃ t cs, Blk wf z t cs ∧ ¬ tyB t := fun z q => by
  obtain ⟨_, t, cs, z2, ht⟩ := hty z q
  refine ⟨t, cs, z2, ?_⟩
  rcases ht with e | e <;> subst e <;> unfold tyB <;> decide
 have Mg : MSt w0 L (((m.draw).seal m.key [7]).seal nxt m.key) wg := Sf.out.tp.ms.off PF.out.t (fun z q => (hty z q).1) (fun z q => by
  obtain ⟨_, t, cs, z2, ht⟩ := hty z q
  refine ⟨t, cs, z2, ?_⟩
  rcases ht with e | e <;> subst e <;> unfold tyA tyM <;> decide)
 refine ⟨rfl, ⟨(Sf.out.tp.kx (KX.tch PF.out.t) Mg Sf.out.tp.ok Sf.out.tp.n9 (fun z q => by
  obtain ⟨_, t, cs, z2, ht⟩ := hty z q
  refine ⟨t, cs, z2, ?_⟩
  rcases ht with e | e <;> subst e <;> exact ⟨by decide, by decide, .inl (by decide), by unfold tyB; decide⟩)).le (by omega) (by omega), ⟨A2, c2, BA, bc, DA, dc, PF.out.wk, ⟨?_, fun r hr => ?_⟩⟩, ?_⟩⟩
 · rw [← HNB.out]; exact PF.out.o
 · rcases List.mem_cons.1 hr with q | hr
   · rw [q]
     exact (Sf.out.pg.q _ List.mem_cons_self).tchT PF.out.t hB
   · rw [List.mem_singleton.1 hr, ← HNB.out]
     exact Qf.out.tchT PF.out.t hB
 · have k1 : KX (fun z => z = pw ∨ z = bo) L.kb w wc := (KXb.out.wide (fun z _ e => .inl e)).trans ((KX.tch Tc.out).wide (fun z _ e => .inr e))
   have k2 : KX (fun z => z = pw ∨ z = bo) L.kb w wf := ((k1.trans (KX.kq Kd.out)).trans ((KX.tch Te.out).wide (fun z _ e => .inr e))).trans (KX.gr Gf.out)
   have k3 : KX (fun z => z = pw ∨ z = bo ∨ (Value.slice A' 1 c').ownBlock = some z) L.kb w wg := (k2.wide (fun z _ e => e.imp id .inl)).trans ((KX.tch PF.out.t).wide (fun z _ e => e.imp id .inr))
   exact k3.wide (fun z hz e => by
    rcases e with e | e | e
    · exact e
    · omega
    · have := HNBK.out z e
      omega)
end
end
end Go.Proofs.YtdkmlmbehlooiaaGreatDoor
