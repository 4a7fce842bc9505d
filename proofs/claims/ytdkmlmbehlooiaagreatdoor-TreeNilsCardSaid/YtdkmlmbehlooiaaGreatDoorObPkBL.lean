/- Own texts, one behind the other. No condition. -/
import Derived.Test.YtdkmlmbehlooiaaGreatDoorObPkBK
set_option linter.unusedVariables false
set_option linter.unusedSimpArgs false
namespace Go.Proofs.YtdkmlmbehlooiaaGreatDoor
section
open Go.RowKit
section
variable {w0 w w' : World} {L : Pl} {m : Mc} {n : Nat} {a d l : Int}
abbrev stoC0 (L : Pl) (a d l : Int) : Array Value := #[.pointer (some ⟨L.dp, 0, none⟩), .pointer (some ⟨L.p, 0, none⟩), .int .i64 a, .int .i64 d, .int .i64 l, .int .u64 0, .int .i64 0, .int .u64 0, .pointer none, .int .i64 0, .slice none 0 0, .bool true, .bool false]
abbrev opF (pd pS pg pv pb : Nat) : Array Value := #[.func (.func 61) #[] #[.pointer (some ⟨pd, 0, none⟩), .pointer (some ⟨pS, 0, none⟩), .pointer (some ⟨pg, 0, none⟩), .pointer (some ⟨pv, 0, none⟩)], .func (.func 63) #[] #[.pointer (some ⟨pd, 0, none⟩), .pointer (some ⟨pS, 0, none⟩), .pointer (some ⟨pg, 0, none⟩), .pointer (some ⟨pv, 0, none⟩)], .func (.func 65) #[] #[.pointer (some ⟨pd, 0, none⟩), .pointer (some ⟨pS, 0, none⟩), .pointer (some ⟨pg, 0, none⟩), .pointer (some ⟨pv, 0, none⟩), .pointer (some ⟨pb, 0, none⟩)]]
theorem openWorld (w w1 : World) (pd pS pg : Nat) (g1 : Gr w w1) (L : Pl) (a d l : Int)
 (hd : Blk w1 pd 26 [.pointer (some ⟨L.dp, 0, none⟩)]) (hS : Blk w1 pS 31 [.pointer (some ⟨L.p, 0, none⟩)]) (hg : Blk w1 pg 23 [.int .i64 a, .int .i64 d, .int .i64 l]) (wC : World)
 (hC : wC = (w1.alloc (.cells (stoC0 L a d l) 111)).alloc (.cells #[.pointer (some ⟨w1.heap.size, 0, none⟩)] 63)) :
 Gr w wC ∧ OpI L a d l spr0 (.pointer none) (.slice none 0 0) 0 true false w1.heap.size (w1.heap.size + 1) pd pS pg wC ∧ wC.heap.size = w1.heap.size + 2 := by
 have GC : Gr w1 wC := by rw [hC]; exact (Gr.alloc _ _).trans (Gr.alloc _ _)
 have sB : Blk wC w1.heap.size 111 (storeC L a d l spr0 (.pointer none) 0 (.slice none 0 0) true false) := by rw [hC]; exact (Blk.new w1 _ (stoC0 L a d l)).alloc _
 have vB : Blk wC (w1.heap.size + 1) 63 [.pointer (some ⟨w1.heap.size, 0, none⟩)] := by rw [hC]; exact heap_alloc2_new w1 _ _
 refine ⟨g1.trans GC, ⟨hd.mono GC, hS.mono GC, hg.mono GC, vB, sB⟩, ?_⟩
 rw [hC, World.size_alloc, World.size_alloc]
set_option maxRecDepth 100000 in
set_option maxHeartbeats 4000000 in
theorem storeOpenBad_any (h : MSt w0 L m w) (f : Fit m a d l) (ho : m.Ok n) (hn : n ≤ 900) (hd : m.d.down = false) (hp : m.d.pend = []) (hX : superR m.S a d l m.d.kept = none) :
 Calls Tryz.prog 23 #[.pointer (some ⟨L.dp, 0, none⟩), .pointer (some ⟨L.p, 0, none⟩), .agg #[.int .i64 a, .int .i64 d, .int .i64 l]] w fun e w' => e = .returned (.tuple #[.pointer none, .int .i64 11]) ∧ MSt w0 L m w' ∧ Gr w w' := by
 obtain ⟨W, hW⟩ : ∃ W, W = ((w.alloc (.cells #[.pointer (some ⟨L.dp, 0, none⟩)] 26)).alloc (.cells #[.pointer (some ⟨L.p, 0, none⟩)] 31)).alloc (.cells #[.int .i64 a, .int .i64 d, .int .i64 l] 23) := ⟨_, rfl⟩
 have g0 : Gr w W := by rw [hW]; exact ((Gr.alloc _ _).trans (Gr.alloc _ _)).trans (Gr.alloc _ _)
 have d0 : Blk W w.heap.size 26 [.pointer (some ⟨L.dp, 0, none⟩)] := by rw [hW]; exact ((Blk.new w _ _).alloc _).alloc _
 have s0 : Blk W (w.heap.size + 1) 31 [.pointer (some ⟨L.p, 0, none⟩)] := by rw [hW]; exact (show Blk ((w.alloc (.cells #[.pointer (some ⟨L.dp, 0, none⟩)] 26)).alloc (.cells #[.pointer (some ⟨L.p, 0, none⟩)] 31)) (w.heap.size + 1) 31 [.pointer (some ⟨L.p, 0, none⟩)] from heap_alloc2_new w _ _).alloc _
 have q0 : Blk W (w.heap.size + 1 + 1) 23 [.int .i64 a, .int .i64 d, .int .i64 l] := by
  rw [hW]
  have := Blk.new ((w.alloc (.cells #[.pointer (some ⟨L.dp, 0, none⟩)] 26)).alloc (.cells #[.pointer (some ⟨L.p, 0, none⟩)] 31)) 23 #[.int .i64 a, .int .i64 d, .int .i64 l]
  rwa [World.size_alloc, World.size_alloc] at this
 have G0 := Lib.hid g0; have D0 := Lib.hid d0; have S0 := Lib.hid s0; have Q0 := Lib.hid q0; have HW := Lib.hid hW
 have HRI := Lib.hid (storeRight_any (h.mono g0) f)
 have HST := Lib.hid (fun (w2 : World) (g : Gr w w2) (bs ps pv pd pS pg pb : Nat) (hge : w.heap.size ≤ ps) (hgb : w.heap.size ≤ pb) (hb : OpI L a d l spr0 (.pointer none) (.slice none 0 0) 0 true false ps pv pd pS pg w2) (hpb : Blk w2 pb 112 [.slice none 0 0]) (hst : Blk w2 bs 164 (opF pd pS pg pv pb).toList) => openBad_any bs w2 (h.mono g) f ho hn hd hp (Nat.le_trans h.below.size hge) hX 63 65 #[] #[.pointer (some ⟨pd, 0, none⟩), .pointer (some ⟨pS, 0, none⟩), .pointer (some ⟨pg, 0, none⟩), .pointer (some ⟨pv, 0, none⟩)] #[] #[.pointer (some ⟨pd, 0, none⟩), .pointer (some ⟨pS, 0, none⟩), .pointer (some ⟨pg, 0, none⟩), .pointer (some ⟨pv, 0, none⟩), .pointer (some ⟨pb, 0, none⟩)] (enters_of Tryz.func63 (by kernel_rfl) rfl) (enters_of Tryz.func65 (by kernel_rfl) rfl) hb hst)
 clear hW g0 d0 s0 q0 h f ho hd hp hX
 go_enter Tryz.func23, Tryz.ntmps23
 go_upto_region 1 with fail
 rw [← HW.out]
 have k0 := D0.out.cell 0
 have k1 := S0.out.cell 0
 have y0 := Q0.out.cell 0
 have y1 := Q0.out.cell 1
 have y2 := Q0.out.cell 2
 go_wp2_with fail
 refine HRI.out.mono ?_
 rintro e w1 ⟨rfl, g1⟩
 have G1 := Lib.hid (G0.out.trans g1)
 have D1 := Lib.hid (D0.out.mono g1); have S1 := Lib.hid (S0.out.mono g1)
 have Q1 := Lib.hid (Q0.out.mono g1)
 clear g1 k0 k1 y0 y1 y2
 have k0 := D1.out.cell 0
 have k1 := S1.out.cell 0
 have y0 := Q1.out.cell 0
 have y1 := Q1.out.cell 1
 have y2 := Q1.out.cell 2
 go_upto_region 5 with fail
 obtain ⟨wC, hC⟩ : ∃ wC, wC = (w1.alloc (.cells #[.pointer (some ⟨L.dp, 0, none⟩), .pointer (some ⟨L.p, 0, none⟩), .int .i64 a, .int .i64 d, .int .i64 l, .int .u64 0, .int .i64 0, .int .u64 0, .pointer none, .int .i64 0, .slice none 0 0, .bool true, .bool false] 111)).alloc (.cells #[.pointer (some ⟨w1.heap.size, 0, none⟩)] 63) := ⟨_, rfl⟩
 obtain ⟨gC, oC, eC⟩ := openWorld w w1 _ _ _ G1.out L a d l D1.out S1.out Q1.out wC hC
 rw [← hC]
 have hps : w.heap.size ≤ w1.heap.size := G1.out.size
 have GC := Lib.hid gC; have OC := Lib.hid oC
 have v0 := oC.fv.cell 0
 clear hC k0 k1 y0 y1 y2 gC oC
 generalize w1.heap.size = ps at *
 go_wp2_with fail
 obtain ⟨wE, hE⟩ : ∃ wE, wE = (wC.alloc (.cells #[.slice none 0 0] 112)).alloc (.cells (opF w.heap.size (w.heap.size + 1) (w.heap.size + 1 + 1) (ps + 1) (ps + 2)) 164) := ⟨_, rfl⟩
 have gE : Gr wC wE := by rw [hE]; exact (Gr.alloc _ _).trans (Gr.alloc _ _)
 have bE : Blk wE (ps + 2 + 1) 164 (opF w.heap.size (w.heap.size + 1) (w.heap.size + 1 + 1) (ps + 1) (ps + 2)).toList := by
  rw [hE]
  have := heap_alloc2_new wC (.cells #[.slice none 0 0] 112) (.cells (opF w.heap.size (w.heap.size + 1) (w.heap.size + 1 + 1) (ps + 1) (ps + 2)) 164)
  rw [eC] at this
  exact this
 have pE : Blk wE (ps + 2) 112 [.slice none 0 0] := by
  rw [hE]
  have := Blk.new wC 112 #[.slice none 0 0]
  rw [eC] at this
  exact this.alloc _
 have HS2 := Lib.hid (HST.out wE (GC.out.trans gE) (ps + 2 + 1) ps (ps + 1) _ _ _ (ps + 2) hps (by omega) (OC.out.gr gE) pE bE)
 have GE := Lib.hid (GC.out.trans gE); have OE := Lib.hid (OC.out.gr gE); have PE := Lib.hid pE
 unfold opF at hE
 rw [← hE]
 clear hE gE bE pE v0
 refine HS2.out.mono ?_
 rintro e wF ⟨q, rfl, hi, he⟩
 have hq : q ≠ 0 := fun e => (hi e).elim
 obtain ⟨rfl, i1, i2⟩ := he hq
 have I1 := Lib.hid i1; have I2 := Lib.hid i2
 clear hi he hq i1 i2
 go_wp2_with fail
 go_ret2
 exact ⟨rfl, I1.out, Tch.below GE.out I2.out GE.out.size (fun z e => by rw [e]; exact hps)⟩
theorem own_map {A : Option Addr} {n c b : Nat} (h : A.map (·.block) = some b) : (Value.slice A n c).ownBlock = some b := by
 cases A with
 | none => cases h
 | some z => exact h
set_option maxRecDepth 100000 in
set_option maxHeartbeats 8000000 in
theorem storeOpen_any (h : MSt w0 L m w) (f : Fit m a d l) (ho : m.Ok n) (hn : n ≤ 900) (hd : m.d.down = false) (hp : m.d.pend = []) (N : Nat) (hN0 : 0 < N) (hN : (N : Int) = pagesI a d l) (X : Spr) (hX : superR m.S a d l m.d.kept = some X) (hl : X.life < 18446744073709551616) (hbs : X.base ≤ 1073741824) (hall : ∀ k, k < N → pgIs m a d l X.life k = true) (G : Nat) (hG : G < 18446744073709551616) (P : List (Nat × List UInt8)) (hP : TxnIs m a d l X.life X.base G P) :
 Calls Tryz.prog 23 #[.pointer (some ⟨L.dp, 0, none⟩), .pointer (some ⟨L.p, 0, none⟩), .agg #[.int .i64 a, .int .i64 d, .int .i64 l]] w fun e w' => ∃ ps b c R, e = .returned (.tuple #[.pointer (some ⟨ps, 0, none⟩), .int .i64 0]) ∧ MSt w0 L m w' ∧ Blk w' ps 111 (storeC L a d l ⟨X.life, X.base, G⟩ (.pointer none) ((X.base + (P.length + 1)) % l.toNat) (.slice (some ⟨b, 0, none⟩) N c) true false) ∧ Pgo w0 L.kb w' b c N R ∧ R.map BRow.l = putP ((List.range N).map (fun i => (pgR m a d l X.life i).1.body)) P ∧ N ≤ c ∧ c ≤ 9223372036854775807 ∧ w.heap.size ≤ ps ∧ w.heap.size ≤ b ∧ Gr w w' := by
 have hw0 : w0.heap.size ≤ w.heap.size := h.below.size
 obtain ⟨hl3, hl64⟩ := f.g.l
 have hPg := pgE a d l
 obtain ⟨Q, hQ⟩ : ∃ Q : Nat, Q = X.base + (P.length + 1) := ⟨_, rfl⟩
 obtain ⟨QR, hQR⟩ : ∃ QR : Nat, QR = Q % l.toNat := ⟨_, rfl⟩
 rw [← hQ, ← hQR]
 have hm : Int.tmod (Q : Int) l = (QR : Int) := by
  rw [hQR, show l = (l.toNat : Int) by omega, Int.toNat_natCast]
  exact (Int.ofNat_tmod Q l.toNat).symm
 have HQ := Lib.hid hQ; have HM := Lib.hid hm
 clear hQ hQR hm
 obtain ⟨W, hW⟩ : ∃ W, W = ((w.alloc (.cells #[.pointer (some ⟨L.dp, 0, none⟩)] 26)).alloc (.cells #[.pointer (some ⟨L.p, 0, none⟩)] 31)).alloc (.cells #[.int .i64 a, .int .i64 d, .int .i64 l] 23) := ⟨_, rfl⟩
 have g0 : Gr w W := by rw [hW]; exact ((Gr.alloc _ _).trans (Gr.alloc _ _)).trans (Gr.alloc _ _)
 have d0 : Blk W w.heap.size 26 [.pointer (some ⟨L.dp, 0, none⟩)] := by rw [hW]; exact ((Blk.new w _ _).alloc _).alloc _
 have s0 : Blk W (w.heap.size + 1) 31 [.pointer (some ⟨L.p, 0, none⟩)] := by rw [hW]; exact (show Blk ((w.alloc (.cells #[.pointer (some ⟨L.dp, 0, none⟩)] 26)).alloc (.cells #[.pointer (some ⟨L.p, 0, none⟩)] 31)) (w.heap.size + 1) 31 [.pointer (some ⟨L.p, 0, none⟩)] from heap_alloc2_new w _ _).alloc _
 have q0 : Blk W (w.heap.size + 1 + 1) 23 [.int .i64 a, .int .i64 d, .int .i64 l] := by
  rw [hW]
  have := Blk.new ((w.alloc (.cells #[.pointer (some ⟨L.dp, 0, none⟩)] 26)).alloc (.cells #[.pointer (some ⟨L.p, 0, none⟩)] 31)) 23 #[.int .i64 a, .int .i64 d, .int .i64 l]
  rwa [World.size_alloc, World.size_alloc] at this
 have G0 := Lib.hid g0; have D0 := Lib.hid d0; have S0 := Lib.hid s0; have Q0 := Lib.hid q0; have HW := Lib.hid hW
 have HRI := Lib.hid (storeRight_any (h.mono g0) f)
 have HST := Lib.hid (fun (w2 : World) (g : Gr w w2) (bs ps pv pd pS pg pb : Nat) (hge : w.heap.size ≤ ps) (hgb : w.heap.size ≤ pb) (hb : OpI L a d l spr0 (.pointer none) (.slice none 0 0) 0 true false ps pv pd pS pg w2) (hpb : Blk w2 pb 112 [.slice none 0 0]) (hst : Blk w2 bs 164 (opF pd pS pg pv pb).toList) => openSteps_any N bs w2 (h.mono g) f ho hn hd hp (Nat.le_trans hw0 hge) (Nat.le_trans hw0 hgb) hN0 hN X hX hl hbs hall G P hP hb hpb hst)
 have HNN := Lib.hid hN
 have HPL := Lib.hid hP.len; have HP0 := Lib.hid hP.pos; have HPA := Lib.hid hP.all
 clear hW g0 d0 s0 q0 h f ho hd hp hX hall hP
 go_enter Tryz.func23, Tryz.ntmps23
 go_upto_region 1 with fail
 rw [← HW.out]
 have k0 := D0.out.cell 0
 have k1 := S0.out.cell 0
 have y0 := Q0.out.cell 0
 have y1 := Q0.out.cell 1
 have y2 := Q0.out.cell 2
 go_wp2_with fail
 refine HRI.out.mono ?_
 rintro e w1 ⟨rfl, g1⟩
 have G1 := Lib.hid (G0.out.trans g1)
 have D1 := Lib.hid (D0.out.mono g1); have S1 := Lib.hid (S0.out.mono g1)
 have Q1 := Lib.hid (Q0.out.mono g1)
 clear g1 k0 k1 y0 y1 y2
 have k0 := D1.out.cell 0
 have k1 := S1.out.cell 0
 have y0 := Q1.out.cell 0
 have y1 := Q1.out.cell 1
 have y2 := Q1.out.cell 2
 go_upto_region 5 with fail
 obtain ⟨wC, hC⟩ : ∃ wC, wC = (w1.alloc (.cells #[.pointer (some ⟨L.dp, 0, none⟩), .pointer (some ⟨L.p, 0, none⟩), .int .i64 a, .int .i64 d, .int .i64 l, .int .u64 0, .int .i64 0, .int .u64 0, .pointer none, .int .i64 0, .slice none 0 0, .bool true, .bool false] 111)).alloc (.cells #[.pointer (some ⟨w1.heap.size, 0, none⟩)] 63) := ⟨_, rfl⟩
 obtain ⟨gC, oC, eC⟩ := openWorld w w1 _ _ _ G1.out L a d l D1.out S1.out Q1.out wC hC
 rw [← hC]
 have hps : w.heap.size ≤ w1.heap.size := G1.out.size
 have GC := Lib.hid gC; have OC := Lib.hid oC
 have v0 := oC.fv.cell 0
 clear hC k0 k1 y0 y1 y2 gC oC
 generalize w1.heap.size = ps at *
 go_wp2_with fail
 obtain ⟨wE, hE⟩ : ∃ wE, wE = (wC.alloc (.cells #[.slice none 0 0] 112)).alloc (.cells (opF w.heap.size (w.heap.size + 1) (w.heap.size + 1 + 1) (ps + 1) (ps + 2)) 164) := ⟨_, rfl⟩
 have gE : Gr wC wE := by rw [hE]; exact (Gr.alloc _ _).trans (Gr.alloc _ _)
 have bE : Blk wE (ps + 2 + 1) 164 (opF w.heap.size (w.heap.size + 1) (w.heap.size + 1 + 1) (ps + 1) (ps + 2)).toList := by
  rw [hE]
  have := heap_alloc2_new wC (.cells #[.slice none 0 0] 112) (.cells (opF w.heap.size (w.heap.size + 1) (w.heap.size + 1 + 1) (ps + 1) (ps + 2)) 164)
  rw [eC] at this
  exact this
 have pE : Blk wE (ps + 2) 112 [.slice none 0 0] := by
  rw [hE]
  have := Blk.new wC 112 #[.slice none 0 0]
  rw [eC] at this
  exact this.alloc _
 have HS2 := Lib.hid (HST.out wE (GC.out.trans gE) (ps + 2 + 1) ps (ps + 1) _ _ _ (ps + 2) hps (by omega) (OC.out.gr gE) pE bE)
 have GE := Lib.hid (GC.out.trans gE); have OE := Lib.hid (OC.out.gr gE); have PE := Lib.hid pE
 unfold opF at hE
 rw [← hE]
 clear hE gE bE pE v0
 refine HS2.out.mono ?_
 rintro e wF ⟨q, rfl, hi, he⟩
 have hq : q = 0 := by
  rcases (show q = 0 ∨ q ≠ 0 by omega) with z | z
  · exact z
  · exact (he z).elim
 subst hq
 obtain ⟨b, c, R, A, c1, A', c', R', i1, i2, i3, i4, i5, i6, i7, i8, i9⟩ := hi rfl
 have I1 := Lib.hid i1; have I2 := Lib.hid i2; have I3 := Lib.hid i3; have I4 := Lib.hid i4; have I8 := Lib.hid i8
 have GF : Hid (Gr w wF) := Tch.below GE.out i9 GE.out.size (fun z e => by
  rcases e with e | e
  · rw [e]; exact hps
  · omega)
 clear hi he i1 i2 i3 i4 i8 i9
 go_upto_region 9 with fail
 refine wrG (by kernel_rfl) [0, 0, 2, 6, 14, 30, 63, 127, 255] [.q 0, .q 1, .p 2, .p 3, .p 4, .q 5, .p 6, .p 7, .s 8] (by kernel_rfl) (trivial) ?_
 iterate 2
  refine wQe rfl rfl ?_
  apply Exists.intro
  refine ⟨fun wq hq => ?_, ?_⟩
  · have v0 := (I2.out.gr ((Gr.drew _).trans hq)).fv.cell 0
    unfold pLa
    go_simp
    first | exact rfl | exact ⟨rfl, rfl⟩
  go_simp
 iterate 3
  refine wPe rfl rfl ?_
  apply Exists.intro
  refine ⟨fun wq => ?_, ?_⟩
  · unfold pLa
    go_simp
    first | exact rfl | exact ⟨rfl, rfl⟩
  go_simp
 refine wQe rfl rfl ?_
 apply Exists.intro
 refine ⟨fun wq hq => ?_, ?_⟩
 · have x6 := (I2.out.gr ((Gr.drew _).trans hq)).fx.cell 6
   unfold pLa
   go_simp
   first | exact rfl | exact ⟨rfl, rfl⟩
 go_simp
 iterate 2
  refine wPe rfl rfl ?_
  apply Exists.intro
  refine ⟨fun wq => ?_, ?_⟩
  · unfold pLa
    go_simp
    first | exact rfl | exact ⟨rfl, rfl⟩
  go_simp
 refine wpG_s rfl rfl ?_
 intro w3 g3 K hK
 have G3 := Lib.hid ((Gr.drew wF).trans g3)
 have B3 := Lib.hid (I2.out.gr G3.out)
 have x9 := B3.out.fx.cell 9
 have f9 := Blk.free B3.out.fx 9
 clear g3
 go_simp
 refine hK _ _ ?_
 clear hK x9 f9
 go_simp
 obtain ⟨w4, hw4⟩ : ∃ w4, w4 = w3.setCell ⟨ps, 9, none⟩ (.int .i64 (X.base : Int)) := ⟨_, rfl⟩
 have S4 : Blk w4 ps 111 (storeC L a d l X (.pointer none) X.base (.slice (some ⟨b, 0, none⟩) N c) true false) := by rw [hw4]; exact B3.out.fx.set 9 _
 have T4 : Tch (fun z => z = ps) w3 w4 := by rw [hw4]; exact Tch.set ⟨ps, 9, none⟩ _ rfl
 rw [← hw4]
 clear hw4
 refine wNi ?_
 intro w5 g5
 have S5 := Lib.hid (S4.mono g5)
 have T5 : Hid (Tch (fun z => z = ps) wF w5) := ((Tch.gr G3.out).trans T4).trans (Tch.gr g5)
 have M5 : Hid (MSt w0 L m w5) := I1.out.off T5.out (fun z e => by omega) (fun z e => e ▸ ⟨_, _, I2.out.fx, tyA_store⟩)
 have B5 : Hid (OpI L a d l X (.pointer none) (.slice (some ⟨b, 0, none⟩) N c) X.base true false ps (ps + 1) w.heap.size (w.heap.size + 1) (w.heap.size + 1 + 1) w5) := I2.out.to T5.out S5.out
 clear S4 T4 g5
 have nps : ∀ {g : Nat} {t : TypeId} {cs : List Value}, Blk wF g t cs → t ≠ 111 → ¬ g = ps := fun hg hne e => by
  rw [e] at hg
  exact hne (bTy hg I2.out.fx)
 have PB5 : Hid (Blk w5 (ps + 2) 112 [.slice A 1 c1]) := I8.out.b.tch T5.out (nps I8.out.b (by decide))
 have TO5 : Own w0 w5 120 2 (.slice A 1 c1) 1 [.slice A' P.length c', .int .u64 (G : Int)] := I8.out.o.kx (KX.tch (kb := L.kb) T5.out) M5.out.below (by unfold tyM; decide) (by decide) (fun z e q => by
  obtain ⟨cs, z2⟩ := I8.out.o.blk_at q
  exact nps z2 (by decide) e)
 have TP5 : Hid (Pgw w0 L.kb w5 A' c' P.length R') := I8.out.p.kx (KX.tch T5.out) M5.out.below (fun z e => by subst e; exact ⟨_, _, I2.out.fx, by unfold tyB; decide, by decide⟩)
 have PG5 : Hid (Pgo w0 L.kb w5 b c N R) := I3.out.kx (KX.tch T5.out) M5.out.below (fun z e => by
  subst e
  refine ⟨fun q => ?_, _, _, I2.out.fx, by unfold tyB; decide⟩
  obtain ⟨cs, z2⟩ := I3.out.o.blk_at (b := b) rfl
  exact nps z2 (by decide) q.symm)
 have HRM := Lib.hid I8.out.m
 have hAA : ∃ bA oA, A = some ⟨bA, oA, none⟩ ∧ w5.cell? ⟨bA, oA, none⟩ = some (.slice A' P.length c') ∧ w5.cell? ⟨bA, oA + 1, none⟩ = some (.int .u64 (G : Int)) := by
  obtain ⟨_, _, hv, sl⟩ := TO5.slice
  injection hv with e1 _ e2
  subst e1 e2
  obtain ⟨bA, oA, e, hcc⟩ := Sl.addr sl (by decide)
  exact ⟨bA, oA, e, hcc 0 _ rfl, hcc 1 _ rfl⟩
 obtain ⟨bA, oA, rfl, z0, z1⟩ := hAA
 have k0 := PB5.out.cell 0
 clear nps TO5
 go_wp2_with fail
 refine wp_loop_rounds 2 ?_
 rw [rounds_succ]
 go_upto_region 13 with (refine wpList_store_row rfl 120 (.tmp 13) (.tmp 47) rfl w5.heap.size (txnC (.slice A' P.length c') G) rfl rfl 120 #[.slice none 0 0, .int .u64 0] (Blk.new w5 120 #[.slice none 0 0, .int .u64 0]) txnSize rfl (txnOne _ _ _ _) ?_)
 obtain ⟨w6, hw6⟩ : ∃ w6, w6 = (w5.alloc (.cells #[.slice none 0 0, .int .u64 0] 120)).setRow w5.heap.size (txnC (.slice A' P.length c') G) := ⟨_, rfl⟩
 have G6 : Hid (Gr w5 w6) := by
  show Gr _ _
  rw [hw6]
  exact (Tch.row (S := fun b => b = w5.heap.size) (w := w5.alloc (.cells #[.slice none 0 0, .int .u64 0] 120)) (g := w5.heap.size) rfl (txnC (.slice A' P.length c') G)).below (Gr.alloc _ _) (Gr.alloc w5 _).size (fun b e => e ▸ Nat.le_refl _)
 have TX6 : Hid (Blk w6 w5.heap.size 120 [.slice A' P.length c', .int .u64 (G : Int)]) := by
  show Blk _ _ _ _
  rw [hw6]
  exact setRow_heap _ w5.heap.size _ (txnC (.slice A' P.length c') G) _ _ (Blk.new w5 _ #[.slice none 0 0, .int .u64 0])
 rw [← hw6]
 have ht : w.heap.size ≤ w5.heap.size := Nat.le_trans GF.out.size T5.out.size
 have hPl : P.length ≤ 64 := by have := HPL.out; omega
 have hN264 : N ≤ 264 := by have := HNN.out; omega
 have HPT := Lib.hid (storePut_any (M5.out.mono G6.out) (B5.out.gr G6.out).fx R (PG5.out.mono G6.out) i6 i5 A' P.length c' R' (TP5.out.mono G6.out).pgw (fun y hy => by
  have hm : (y.k, y.r.l) ∈ P := by rw [← HRM.out]; exact List.mem_map.2 ⟨y, hy, rfl⟩
  obtain ⟨k, hk⟩ := List.getElem?_of_mem hm
  have := (HPA.out k _ hk).2.1
  have hn := HNN.out
  have e : ((y.k, y.r.l) : Nat × List UInt8).1 = y.k := rfl
  rw [e] at this
  omega) (fun y hy => by
  have hm : (y.k, y.r.l) ∈ P := by rw [← HRM.out]; exact List.mem_map.2 ⟨y, hy, rfl⟩
  obtain ⟨k, hk⟩ := List.getElem?_of_mem hm
  have h1 := (HPA.out k _ hk).2.2
  have h2 := (TP5.out.q y hy).b.len
  have e : ((y.k, y.r.l) : Nat × List UInt8).2 = y.r.l := rfl
  rw [e] at h1
  have h3 : y.r.l.length = y.r.n := by simpa using h2
  omega) (by omega) hN264 (fun b' e q => by
  obtain ⟨cs, z1⟩ := TP5.out.o.blk_at (own_map e)
  obtain ⟨cs2, z2⟩ := PG5.out.o.blk_at (b := b) rfl
  rw [q] at z1
  exact absurd (bTy z1 z2) (by decide)))
 have B6 := Lib.hid (B5.out.gr G6.out)
 clear hw6 k0 z0 z1
 generalize w5.heap.size = pt at *
 have v0 := B6.out.fv.cell 0
 have t0 := TX6.out.cell 0
 go_wp2_with fail
 refine HPT.out.mono ?_
 rintro e w7 ⟨⟨vv, rfl⟩, m7, ⟨R2, p7, hb7⟩, T7⟩
 have nb : ∀ {g : Nat} {t : TypeId} {cs : List Value}, Blk w6 g t cs → t ≠ 36 → ¬ g = b := fun hg hne e => by
  obtain ⟨cs2, z2⟩ := (PG5.out.mono G6.out).o.blk_at (b := b) rfl
  rw [e] at hg
  exact hne (bTy hg z2)
 have M7 := Lib.hid m7; have P7 := Lib.hid p7; have HB7 := Lib.hid hb7
 have B7 : Hid (OpI L a d l X (.pointer none) (.slice (some ⟨b, 0, none⟩) N c) X.base true false ps (ps + 1) w.heap.size (w.heap.size + 1) (w.heap.size + 1 + 1) w7) := ⟨B6.out.fd.tch T7 (nb B6.out.fd (by decide)), B6.out.fs.tch T7 (nb B6.out.fs (by decide)), B6.out.fg.tch T7 (nb B6.out.fg (by decide)), B6.out.fv.tch T7 (nb B6.out.fv (by decide)), B6.out.fx.tch T7 (nb B6.out.fx (by decide))⟩
 have X7 := Lib.hid (TX6.out.tch T7 (nb TX6.out (by decide)))
 have TT7 := Lib.hid T7
 clear v0 t0 m7 p7 hb7 T7 nb
 have v0 := B7.out.fv.cell 0
 have t1 := X7.out.cell 1
 have x7 := B7.out.fx.cell 7
 have f7 := Blk.free B7.out.fx 7
 go_upto_region 15 with fail
 obtain ⟨w8, hw8⟩ : ∃ w8, w8 = w7.setCell ⟨ps, 7, none⟩ (.int .u64 (G : Int)) := ⟨_, rfl⟩
 rw [← hw8]
 have T8 : Hid (Tch (fun z => z = ps) w7 w8) := by show Tch _ _ _; rw [hw8]; exact Tch.set ⟨ps, 7, none⟩ _ rfl
 have B8 : Hid (OpI L a d l ⟨X.life, X.base, G⟩ (.pointer none) (.slice (some ⟨b, 0, none⟩) N c) X.base true false ps (ps + 1) w.heap.size (w.heap.size + 1) (w.heap.size + 1 + 1) w8) := B7.out.to T8.out (by rw [hw8]; exact B7.out.fx.set 7 _)
 have M8 : Hid (MSt w0 L m w8) := M7.out.off T8.out (fun z e => by omega) (fun z e => e ▸ ⟨_, _, B7.out.fx, tyA_store⟩)
 have X8 := Lib.hid (X7.out.tch T8.out (fun e => by have := X7.out; rw [e] at this; exact absurd (bTy this B7.out.fx) (by decide)))
 have npb : ¬ ps = b := fun e => by
  obtain ⟨cs, z2⟩ := P7.out.o.blk_at (b := b) rfl
  rw [← e] at z2
  exact absurd (bTy z2 B7.out.fx) (by decide)
 have P8 : Hid (Pgo w0 L.kb w8 b c N R2) := P7.out.kx (KX.tch T8.out) M8.out.below (fun z e => by subst e; exact ⟨npb, _, _, B7.out.fx, by unfold tyB; decide⟩)
 clear v0 t1 x7 f7 hw8
 have hQ := HQ.out
 have wr1 : IntKind.i64.wrap ((P.length : Int) + 1) = (P.length : Int) + 1 := IntWalk.i64_in _ (by omega)
 have wr2 : IntKind.i64.wrap ((X.base : Int) + ((P.length : Int) + 1)) = (Q : Int) := by rw [IntWalk.i64_in _ (by omega)]; omega
 have hQ1 : Q ≤ 2147483648 := by omega
 clear hQ
 refine wrG (by kernel_rfl) [0, 1, 3, 7, 0, 16, 48, 112, 255, 511, 1023, 2047] [.p 4, .q 0, .p 1, .p 2, .q 3, .q 5, .p 6, .p 7, .p 8, .p 9, .p 10, .s 11] (by kernel_rfl) (trivial) ?_
 refine wPe rfl rfl ?_
 apply Exists.intro
 refine ⟨fun wq => ?_, ?_⟩
 · unfold pLa
   go_simp
   first | exact rfl | exact ⟨rfl, rfl⟩
 go_simp
 refine wQe rfl rfl ?_
 apply Exists.intro
 refine ⟨fun wq hq => ?_, ?_⟩
 · have v0 := (B8.out.gr ((Gr.drew _).trans hq)).fv.cell 0
   unfold pLa
   go_simp
   first | exact rfl | exact ⟨rfl, rfl⟩
 go_simp
 iterate 2
  refine wPe rfl rfl ?_
  apply Exists.intro
  refine ⟨fun wq => ?_, ?_⟩
  · unfold pLa
    go_simp
    first | exact rfl | exact ⟨rfl, rfl⟩
  go_simp
 refine wQe rfl rfl ?_
 apply Exists.intro
 refine ⟨fun wq hq => ?_, ?_⟩
 · have x9 := (B8.out.gr ((Gr.drew _).trans hq)).fx.cell 9
   unfold pLa
   go_simp
   first | exact rfl | exact ⟨rfl, rfl⟩
 go_simp
 refine wQe rfl rfl ?_
 apply Exists.intro
 refine ⟨fun wq hq => ?_, ?_⟩
 · have t0 := (X8.out.mono ((Gr.drew _).trans hq)).cell 0
   unfold pLa
   go_simp
   first | exact rfl | exact ⟨rfl, rfl⟩
 go_simp
 iterate 5
  refine wPe rfl rfl ?_
  apply Exists.intro
  refine ⟨fun wq => ?_, ?_⟩
  · unfold pLa
    go_simp
    first | exact rfl | exact ⟨rfl, rfl⟩
  go_simp
 refine wpG_s rfl rfl ?_
 intro w9 g9 K hK
 have G9 := Lib.hid ((Gr.drew w8).trans g9)
 have B9 := Lib.hid (B8.out.gr G9.out)
 have x9 := B9.out.fx.cell 9
 have f9 := Blk.free B9.out.fx 9
 clear g9
 go_simp
 refine hK _ _ ?_
 clear hK x9 f9
 go_simp
 obtain ⟨wa, hwa⟩ : ∃ wa, wa = w9.setCell ⟨ps, 9, none⟩ (.int .i64 (Q : Int)) := ⟨_, rfl⟩
 have Sa : Blk wa ps 111 (storeC L a d l ⟨X.life, X.base, G⟩ (.pointer none) Q (.slice (some ⟨b, 0, none⟩) N c) true false) := by rw [hwa]; exact B9.out.fx.set 9 _
 have Ta : Tch (fun z => z = ps) w9 wa := by rw [hwa]; exact Tch.set ⟨ps, 9, none⟩ _ rfl
 rw [← hwa]
 clear hwa
 refine wNi ?_
 intro wb gb
 have Tb : Hid (Tch (fun z => z = ps) w8 wb) := ((Tch.gr G9.out).trans Ta).trans (Tch.gr gb)
 have Bb : Hid (OpI L a d l ⟨X.life, X.base, G⟩ (.pointer none) (.slice (some ⟨b, 0, none⟩) N c) Q true false ps (ps + 1) w.heap.size (w.heap.size + 1) (w.heap.size + 1 + 1) wb) := B8.out.to Tb.out (Sa.mono gb)
 have Mb : Hid (MSt w0 L m wb) := M8.out.off Tb.out (fun z e => by omega) (fun z e => e ▸ ⟨_, _, B8.out.fx, tyA_store⟩)
 have Pb : Hid (Pgo w0 L.kb wb b c N R2) := P8.out.kx (KX.tch Tb.out) Mb.out.below (fun z e => by subst e; exact ⟨npb, _, _, B8.out.fx, by unfold tyB; decide⟩)
 clear Sa Ta gb wr1 wr2
 go_wp2_with fail
 rw [rounds_succ]
 go_upto_region 17 with fail
 have hm := HM.out
 have nz : (l == 0) = false := by rw [beq_eq_false_iff_ne]; omega
 have nz2 : ¬ (l = 0) := by omega
 have hqr : QR ≤ 64 := by
  have h1 := Int.tmod_lt_of_pos (Q : Int) (show (0 : Int) < l by omega)
  omega
 have wq : IntKind.i64.wrap (QR : Int) = (QR : Int) := IntWalk.i64_in _ (by omega)
 refine wrG (by kernel_rfl) [0, 1, 3, 7, 0, 16, 63, 127, 255, 511] [.p 4, .q 0, .p 1, .p 2, .q 3, .q 5, .p 6, .p 7, .p 8, .s 9] (by kernel_rfl) (trivial) ?_
 refine wPe rfl rfl ?_
 apply Exists.intro
 refine ⟨fun wq => ?_, ?_⟩
 · unfold pLa
   go_simp
   first | exact rfl | exact ⟨rfl, rfl⟩
 go_simp
 refine wQe rfl rfl ?_
 apply Exists.intro
 refine ⟨fun wq hq => ?_, ?_⟩
 · have v0 := (Bb.out.gr ((Gr.drew _).trans hq)).fv.cell 0
   unfold pLa
   go_simp
   first | exact rfl | exact ⟨rfl, rfl⟩
 go_simp
 iterate 2
  refine wPe rfl rfl ?_
  apply Exists.intro
  refine ⟨fun wq => ?_, ?_⟩
  · unfold pLa
    go_simp
    first | exact rfl | exact ⟨rfl, rfl⟩
  go_simp
 refine wQe rfl rfl ?_
 apply Exists.intro
 refine ⟨fun wq hq => ?_, ?_⟩
 · have x9 := (Bb.out.gr ((Gr.drew _).trans hq)).fx.cell 9
   unfold pLa
   go_simp
   first | exact rfl | exact ⟨rfl, rfl⟩
 go_simp
 refine wQe rfl rfl ?_
 apply Exists.intro
 refine ⟨fun wq hq => ?_, ?_⟩
 · have t0 := (Bb.out.gr ((Gr.drew _).trans hq)).fg.cell 2
   unfold pLa
   go_simp
   first | exact rfl | exact ⟨rfl, rfl⟩
 go_simp
 iterate 3
  refine wPe rfl rfl ?_
  apply Exists.intro
  refine ⟨fun wq => ?_, ?_⟩
  · unfold pLa
    go_simp
    first | exact rfl | exact ⟨rfl, rfl⟩
  go_simp
 refine wpG_s rfl rfl ?_
 intro wc gc K hK
 have Gc := Lib.hid ((Gr.drew wb).trans gc)
 have Bc := Lib.hid (Bb.out.gr Gc.out)
 have x9 := Bc.out.fx.cell 9
 have f9 := Blk.free Bc.out.fx 9
 clear gc
 go_simp
 refine hK _ _ ?_
 clear hK x9 f9
 go_simp
 obtain ⟨wd, hwd⟩ : ∃ wd, wd = wc.setCell ⟨ps, 9, none⟩ (.int .i64 (QR : Int)) := ⟨_, rfl⟩
 have Sd : Blk wd ps 111 (storeC L a d l ⟨X.life, X.base, G⟩ (.pointer none) QR (.slice (some ⟨b, 0, none⟩) N c) true false) := by rw [hwd]; exact Bc.out.fx.set 9 _
 have Td : Tch (fun z => z = ps) wc wd := by rw [hwd]; exact Tch.set ⟨ps, 9, none⟩ _ rfl
 rw [← hwd]
 clear hwd
 refine wNi ?_
 intro wz gz
 have Tz : Hid (Tch (fun z => z = ps) wb wz) := ((Tch.gr Gc.out).trans Td).trans (Tch.gr gz)
 have Bz : Hid (OpI L a d l ⟨X.life, X.base, G⟩ (.pointer none) (.slice (some ⟨b, 0, none⟩) N c) QR true false ps (ps + 1) w.heap.size (w.heap.size + 1) (w.heap.size + 1 + 1) wz) := Bb.out.to Tz.out (Sd.mono gz)
 have Mz : Hid (MSt w0 L m wz) := Mb.out.off Tz.out (fun z e => by omega) (fun z e => e ▸ ⟨_, _, Bb.out.fx, tyA_store⟩)
 have Pz : Hid (Pgo w0 L.kb wz b c N R2) := Pb.out.kx (KX.tch Tz.out) Mz.out.below (fun z e => by subst e; exact ⟨npb, _, _, Bb.out.fx, by unfold tyB; decide⟩)
 clear Sd Td gz hm wq
 have v0 := Bz.out.fv.cell 0
 go_wp2_with fail
 go_ret2
 refine ⟨ps, b, c, R2, rfl, Mz.out, Bz.out.fx, Pz.out, ?_, i5, i6, hps, Nat.le_trans GE.out.size i7, ?_⟩
 · rw [HB7.out, I4.out, HRM.out]
 · have hge : ∀ z, z = ps → w.heap.size ≤ z := fun z e => by rw [e]; exact hps
   have hgb : ∀ z, z = b → w.heap.size ≤ z := fun z e => by rw [e]; exact Nat.le_trans GE.out.size i7
   have g1 : Gr w w5 := Tch.below GF.out T5.out GF.out.size hge
   have g2 : Gr w w6 := g1.trans G6.out
   have g3 : Gr w w7 := Tch.below g2 TT7.out g2.size hgb
   have g4 : Gr w w8 := Tch.below g3 T8.out g3.size hge
   have g5 : Gr w wb := Tch.below g4 Tb.out g4.size hge
   exact Tch.below g5 Tz.out g5.size hge
end
end
end Go.Proofs.YtdkmlmbehlooiaaGreatDoor
