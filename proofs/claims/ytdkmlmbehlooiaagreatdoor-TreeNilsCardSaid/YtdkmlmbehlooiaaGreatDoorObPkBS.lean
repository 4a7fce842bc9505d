/- Own texts, one behind the other. No condition. -/
import Derived.Test.YtdkmlmbehlooiaaGreatDoorObPkBR
set_option linter.unusedVariables false
set_option linter.unusedSimpArgs false
namespace Go.Proofs.YtdkmlmbehlooiaaGreatDoor
section
open Go.RowKit
section
variable {w0 w w' : World} {L : Pl} {m : Mc} {n : Nat} {a d l : Int}
abbrev treC0 (L : Pl) (a d l : Int) : Array Value := #[.pointer (some ⟨L.dp, 0, none⟩), .pointer (some ⟨L.p, 0, none⟩), .int .i64 a, .int .i64 d, .int .i64 l, .pointer none, .slice none 0 0, .bool false]
theorem treeWorld (w w1 : World) (pd pS pg : Nat) (g1 : Gr w w1) (L : Pl) (a d l : Int)
 (hd : Blk w1 pd 26 [.pointer (some ⟨L.dp, 0, none⟩)]) (hS : Blk w1 pS 31 [.pointer (some ⟨L.p, 0, none⟩)]) (hg : Blk w1 pg 23 [.int .i64 a, .int .i64 d, .int .i64 l]) (wC : World)
 (hC : wC = (w1.alloc (.cells (treC0 L a d l) 65)).alloc (.cells #[.pointer (some ⟨w1.heap.size, 0, none⟩)] 33)) :
 Gr w wC ∧ TrB L a d l (.pointer none) (.slice none 0 0) false w1.heap.size (w1.heap.size + 1) pd pS pg wC ∧ wC.heap.size = w1.heap.size + 2 := by
 have GC : Gr w1 wC := by rw [hC]; exact (Gr.alloc _ _).trans (Gr.alloc _ _)
 have sB : Blk wC w1.heap.size 65 (treeC L a d l (.pointer none) (.slice none 0 0) false) := by rw [hC]; exact (Blk.new w1 _ (treC0 L a d l)).alloc _
 have vB : Blk wC (w1.heap.size + 1) 33 [.pointer (some ⟨w1.heap.size, 0, none⟩)] := by rw [hC]; exact heap_alloc2_new w1 _ _
 refine ⟨g1.trans GC, ⟨hd.mono GC, hS.mono GC, hg.mono GC, vB, sB⟩, ?_⟩
 rw [hC, World.size_alloc, World.size_alloc]
set_option maxRecDepth 100000 in
set_option maxHeartbeats 4000000 in
theorem treeOpenBad_any (h : MSt w0 L m w) (f : Fit m a d l) (ho : m.Ok n) (hn : n ≤ 900) (hd : m.d.down = false) (hp : m.d.pend = []) (hX : superR m.S a d l m.d.kept = none) :
 Calls Tryz.prog 9 #[.pointer (some ⟨L.dp, 0, none⟩), .pointer (some ⟨L.p, 0, none⟩), .agg #[.int .i64 a, .int .i64 d, .int .i64 l]] w fun e w' => e = .returned (.tuple #[.pointer none, .int .i64 11]) ∧ MSt w0 L m w' ∧ Gr w w' := by
 have hw0 : w0.heap.size ≤ w.heap.size := h.below.size
 obtain ⟨W, hW⟩ : ∃ W, W = ((w.alloc (.cells #[.pointer (some ⟨L.dp, 0, none⟩)] 26)).alloc (.cells #[.pointer (some ⟨L.p, 0, none⟩)] 31)).alloc (.cells #[.int .i64 a, .int .i64 d, .int .i64 l] 23) := ⟨_, rfl⟩
 have g0 : Gr w W := by rw [hW]; exact ((Gr.alloc _ _).trans (Gr.alloc _ _)).trans (Gr.alloc _ _)
 have d0 : Blk W w.heap.size 26 [.pointer (some ⟨L.dp, 0, none⟩)] := by rw [hW]; exact ((Blk.new w _ _).alloc _).alloc _
 have s0 : Blk W (w.heap.size + 1) 31 [.pointer (some ⟨L.p, 0, none⟩)] := by rw [hW]; exact (show Blk ((w.alloc (.cells #[.pointer (some ⟨L.dp, 0, none⟩)] 26)).alloc (.cells #[.pointer (some ⟨L.p, 0, none⟩)] 31)) (w.heap.size + 1) 31 [.pointer (some ⟨L.p, 0, none⟩)] from heap_alloc2_new w _ _).alloc _
 have q0 : Blk W (w.heap.size + 1 + 1) 23 [.int .i64 a, .int .i64 d, .int .i64 l] := by
  rw [hW]
  have := Blk.new ((w.alloc (.cells #[.pointer (some ⟨L.dp, 0, none⟩)] 26)).alloc (.cells #[.pointer (some ⟨L.p, 0, none⟩)] 31)) 23 #[.int .i64 a, .int .i64 d, .int .i64 l]
  rwa [World.size_alloc, World.size_alloc] at this
 have G0 := Lib.hid g0; have D0 := Lib.hid d0; have S0 := Lib.hid s0; have Q0 := Lib.hid q0; have HW := Lib.hid hW
 have HRI := Lib.hid (treeRight_any (h.mono g0) f)
 have HST := Lib.hid (fun (w2 : World) (g : Gr w w2) (bs pt pv pd pS pg : Nat) (hge : w.heap.size ≤ pt) (b : TrB L a d l (.pointer none) (.slice none 0 0) false pt pv pd pS pg w2) (hst : Blk w2 bs 106 (toF pd pS pg pv pt).toList) =>
  treeSteps4 22 24 27 28 #[] #[.pointer (some ⟨pd, 0, none⟩), .pointer (some ⟨pS, 0, none⟩), .pointer (some ⟨pg, 0, none⟩), .pointer (some ⟨pv, 0, none⟩)] #[] #[.pointer (some ⟨pd, 0, none⟩), .pointer (some ⟨pS, 0, none⟩), .pointer (some ⟨pv, 0, none⟩)] #[.pointer (some ⟨pt, 0, none⟩)] #[] #[] #[.pointer (some ⟨pv, 0, none⟩)] (enters_of Tryz.func22 (by kernel_rfl) rfl) (enters_of Tryz.func24 (by kernel_rfl) rfl) (enters_of Tryz.func27 (by kernel_rfl) rfl) (enters_of Tryz.func28 (by kernel_rfl) rfl) bs w2 (fun _ => False) (fun _ => False) (fun _ => False) (fun _ => False) (fun q w' => q = 11 ∧ MSt w0 L m w' ∧ Tch (fun z => z = pt) w2 w') hst
   ((treeOpen1Bad_any (h.mono g) f ho hn hd hp hX (Nat.le_trans hw0 hge) b ⟨_, rfl⟩).mono (fun e w3 hh => ⟨11, hh.1, fun q => absurd q (by decide), fun _ => ⟨rfl, hh.2.1, hh.2.2⟩⟩)) (fun _ h => h.elim) (fun _ h => h.elim) (fun _ h => h.elim))
 clear hW g0 d0 s0 q0 h f ho hd hp hX
 go_enter Tryz.func9, Tryz.ntmps9
 go_upto_region 1 with fail
 rw [← HW.out]
 have k0 := D0.out.cell 0
 have k1 := S0.out.cell 0
 have y0 := Q0.out.cell 0
 have y1 := Q0.out.cell 1
 have y2 := Q0.out.cell 2
 go_wp2_with fail
 refine HRI.out.mono ?_
 rintro e w1 ⟨rfl, g1⟩
 have G1 := Lib.hid (G0.out.trans g1)
 have D1 := Lib.hid (D0.out.mono g1); have S1 := Lib.hid (S0.out.mono g1)
 have Q1 := Lib.hid (Q0.out.mono g1)
 clear g1 k0 k1 y0 y1 y2
 have k0 := D1.out.cell 0
 have k1 := S1.out.cell 0
 have y0 := Q1.out.cell 0
 have y1 := Q1.out.cell 1
 have y2 := Q1.out.cell 2
 go_upto_region 5 with fail
 obtain ⟨wC, hC⟩ : ∃ wC, wC = (w1.alloc (.cells #[.pointer (some ⟨L.dp, 0, none⟩), .pointer (some ⟨L.p, 0, none⟩), .int .i64 a, .int .i64 d, .int .i64 l, .pointer none, .slice none 0 0, .bool false] 65)).alloc (.cells #[.pointer (some ⟨w1.heap.size, 0, none⟩)] 33) := ⟨_, rfl⟩
 obtain ⟨gC, oC, eC⟩ := treeWorld w w1 _ _ _ G1.out L a d l D1.out S1.out Q1.out wC hC
 rw [← hC]
 have hpt : w.heap.size ≤ w1.heap.size := G1.out.size
 have GC := Lib.hid gC; have OC := Lib.hid oC
 have v0 := oC.fv.cell 0
 clear hC k0 k1 y0 y1 y2 gC oC
 generalize w1.heap.size = pt at *
 go_wp2_with fail
 obtain ⟨wE, hE⟩ : ∃ wE, wE = wC.alloc (.cells (toF w.heap.size (w.heap.size + 1) (w.heap.size + 1 + 1) (pt + 1) pt) 106) := ⟨_, rfl⟩
 have gE : Gr wC wE := by rw [hE]; exact Gr.alloc _ _
 have bE : Blk wE (pt + 2) 106 (toF w.heap.size (w.heap.size + 1) (w.heap.size + 1 + 1) (pt + 1) pt).toList := by
  rw [hE]
  have := Blk.new wC 106 (toF w.heap.size (w.heap.size + 1) (w.heap.size + 1 + 1) (pt + 1) pt)
  rw [eC] at this
  exact this
 have HS2 := Lib.hid (HST.out wE (GC.out.trans gE) (pt + 2) pt (pt + 1) _ _ _ hpt (OC.out.gr gE) bE)
 have GE := Lib.hid (GC.out.trans gE); have OE := Lib.hid (OC.out.gr gE)
 unfold toF at hE
 rw [← hE]
 clear hE gE bE v0
 refine HS2.out.mono ?_
 rintro e wF ⟨q, rfl, hi, he⟩
 have hq : q ≠ 0 := fun e => (hi e).elim
 obtain ⟨rfl, i1, i2⟩ := he hq
 have I1 := Lib.hid i1; have I2 := Lib.hid i2
 clear hi he hq i1 i2
 go_wp2_with fail
 go_ret2
 exact ⟨rfl, I1.out, Tch.below GE.out I2.out GE.out.size (fun z e => by rw [e]; exact hpt)⟩
theorem treeOpenNil_any (vs : Value) (kv : ∃ z, vs = .pointer z) (w : World) :
 Calls Tryz.prog 9 #[.pointer none, vs, .agg #[.int .i64 a, .int .i64 d, .int .i64 l]] w fun e w' => e = .returned (.tuple #[.pointer none, .int .i64 1]) ∧ Gr w w' := by
 obtain ⟨z, rfl⟩ := kv
 have HR := Lib.hid (fun wr => treeRightD_any (a := a) (d := d) (l := l) (.pointer z) wr)
 go_enter Tryz.func9, Tryz.ntmps9
 go_wp2_with fail
 refine (HR.out _).mono ?_
 rintro e w1 ⟨rfl, g1⟩
 have G1 := Lib.hid ((((Gr.alloc w _).trans (Gr.alloc _ _)).trans (Gr.alloc _ _)).trans g1)
 clear g1
 go_wp2_with fail
 go_ret2
 exact ⟨rfl, G1.out⟩
theorem treeFormatNil_any (z : Addr) (w : World) :
 Calls Tryz.prog 10 #[.pointer (some z), .pointer none, .agg #[.int .i64 a, .int .i64 d, .int .i64 l]] w fun e w' => e = .returned (.tuple #[.pointer none, .int .i64 1]) ∧ Gr w w' := by
 have HR := Lib.hid (fun wr => treeRightS_any (a := a) (d := d) (l := l) z wr)
 go_enter Tryz.func10, Tryz.ntmps10
 go_wp2_with fail
 refine (HR.out _).mono ?_
 rintro e w1 ⟨rfl, g1⟩
 have G1 := Lib.hid ((((Gr.alloc w _).trans (Gr.alloc _ _)).trans (Gr.alloc _ _)).trans g1)
 clear g1
 go_wp2_with fail
 go_ret2
 exact ⟨rfl, G1.out⟩
end
section
variable {w0 w w' : World} {L : Pl} {m : Mc} {n : Nat}
set_option maxRecDepth 100000 in
set_option maxHeartbeats 4000000 in
theorem treeOpen_any {X : Spr} {G : Nat} {P : List (Nat × List UInt8)} {Q : List (List UInt8)} {head z1 z2 key key2 v : List UInt8} (h : MSt w0 L m w) (e : MacE m n X G P Q head z1 z2 key key2 v) (hT : U8 w0) :
 Calls Tryz.prog 9 #[.pointer (some ⟨L.dp, 0, none⟩), .pointer (some ⟨L.p, 0, none⟩), .agg #[.int .i64 2, .int .i64 1, .int .i64 3]] w fun e w' => ∃ pt, e = .returned (.tuple #[.pointer (some ⟨pt, 0, none⟩), .int .i64 0]) ∧ OpT w0 L (m.begin 2 1 3 ⟨X.life + 1, (X.base + (P.length + 1)) % 3, G⟩ Q) ⟨X.life + 1, (X.base + (P.length + 1)) % 3, G⟩ key Q pt w' := by
 have hw0 : w0.heap.size ≤ w.heap.size := h.below.size
 have f := e.f
 obtain ⟨a, ha⟩ : ∃ a : Int, a = 2 := ⟨_, rfl⟩
 obtain ⟨d, hd⟩ : ∃ d : Int, d = 1 := ⟨_, rfl⟩
 obtain ⟨l, hl⟩ : ∃ l : Int, l = 3 := ⟨_, rfl⟩
 rw [← ha, ← hd, ← hl] at f
 obtain ⟨mB, hmB⟩ : ∃ mB, mB = m.begin 2 1 3 ⟨X.life + 1, (X.base + (P.length + 1)) % 3, G⟩ Q := ⟨_, rfl⟩
 obtain ⟨xB, hxB⟩ : ∃ xB : Spr, xB = ⟨X.life + 1, (X.base + (P.length + 1)) % 3, G⟩ := ⟨_, rfl⟩
 have HST := Lib.hid (fun (w2 : World) (g : Gr w w2) (bs pt pv pd pS pg : Nat) (hge : w.heap.size ≤ pt) (b : TrB L a d l (.pointer none) (.slice none 0 0) false pt pv pd pS pg w2) (hst : Blk w2 bs 106 (toF pd pS pg pv pt).toList) => treeOpenSteps_any bs w2 (h.mono g) e hT (Nat.le_trans hw0 hge) (by rw [← ha, ← hd, ← hl]; exact b) hst)
 rw [← hmB, ← hxB] at HST ⊢
 rw [← ha, ← hd, ← hl]
 clear e hT
 obtain ⟨W, hW⟩ : ∃ W, W = ((w.alloc (.cells #[.pointer (some ⟨L.dp, 0, none⟩)] 26)).alloc (.cells #[.pointer (some ⟨L.p, 0, none⟩)] 31)).alloc (.cells #[.int .i64 a, .int .i64 d, .int .i64 l] 23) := ⟨_, rfl⟩
 have g0 : Gr w W := by rw [hW]; exact ((Gr.alloc _ _).trans (Gr.alloc _ _)).trans (Gr.alloc _ _)
 have d0 : Blk W w.heap.size 26 [.pointer (some ⟨L.dp, 0, none⟩)] := by rw [hW]; exact ((Blk.new w _ _).alloc _).alloc _
 have s0 : Blk W (w.heap.size + 1) 31 [.pointer (some ⟨L.p, 0, none⟩)] := by rw [hW]; exact (show Blk ((w.alloc (.cells #[.pointer (some ⟨L.dp, 0, none⟩)] 26)).alloc (.cells #[.pointer (some ⟨L.p, 0, none⟩)] 31)) (w.heap.size + 1) 31 [.pointer (some ⟨L.p, 0, none⟩)] from heap_alloc2_new w _ _).alloc _
 have q0 : Blk W (w.heap.size + 1 + 1) 23 [.int .i64 a, .int .i64 d, .int .i64 l] := by
  rw [hW]
  have := Blk.new ((w.alloc (.cells #[.pointer (some ⟨L.dp, 0, none⟩)] 26)).alloc (.cells #[.pointer (some ⟨L.p, 0, none⟩)] 31)) 23 #[.int .i64 a, .int .i64 d, .int .i64 l]
  rwa [World.size_alloc, World.size_alloc] at this
 have G0 := Lib.hid g0; have D0 := Lib.hid d0; have S0 := Lib.hid s0; have Q0 := Lib.hid q0; have HW := Lib.hid hW
 have HRI := Lib.hid (treeRight_any (h.mono g0) f)
 clear hW g0 d0 s0 q0 h f hmB hxB ha hd hl
 go_enter Tryz.func9, Tryz.ntmps9
 go_upto_region 1 with fail
 rw [← HW.out]
 have k0 := D0.out.cell 0
 have k1 := S0.out.cell 0
 have y0 := Q0.out.cell 0
 have y1 := Q0.out.cell 1
 have y2 := Q0.out.cell 2
 go_wp2_with fail
 refine HRI.out.mono ?_
 rintro e w1 ⟨rfl, g1⟩
 have G1 := Lib.hid (G0.out.trans g1)
 have D1 := Lib.hid (D0.out.mono g1); have S1 := Lib.hid (S0.out.mono g1)
 have Q1 := Lib.hid (Q0.out.mono g1)
 clear g1 k0 k1 y0 y1 y2
 have k0 := D1.out.cell 0
 have k1 := S1.out.cell 0
 have y0 := Q1.out.cell 0
 have y1 := Q1.out.cell 1
 have y2 := Q1.out.cell 2
 go_upto_region 5 with fail
 obtain ⟨wC, hC⟩ : ∃ wC, wC = (w1.alloc (.cells #[.pointer (some ⟨L.dp, 0, none⟩), .pointer (some ⟨L.p, 0, none⟩), .int .i64 a, .int .i64 d, .int .i64 l, .pointer none, .slice none 0 0, .bool false] 65)).alloc (.cells #[.pointer (some ⟨w1.heap.size, 0, none⟩)] 33) := ⟨_, rfl⟩
 obtain ⟨gC, oC, eC⟩ := treeWorld w w1 _ _ _ G1.out L a d l D1.out S1.out Q1.out wC hC
 rw [← hC]
 have hpt : w.heap.size ≤ w1.heap.size := G1.out.size
 have GC := Lib.hid gC; have OC := Lib.hid oC
 have v0 := oC.fv.cell 0
 clear hC k0 k1 y0 y1 y2 gC oC
 generalize w1.heap.size = pt at *
 go_wp2_with fail
 obtain ⟨wE, hE⟩ : ∃ wE, wE = wC.alloc (.cells (toF w.heap.size (w.heap.size + 1) (w.heap.size + 1 + 1) (pt + 1) pt) 106) := ⟨_, rfl⟩
 have gE : Gr wC wE := by rw [hE]; exact Gr.alloc _ _
 have bE : Blk wE (pt + 2) 106 (toF w.heap.size (w.heap.size + 1) (w.heap.size + 1 + 1) (pt + 1) pt).toList := by
  rw [hE]
  have := Blk.new wC 106 (toF w.heap.size (w.heap.size + 1) (w.heap.size + 1 + 1) (pt + 1) pt)
  rw [eC] at this
  exact this
 have HS2 := Lib.hid (HST.out wE (GC.out.trans gE) (pt + 2) pt (pt + 1) _ _ _ hpt (OC.out.gr gE) bE)
 have GE := Lib.hid (GC.out.trans gE); have OE := Lib.hid (OC.out.gr gE)
 unfold toF at hE
 rw [← hE]
 clear hE gE bE v0
 refine HS2.out.mono ?_
 rintro e wF ⟨q, rfl, hi, he⟩
 have hq : q = 0 := by
  rcases (show q = 0 ∨ q ≠ 0 by omega) with z | z
  · exact z
  · exact (he z).elim
 subst hq
 obtain ⟨i1, i2⟩ := hi rfl
 have I1 := Lib.hid i1
 have v0 := i2.cell 0
 clear hi he i1 i2
 go_wp2_with fail
 go_ret2
 exact ⟨pt, rfl, I1.out⟩
end
end
section
open Go.RowKit
section
theorem getNil_any (s : Int) (w : World) : Calls Tryz.prog 11 #[.pointer none, .int .i64 s] w fun e w' => e = .returned (.tuple #[.slice none 0 0, .bool false]) ∧ w = w' := by
 go_enter Tryz.func11, Tryz.ntmps11
 go_wp2_with fail
 go_ret2
 exact ⟨rfl, rfl⟩
theorem fitsNil_any (v : Value) (w : World) : Calls Tryz.prog 13 #[.pointer none, v] w fun e w' => e = .returned (.bool false) ∧ w = w' := by
 go_enter Tryz.func13, Tryz.ntmps13
 go_wp2_with fail
 go_ret
 exact ⟨rfl, rfl⟩
theorem headsNil_any (w : World) : Calls Tryz.prog 14 #[.pointer none] w fun e w' => e = .returned (.slice none 0 0) ∧ w = w' := by
 go_enter Tryz.func14, Tryz.ntmps14
 go_wp2_with fail
 go_ret
 exact ⟨rfl, rfl⟩
theorem genNil_any (w : World) : Calls Tryz.prog 15 #[.pointer none] w fun e w' => e = .returned (.int .u64 0) ∧ w = w' := by
 go_enter Tryz.func15, Tryz.ntmps15
 go_wp2_with fail
 go_ret
 exact ⟨rfl, rfl⟩
theorem deadNil_any (w : World) : Calls Tryz.prog 16 #[.pointer none] w fun e w' => e = .returned (.bool false) ∧ w = w' := by
 go_enter Tryz.func16, Tryz.ntmps16
 go_wp2_with fail
 go_ret
 exact ⟨rfl, rfl⟩
theorem readyNil_any (w : World) : Calls Tryz.prog 44 #[.pointer none] w fun e w' => e = .returned (.int .i64 1) ∧ w = w' := by
 go_enter Tryz.func44, Tryz.ntmps44
 go_wp2_with fail
 go_ret
 exact ⟨rfl, rfl⟩
theorem applyNil_any (v : Value) (w : World) : Calls Tryz.prog 12 #[.pointer none, v] w fun e w' => e = .returned (.int .i64 1) ∧ w = w' := by
 have HR := Lib.hid (readyNil_any w)
 go_enter Tryz.func12, Tryz.ntmps12
 go_wp2_with fail
 refine HR.out.mono ?_
 rintro e wd ⟨rfl, hwd⟩
 subst hwd
 go_wp2_with fail
 go_ret
 exact ⟨rfl, rfl⟩
end
section
variable {w0 w w' : World} {L : Pl} {m : Mc} {n : Nat} {x : Spr} {vl vk : Value} {next : Nat} {due : Bool} {pt ps b c : Nat} {R : List BRow}
theorem treeGen_any (h : TrP w0 L m n x vl next due vk pt ps b c R w) : Calls Tryz.prog 15 #[.pointer (some ⟨pt, 0, none⟩)] w fun e w' => e = .returned (.int .u64 (x.gen : Int)) ∧ w = w' := by
 have HG := Lib.hid (storeGen_any h.fx)
 obtain ⟨s1, s2, s3, s4, s5, s6⟩ := h.cells
 clear h
 go_enter Tryz.func15, Tryz.ntmps15
 go_wp2_with fail
 refine HG.out.mono ?_
 rintro e wd ⟨rfl, hwd⟩
 subst hwd
 go_wp2_with fail
 go_ret
 exact ⟨rfl, rfl⟩
theorem treeDead_any (h : TrP w0 L m n x vl next due vk pt ps b c R w) : Calls Tryz.prog 16 #[.pointer (some ⟨pt, 0, none⟩)] w fun e w' => e = .returned (.bool false) ∧ w = w' := by
 have HG := Lib.hid (storeDead_any h.fx)
 obtain ⟨s1, s2, s3, s4, s5, s6⟩ := h.cells
 have s7 := h.ft.cell 7
 clear h
 go_enter Tryz.func16, Tryz.ntmps16
 go_wp2_with fail
 refine HG.out.mono ?_
 rintro e wd ⟨rfl, hwd⟩
 subst hwd
 go_wp2_with fail
 go_ret
 exact ⟨rfl, rfl⟩
theorem treeReady_any (h : TrP w0 L m n x vl next due vk pt ps b c R w) : Calls Tryz.prog 44 #[.pointer (some ⟨pt, 0, none⟩)] w fun e w' => e = .returned (.int .i64 0) ∧ w = w' := by
 have HG := Lib.hid (treeDead_any h)
 clear h
 go_enter Tryz.func44, Tryz.ntmps44
 go_wp2_with fail
 refine HG.out.mono ?_
 rintro e wd ⟨rfl, hwd⟩
 subst hwd
 go_wp2_with fail
 go_ret
 exact ⟨rfl, rfl⟩
theorem treeTold_any {vx vk : Value} {a d l : Int} (ht : Blk w pt 65 (treeC L a d l vx vk false)) : Calls Tryz.prog 50 #[.pointer (some ⟨pt, 0, none⟩), .int .i64 0] w fun e w' => e = .returned (.int .i64 0) ∧ Blk w' pt 65 (treeC L a d l vx vk false) ∧ Tch (fun z => z = pt) w w' := by
 have k7 := ht.cell 7
 have f7 := Blk.free ht 7
 have HT := Lib.hid ht
 clear ht
 go_enter Tryz.func50, Tryz.ntmps50
 go_wp2_with fail
 go_ret
 exact ⟨rfl, HT.out.set 7 _, Tch.set ⟨pt, 7, none⟩ _ rfl⟩
set_option maxRecDepth 100000 in
set_option maxHeartbeats 4000000 in
theorem treeGet_any {A : Option Addr} {cc : Nat} (h : TrP w0 L m n x vl next due (.slice A 32 cc) pt ps b c R w) (head z1 z2 key key2 v : List UInt8) (e : TrE m R head z1 z2 key key2 v) (hT : U8 w) (hb : Bs w A 32 cc key) :
 Calls Tryz.prog 11 #[.pointer (some ⟨pt, 0, none⟩), .int .i64 1] w fun e w' => ∃ A' n' c', e = .returned (.tuple #[.slice A' n' c', .bool true]) ∧ Bs w' A' n' c' v ∧ Gr w w' := by
 obtain ⟨⟨r0, r1, r2, rfl, l0, l1, l2⟩, h0, hl, hr, q1, q2, q3, q4, o1, o2⟩ := e
 have HLF := Lib.hid (fun wr => leaf_any 2 1 3 1 wr)
 rw [show leafI 2 1 3 1 = 2 by decide] at HLF
 have HPA := Lib.hid (fun wr => path_any 2 1 3 1 wr)
 rw [show pathI 2 1 3 1 = [0] by decide +kernel] at HPA
 have HWH := Lib.hid (fun wr => which_any 2 1 3 2 wr)
 rw [show whichI 2 1 3 2 = 1 by decide] at HWH
 have HP2 := Lib.hid (fun wr (g : Gr w wr) => (h.gr g).page 2 r2 rfl)
 rw [l2] at HP2
 have HP0 := Lib.hid (fun wr (g : Gr w wr) => (h.gr g).page 0 r0 rfl)
 rw [l0] at HP0
 have HDL := Lib.hid (fun wr (g : Gr w wr) A n c (hb : Bs wr A n c (fieldL head ++ fieldL z2)) => nodeDecodeLeaf_any head z2 A n c hb h0 hl hr q2 q3 (hT.mono g))
 have HDC := Lib.hid (fun wr A m c (hb : Bs wr A m c (rowsE [[], z1])) => nodeDecode_any (kb := L.kb) geo213 2 rfl A m c [[], z1] rfl (fun x hx => by
  rcases List.mem_cons.1 hx with e | hx
  · rw [e]; rfl
  · rw [List.mem_singleton.1 hx]; unfold rowOk; rw [q1]; rfl) (by simp [q1]) hb)
 have HOP := Lib.hid (fun wr (g : Gr w wr) B c (hz : Bs wr B 80 c z1) => (h.gr g).ms.openS h.ok h.n9 A B 32 cc 80 c key z1 (hb.mono g) hz (by decide))
 rw [o1] at HOP
 have HO2 := Lib.hid (fun wr (g : Gr w wr) C kc (hk : Bs wr C 32 kc key2) B c (hz : Bs wr B z2.length c z2) => (h.gr g).ms.openS h.ok h.n9 C B 32 kc z2.length c key2 z2 hk hz (by omega))
 rw [o2] at HO2
 have hne := head_ne h0
 obtain ⟨s, hs⟩ : ∃ s : ByteArray, s = ⟨head.toArray⟩ := ⟨_, rfl⟩
 rw [← hs] at hne HDL
 have HH := Lib.hid h
 have HL1 := Lib.hid q1; have HK2 := Lib.hid q4
 obtain ⟨s1, s2, s3, s4, s5, s6⟩ := h.cells
 obtain ⟨N0, hN0⟩ : ∃ N, N = (rowsE [[], z1]).length := ⟨_, rfl⟩
 obtain ⟨N2, hN2⟩ : ∃ N, N = (fieldL head ++ fieldL z2).length := ⟨_, rfl⟩
 unfold RetBs at HP0 HP2
 rw [← hN0] at HP0
 rw [← hN2] at HP2
 clear h l0 l1 l2 h0 hl hr q1 q2 q3 q4 o1 o2 hT hb hN0 hN2 hs
 go_enter Tryz.func11, Tryz.ntmps11
 go_wp2_with fail
 refine (HLF.out w).mono ?_
 rintro e w1 ⟨rfl, g1⟩
 have G1 := Lib.hid (show Gr w w1 from g1)
 have HPG := Lib.hid (HP2.out w1 G1.out)
 clear s1 s2 s3 s4 s5 s6 g1
 obtain ⟨s1, s2, s3, s4, s5, s6⟩ := (HH.out.gr G1.out).cells
 go_wp2_with fail
 refine HPG.out.mono ?_
 rintro e w2 ⟨v2, rfl, o2⟩
 obtain ⟨A2, c2, rfl, b2⟩ := o2.slice
 have G2 := Lib.hid (G1.out.trans (show Gr w1 w2 from o2.below))
 have HD2 := Lib.hid (HDL.out w2 G2.out A2 N2 c2 b2)
 clear s1 s2 s3 s4 s5 s6 o2 b2
 go_wp2_with fail
 refine HD2.out.mono ?_
 rintro e w3 ⟨A3, c3, rfl, o3⟩
 have G3 := Lib.hid (G2.out.trans (show Gr w2 w3 from o3.below))
 have B3 := Lib.hid ((QB.own (kb := L.kb) o3).b)
 clear o3
 obtain ⟨s1, s2, s3, s4, s5, s6⟩ := (HH.out.gr G3.out).cells
 go_wp2_with fail
 refine (HPA.out w3).mono ?_
 rintro e w4 ⟨v4, rfl, o4⟩
 have O4 := Lib.hid o4
 clear s1 s2 s3 s4 s5 s6 o4
 go_wp2_with (at_builtin; refine wpList_push rfl (.tmp 56) (.tmp 58) 79 rfl tNums rfl O4.out #[.int .i64 2] rfl rfl (one_int _ _) (by decide) ?_; intro v5 w5 o5; have O5 := Lib.hid o5; obtain ⟨A5, c5, rfl, sl5⟩ := o5.slice; have hcap5 := sl5.cap; have hmax5 := sl5.max; obtain ⟨A6, hA6, hr6'⟩ := run_from tNums A5 2 c5 1 (by decide) hcap5; have hr6 : ∀ w : World, (Instr.slice 79 (.slice A5 2 c5) (some (.int .i64 1)) none none).run Tryz.prog w = .ok (.slice A6 1 (c5 - 1)) w := hr6'; have HA6 := Lib.hid hA6; clear o5 sl5 hr6' hA6)
 have hAA : ∃ b5 o5', A5 = some ⟨b5, o5', none⟩ ∧ A6 = some ⟨b5, o5' + 1, none⟩ ∧ (∀ wq, Gr w5 wq → wq.cell? ⟨b5, o5', none⟩ = some (.int .i64 0)) ∧ (∀ wq, Gr w5 wq → wq.cell? ⟨b5, o5' + 1, none⟩ = some (.int .i64 2)) := by
  obtain ⟨_, _, hv, sl⟩ := O5.out.slice
  injection hv with e1 _ e2
  subst e1 e2
  obtain ⟨b5, o5', e, hcc⟩ := Sl.addr sl (by decide)
  exact ⟨b5, o5', e, HA6.out (by decide) b5 o5' e, fun wq g => (g.cell (p := ⟨b5, o5', none⟩) (World.block_lt_of_cell? _ _ (hcc 0 _ rfl))).trans (hcc 0 _ rfl), fun wq g => (g.cell (p := ⟨b5, o5' + 1, none⟩) (World.block_lt_of_cell? _ _ (hcc 1 _ rfl))).trans (hcc 1 _ rfl)⟩
 obtain ⟨b5, o5', rfl, rfl, hc0, hc1⟩ := hAA
 have HC0 := Lib.hid hc0
 have G5 := Lib.hid (G3.out.trans (show Gr w3 w5 from O5.out.below))
 have G35 := Lib.hid (show Gr w3 w5 from O5.out.below)
 have k1 := hc1 w5 (Gr.refl _)
 clear hc0 hc1
 refine wp_loop_rounds 2 ?_
 rw [rounds_succ]
 go_upto_region 12 with fail
 refine wrG (by kernel_rfl) [0, 1, 3, 7, 0, 16, 48, 112, 0, 0, 768, 1792, 4080, 8191, 16383, 32767, 32767, 65535, 262143] [.p 0, .p 1, .p 2, .p 4, .p 5, .p 6, .p 8, .p 9, .p 10, .q 3, .q 7, .q 11, .c 12, .c 13, .p 14, .p 15, .p 16, .p 17, .p 18] (by kernel_rfl) (trivial) ?_
 iterate 9
  refine wPe rfl rfl ?_
  apply Exists.intro
  refine ⟨fun wq => ?_, ?_⟩
  · unfold pLa
    go_simp
    first | exact rfl | exact ⟨rfl, rfl⟩
  go_simp
 iterate 2
  refine wQe rfl rfl ?_
  apply Exists.intro
  refine ⟨fun wq hq => ?_, ?_⟩
  · obtain ⟨s1, s2, s3, s4, s5, s6⟩ := (HH.out.gr (G5.out.trans ((Gr.drew _).trans hq))).cells
    unfold pLa
    go_simp
    first | exact rfl | exact ⟨rfl, rfl⟩
  go_simp
 refine wQe rfl rfl ?_
 apply Exists.intro
 refine ⟨fun wq hq => ?_, ?_⟩
 · have k0 := HC0.out wq ((Gr.drew _).trans hq)
   unfold pLa
   go_simp
   first | exact rfl | exact ⟨rfl, rfl⟩
 go_simp
 refine wpG_c rfl rfl ?_
 intro w6 g6 K hK
 go_simp
 go_at_call 39
 refine (HP0.out w6 (G5.out.trans ((Gr.drew _).trans g6))).mono ?_
 rintro e wn ⟨v7, rfl, o7⟩
 refine hK _ _ o7.below ?_; obtain ⟨A7, c7, rfl, b7⟩ := o7.slice; have G7 := Lib.hid (G5.out.trans (((Gr.drew _).trans g6).trans (show Gr w6 wn from o7.below))); have G57 := Lib.hid (((Gr.drew w5).trans g6).trans (show Gr w6 wn from o7.below)); have B7 := Lib.hid (show Bs wn A7 N0 c7 (rowsE [[], z1]) from b7); clear g6 o7 b7 hK
 go_simp
 refine wpG_c rfl rfl ?_
 intro w8 g8 K hK
 go_simp
 go_at_call 41
 refine (HDC.out w8 A7 N0 c7 (B7.out.mono g8)).mono ?_
 rintro e wn ⟨bo, RR, rfl, g9, _, p9, m9⟩
 refine hK _ _ g9 ?_; have G9 := Lib.hid (G7.out.trans (g8.trans g9)); have G59 := Lib.hid (G57.out.trans (g8.trans g9)); have P9 := Lib.hid p9; have M9 := Lib.hid m9; clear g8 g9 p9 m9 hK
 go_simp
 iterate 5
  refine wPe rfl rfl ?_
  apply Exists.intro
  refine ⟨fun wq => ?_, ?_⟩
  · unfold pLa
    go_simp
    first | exact rfl | exact ⟨rfl, rfl⟩
  go_simp
 refine wNi ?_
 intro wa ga
 have Ga := Lib.hid (G9.out.trans ga); have G5a := Lib.hid (G59.out.trans ga)
 have hRR : ∃ y0 y1, RR = [y0, y1] ∧ y0.l = [] ∧ y1.l = z1 := by
  match RR, M9.out with
  | [y0, y1], hh =>
   injection hh with e1 hh
   injection hh with e2 _
   exact ⟨y0, y1, rfl, e1, e2⟩
 obtain ⟨y0, y1, rfl, e0, e1⟩ := hRR
 have Y1 := Lib.hid ((P9.out.q y1 (List.mem_cons_of_mem _ List.mem_cons_self)).mono ga)
 have hn1 : y1.n = 80 := by have := Y1.out.b.len; rw [e1] at this; have h2 := HL1.out; omega
 have Pa := Lib.hid (P9.out.mono ga)
 obtain ⟨ya1, yn1, yc1, yl1⟩ := y1
 simp only at hn1 e1
 subst hn1 e1
 clear M9 P9 ga e0 k1
 go_upto_region 15 with fail
 refine wrG (by kernel_rfl) [0, 1, 3, 7, 0, 0, 0, 64, 192, 448, 0, 1984, 4064, 8160, 16383, 32767, 65535, 65535, 131071, 524287] [.p 0, .p 1, .p 2, .p 4, .p 5, .p 6, .p 7, .p 8, .p 10, .q 3, .q 9, .c 11, .p 12, .q 13, .c 14, .p 15, .p 16, .p 17, .p 18, .p 19] (by kernel_rfl) (trivial) ?_
 iterate 9
  refine wPe rfl rfl ?_
  apply Exists.intro
  refine ⟨fun wq => ?_, ?_⟩
  · unfold pLa
    go_simp
    first | exact rfl | exact ⟨rfl, rfl⟩
  go_simp
 iterate 2
  refine wQe rfl rfl ?_
  apply Exists.intro
  refine ⟨fun wq hq => ?_, ?_⟩
  · obtain ⟨s1, s2, s3, s4, s5, s6⟩ := (HH.out.gr (Ga.out.trans ((Gr.drew _).trans hq))).cells
    unfold pLa
    go_simp
    first | exact rfl | exact ⟨rfl, rfl⟩
  go_simp
 refine wpG_c rfl rfl ?_
 intro wb gb K hK
 go_simp
 go_at_call 43
 refine (HWH.out wb).mono ?_
 rintro e wn ⟨rfl, gc⟩
 refine hK _ _ (show Gr wb wn from gc) ?_; have Gc := Lib.hid (((Gr.drew wa).trans gb).trans (show Gr wb wn from gc)); clear gb gc hK
 go_simp
 refine wPe rfl rfl ?_
 apply Exists.intro
 refine ⟨fun wq => ?_, ?_⟩
 · unfold pLa
   go_simp
   first | exact rfl | exact ⟨rfl, rfl⟩
 go_simp
 refine wQe rfl rfl ?_
 apply Exists.intro
 refine ⟨fun wq hq => ?_, ?_⟩
 · have y1c : wq.cell? ⟨bo, 1, none⟩ = some (.slice ya1 80 yc1) := (Pa.out.mono (Gc.out.trans hq)).cell (k := 1) rfl
   unfold pLa
   go_simp
   first | exact rfl | exact ⟨rfl, rfl⟩
 go_simp
 refine wpG_c rfl rfl ?_
 intro wd gd K hK
 go_simp
 go_at_call 42
 refine (HOP.out wd (Ga.out.trans (Gc.out.trans gd)) ya1 yc1 ((Y1.out.mono (Gc.out.trans gd)).b)).mono ?_
 rintro e wn ⟨A8, n8, c8, rfl, b8, ge⟩
 refine hK _ _ ge ?_; have Ge := Lib.hid (Ga.out.trans ((Gc.out.trans gd).trans ge)); have G5e := Lib.hid (G5a.out.trans ((Gc.out.trans gd).trans ge)); have B8 := Lib.hid b8; clear gd ge b8 hK
 go_simp
 iterate 5
  refine wPe rfl rfl ?_
  apply Exists.intro
  refine ⟨fun wq => ?_, ?_⟩
  · unfold pLa
    go_simp
    first | exact rfl | exact ⟨rfl, rfl⟩
  go_simp
 refine wNi ?_
 intro wf gf
 have Gf := Lib.hid (Ge.out.trans gf); have G5f := Lib.hid (G5e.out.trans gf)
 have hn8 : n8 = 32 := by have := B8.out.len; have h2 := HK2.out; simp only [List.length_map, Option.getD_some] at this; omega
 subst hn8
 have Bf := Lib.hid (B8.out.mono gf)
 clear gf
 go_wp2_with fail
 rw [rounds_succ]
 have HOF := Lib.hid (HO2.out wf Gf.out A8 c8 Bf.out A3 c3 (B3.out.mono (G35.out.trans G5f.out)))
 obtain ⟨s1, s2, s3, s4, s5, s6⟩ := (HH.out.gr Gf.out).cells
 go_wp2_with fail
 refine HOF.out.mono ?_
 rintro e wg ⟨A9, n9, c9, rfl, b9, g10⟩
 have B9 := Lib.hid b9; have G10 := Lib.hid (Gf.out.trans (show Gr wf wg from g10))
 clear s1 s2 s3 s4 s5 s6 b9 g10
 go_wp2_with fail
 go_ret2
 exact ⟨A9, n9, c9, rfl, B9.out, G10.out⟩
end
end
end Go.Proofs.YtdkmlmbehlooiaaGreatDoor
