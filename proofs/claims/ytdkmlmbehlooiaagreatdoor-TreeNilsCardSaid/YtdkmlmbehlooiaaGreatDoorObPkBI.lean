/- Own texts, one behind the other. No condition. -/
import Derived.Test.YtdkmlmbehlooiaaGreatDoorObPkBH
set_option linter.unusedVariables false
set_option linter.unusedSimpArgs false
namespace Go.Proofs.YtdkmlmbehlooiaaGreatDoor
section
open Go.RowKit
def Mc.format (m : Mc) (a d l : Int) (N : Nat) : Mc := (m.clear.1.wipe l).begin a d l ⟨1, 0, 0⟩ (List.replicate N [])
theorem clear_kept (m : Mc) : m.clear.1.d.kept.length = m.d.kept.length := thenM_kept (thenM_kept (write_kept _ _ _) (fun m h => (write_kept _ _ _).trans h)) (fun m h => (flush_kept m).trans h)
theorem wipes_kept (m : Mc) (l : Int) : ∀ k, (m.wipes l k).d.kept.length = m.d.kept.length
 | 0 => rfl
 | k + 1 => (write_kept _ _ _).trans (wipes_kept m l k)
theorem wipe_kept (m : Mc) (l : Int) : (m.wipe l).d.kept.length = m.d.kept.length := (flush_kept _).trans (wipes_kept m l _)
theorem Mc.Live.wipe {m : Mc} {n : Nat} (h : m.Live) (ho : m.Ok n) (l : Int) : (m.wipe l).Live := (wipes_all l h ho _).1.flush.2
theorem Mc.Ok.wipe {m : Mc} {n : Nat} (h : m.Live) (ho : m.Ok n) (l : Int) : (m.wipe l).Ok (n + l.toNat + 1) := (wipes_all l h ho _).2.1.flush
theorem Mc.Live.format {m : Mc} {n : Nat} (h : m.Live) (ho : m.Ok n) (a d l : Int) (N : Nat) : (m.format a d l N).Live := (h.clear.2.wipe ho.clear l).begin _ _ _ _ _
section
variable {w0 w w' : World} {L : Pl} {m : Mc} {n : Nat} {a d l : Int} {ps pv pd pg b : Nat}
theorem formatSteps_any (N bs : Nat) (w2 : World) (h : MSt w0 L m w2) (f : Fit m a d l) (hlv : m.Live) (ho : m.Ok n) (hge : w0.heap.size ≤ ps) (hlen : (N : Int) = pagesI a d l) (hn : n + 2 * N + 80 ≤ 900)
 (hd : Blk w2 pd 26 [.pointer (some ⟨L.dp, 0, none⟩)]) (hg : Blk w2 pg 23 [.int .i64 a, .int .i64 d, .int .i64 l]) (hv : Blk w2 pv 63 [.pointer (some ⟨ps, 0, none⟩)])
 (hs : Blk w2 ps 111 (storeC L a d l spr0 (.pointer none) 0 (.slice (some ⟨b, 0, none⟩) N N) false false)) (hb : Blk w2 b 36 (List.replicate N (.slice none 0 0)))
 (hst : Blk w2 bs 164 [.func (.func 85) #[] #[.pointer (some ⟨pd, 0, none⟩), .pointer (some ⟨pg, 0, none⟩)], .func (.func 87) #[.pointer (some ⟨ps, 0, none⟩)] #[], .func (.func 88) #[] #[.pointer (some ⟨pv, 0, none⟩)]]) :
 Calls Tryz.prog 60 #[.slice (some ⟨bs, 0, none⟩) 3 3] w2 (RetS (fun w' => ∃ pl, MSt w0 L (m.format a d l N) w' ∧ Blk w' ps 111 (storeC L a d l ⟨1, 0, 0⟩ (.pointer (some ⟨pl, 0, none⟩)) 0 (.slice (some ⟨b, 0, none⟩) N N) false false) ∧ Blk w' pl 193 (logC L a d l 1 0 0) ∧ w2.heap.size ≤ pl ∧ KX (fun x => x = ps) L.kb w2 w') (fun _ _ => False)) := by
 obtain ⟨h3, h4⟩ := f.g.l
 have hN : N ≤ 264 := by have := (pgE a d l).2; omega
 have f1 : Fit m.clear.1 a d l := ⟨f.g, by rw [clear_kept]; exact f.s⟩
 have f2 : Fit (m.clear.1.wipe l) a d l := ⟨f.g, by rw [wipe_kept]; exact f1.s⟩
 have ho2 : (m.clear.1.wipe l).Ok (n + 70) := (Mc.Ok.wipe hlv.clear.2 ho.clear l).le (by omega)
 refine storeSteps3 _ _ _ _ _ _ _ _ _ (enters_of Tryz.func85 (by kernel_rfl) rfl) (enters_of Tryz.func87 (by kernel_rfl) rfl) (enters_of Tryz.func88 (by kernel_rfl) rfl) bs w2 (fun w' => MSt w0 L m.clear.1 w' ∧ KQ L.kb w2 w') (fun w' => MSt w0 L (m.clear.1.wipe l) w' ∧ KQ L.kb w2 w') _ _ hst ?_ ?_ ?_
 · refine (format1_any h f hlv ho (by omega) hd hg).mono ?_
   rintro e w3 ⟨rfl, h3, k3⟩
   exact ⟨0, rfl, fun _ => ⟨h3, k3⟩, fun q => absurd rfl q⟩
 · rintro w3 ⟨h3, k3⟩
   refine ⟨step_keep k3 hst, (storeWipe_any h3 f1 hlv.clear.2 ho.clear (by omega) ps _ _ _ _ _ _ (store_keep k3 hs)).mono ?_⟩
   rintro e w4 ⟨rfl, h4, k4⟩
   exact ⟨0, rfl, fun _ => ⟨h4, k3.trans k4⟩, fun q => absurd rfl q⟩
 · rintro w4 ⟨h4, k4⟩
   refine ⟨step_keep k4 hst, (format2_any (some ⟨b, 0, none⟩) N N (List.replicate N ⟨none, 0, 0, []⟩) h4 f2 (hlv.clear.2.wipe ho.clear l) ho2 hge ((Pgs.empty hN hb).kq k4) hlen (fun r hr => by rw [List.eq_of_mem_replicate hr]; decide) (by omega) (store_keep k4 hs) (k4.blk hv (by unfold tyM; decide) (fun e => absurd e (by decide)))).mono ?_⟩
   rintro e w5 ⟨rfl, pl, i1, i2, i3, i4, i5⟩
   rw [List.map_replicate] at i1
   exact ⟨0, rfl, fun _ => ⟨pl, i1, i2, i3, Nat.le_trans k4.1 i4, (KX.kq k4).trans i5⟩, fun q => absurd rfl q⟩
end
end
section
open Go.RowKit
section
variable {w0 w w' : World} {L : Pl} {m : Mc} {n : Nat} {a d l : Int}
set_option maxRecDepth 100000 in
set_option maxHeartbeats 1000000 in
theorem storeFormat_any (N : Nat) (h : MSt w0 L m w) (f : Fit m a d l) (hlv : m.Live) (ho : m.Ok n) (hlen : (N : Int) = pagesI a d l) (hn : n + 2 * N + 80 ≤ 900) :
 Calls Tryz.prog 36 #[.pointer (some ⟨L.dp, 0, none⟩), .pointer (some ⟨L.p, 0, none⟩), .agg #[.int .i64 a, .int .i64 d, .int .i64 l]] w fun e w' => ∃ ps pl b, e = .returned (.tuple #[.pointer (some ⟨ps, 0, none⟩), .int .i64 0]) ∧ MSt w0 L (m.format a d l N) w' ∧ Blk w' ps 111 (storeC L a d l ⟨1, 0, 0⟩ (.pointer (some ⟨pl, 0, none⟩)) 0 (.slice (some ⟨b, 0, none⟩) N N) false false) ∧ Blk w' pl 193 (logC L a d l 1 0 0) ∧ Blk w' b 36 (List.replicate N (.slice none 0 0)) ∧ w.heap.size ≤ ps ∧ w.heap.size ≤ pl ∧ w.heap.size ≤ b ∧ KQ L.kb w w' := by
 obtain ⟨W, hW⟩ : ∃ W, W = (w.alloc (.cells #[.pointer (some ⟨L.dp, 0, none⟩)] 26)).alloc (.cells #[.int .i64 a, .int .i64 d, .int .i64 l] 23) := ⟨_, rfl⟩
 have g0 : Gr w W := by rw [hW]; exact (Gr.alloc _ _).trans (Gr.alloc _ _)
 have d0 : Blk W w.heap.size 26 [.pointer (some ⟨L.dp, 0, none⟩)] := by rw [hW]; exact (Blk.new w _ _).alloc _
 have q0 : Blk W (w.heap.size + 1) 23 [.int .i64 a, .int .i64 d, .int .i64 l] := by rw [hW]; exact heap_alloc2_new w _ _
 have G0 := Lib.hid g0; have D0 := Lib.hid d0; have Q0 := Lib.hid q0; have HW := Lib.hid hW
 have HRI := Lib.hid (storeRight_any (h.mono g0) f)
 have HEM := Lib.hid (fun wr => snapEmpty_any f.g N hlen wr)
 have HST := Lib.hid (fun (w2 : World) (g : Gr w w2) (ps pv pd pg b bs : Nat) (hge : w.heap.size ≤ ps) => formatSteps_any (ps := ps) (pv := pv) (pd := pd) (pg := pg) (b := b) N bs w2 (h.mono g) f hlv ho (Nat.le_trans h.below.size hge) hlen hn)
 clear hW g0 d0 q0 h f hlv ho hlen
 go_enter Tryz.func36, Tryz.ntmps36
 go_upto_region 1 with fail
 rw [← HW.out]
 have k0 := D0.out.cell 0
 have y0 := Q0.out.cell 0
 have y1 := Q0.out.cell 1
 have y2 := Q0.out.cell 2
 go_wp2_with fail
 refine HRI.out.mono ?_
 rintro e w1 ⟨rfl, g1⟩
 have G1 := Lib.hid (G0.out.trans g1)
 have D1 := Lib.hid (D0.out.mono g1)
 have Q1 := Lib.hid (Q0.out.mono g1)
 clear g1 k0 y0 y1 y2
 go_upto_region 4 with fail
 refine wrG (by kernel_rfl) [0, 0, 0, 0, 8, 31, 63, 0, 255] [.p 1, .q 0, .q 2, .q 3, .c 4, .p 5, .c 6, .m 7 63 #[.pointer none], .s 8] (by kernel_rfl) (⟨fun o ho ρ w => by cases ho; kernel_rfl, trivial⟩) ?_
 refine wPe rfl rfl ?_
 apply Exists.intro
 refine ⟨fun wq => ?_, ?_⟩
 · unfold pLa
   go_simp
   first | exact rfl | exact ⟨rfl, rfl⟩
 go_simp
 refine wQe rfl rfl ?_
 apply Exists.intro
 refine ⟨fun wq hq => ?_, ?_⟩
 · have k0 := (D1.out.mono ((Gr.drew _).trans hq)).cell 0
   unfold pLa
   go_simp
   first | exact rfl | exact ⟨rfl, rfl⟩
 go_simp
 iterate 2
  refine wQe rfl rfl ?_
  apply Exists.intro
  refine ⟨fun wq hq => ?_, ?_⟩
  · have y0 := (Q1.out.mono ((Gr.drew _).trans hq)).cell 0; have y1 := (Q1.out.mono ((Gr.drew _).trans hq)).cell 1; have y2 := (Q1.out.mono ((Gr.drew _).trans hq)).cell 2
    unfold pLa
    go_simp
    first | exact rfl | exact ⟨rfl, rfl⟩
  go_simp
 refine wpG_c rfl rfl ?_
 intro w3 g3 K hK
 go_simp
 go_at_call 84
 refine (HEM.out w3).mono ?_
 rintro e wn ⟨b, rfl, g4, hb4, b4⟩
 refine hK _ _ g4 ?_; have G4 := Lib.hid (((Gr.drew w1).trans g3).trans g4); have B4 := Lib.hid b4; have hb5 : w.heap.size ≤ b := Nat.le_trans (G1.out.trans ((Gr.drew w1).trans g3)).size hb4; clear g3 g4 b4 hb4 hK
 go_simp
 refine wPe rfl rfl ?_
 apply Exists.intro
 refine ⟨fun wq => ?_, ?_⟩
 · unfold pLa
   go_simp
   first | exact rfl | exact ⟨rfl, rfl⟩
 go_simp
 refine wpG_c rfl rfl ?_
 intro w5 g5 K hK
 go_simp
 refine hK _ _ (Gr.alloc _ _) ?_
 obtain ⟨w6, hw6⟩ : ∃ w6, w6 = w5.alloc (.cells #[.pointer (some ⟨L.dp, 0, none⟩), .pointer (some ⟨L.p, 0, none⟩), .int .i64 a, .int .i64 d, .int .i64 l, .int .u64 0, .int .i64 0, .int .u64 0, .pointer none, .int .i64 0, .slice (some ⟨b, 0, none⟩) N N, .bool false, .bool false] 111) := ⟨_, rfl⟩
 rw [← hw6]
 have g56 : Gr w5 w6 := by rw [hw6]; exact Gr.alloc _ _
 have s6 : Blk w6 w5.heap.size 111 (storeC L a d l spr0 (.pointer none) 0 (.slice (some ⟨b, 0, none⟩) N N) false false) := by rw [hw6]; exact Blk.new w5 _ #[.pointer (some ⟨L.dp, 0, none⟩), .pointer (some ⟨L.p, 0, none⟩), .int .i64 a, .int .i64 d, .int .i64 l, .int .u64 0, .int .i64 0, .int .u64 0, .pointer none, .int .i64 0, .slice (some ⟨b, 0, none⟩) N N, .bool false, .bool false]
 have G6 : Hid (Gr w1 w6) := (G4.out.trans g5).trans g56
 have S6 := Lib.hid s6
 have B6 := Lib.hid (B4.out.mono (g5.trans g56))
 have hps : w.heap.size ≤ w5.heap.size := (G1.out.trans (G4.out.trans g5)).size
 clear hK g5 g56 s6 hw6
 generalize w5.heap.size = ps at *
 go_simp
 refine wpG_m rfl rfl ?_
 intro w7 pv g7 hpv hblk hI
 have G7 := Lib.hid (G6.out.trans g7)
 have S7 := Lib.hid (S6.out.mono g7); have B7 := Lib.hid (B6.out.mono g7)
 have V7 : Hid (Blk w7 pv 63 [.pointer none]) := hblk
 have hpv1 : w1.heap.size ≤ pv := hpv
 clear hI hblk g7 hpv
 go_simp
 refine wpG_s rfl rfl ?_
 intro w8 g8 K hK
 have G8 := Lib.hid (G7.out.trans g8)
 have S8 := Lib.hid (S7.out.mono g8); have B8 := Lib.hid (B7.out.mono g8); have V8 := Lib.hid (V7.out.mono g8)
 have f0 := Blk.free V8.out 0
 have x0 := V8.out.cell 0
 clear g8
 go_simp
 refine hK _ _ ?_
 clear hK f0 x0
 go_simp
 refine wNi ?_
 intro wa ga
 obtain ⟨w9, hw9⟩ : ∃ w9, w9 = w8.setCell ⟨pv, 0, none⟩ (.pointer (some ⟨ps, 0, none⟩)) := ⟨_, rfl⟩
 have V9 : Blk w9 pv 63 [.pointer (some ⟨ps, 0, none⟩)] := by rw [hw9]; exact V8.out.set 0 _
 have T9 : Tch (fun x => x = pv) w8 w9 := by rw [hw9]; exact Tch.set ⟨pv, 0, none⟩ _ rfl
 rw [← hw9] at ga
 clear hw9
 have G19 : Hid (Gr w1 wa) := Gr.trans (Tch.below G8.out T9 G8.out.size (fun x e => e ▸ hpv1)) ga
 have Sa := Lib.hid ((S8.out.tch T9 (fun e => by have := V8.out; rw [← e] at this; exact absurd (bTy this S8.out) (by decide))).mono ga)
 have Ba := Lib.hid ((B8.out.tch T9 (fun e => by have := V8.out; rw [← e] at this; exact absurd (bTy this B8.out) (by decide))).mono ga)
 have Va := Lib.hid (V9.mono ga)
 have Da := Lib.hid (D1.out.mono G19.out); have Qa := Lib.hid (Q1.out.mono G19.out)
 have Ga := Lib.hid (G1.out.trans G19.out)
 clear V9 T9 ga
 have v0 := Va.out.cell 0
 go_wp2_with fail
 obtain ⟨F, hF⟩ : ∃ F : Array Value, F = #[.func (.func 85) #[] #[.pointer (some ⟨w.heap.size, 0, none⟩), .pointer (some ⟨w.heap.size + 1, 0, none⟩)], .func (.func 87) #[.pointer (some ⟨ps, 0, none⟩)] #[], .func (.func 88) #[] #[.pointer (some ⟨pv, 0, none⟩)]] := ⟨_, rfl⟩
 rw [← hF]
 have gb : Gr wa (wa.alloc (.cells F 164)) := Gr.alloc _ _
 have bst := Blk.new wa 164 F
 have Gb := Lib.hid (Ga.out.trans gb)
 have Sb := Lib.hid (Sa.out.mono gb)
 have Bb := Lib.hid (Ba.out.mono gb)
 rw [hF] at bst
 have HS2 := HST.out _ Gb.out ps pv w.heap.size (w.heap.size + 1) b wa.heap.size hps (Da.out.mono gb) (Qa.out.mono gb) (Va.out.mono gb) Sb.out Bb.out (by rw [hF]; exact bst)
 have HS3 := Lib.hid HS2
 clear HS2 bst gb v0
 refine HS3.out.mono ?_
 rintro e wc ⟨q, rfl, hi, he⟩
 have hq : q = 0 := by
  rcases (show q = 0 ∨ q ≠ 0 by omega) with z | z
  · exact z
  · exact (he z).elim
 have HI := Lib.hid (hi hq)
 subst hq
 obtain ⟨pl, i1, i2, i3, i4, i5⟩ := hi rfl
 have kv : Blk wc pv 63 [.pointer (some ⟨ps, 0, none⟩)] := i5.blk (Va.out.mono (Gr.alloc wa _)) (by unfold tyM; decide) (fun e => absurd e (by decide)) (fun e => by have := Va.out; rw [e] at this; exact absurd (bTy this Sa.out) (by decide))
 have v0 := kv.cell 0
 clear hi he i1 i2 i3 i4 i5 hF kv
 go_wp2_with fail
 go_ret2
 obtain ⟨pl, i1, i2, i3, i4, i5⟩ := HI.out
 refine ⟨ps, pl, b, rfl, i1, i2, i3, i5.blk Bb.out (by unfold tyM; decide) (fun e => absurd e (by decide)) (fun e => by have := Bb.out; rw [e] at this; exact absurd (bTy this Sb.out) (by decide)), hps, Nat.le_trans Gb.out.size i4, hb5, ((KX.gr Gb.out).trans i5).to_kq (fun x hx e => by omega)⟩
end
end
section
open Go.RowKit
section
variable {w0 w w' : World} {L : Pl} {m : Mc} {n : Nat} {a d l : Int} {ps : Nat} {x : Spr} {vl vp : Value} {next : Nat} {due dead : Bool}
theorem storeGen_any (hs : Blk w ps 111 (storeC L a d l x vl next vp due dead)) : Calls Tryz.prog 26 #[.pointer (some ⟨ps, 0, none⟩)] w fun e w' => e = .returned (.int .u64 (x.gen : Int)) ∧ w = w' := by
 have k7 := hs.cell 7
 clear hs
 go_enter Tryz.func26, Tryz.ntmps26
 go_wp2_with fail
 go_ret
 exact ⟨rfl, rfl⟩
theorem storeDead_any (hs : Blk w ps 111 (storeC L a d l x vl next vp due dead)) : Calls Tryz.prog 53 #[.pointer (some ⟨ps, 0, none⟩)] w fun e w' => e = .returned (.bool dead) ∧ w = w' := by
 have k12 := hs.cell 12
 clear hs
 go_enter Tryz.func53, Tryz.ntmps53
 go_wp2_with fail
 go_ret
 exact ⟨rfl, rfl⟩
theorem storeReady_any (hs : Blk w ps 111 (storeC L a d l x vl next vp due false)) : Calls Tryz.prog 71 #[.pointer (some ⟨ps, 0, none⟩)] w fun e w' => e = .returned (.int .i64 0) ∧ w = w' := by
 have k12 := hs.cell 12
 clear hs
 go_enter Tryz.func71, Tryz.ntmps71
 go_wp2_with fail
 go_ret
 exact ⟨rfl, rfl⟩
end
end
section
open Go.RowKit
structure Pgo (w0 : World) (kb : Nat) (w : World) (b c N : Nat) (R : List BRow) : Prop where
 o : Own w0 w 36 1 (.slice (some ⟨b, 0, none⟩) N c) N (R.map BRow.v)
 q : ∀ r ∈ R, QB kb w r.a r.n r.c r.l
theorem Pgo.mono {w0 w w' : World} {kb b c N : Nat} {R : List BRow} (h : Pgo w0 kb w b c N R) (g : Gr w w') : Pgo w0 kb w' b c N R := ⟨h.o.mono g, fun r hr => (h.q r hr).mono g⟩
theorem Pgo.len {w0 w : World} {kb b c N : Nat} {R : List BRow} (h : Pgo w0 kb w b c N R) : R.length = N := by
 obtain ⟨_, _, hv, s⟩ := h.o.slice
 have := Sl.len s
 simpa using this
theorem Own.setCell {w0 w : World} {b c N : Nat} {xs : List Value} {e : TypeId} (h : Own w0 w e 1 (.slice (some ⟨b, 0, none⟩) N c) N xs) (j : Nat) (u : Value) : Own w0 (w.setCell ⟨b, j, none⟩ u) e 1 (.slice (some ⟨b, 0, none⟩) N c) N (xs.set j u) :=
 ⟨(h.1.stored j u).1, (Tch.set (S := fun x => x = b) ⟨b, j, none⟩ u rfl).below h.2 h.2.size (fun x q => by rw [q]; exact h.ge rfl)⟩
theorem Pgo.set {w0 w : World} {kb b c N : Nat} {R : List BRow} (h : Pgo w0 kb w b c N R) (j : Nat) (r : BRow) (hr : QB kb w r.a r.n r.c r.l) : Pgo w0 kb (w.setCell ⟨b, j, none⟩ r.v) b c N (R.set j r) := by
 have key : ∀ r' : BRow, QB kb w r'.a r'.n r'.c r'.l → QB kb (w.setCell ⟨b, j, none⟩ r.v) r'.a r'.n r'.c r'.l := fun r' hq => hq.tchT (Tch.set (S := fun x => x = b) ⟨b, j, none⟩ r.v rfl) (fun x q => by
  obtain ⟨cs, z⟩ := h.o.blk_at (b := b) rfl
  rw [q]
  exact ⟨_, cs, z, by unfold tyB; decide⟩)
 refine ⟨?_, fun r' hr' => ?_⟩
 · rw [List.map_set]
   exact h.o.setCell j r.v
 · rcases List.mem_or_eq_of_mem_set hr' with q | q
   · exact key _ (h.q _ q)
   · rw [q]; exact key _ hr
end
section
open Go.RowKit
def putP (P : List (List UInt8)) : List (Nat × List UInt8) → List (List UInt8)
 | [] => P
 | x :: l => putP (P.set x.1 x.2) l
theorem putP_snoc : ∀ (l : List (Nat × List UInt8)) (P : List (List UInt8)) (x : Nat × List UInt8), putP P (l ++ [x]) = (putP P l).set x.1 x.2
 | [], P, x => rfl
 | y :: l, P, x => putP_snoc l _ x
section
variable {w0 w w' : World} {L : Pl} {m : Mc} {n : Nat} {a d l : Int} {ps b c N : Nat} {x : Spr} {vl : Value} {next : Nat} {due dead : Bool}
set_option maxRecDepth 100000 in
set_option maxHeartbeats 4000000 in
theorem storePut_any (h : MSt w0 L m w) (hs : Blk w ps 111 (storeC L a d l x vl next (.slice (some ⟨b, 0, none⟩) N c) due dead)) (R : List BRow) (hp : Pgo w0 L.kb w b c N R) (hcN : c ≤ 9223372036854775807) (hNc : N ≤ c)
 (A : Option Addr) (K0 c' : Nat) (R' : List PRow) (hP : PgW L.kb w A K0 c' R') (hk : ∀ x ∈ R', x.k < N) (hsm : ∀ x ∈ R', x.r.n ≤ 100000) (hK : K0 ≤ 1000) (hN : N ≤ 264)
 (hsb : ∀ b', A.map (·.block) = some b' → b' ≠ b) :
 Calls Tryz.prog 67 #[.pointer (some ⟨ps, 0, none⟩), .slice A K0 c'] w fun e w' => (∃ v, e = .returned v) ∧ MSt w0 L m w' ∧ (∃ R2, Pgo w0 L.kb w' b c N R2 ∧ R2.map BRow.l = putP (R.map BRow.l) (R'.map fun x => (x.k, x.r.l))) ∧ Tch (fun x => x = b) w w' := by
 have hcap := Sl.cap hP.s.2; have hmax := Sl.max hP.s.2
 have HS := Lib.hid hs; have HP := Lib.hid hP; have HH := Lib.hid h; have HPO := Lib.hid hp
 have HKR := Lib.hid hk; have HSM := Lib.hid hsm; have HSB := Lib.hid hsb
 have HRN := Lib.hid hP.s.1
 clear h hs hp hP hk hsm hsb
 go_enter Tryz.func67, Tryz.ntmps67
 go_wp2_with fail
 go_loopw [8] (fun i wr => ∃ k : Nat, k ≤ K0 ∧ i = .int .i64 (k : Int) ∧ Tch (fun x => x = b) w wr ∧ ∃ R2, Pgo w0 L.kb wr b c N R2 ∧ R2.map BRow.l = putP (R.map BRow.l) ((R'.take k).map fun x => (x.k, x.r.l))) (fun i _ => K0 - (Go.RowKit.intOf i).toNat)
 case atStart => exact ⟨0, Nat.zero_le _, rfl, Tch.refl _, R, HPO.out, rfl⟩
 case round =>
  obtain ⟨k, hk, rfl, T, R2, hp2, hm2⟩ := hrel
  have HT := Lib.hid T; have HP2 := Lib.hid hp2; have HM2 := Lib.hid hm2
  clear T hp2 hm2
  by_cases hlt : k < K0
  · have t : decide ((k : Int) < (K0 : Int)) = true := decide_eq_true (by omega)
    have wk : IntKind.i64.wrap ((k : Int) + 1) = (k : Int) + 1 := IntWalk.i64_in _ (by omega)
    obtain ⟨b', o', y, rfl, hy, c0, c1⟩ := PRow.row HP.out.s hlt
    have hbb : b' ≠ b := HSB.out b' rfl
    have z0 : wr.cell? ⟨b', o' + k * 2, none⟩ = some (.int .i64 (y.k : Int)) := (World.cell?_of_block (w := w) (a := ⟨b', o' + k * 2, none⟩) (HT.out.keep b' (World.block_lt_of_cell? w _ c0) hbb)).trans c0
    have z1 : wr.cell? ⟨b', o' + k * 2 + 1, none⟩ = some (.slice y.r.a y.r.n y.r.c) := (World.cell?_of_block (w := w) (a := ⟨b', o' + k * 2 + 1, none⟩) (HT.out.keep b' (World.block_lt_of_cell? w _ c1) hbb)).trans c1
    have hmem := List.mem_of_getElem? hy
    have hyk := HKR.out y hmem
    have HYQ : Hid (QB L.kb wr y.r.a y.r.n y.r.c y.r.l) := (HP.out.r y hmem).tchT HT.out (fun x q => by
     obtain ⟨cs, z⟩ := HPO.out.o.blk_at (b := b) rfl
     rw [q]
     exact ⟨_, cs, z, by unfold tyB; decide⟩)
    have hyn := HSM.out y hmem
    have HY := Lib.hid hy
    clear c0 c1 hmem hy
    go_upto_region 3 with (refine wpList_store_row rfl 188 (.tmp 5) (.tmp 11) rfl wr.heap.size (pageC y.k y.r.a y.r.n y.r.c) rfl rfl 188 #[.int .i64 0, .slice none 0 0] (Blk.new wr 188 #[.int .i64 0, .slice none 0 0]) pageSize rfl (pageOne _ _ _ _) ?_)
    obtain ⟨w4, hw4⟩ : ∃ w4, w4 = (wr.alloc (.cells #[.int .i64 0, .slice none 0 0] 188)).setRow wr.heap.size (pageC y.k y.r.a y.r.n y.r.c) := ⟨_, rfl⟩
    have G4 : Hid (Gr wr w4) := by
     show Gr _ _
     rw [hw4]
     exact (Tch.row (S := fun b => b = wr.heap.size) (w := wr.alloc (.cells #[.int .i64 0, .slice none 0 0] 188)) (g := wr.heap.size) rfl (pageC y.k y.r.a y.r.n y.r.c)).below (Gr.alloc _ _) (Gr.alloc wr _).size (fun b e => e ▸ Nat.le_refl _)
    have B4 : Hid (Blk w4 wr.heap.size 188 [.int .i64 (y.k : Int), .slice y.r.a y.r.n y.r.c]) := by
     show Blk _ _ _ _
     rw [hw4]
     exact setRow_heap _ wr.heap.size _ (pageC y.k y.r.a y.r.n y.r.c) _ _ (Blk.new wr _ #[.int .i64 0, .slice none 0 0])
    rw [← hw4]
    clear hw4
    have S4 : Hid (Blk w4 ps 111 (storeC L a d l x vl next (.slice (some ⟨b, 0, none⟩) N c) due dead)) := (HS.out.tch HT.out (fun e => by
     obtain ⟨cs, z⟩ := HPO.out.o.blk_at (b := b) rfl
     rw [← e] at z
     exact absurd (bTy z HS.out) (by decide))).mono G4.out
    have HCL := Lib.hid (fun wq (g : Gr w4 wq) => clone_any y.r.a y.r.n y.r.c y.r.l wq ((HYQ.out.mono (G4.out.trans g)).b) (by omega))
    have tk : decide ((y.k : Int) < (N : Int)) = true := decide_eq_true (by omega)
    clear z0 z1
    refine wrG (by kernel_rfl) [0, 1, 3, 7, 0, 16, 0, 64, 192, 511, 1023] [.p 0, .p 1, .p 2, .p 4, .p 6, .q 3, .q 5, .q 7, .c 8, .p 9, .s 10] (by kernel_rfl) (trivial) ?_
    iterate 5
     refine wPe rfl rfl ?_
     apply Exists.intro
     refine ⟨fun wq => ?_, ?_⟩
     · unfold pLa
       go_simp
       first | exact rfl | exact ⟨rfl, rfl⟩
     go_simp
    refine wQe rfl rfl ?_
    apply Exists.intro
    refine ⟨fun wq hq => ?_, ?_⟩
    · have s10 := (S4.out.mono ((Gr.drew _).trans hq)).cell 10
      unfold pLa
      go_simp
      first | exact rfl | exact ⟨rfl, rfl⟩
    go_simp
    refine wQe rfl rfl ?_
    apply Exists.intro
    refine ⟨fun wq hq => ?_, ?_⟩
    · have b0 := (B4.out.mono ((Gr.drew _).trans hq)).cell 0
      unfold pLa
      go_simp
      first | exact rfl | exact ⟨rfl, rfl⟩
    go_simp
    refine wQe rfl rfl ?_
    apply Exists.intro
    refine ⟨fun wq hq => ?_, ?_⟩
    · have b1 := (B4.out.mono ((Gr.drew _).trans hq)).cell 1
      unfold pLa
      go_simp
      first | exact rfl | exact ⟨rfl, rfl⟩
    go_simp
    refine wpG_c rfl rfl ?_
    intro w5 g5 K hK
    go_simp
    go_at_call 96
    refine (HCL.out w5 ((Gr.drew _).trans g5)).mono ?_
    rintro e wn ⟨v6, rfl, o6⟩
    refine hK _ _ o6.below ?_; have G6 := Lib.hid (((Gr.drew w4).trans g5).trans (show Gr w5 wn from o6.below)); obtain ⟨A6, c6, rfl, _⟩ := o6.slice; have Q6 := Lib.hid (QB.own (kb := L.kb) o6); clear g5 o6 hK
    go_simp
    refine wPe rfl rfl ?_
    apply Exists.intro
    refine ⟨fun wq => ?_, ?_⟩
    · unfold pLa
      go_simp
      first | exact rfl | exact ⟨rfl, rfl⟩
    go_simp
    refine wpG_s rfl rfl ?_
    intro w8 g8 K hK
    have P8 := Lib.hid ((HP2.out.mono G4.out).mono (G6.out.trans g8))
    have Q8 := Lib.hid (Q6.out.mono g8)
    have G8 := Lib.hid ((G4.out.trans G6.out).trans g8)
    have fz := P8.out.o.1.frozenAt y.k
    obtain ⟨r0, hr0⟩ : ∃ r0, R2[y.k]? = some r0 := ⟨_, List.getElem?_eq_getElem (by have := HP2.out.len; omega)⟩
    have xc : w8.cell? ⟨b, y.k, none⟩ = some r0.v := by
     obtain ⟨_, _, hv, sl⟩ := P8.out.o.slice
     injection hv with e1 _ _
     subst e1
     obtain ⟨b2, o2, e2, hc⟩ := Sl.addr sl (by omega)
     injection e2 with e2
     injection e2 with e3 e4 _
     subst e3 e4
     have := hc y.k r0.v (by rw [List.getElem?_map, hr0]; rfl)
     rwa [Nat.zero_add] at this
    clear g8 hr0
    go_simp
    refine hK _ _ ?_
    clear hK fz xc
    go_simp
    refine wNi ?_
    intro wa ga
    have pz := P8.out.set y.k ⟨A6, y.r.l.length, c6, y.r.l⟩ Q8.out
    have T9 : Tch (fun x => x = b) w8 (w8.setCell ⟨b, y.k, none⟩ (.slice A6 y.r.l.length c6)) := Tch.set ⟨b, y.k, none⟩ _ rfl
    have PZ := Lib.hid (Pgo.mono (w := w8.setCell ⟨b, y.k, none⟩ (.slice A6 y.r.l.length c6)) pz ga)
    have TZ : Hid (Tch (fun x => x = b) w wa) := ((HT.out.trans (Tch.gr G8.out)).trans T9).trans (Tch.gr ga)
    clear pz T9 ga
    go_wp2_with fail
    refine ⟨⟨k + 1, by omega, by go_num, TZ.out, R2.set y.k ⟨A6, y.r.l.length, c6, y.r.l⟩, PZ.out, ?_⟩, by simp [Go.RowKit.intOf]; omega⟩
    rw [List.map_set, HM2.out, List.take_add_one, HY.out, List.map_append]
    show _ = putP _ (_ ++ [(y.k, y.r.l)])
    rw [putP_snoc]
  · obtain rfl : K0 = k := by omega
    have t : decide ((K0 : Int) < (K0 : Int)) = false := decide_eq_false (by omega)
    go_wp2_with fail
    go_end0
    refine ⟨⟨_, rfl⟩, HH.out.off HT.out (fun x e => by rw [e]; exact HPO.out.o.ge rfl) (fun x e => ?_), ⟨R2, HP2.out, ?_⟩, HT.out⟩
    · obtain ⟨cs, z⟩ := HPO.out.o.blk_at (b := b) rfl
      rw [e]
      exact ⟨_, cs, z, by unfold tyA tyM; decide⟩
    · have := HM2.out
      rwa [List.take_of_length_le (by rw [HRN.out]; exact Nat.le_refl _)] at this
end
end
section
open Go.RowKit
section
variable {w0 w w' : World} {L : Pl} {m : Mc} {n : Nat} {a d l : Int} {ps b c N : Nat} {x : Spr} {vl : Value} {next : Nat} {due dead : Bool}
theorem Pgo.cell {kb : Nat} {R : List BRow} (h : Pgo w0 kb w b c N R) {k : Nat} {r : BRow} (hr : R[k]? = some r) : w.cell? ⟨b, k, none⟩ = some r.v := by
 have hk : k < R.length := (List.getElem?_eq_some_iff.1 hr).1
 have hl := h.len
 obtain ⟨_, _, hv, sl⟩ := h.o.slice
 injection hv with e1 _ _
 subst e1
 obtain ⟨b2, o2, e2, hc⟩ := Sl.addr sl (by omega)
 injection e2 with e2
 injection e2 with e3 e4 _
 subst e3 e4
 have := hc k r.v (by rw [List.getElem?_map, hr]; rfl)
 rwa [Nat.zero_add] at this
set_option maxRecDepth 100000 in
set_option maxHeartbeats 1000000 in
theorem storePage_any (hs : Blk w ps 111 (storeC L a d l x vl next (.slice (some ⟨b, 0, none⟩) N c) due dead)) (kb : Nat) (R : List BRow) (hp : Pgo w0 kb w b c N R) (k : Nat) (r : BRow) (hr : R[k]? = some r) (hn : r.n ≤ 100000) (hcN : c ≤ 9223372036854775807) (hNc : N ≤ c) :
 Calls Tryz.prog 39 #[.pointer (some ⟨ps, 0, none⟩), .int .i64 (k : Int)] w (RetBs w r.l) := by
 have hk : k < N := by have := (List.getElem?_eq_some_iff.1 hr).1; have := hp.len; omega
 have c0 := hp.cell hr
 have k10 := hs.cell 10
 have hb := (hp.q r (List.mem_of_getElem? hr)).b
 have HCL := Lib.hid (clone_any r.a r.n r.c r.l w hb (by omega))
 have t0 : decide ((k : Int) < 0) = false := decide_eq_false (by omega)
 have t1 : decide ((N : Int) ≤ (k : Int)) = false := decide_eq_false (by omega)
 have t2 : decide ((k : Int) < (N : Int)) = true := decide_eq_true (by omega)
 unfold BRow.v at c0
 clear hs hp hr hb
 go_enter Tryz.func39, Tryz.ntmps39
 go_wp2_with fail
 refine HCL.out.mono ?_
 rintro e w1 ⟨v, rfl, o1⟩
 have O1 := Lib.hid o1
 clear o1 c0 k10
 go_wp2_with fail
 go_ret
 exact ⟨v, rfl, O1.out⟩
end
end
section
open Go.RowKit
theorem flat_two : ∀ R : List PRow, (R.flatMap PRow.cells).length = R.length * 2
 | [] => rfl
 | x :: R => by rw [List.flatMap_cons, List.length_append, flat_two R, PRow.cells_len, List.length_cons]; omega
section
variable {S : Nat → Prop} {w0 w w' : World} {kb n c N b : Nat} {A : Option Addr} {l : List UInt8}
theorem QB.kx (h : QB kb w A n c l) (k : KX S kb w w') (hS : ∀ x, S x → ∃ t cs, Blk w x t cs ∧ ¬ tyB t) : QB kb w' A n c l := by
 have hu : ∀ b o, 0 < n → A = some ⟨b, o, none⟩ → w'.heap[b]? = w.heap[b]? := fun b o h0 e => by
  obtain ⟨a, t, m, q, h1, h2⟩ := h.u b o h0 e
  refine (k.keep b a t m q h1.no h2 (fun s => ?_)).trans q.symm
  obtain ⟨t', cs', hb', hn'⟩ := hS _ s
  unfold Blk at hb'
  rw [q] at hb'
  injection hb' with hb'
  injection hb' with _ e2 _
  exact hn' (e2 ▸ h1)
 refine ⟨⟨h.b.1, h.b.2.1, h.b.2.2.1, fun h0 => ?_⟩, fun b o h0 e => ?_⟩
 · obtain ⟨b, o, e, hc⟩ := h.b.2.2.2 h0
   exact ⟨b, o, e, fun j x hx => (World.cell?_of_block (w := w) (a := ⟨b, o + j, none⟩) (hu b o h0 e)).trans (hc j x hx)⟩
 · obtain ⟨a, t, m, q, h1, h2⟩ := h.u b o h0 e
   exact ⟨a, t, m, (hu b o h0 e).trans q, h1, h2⟩
theorem Own.kx {e : TypeId} {s : Nat} {v : Value} {xs : List Value} (h : Own w0 w e s v n xs) (k : KX S kb w w') (hb : Below w0.heap.size w0 w') (h1 : ¬ tyM e) (h2 : e ≠ 256) (hS : ∀ x, S x → v.ownBlock ≠ some x) : Own w0 w' e s v n xs :=
 h.stay hb k.size (fun b q => by
  obtain ⟨cs, z⟩ := h.blk_at q
  exact (k.blk z h1 (fun e' => absurd e' h2) (fun s => hS _ s q)).trans z.symm)
theorem Pgo.kx {R : List BRow} (h : Pgo w0 kb w b c N R) (k : KX S kb w w') (hb : Below w0.heap.size w0 w') (hS : ∀ x, S x → x ≠ b ∧ ∃ t cs, Blk w x t cs ∧ ¬ tyB t) : Pgo w0 kb w' b c N R :=
 ⟨h.o.kx k hb (by unfold tyM; decide) (by decide) (fun x s q => (hS x s).1 (by injection q with q; exact q.symm)), fun r hr => (h.q r hr).kx k (fun x s => (hS x s).2)⟩
structure Pgw (w0 : World) (kb : Nat) (w : World) (A : Option Addr) (c K : Nat) (R : List PRow) : Prop where
 o : Own w0 w 188 2 (.slice A K c) K (R.flatMap PRow.cells)
 q : ∀ x ∈ R, QB kb w x.r.a x.r.n x.r.c x.r.l
theorem Pgw.kx {K : Nat} {R : List PRow} (h : Pgw w0 kb w A c K R) (k : KX S kb w w') (hb : Below w0.heap.size w0 w') (hS : ∀ x, S x → ∃ t cs, Blk w x t cs ∧ ¬ tyB t ∧ t ≠ 188) : Pgw w0 kb w' A c K R :=
 ⟨h.o.kx k hb (by unfold tyM; decide) (by decide) (fun x s q => by
  obtain ⟨cs, z⟩ := h.o.blk_at q
  obtain ⟨t, cs', z', _, hn⟩ := hS x s
  exact hn (bTy z z').symm), fun r hr => (h.q r hr).kx k (fun x s => by
  obtain ⟨t, cs', z', hn, _⟩ := hS x s
  exact ⟨t, cs', z', hn⟩)⟩
theorem Pgw.mono {K : Nat} {R : List PRow} (h : Pgw w0 kb w A c K R) (g : Gr w w') : Pgw w0 kb w' A c K R := ⟨h.o.mono g, fun r hr => (h.q r hr).mono g⟩
theorem Pgw.pgw {K : Nat} {R : List PRow} (h : Pgw w0 kb w A c K R) : PgW kb w A K c R := by
 have hl := h.o.1.1
 obtain ⟨_, _, hv, s⟩ := h.o.slice
 injection hv with e1 _ e2
 subst e1 e2
 have hlen : R.length = K := by
  have := flat_two R
  omega
 refine ⟨⟨hlen, s⟩, fun b o h0 e => ?_, h.q⟩
 subst e
 obtain ⟨cs, z⟩ := h.o.blk_at (b := b) rfl
 exact ⟨_, _, _, z, by unfold tyM; decide, fun e => absurd e (by decide)⟩
end
end
section
open Go.RowKit
def fieldL (l : List UInt8) : List UInt8 := be l.length 2 ++ l
def rowsE (L : List (List UInt8)) : List UInt8 := L.flatMap fieldL
abbrev Rd := Option (List UInt8)
theorem be2_len (n : Nat) : (be n 2).length = 2 := be_length 2 n
end
section
open Go.RowKit
def rowOk (b : List UInt8) : Bool := decide (b.length = 0) || decide (b.length = 80)
def nodeE (L : List (List UInt8)) : List UInt8 := if L.any (fun l => decide (0 < l.length)) then rowsE L else []
theorem fLn (l : List UInt8) : (fieldL l).length = l.length + 2 := by unfold fieldL; rw [List.length_append, be2_len]; omega
theorem rowsE_pos {L : List (List UInt8)} (h : L ≠ []) : 0 < (rowsE L).length := by
 cases L with
 | nil => exact absurd rfl h
 | cons x L =>
  unfold rowsE
  rw [List.flatMap_cons, List.length_append, fLn]
  omega
def leafE (head sealed : List UInt8) : List UInt8 := if head.length = 0 then [] else fieldL head ++ fieldL sealed
end
section
open Go.RowKit
def av0 : Mc := ⟨[], [], Dk.new 13⟩
def avK0 : List UInt8 := handleL (atomT av0.T).2
def av1 : Mc := { av0 with T := (atomT av0.T).1 }
def av2 : Mc := (av1.rootPut 0 avK0).1
def av3 : Mc := (av2.rootErase 1).1
def av4 : Mc := av3.format 2 1 3 3
def avK1 : List UInt8 := handleL (atomT av4.T).2
def av5 : Mc := { av4 with T := (atomT av4.T).1 }
def avK2 : List UInt8 := handleL (atomT av5.T).2
def av6 : Mc := { av5 with T := (atomT av5.T).1 }
def avS2 : List UInt8 := sealB av6.T avK2 [7]
def av7 : Mc := { av6 with T := (sealT av6.T avK2 [7]).1 }
def avB2 : List UInt8 := leafE [97] avS2
def avS1 : List UInt8 := sealB av7.T avK1 avK2
def av8 : Mc := { av7 with T := (sealT av7.T avK1 avK2).1 }
def avB0 : List UInt8 := nodeE [[], avS1]
def avP : List (Nat × List UInt8) := [(2, avB2), (0, avB0)]
def av9 : Mc := (av8.rootPut 1 avK1).1
def av10 : Mc := av9.walAppend 3 1 0 0 1 avP
def av11 : Mc := (av10.rootErase 0).1
def avQ : List (List UInt8) := [avB0, [], avB2]
def av12 : Mc := av11.begin 2 1 3 ⟨2, 0, 1⟩ avQ
set_option maxRecDepth 100000 in
theorem avK_len : avK0.length = 32 ∧ avK1.length = 32 ∧ avK2.length = 32 ∧ avS2.length = 49 ∧ avS1.length = 80 ∧ avB2.length = 54 ∧ avB0.length = 84 := by decide +kernel
set_option maxRecDepth 100000 in
theorem av_open : openT av11.T avK1 avS1 = some avK2 ∧ openT av11.T avK2 avS2 = some [7] := by decide +kernel
set_option maxRecDepth 100000 in
theorem av_super : (superR av11.S 2 1 3 av11.d.kept).map (fun x => (x.life, x.base, x.gen)) = some (1, 0, 0) := by decide +kernel
set_option maxRecDepth 100000 in
theorem av_pages : (List.range 3).all (fun k => pgIs av11 2 1 3 1 k && decide ((pgR av11 2 1 3 1 k).1.body = [])) = true := by decide +kernel
set_option maxRecDepth 100000 in
theorem av_settle : (av11.settle 1).2 = avK1 ∧ (av11.settle 1).1.2 = 0 ∧ av11.d.kept.getD 0 [] = blankL := by decide +kernel
end
end Go.Proofs.YtdkmlmbehlooiaaGreatDoor
