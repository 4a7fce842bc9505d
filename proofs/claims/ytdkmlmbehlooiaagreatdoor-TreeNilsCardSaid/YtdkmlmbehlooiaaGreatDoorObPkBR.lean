/- Own texts, one behind the other. No condition. -/
import Derived.Test.YtdkmlmbehlooiaaGreatDoorObPkBQ
set_option linter.unusedVariables false
set_option linter.unusedSimpArgs false
namespace Go.Proofs.YtdkmlmbehlooiaaGreatDoor
section
open Go.RowKit
def KXc (S : Nat → Prop) (kb : Nat) (p : Addr) (v : Value) (w w' : World) : Prop := KX S kb w w' ∧ (w.cell? p = some v → w'.cell? p = some v)
instance (S : Nat → Prop) (kb : Nat) (b o : Nat) (v : Value) : VG.LtO (KXc S kb ⟨b, o, none⟩ v) :=
 ⟨fun w => ⟨KX.gr (Gr.refl w), id⟩, fun h k => ⟨h.1.trans k.1, fun c => k.2 (h.2 c)⟩, fun h => h.1.size, fun g => ⟨KX.gr g, fun c => (g.cell (p := ⟨b, o, none⟩) (World.block_lt_of_cell? _ _ c)).trans c⟩⟩
section
variable {w0 w w' : World} {L : Pl} {m : Mc} {n : Nat} {a d l : Int} {vx vk : Value} {dead : Bool} {pt pv pd pS pg : Nat}
set_option maxRecDepth 100000 in
set_option maxHeartbeats 4000000 in
theorem treeOpen1Bad_any (h : MSt w0 L m w) (f : Fit m a d l) (ho : m.Ok n) (hn : n ≤ 900) (hd : m.d.down = false) (hp : m.d.pend = []) (hX : superR m.S a d l m.d.kept = none) (hge : w0.heap.size ≤ pt) (b : TrB L a d l vx vk dead pt pv pd pS pg w) (kx : ∃ z, vx = .pointer z) :
 Calls Tryz.prog 22 #[.pointer (some ⟨pd, 0, none⟩), .pointer (some ⟨pS, 0, none⟩), .pointer (some ⟨pg, 0, none⟩), .pointer (some ⟨pv, 0, none⟩)] w fun e w' => e = .returned (.int .i64 11) ∧ MSt w0 L m w' ∧ Tch (fun z => z = pt) w w' := by
 have HC := Lib.hid (fun wr (g : Gr w wr) => (b.gr g).cells)
 have HB := Lib.hid b; have HH := Lib.hid h
 have HR := Lib.hid (fun wr (g : Gr w wr) => storeOpenBad_any (h.mono g) f ho hn hd hp hX)
 obtain ⟨z, rfl⟩ := kx
 clear h f ho hd hp hX b
 go_enter Tryz.func22, Tryz.ntmps22
 go_upto_region 1 with fail
 refine wrG (by kernel_rfl) [0, 0, 0, 0, 14, 30, 62, 62, 127, 383, 895, 2047] [.q 0, .q 1, .q 2, .q 3, .c 4, .p 5, .p 6, .p 7, .p 8, .p 9, .s 10, .p 11] (by kernel_rfl) (trivial) ?_
 iterate 4
  refine wQe rfl rfl ?_
  apply Exists.intro
  refine ⟨fun wq hq => ?_, ?_⟩
  · obtain ⟨d0, s0, g0, g1, g2, v0, x5, x6⟩ := HC.out wq ((Gr.drew _).trans hq)
    unfold pLa
    go_simp
    first | exact rfl | exact ⟨rfl, rfl⟩
  go_simp
 refine wpG_c rfl rfl ?_
 intro w3 g3 K hK
 go_simp
 go_at_call 23
 refine (HR.out w3 ((Gr.drew _).trans g3)).mono ?_
 rintro e wn ⟨rfl, h4, g4⟩
 refine hK _ _ g4 ?_; have G4 := Lib.hid (((Gr.drew w).trans g3).trans g4); clear g3 h4 g4 hK
 go_simp
 iterate 5
  refine wPe rfl rfl ?_
  apply Exists.intro
  refine ⟨fun wq => ?_, ?_⟩
  · unfold pLa
    go_simp
    first | exact rfl | exact ⟨rfl, rfl⟩
  go_simp
 refine wpG_s rfl rfl ?_
 intro w5 g5 K hK
 have G5 := Lib.hid (G4.out.trans g5)
 have B5 := Lib.hid (HB.out.gr G5.out)
 have x5 := B5.out.ft.cell 5
 have f5 := Blk.free B5.out.ft 5
 clear g5
 go_simp
 refine hK _ _ ?_
 clear hK x5 f5
 go_simp
 refine wPe rfl rfl ?_
 apply Exists.intro
 refine ⟨fun wq => ?_, ?_⟩
 · unfold pLa
   go_simp
   first | exact rfl | exact ⟨rfl, rfl⟩
 go_simp
 refine wNi ?_
 intro w7 g7
 have T7 : Hid (Tch (fun z => z = pt) w w7) := ((Tch.gr G5.out).trans (Tch.set (S := fun z => z = pt) ⟨pt, 5, none⟩ _ rfl)).trans (Tch.gr g7)
 clear g7
 go_wp2_with fail
 go_ret
 exact ⟨rfl, HH.out.off T7.out (fun z e => e ▸ hge) (fun z e => e ▸ ⟨_, _, HB.out.ft, tyA_tree⟩), T7.out⟩
set_option maxRecDepth 100000 in
set_option maxHeartbeats 4000000 in
theorem treeOpen1_any (h : MSt w0 L m w) (f : Fit m a d l) (ho : m.Ok n) (hn : n ≤ 900) (hd : m.d.down = false) (hp : m.d.pend = []) (N : Nat) (hN0 : 0 < N) (hN : (N : Int) = pagesI a d l) (X : Spr) (hX : superR m.S a d l m.d.kept = some X) (hl : X.life < 18446744073709551616) (hbs : X.base ≤ 1073741824) (hall : ∀ k, k < N → pgIs m a d l X.life k = true) (G : Nat) (hG : G < 18446744073709551616) (P : List (Nat × List UInt8)) (hP : TxnIs m a d l X.life X.base G P) (hge : w0.heap.size ≤ pt) (b : TrB L a d l vx vk dead pt pv pd pS pg w) (kx : ∃ z, vx = .pointer z) :
 Calls Tryz.prog 22 #[.pointer (some ⟨pd, 0, none⟩), .pointer (some ⟨pS, 0, none⟩), .pointer (some ⟨pg, 0, none⟩), .pointer (some ⟨pv, 0, none⟩)] w fun e w' => e = .returned (.int .i64 0) ∧ ∃ ps bb c R, MSt w0 L m w' ∧ TrB L a d l (.pointer (some ⟨ps, 0, none⟩)) vk dead pt pv pd pS pg w' ∧ Blk w' ps 111 (storeC L a d l ⟨X.life, X.base, G⟩ (.pointer none) ((X.base + (P.length + 1)) % l.toNat) (.slice (some ⟨bb, 0, none⟩) N c) true false) ∧ Pgo w0 L.kb w' bb c N R ∧ R.map BRow.l = putP ((List.range N).map (fun i => (pgR m a d l X.life i).1.body)) P ∧ N ≤ c ∧ c ≤ 9223372036854775807 ∧ w.heap.size ≤ ps ∧ Tch (fun z => z = pt) w w' := by
 have HC := Lib.hid (fun wr (g : Gr w wr) => (b.gr g).cells)
 have HB := Lib.hid b; have HH := Lib.hid h
 have HR := Lib.hid (fun wr (g : Gr w wr) => storeOpen_any (h.mono g) f ho hn hd hp N hN0 hN X hX hl hbs hall G hG P hP)
 obtain ⟨z, rfl⟩ := kx
 obtain ⟨QR, hQR⟩ : ∃ QR, QR = (X.base + (P.length + 1)) % l.toNat := ⟨_, rfl⟩
 obtain ⟨PP, hPP⟩ : ∃ PP, PP = putP ((List.range N).map (fun i => (pgR m a d l X.life i).1.body)) P := ⟨_, rfl⟩
 rw [← hQR, ← hPP] at HR ⊢
 clear h f ho hd hp hX b hall hP hQR hPP hN
 go_enter Tryz.func22, Tryz.ntmps22
 go_upto_region 1 with fail
 refine wrG (by kernel_rfl) [0, 0, 0, 0, 14, 30, 62, 62, 127, 383, 895, 2047] [.q 0, .q 1, .q 2, .q 3, .c 4, .p 5, .p 6, .p 7, .p 8, .p 9, .s 10, .p 11] (by kernel_rfl) (trivial) ?_
 iterate 4
  refine wQe rfl rfl ?_
  apply Exists.intro
  refine ⟨fun wq hq => ?_, ?_⟩
  · obtain ⟨d0, s0, g0, g1, g2, v0, x5, x6⟩ := HC.out wq ((Gr.drew _).trans hq)
    unfold pLa
    go_simp
    first | exact rfl | exact ⟨rfl, rfl⟩
  go_simp
 refine wpG_c rfl rfl ?_
 intro w3 g3 K hK
 go_simp
 go_at_call 23
 refine (HR.out w3 ((Gr.drew _).trans g3)).mono ?_
 rintro e wn ⟨ps, bb, c, R, rfl, h4, s4, p4, e4, n1, n2, n3, n4, g4⟩
 refine hK _ _ g4 ?_; have G4 := Lib.hid (((Gr.drew w).trans g3).trans g4); have hps : w.heap.size ≤ ps := Nat.le_trans ((Gr.drew w).trans g3).size n3; have H4 := Lib.hid h4; have S4 := Lib.hid s4; have P4 := Lib.hid p4; have E4 := Lib.hid e4; clear g3 h4 g4 s4 p4 e4 n3 n4 hK
 go_simp
 iterate 5
  refine wPe rfl rfl ?_
  apply Exists.intro
  refine ⟨fun wq => ?_, ?_⟩
  · unfold pLa
    go_simp
    first | exact rfl | exact ⟨rfl, rfl⟩
  go_simp
 refine wpG_s rfl rfl ?_
 intro w5 g5 K hK
 have G5 := Lib.hid (G4.out.trans g5)
 have B5 := Lib.hid (HB.out.gr G5.out)
 have H5 := Lib.hid (H4.out.mono g5); have S5 := Lib.hid (S4.out.mono g5); have P5 := Lib.hid (P4.out.mono g5)
 have x5 := B5.out.ft.cell 5
 have f5 := Blk.free B5.out.ft 5
 clear g5
 go_simp
 refine hK _ _ ?_
 clear hK x5 f5
 go_simp
 obtain ⟨w6, hw6⟩ : ∃ w6, w6 = w5.setCell ⟨pt, 5, none⟩ (.pointer (some ⟨ps, 0, none⟩)) := ⟨_, rfl⟩
 have T6 : Tch (fun z => z = pt) w5 w6 := by rw [hw6]; exact Tch.set ⟨pt, 5, none⟩ _ rfl
 have F6 : Blk w6 pt 65 (treeC L a d l (.pointer (some ⟨ps, 0, none⟩)) vk dead) := by rw [hw6]; exact B5.out.ft.set 5 _
 rw [← hw6]
 clear hw6
 refine wPe rfl rfl ?_
 apply Exists.intro
 refine ⟨fun wq => ?_, ?_⟩
 · unfold pLa
   go_simp
   first | exact rfl | exact ⟨rfl, rfl⟩
 go_simp
 refine wNi ?_
 intro w7 g7
 have T7 : Hid (Tch (fun z => z = pt) w5 w7) := T6.trans (Tch.gr g7)
 have F7 := Lib.hid (F6.mono g7)
 clear T6 F6 g7
 go_wp2_with fail
 go_ret
 have np : ∀ {g : Nat} {t : TypeId} {cs : List Value}, Blk w5 g t cs → t ≠ 65 → ¬ g = pt := fun hg hne e => by
  rw [e] at hg
  exact hne (bTy hg B5.out.ft)
 have M7 : MSt w0 L m w7 := H5.out.off T7.out (fun z e => e ▸ hge) (fun z e => e ▸ ⟨_, _, B5.out.ft, tyA_tree⟩)
 refine ⟨rfl, ps, bb, c, R, M7, B5.out.to (KX.tch (kb := L.kb) T7.out) (fun z e => by subst e; exact ⟨_, _, B5.out.ft, by decide, by decide, by decide, by decide⟩) F7.out, S5.out.tch T7.out (np S5.out (by decide)), P5.out.kx (KX.tch T7.out) M7.below (fun z e => ?_), E4.out, n1, n2, hps, (Tch.gr G5.out).trans T7.out⟩
 obtain ⟨cs, z2⟩ := P5.out.o.blk_at (b := bb) rfl
 exact ⟨fun q => np z2 (by decide) (q.symm.trans e), _, _, e ▸ B5.out.ft, by unfold tyB; decide⟩
set_option maxRecDepth 100000 in
set_option maxHeartbeats 4000000 in
theorem treeOpen2_any (h : MSt w0 L m w) (ho : m.Ok n) (hn : n + 2 ≤ 900) (hd : m.d.down = false) (hp : m.d.pend = []) (hk : 2 ≤ m.d.kept.length) (x : Spr) (hg : x.gen < 18446744073709551616) (key : List UInt8) (hkey : (m.settle x.gen).2 = key) (hkl : key.length = 32) (hz : (m.settle x.gen).1.2 = 0) (ps : Nat) (vl vp : Value) (next : Nat) (due sd : Bool) (hs : Blk w ps 111 (storeC L a d l x vl next vp due sd)) (hge : w0.heap.size ≤ pt) (b : TrB L a d l (.pointer (some ⟨ps, 0, none⟩)) vk dead pt pv pd pS pg w) (kk : ∃ A n c, vk = .slice A n c) :
 Calls Tryz.prog 24 #[.pointer (some ⟨pd, 0, none⟩), .pointer (some ⟨pS, 0, none⟩), .pointer (some ⟨pv, 0, none⟩)] w fun e w' => e = .returned (.int .i64 0) ∧ ∃ A c, MSt w0 L (m.settle x.gen).1.1 w' ∧ TrB L a d l (.pointer (some ⟨ps, 0, none⟩)) (.slice A 32 c) dead pt pv pd pS pg w' ∧ QB L.kb w' A 32 c key ∧ KX (fun z => z = pt) L.kb w w' := by
 have HC := Lib.hid (fun wr (k : KXc (fun z => z = pt) L.kb ⟨pt, 5, none⟩ (.pointer (some ⟨ps, 0, none⟩)) w wr) => And.intro (b.kx4 (fun z e => e) k.1) (k.2 (b.ft.cell 5)))
 have HB := Lib.hid b
 have hptlt : pt < w.heap.size := b.ft.lt
 have HG := Lib.hid (fun wr (g : Gr w wr) => storeGen_any (hs.mono g))
 have HR := Lib.hid (fun wr (g : Gr w wr) => rootSettle_any (h.mono g) ho hn hd hp hk x.gen hg)
 obtain ⟨A0, n0, c0, rfl⟩ := kk
 obtain ⟨r, hr⟩ : ∃ r, r = m.settle x.gen := ⟨_, rfl⟩
 rw [← hr] at HR hkey hz ⊢
 obtain ⟨⟨m2, q2⟩, key2⟩ := r
 simp only at hkey hz
 subst hkey hz
 unfold RetBF at HR
 simp only [hkl] at HR
 clear h ho hd hp hk hs b hr hkl
 go_enter Tryz.func24, Tryz.ntmps24
 go_upto_region 1 with fail
 refine VG.wrV (KXc (fun z => z = pt) L.kb ⟨pt, 5, none⟩ (.pointer (some ⟨ps, 0, none⟩))) (KQ L.kb) 129 ?hlb (fun w w' h => h.1) (fun w w' b cs h hb => h.sec hb) (by kernel_rfl) [0, 0, 0, 0, 8, 24, 56, 120, 254, 510, 1022, 1022, 2047, 6143, 14335, 32767] [.q 0, .q 1, .q 2, .q 3, .p 4, .p 5, .q 6, .c 7, .c 8, .p 9, .p 10, .p 11, .p 12, .p 13, .c 14, .p 15] (by kernel_rfl) (trivial) ?_
 case hlb => exact fun v w' b cs k hb z => k.1.blk z (by unfold tyM; decide) (fun e => absurd e (by decide)) (by omega)
 iterate 4
  refine VG.wQe rfl rfl ?_
  apply Exists.intro
  refine ⟨fun wq hq => ?_, ?_⟩
  · obtain ⟨⟨d0, s0, g0, g1, g2, v0⟩, x5⟩ := HC.out wq (VG.LtO.trans (VG.LtO.gr (Gr.drew _)) hq)
    unfold pLa
    go_simp
    first | exact rfl | exact ⟨rfl, rfl⟩
  go_simp
 iterate 2
  refine VG.wPe rfl rfl ?_
  apply Exists.intro
  refine ⟨fun wq => ?_, ?_⟩
  · unfold pLa
    go_simp
    first | exact rfl | exact ⟨rfl, rfl⟩
  go_simp
 refine VG.wQe rfl rfl ?_
 apply Exists.intro
 refine ⟨fun wq hq => ?_, ?_⟩
 · obtain ⟨⟨d0, s0, g0, g1, g2, v0⟩, x5⟩ := HC.out wq (VG.LtO.trans (VG.LtO.gr (Gr.drew _)) hq)
   unfold pLa
   go_simp
   first | exact rfl | exact ⟨rfl, rfl⟩
 go_simp
 refine VG.wpG_c rfl rfl ?_
 intro w3 g3 K hK
 go_simp
 go_at_call 26
 refine (HG.out w3 ((Gr.drew _).trans g3)).mono ?_
 rintro e wn ⟨rfl, e4⟩
 subst e4; refine hK _ _ (VG.LtO.refl _) ?_; have G3 := Lib.hid ((Gr.drew w).trans g3); clear g3 hK
 go_simp
 refine VG.wpG_c rfl rfl ?_
 intro w4 g4 K hK
 go_simp
 go_at_call 25
 refine (HR.out w4 (G3.out.trans g4)).mono ?_
 rintro e wn ⟨A, c, rfl, i1, i2, i3⟩
 have b4 := HB.out.gr (G3.out.trans g4); refine hK _ _ ⟨KX.kq i3, fun _ => (b4.kq i3).ft.cell 5⟩ ?_; have I1 := Lib.hid i1; have I2 := Lib.hid i2; have K4 : Hid (KQ L.kb w wn) := (KQ.gr (G3.out.trans g4)).trans i3; clear g4 i1 i2 i3 b4 hK
 go_simp
 iterate 5
  refine VG.wPe rfl rfl ?_
  apply Exists.intro
  refine ⟨fun wq => ?_, ?_⟩
  · unfold pLa
    go_simp
    first | exact rfl | exact ⟨rfl, rfl⟩
  go_simp
 refine VG.wpG_c rfl rfl ?_
 intro w5 g5 K hK
 have K5 : Hid (KQ L.kb w w5) := K4.out.trans (KQ.gr g5)
 have B5 := Lib.hid (HB.out.kq K5.out)
 have M5 := Lib.hid (I2.out.mono g5); have Q5 := Lib.hid (I1.out.mono g5)
 have x6 := B5.out.ft.cell 6
 have f6 := Blk.free B5.out.ft 6
 clear g5
 go_simp
 have x5 : (w5.setCell ⟨pt, 6, none⟩ (.slice A 32 c)).cell? ⟨pt, 5, none⟩ = some (.pointer (some ⟨ps, 0, none⟩)) := (B5.out.ft.set 6 (.slice A 32 c)).cell 5
 refine hK _ _ ⟨KX.tch (Tch.set ⟨pt, 6, none⟩ _ rfl), fun _ => x5⟩ ?_
 clear hK x6 f6 x5
 go_simp
 obtain ⟨w6, hw6⟩ : ∃ w6, w6 = w5.setCell ⟨pt, 6, none⟩ (.slice A 32 c) := ⟨_, rfl⟩
 have T6 : Tch (fun z => z = pt) w5 w6 := by rw [hw6]; exact Tch.set ⟨pt, 6, none⟩ _ rfl
 have F6 : Blk w6 pt 65 (treeC L a d l (.pointer (some ⟨ps, 0, none⟩)) (.slice A 32 c) dead) := by rw [hw6]; exact B5.out.ft.set 6 _
 rw [← hw6]
 clear hw6
 refine VG.wPe rfl rfl ?_
 apply Exists.intro
 refine ⟨fun wq => ?_, ?_⟩
 · unfold pLa
   go_simp
   first | exact rfl | exact ⟨rfl, rfl⟩
 go_simp
 refine VG.wNi ?_
 intro w7 g7
 have T7 : Hid (Tch (fun z => z = pt) w5 w7) := T6.trans (Tch.gr g7)
 have F7 := Lib.hid (F6.mono g7)
 clear T6 F6 g7
 go_wp2_with fail
 go_ret
 exact ⟨rfl, A, c, M5.out.off T7.out (fun z e => e ▸ hge) (fun z e => e ▸ ⟨_, _, B5.out.ft, tyA_tree⟩), B5.out.to (KX.tch (kb := L.kb) T7.out) (fun z e => by subst e; exact ⟨_, _, B5.out.ft, by decide, by decide, by decide, by decide⟩) F7.out, Q5.out.tchT T7.out (fun z e => e ▸ ⟨_, _, B5.out.ft, by unfold tyB; decide⟩), (KX.kq K5.out).trans (KX.tch T7.out)⟩
end
end
section
open Go.RowKit
structure MacE (m : Mc) (n : Nat) (X : Spr) (G : Nat) (P : List (Nat × List UInt8)) (Q : List (List UInt8)) (head z1 z2 key key2 v : List UInt8) : Prop where
 f : Fit m 2 1 3
 lv : m.Live
 ok : m.Ok n
 n9 : n + 20 ≤ 900
 p : m.d.pend = []
 x : superR m.S 2 1 3 m.d.kept = some X
 xl : X.life < 1000000
 xb : X.base ≤ 1073741824
 g : G < 18446744073709551616
 all : ∀ k, k < 3 → pgIs m 2 1 3 X.life k = true
 t : TxnIs m 2 1 3 X.life X.base G P
 q : putP ((List.range 3).map (fun i => (pgR m 2 1 3 X.life i).1.body)) P = Q
 q3 : Q = [rowsE [[], z1], [], fieldL head ++ fieldL z2]
 s1 : m.settle G = ((m, 0), key)
 kl : key.length = 32
 h0 : 0 < head.length
 hl : head.length ≤ 100
 hr : rightL head = true
 l1 : z1.length = 80
 l2 : 48 ≤ z2.length
 l3 : z2.length ≤ 300
 k2 : key2.length = 32
 o1 : openT m.T key z1 = some key2
 o2 : openT m.T key2 z2 = some v
section
variable {w0 w w' : World} {L : Pl} {m : Mc} {n : Nat} {a d l : Int} {vx vk : Value} {dead : Bool} {pt pv pd pS pg : Nat}
set_option maxRecDepth 100000 in
set_option maxHeartbeats 1000000 in
theorem treeOpen3_any {ps b c N next : Nat} {x : Spr} {vl : Value} (h : MSt w0 L m w) (f : Fit m a d l) (hlv : m.Live) (ho : m.Ok n) (hl : x.life < 1000000) (hbs : next ≤ 1073741824) (hg : x.gen < 18446744073709551616) (hge : w0.heap.size ≤ ps)
 (R : List BRow) (hp : Pgo w0 L.kb w b c N R) (hlen : (N : Int) = pagesI a d l) (hsm : ∀ r ∈ R, r.n ≤ 479) (hn : n + 2 * N + 4 ≤ 900) (hs : Blk w ps 111 (storeC L a d l x vl next (.slice (some ⟨b, 0, none⟩) N c) true false)) (bb : TrB L a d l (.pointer (some ⟨ps, 0, none⟩)) vk dead pt pv pd pS pg w) :
 Calls Tryz.prog 28 #[.pointer (some ⟨pv, 0, none⟩)] w fun e w' => e = .returned (.int .i64 0) ∧ ∃ pl, MSt w0 L (m.begin a d l ⟨x.life + 1, next, x.gen⟩ (R.map BRow.l)) w' ∧ Blk w' ps 111 (storeC L a d l ⟨x.life + 1, next, x.gen⟩ (.pointer (some ⟨pl, 0, none⟩)) next (.slice (some ⟨b, 0, none⟩) N c) false false) ∧ KX (fun b => b = ps) L.kb w w' := by
 have HR := Lib.hid (storeRenew_any h f hlv ho hl hbs hg hge R hp hlen hsm hn hs)
 obtain ⟨m2, hm2⟩ : ∃ m2, m2 = m.begin a d l ⟨x.life + 1, next, x.gen⟩ (R.map BRow.l) := ⟨_, rfl⟩
 rw [← hm2] at HR ⊢
 obtain ⟨d0, s0, g0, g1, g2, v0, x5, x6⟩ := bb.cells
 clear h f hlv ho hp hlen hsm hs hm2 bb
 go_enter Tryz.func28, Tryz.ntmps28
 go_wp2_with fail
 refine HR.out.mono ?_
 rintro e w1 ⟨rfl, pl, i1, i2, i3⟩
 have I1 := Lib.hid i1; have I2 := Lib.hid i2; have I3 := Lib.hid i3
 clear i1 i2 i3 d0 s0 g0 g1 g2 v0 x5 x6
 go_wp2_with fail
 go_ret
 exact ⟨rfl, pl, I1.out, I2.out, I3.out⟩
abbrev toF (pd pS pg pv pt : Nat) : Array Value := #[.func (.func 22) #[] #[.pointer (some ⟨pd, 0, none⟩), .pointer (some ⟨pS, 0, none⟩), .pointer (some ⟨pg, 0, none⟩), .pointer (some ⟨pv, 0, none⟩)], .func (.func 24) #[] #[.pointer (some ⟨pd, 0, none⟩), .pointer (some ⟨pS, 0, none⟩), .pointer (some ⟨pv, 0, none⟩)], .func (.func 27) #[.pointer (some ⟨pt, 0, none⟩)] #[], .func (.func 28) #[] #[.pointer (some ⟨pv, 0, none⟩)]]
structure OpT (w0 : World) (L : Pl) (m2 : Mc) (x : Spr) (key : List UInt8) (Q : List (List UInt8)) (pt : Nat) (w : World) : Prop where
 ex : ∃ ps pl bb c R A kc next, MSt w0 L m2 w ∧ Blk w pt 65 (treeC L 2 1 3 (.pointer (some ⟨ps, 0, none⟩)) (.slice A 32 kc) false) ∧ QB L.kb w A 32 kc key ∧ Blk w ps 111 (storeC L 2 1 3 x (.pointer (some ⟨pl, 0, none⟩)) next (.slice (some ⟨bb, 0, none⟩) 3 c) false false) ∧ Pgo w0 L.kb w bb c 3 R ∧ R.map BRow.l = Q ∧ 3 ≤ c ∧ c ≤ 9223372036854775807
theorem row3 {R : List BRow} {x y z : List UInt8} (h : R.map BRow.l = [x, y, z]) : ∃ r0 r1 r2, R = [r0, r1, r2] ∧ r0.l = x ∧ r1.l = y ∧ r2.l = z := by
 match R, h with
 | [r0, r1, r2], hh =>
  injection hh with e1 hh
  injection hh with e2 hh
  injection hh with e3 _
  exact ⟨r0, r1, r2, rfl, e1, e2, e3⟩
theorem treeOpenSteps_any {X : Spr} {G : Nat} {P : List (Nat × List UInt8)} {Q : List (List UInt8)} {head z1 z2 key key2 v : List UInt8} (bs : Nat) (w2 : World) (h : MSt w0 L m w2) (e : MacE m n X G P Q head z1 z2 key key2 v) (hT : U8 w0) (hge : w0.heap.size ≤ pt)
 (b : TrB L 2 1 3 (.pointer none) (.slice none 0 0) false pt pv pd pS pg w2) (hst : Blk w2 bs 106 (toF pd pS pg pv pt).toList) :
 Calls Tryz.prog 21 #[.slice (some ⟨bs, 0, none⟩) 4 4] w2 (RetS (fun w' => OpT w0 L (m.begin 2 1 3 ⟨X.life + 1, (X.base + (P.length + 1)) % 3, G⟩ Q) ⟨X.life + 1, (X.base + (P.length + 1)) % 3, G⟩ key Q pt w' ∧ Blk w' pv 33 [.pointer (some ⟨pt, 0, none⟩)]) (fun _ _ => False)) := by
 have hn9 := e.n9
 have hk : 2 ≤ m.d.kept.length := by have := e.f.s; rw [show sizeI 2 1 3 = 13 by decide] at this; omega
 obtain ⟨QR, hQR⟩ : ∃ QR : Nat, QR = (X.base + (P.length + 1)) % 3 := ⟨_, rfl⟩
 have hqr : QR < 3 := by rw [hQR]; exact Nat.mod_lt _ (by decide)
 have hqe : (X.base + (P.length + 1)) % (3 : Int).toNat = QR := hQR.symm
 rw [← hQR]
 have nst : ∀ {w : World} {g : Nat} {cs : List Value}, Blk w pt 65 cs → ∀ {t : TypeId}, Blk w g t (toF pd pS pg pv pt).toList → t = 106 → ¬ g = pt := fun h1 t h2 e1 e2 => by
  rw [e2, e1] at h2
  exact absurd (bTy h1 h2) (by decide)
 refine treeSteps4 _ _ _ _ _ _ _ _ _ _ _ _ (enters_of Tryz.func22 (by kernel_rfl) rfl) (enters_of Tryz.func24 (by kernel_rfl) rfl) (enters_of Tryz.func27 (by kernel_rfl) rfl) (enters_of Tryz.func28 (by kernel_rfl) rfl) bs w2
  (fun w' => Blk w' bs 106 (toF pd pS pg pv pt).toList ∧ ∃ ps bb c R, MSt w0 L m w' ∧ TrB L 2 1 3 (.pointer (some ⟨ps, 0, none⟩)) (.slice none 0 0) false pt pv pd pS pg w' ∧ Blk w' ps 111 (storeC L 2 1 3 ⟨X.life, X.base, G⟩ (.pointer none) QR (.slice (some ⟨bb, 0, none⟩) 3 c) true false) ∧ Pgo w0 L.kb w' bb c 3 R ∧ R.map BRow.l = Q ∧ 3 ≤ c ∧ c ≤ 9223372036854775807 ∧ w0.heap.size ≤ ps)
  (fun w' => Blk w' bs 106 (toF pd pS pg pv pt).toList ∧ ∃ ps bb c R A kc, MSt w0 L m w' ∧ TrB L 2 1 3 (.pointer (some ⟨ps, 0, none⟩)) (.slice A 32 kc) false pt pv pd pS pg w' ∧ QB L.kb w' A 32 kc key ∧ Blk w' ps 111 (storeC L 2 1 3 ⟨X.life, X.base, G⟩ (.pointer none) QR (.slice (some ⟨bb, 0, none⟩) 3 c) true false) ∧ Pgo w0 L.kb w' bb c 3 R ∧ R.map BRow.l = Q ∧ 3 ≤ c ∧ c ≤ 9223372036854775807 ∧ w0.heap.size ≤ ps)
  (fun w' => Blk w' bs 106 (toF pd pS pg pv pt).toList ∧ ∃ ps bb c R A kc, MSt w0 L m w' ∧ TrB L 2 1 3 (.pointer (some ⟨ps, 0, none⟩)) (.slice A 32 kc) false pt pv pd pS pg w' ∧ QB L.kb w' A 32 kc key ∧ Blk w' ps 111 (storeC L 2 1 3 ⟨X.life, X.base, G⟩ (.pointer none) QR (.slice (some ⟨bb, 0, none⟩) 3 c) true false) ∧ Pgo w0 L.kb w' bb c 3 R ∧ R.map BRow.l = Q ∧ 3 ≤ c ∧ c ≤ 9223372036854775807 ∧ w0.heap.size ≤ ps)
  _ _ hst ?_ ?_ ?_ ?_
 · refine (treeOpen1_any h e.f e.ok (by omega) e.lv.d e.p 3 (by decide) (by decide) X e.x (by have := e.xl; omega) e.xb e.all G e.g P e.t hge b ⟨_, rfl⟩).mono ?_
   rintro e2 w3 ⟨rfl, ps, bb, c, R, i1, i2, i3, i4, i5, i6, i7, i8, i9⟩
   rw [e.q] at i5
   rw [hqe] at i3
   exact ⟨0, rfl, fun _ => ⟨hst.tch i9 (nst b.ft hst rfl), ps, bb, c, R, i1, i2, i3, i4, i5, i6, i7, Nat.le_trans h.below.size i8⟩, fun q => absurd rfl q⟩
 · rintro w3 ⟨hb3, ps, bb, c, R, i1, i2, i3, i4, i5, i6, i7, i8⟩
   have st : m.settle (⟨X.life, X.base, G⟩ : Spr).gen = ((m, 0), key) := e.s1
   refine ⟨hb3, (treeOpen2_any i1 e.ok (by omega) e.lv.d e.p hk ⟨X.life, X.base, G⟩ e.g key (by rw [st]) e.kl (by rw [st]) ps _ _ _ _ _ i3 hge i2 ⟨_, _, _, rfl⟩).mono ?_⟩
   rintro e2 w4 ⟨rfl, A, kc, j1, j2, j3, j4⟩
   rw [st] at j1
   have hsp : ¬ ps = pt := fun q => by
    rw [q] at i3
    exact absurd (bTy i3 i2.ft) (by decide)
   exact ⟨0, rfl, fun _ => ⟨j4.blk hb3 (by unfold tyM; decide) (fun e => absurd e (by decide)) (nst i2.ft hb3 rfl), ps, bb, c, R, A, kc, j1, j2, j3, j4.blk i3 (by unfold tyM; decide) (fun e => absurd e (by decide)) hsp, i4.kx j4 j1.below (fun z ez => by
    subst ez
    refine ⟨fun q => ?_, _, _, i2.ft, by unfold tyB; decide⟩
    obtain ⟨cs, z2⟩ := i4.o.blk_at (b := bb) rfl
    rw [← q] at z2
    exact absurd (bTy z2 i2.ft) (by decide)), i5, i6, i7, i8⟩, fun q => absurd rfl q⟩
 · rintro w4 ⟨hb4, ps, bb, c, R, A, kc, j1, j2, j3, i3, i4, i5, i6, i7, i8⟩
   obtain ⟨r0, r1, r2, hR, e0, e1, e2⟩ := row3 (i5.trans e.q3)
   have hln : ∀ r ∈ R, r.n ≤ 473 := fun r hr => by
    have hlr : r.l.length = r.n := by have := (i4.q r hr).b.len; simpa using this
    have f1 : (rowsE [[], z1]).length ≤ 164 := rowsE_len [[], z1] (fun y hy => by
     rcases List.mem_cons.1 hy with q | hy
     · rw [q]; exact Nat.zero_le _
     · rw [List.mem_singleton.1 hy, e.l1]; exact Nat.le_refl _)
    have hh := e.hl; have hz := e.l3
    rw [hR] at hr
    rcases List.mem_cons.1 hr with q | hr
    · rw [q, e0] at hlr; rw [q]; omega
    · rcases List.mem_cons.1 hr with q | hr
      · rw [q, e1] at hlr; rw [q]; simp at hlr; omega
      · have q := List.mem_singleton.1 hr
        rw [q, e2, List.length_append, fLn, fLn] at hlr; rw [q]; omega
   have TP : TrP w0 L m n ⟨X.life, X.base, G⟩ (.pointer none) QR true (.slice A 32 kc) pt ps bb c R w4 := ⟨j1, e.ok, by omega, j2.ft, i3, i4, i6, i7, hln⟩
   have TE : TrE m R head z1 z2 key key2 v := ⟨⟨r0, r1, r2, hR, e0, e1, e2⟩, e.h0, by have := e.hl; omega, e.hr, e.l1, e.l2, by have := e.l3; omega, e.k2, e.o1, e.o2⟩
   refine ⟨hb4, (whole_any TP head z1 z2 key key2 v TE (hT.mono j1.below) j3.b).mono ?_⟩
   rintro e2 w5 ⟨rfl, g5⟩
   exact ⟨0, rfl, fun _ => ⟨hb4.mono g5, ps, bb, c, R, A, kc, j1.mono g5, j2.gr g5, j3.mono g5, i3.mono g5, i4.mono g5, i5, i6, i7, i8⟩, fun q => absurd rfl q⟩
 · rintro w5 ⟨hb5, ps, bb, c, R, A, kc, j1, j2, j3, i3, i4, i5, i6, i7, i8⟩
   obtain ⟨r0, r1, r2, hR, e0, e1, e2⟩ := row3 (i5.trans e.q3)
   have hln : ∀ r ∈ R, r.n ≤ 479 := fun r hr => by
    have hlr : r.l.length = r.n := by have := (i4.q r hr).b.len; simpa using this
    have f1 : (rowsE [[], z1]).length ≤ 164 := rowsE_len [[], z1] (fun y hy => by
     rcases List.mem_cons.1 hy with q | hy
     · rw [q]; exact Nat.zero_le _
     · rw [List.mem_singleton.1 hy, e.l1]; exact Nat.le_refl _)
    have hh := e.hl; have hz := e.l3
    rw [hR] at hr
    rcases List.mem_cons.1 hr with q | hr
    · rw [q, e0] at hlr; rw [q]; omega
    · rcases List.mem_cons.1 hr with q | hr
      · rw [q, e1] at hlr; rw [q]; simp at hlr; omega
      · have q := List.mem_singleton.1 hr
        rw [q, e2, List.length_append, fLn, fLn] at hlr; rw [q]; omega
   refine ⟨hb5, (treeOpen3_any (x := ⟨X.life, X.base, G⟩) j1 e.f e.lv e.ok e.xl (by omega) e.g i8 R i4 (by decide) hln (by omega) i3 j2).mono ?_⟩
   rintro e2 w6 ⟨rfl, pl, k1, k2, k3⟩
   rw [i5] at k1
   have np : ∀ {g : Nat} {t : TypeId} {cs : List Value}, Blk w5 g t cs → t ≠ 111 → ¬ g = ps := fun hg hne q => by
    rw [q] at hg
    exact hne (bTy hg i3)
   refine ⟨0, rfl, fun _ => ⟨⟨ps, pl, bb, c, R, A, kc, QR, k1, k3.blk j2.ft (by unfold tyM; decide) (fun e => absurd e (by decide)) (np j2.ft (by decide)), j3.kx k3 (fun z ez => ez ▸ ⟨_, _, i3, by unfold tyB; decide⟩), k2, i4.kx k3 k1.below (fun z ez => ?_), i5, i6, i7⟩, k3.blk j2.fv (by unfold tyM; decide) (fun e => absurd e (by decide)) (np j2.fv (by decide))⟩, fun q => absurd rfl q⟩
   obtain ⟨cs, z2⟩ := i4.o.blk_at (b := bb) rfl
   exact ⟨fun q => np z2 (by decide) (q.symm.trans ez), _, _, ez ▸ i3, by unfold tyB; decide⟩
end
end
end Go.Proofs.YtdkmlmbehlooiaaGreatDoor
