/- Own texts, one behind the other. No condition. -/
import Derived.Test.YtdkmlmbehlooiaaGreatDoorObPkBI
set_option linter.unusedVariables false
set_option linter.unusedSimpArgs false
namespace Go.Proofs.YtdkmlmbehlooiaaGreatDoor
section
open Go.RowKit
def RtS (w w' : World) : Prop := w.heap.size ≤ w'.heap.size ∧ ∀ b cs, Blk w b 129 cs → Blk w' b 129 cs
theorem KX.rts {S : Nat → Prop} {kb : Nat} {w w' : World} (k : KX S kb w w') (hS : ∀ x, S x → ∃ t cs, Blk w x t cs ∧ t ≠ 129) : RtS w w' :=
 ⟨k.size, fun b cs hb => k.blk hb (by unfold tyM; decide) (fun e => absurd e (by decide)) (fun s => by
  obtain ⟨t, cs', z, hn⟩ := hS b s
  exact hn (bTy hb z).symm)⟩
section
variable {w0 w w' : World} {L : Pl} {m : Mc} {n : Nat} {a d l : Int} {ps pl b c N : Nat} {x : Spr} {next : Nat}
set_option maxRecDepth 100000 in
set_option maxHeartbeats 4000000 in
theorem storeCommit_any (h : MSt w0 L m w) (f : Fit m a d l) (hlv : m.Live) (ho : m.Ok n) (hl : x.life < 18446744073709551616) (hbs : x.base ≤ 1073741824) (first gen : Nat) (hg : gen < 18446744073709551616)
 (hs : Blk w ps 111 (storeC L a d l x (.pointer (some ⟨pl, 0, none⟩)) next (.slice (some ⟨b, 0, none⟩) N c) false false)) (hlog : Blk w pl 193 (logC L a d l x.life x.base first)) (hps : w0.heap.size ≤ ps) (hpl : w0.heap.size ≤ pl)
 (R : List BRow) (hp : Pgo w0 L.kb w b c N R) (hlen : (N : Int) = pagesI a d l) (hcN : c ≤ 9223372036854775807) (hNc : N ≤ c)
 (A : Option Addr) (c' KN : Nat) (R' : List PRow) (hP : Pgw w0 L.kb w A c' KN R') (hk : ∀ y ∈ R', y.k < N) (hsm : ∀ y ∈ R', y.r.n ≤ 473) (hKN : (first : Int) + (KN : Int) + 1 ≤ l) (hn : n + 2 * KN + 4 ≤ 900) :
 Calls Tryz.prog 121 #[.pointer (some ⟨ps, 0, none⟩), .slice A KN c', .int .u64 (gen : Int)] w fun e w' => e = .returned (.int .i64 0) ∧ MSt w0 L (m.walAppend l x.life x.base first gen (R'.map fun y => (y.k, y.r.l))) w' ∧ Blk w' ps 111 (storeC L a d l ⟨x.life, x.base, gen⟩ (.pointer (some ⟨pl, 0, none⟩)) next (.slice (some ⟨b, 0, none⟩) N c) false false) ∧ Blk w' pl 193 (logC L a d l x.life x.base (first + KN + 1)) ∧
  (∃ R2, Pgo w0 L.kb w' b c N R2 ∧ R2.map BRow.l = putP (R.map BRow.l) (R'.map fun y => (y.k, y.r.l))) ∧ KX (fun z => z = ps ∨ z = pl ∨ z = b) L.kb w w' := by
 obtain ⟨h3, h4⟩ := f.g.l
 have hpg := (pgE a d l).2
 obtain ⟨cb, zb⟩ := hp.o.blk_at (b := b) rfl
 obtain ⟨W, hW⟩ : ∃ W, W = ((w.alloc (.cells #[.pointer (some ⟨ps, 0, none⟩)] 63)).alloc (.cells #[.slice A KN c'] 94)).alloc (.cells #[.int .u64 (gen : Int)] 43) := ⟨_, rfl⟩
 have g0 : Gr w W := by rw [hW]; exact ((Gr.alloc _ _).trans (Gr.alloc _ _)).trans (Gr.alloc _ _)
 have v0 : Blk W w.heap.size 63 [.pointer (some ⟨ps, 0, none⟩)] := by rw [hW]; exact ((Blk.new w _ _).alloc _).alloc _
 have p0 : Blk W (w.heap.size + 1) 94 [.slice A KN c'] := by rw [hW]; exact (show Blk ((w.alloc (.cells #[.pointer (some ⟨ps, 0, none⟩)] 63)).alloc (.cells #[.slice A KN c'] 94)) (w.heap.size + 1) 94 [.slice A KN c'] from heap_alloc2_new w _ _).alloc _
 have n0 : Blk W (w.heap.size + 1 + 1) 43 [.int .u64 (gen : Int)] := by
  rw [hW]
  have := Blk.new ((w.alloc (.cells #[.pointer (some ⟨ps, 0, none⟩)] 63)).alloc (.cells #[.slice A KN c'] 94)) 43 #[.int .u64 (gen : Int)]
  rwa [World.size_alloc, World.size_alloc] at this
 have HRD := Lib.hid (storeReady_any (hs.mono g0))
 have HAP := Lib.hid (fun wq (g : Gr W wq) => walAppend_any (h.mono (g0.trans g)) f hlv ho pl x.life x.base first gen hl hbs hg (hlog.mono (g0.trans g)) hpl A KN c' R' (hP.mono (g0.trans g)).pgw (fun y hy => by have := hk y hy; omega) hsm hKN hn)
 obtain ⟨m2, hm2⟩ : ∃ m2, m2 = m.walAppend l x.life x.base first gen (R'.map fun y => (y.k, y.r.l)) := ⟨_, rfl⟩
 rw [← hm2] at HAP ⊢
 have G0 := Lib.hid g0; have V0 := Lib.hid v0; have P0 := Lib.hid p0; have N0 := Lib.hid n0; have HW := Lib.hid hW
 have HS := Lib.hid hs; have HLG := Lib.hid hlog; have HPO := Lib.hid hp; have HPW := Lib.hid hP; have HKK := Lib.hid hk; have HSM := Lib.hid hsm
 have HZB := Lib.hid zb
 have hH : w0.heap.size ≤ w.heap.size := h.below.size
 have hK2 : KN ≤ 64 := by omega
 clear h f hlv ho hs hlog hp hP hk hsm hm2 g0 v0 p0 n0 hW zb
 have ne1 : pl ≠ ps := fun e => by have := HLG.out; rw [e] at this; exact absurd (bTy this HS.out) (by decide)
 have ne2 : b ≠ ps := fun e => by have := HZB.out; rw [e] at this; exact absurd (bTy this HS.out) (by decide)
 have ne3 : b ≠ pl := fun e => by have := HZB.out; rw [e] at this; exact absurd (bTy this HLG.out) (by decide)
 go_enter Tryz.func121, Tryz.ntmps121
 go_upto_region 1 with fail
 rw [← HW.out]
 have k0 := V0.out.cell 0
 go_wp2_with fail
 refine HRD.out.mono ?_
 rintro e wd ⟨rfl, hwd⟩
 subst hwd
 have s11 := (HS.out.mono G0.out).cell 11
 go_upto_region 6 with fail
 clear s11 k0
 refine UG.wrU RtS 129 (fun w w' h => h.1) (fun w w' b cs h hb => h.2 b cs hb) (by kernel_rfl) [0, 1, 3, 7, 0, 0, 63, 127] [.q 0, .p 1, .p 2, .q 3, .q 4, .q 5, .t 6, .p 7] (by kernel_rfl) (trivial) ?_
 refine UG.wQe rfl rfl ?_
 apply Exists.intro
 refine ⟨fun wq hq => ?_, ?_⟩
 · have k0 := (V0.out.mono ((Gr.drew _).trans hq)).cell 0
   unfold pLa
   go_simp
   first | exact rfl | exact ⟨rfl, rfl⟩
 go_simp
 iterate 2
  refine UG.wPe rfl rfl ?_
  apply Exists.intro
  refine ⟨fun wq => ?_, ?_⟩
  · unfold pLa
    go_simp
    first | exact rfl | exact ⟨rfl, rfl⟩
  go_simp
 refine UG.wQe rfl rfl ?_
 apply Exists.intro
 refine ⟨fun wq hq => ?_, ?_⟩
 · have s8 := (HS.out.mono (G0.out.trans ((Gr.drew _).trans hq))).cell 8
   unfold pLa
   go_simp
   first | exact rfl | exact ⟨rfl, rfl⟩
 go_simp
 refine UG.wQe rfl rfl ?_
 apply Exists.intro
 refine ⟨fun wq hq => ?_, ?_⟩
 · have k0 := (P0.out.mono ((Gr.drew _).trans hq)).cell 0
   unfold pLa
   go_simp
   first | exact rfl | exact ⟨rfl, rfl⟩
 go_simp
 refine UG.wQe rfl rfl ?_
 apply Exists.intro
 refine ⟨fun wq hq => ?_, ?_⟩
 · have k0 := (N0.out.mono ((Gr.drew _).trans hq)).cell 0
   unfold pLa
   go_simp
   first | exact rfl | exact ⟨rfl, rfl⟩
 go_simp
 refine UG.wpG_t rfl rfl ?_
 intro w3 g3 K hK
 go_simp
 go_at_call 191
 refine (HAP.out w3 ((Gr.drew _).trans g3)).mono ?_
 rintro e wn ⟨rfl, i1, i2, i3⟩
 refine hK _ _ (i3.rts (fun z e => ⟨193, logC L a d l x.life x.base first, by rw [e]; exact HLG.out.mono (G0.out.trans ((Gr.drew _).trans g3)), by decide⟩)) ?_; have G3 := Lib.hid (G0.out.trans ((Gr.drew W).trans g3)); have GW3 := Lib.hid ((Gr.drew W).trans g3); have I1 := Lib.hid i1; have I2 := Lib.hid i2; have I3 := Lib.hid i3; clear g3 i1 i2 i3 hK
 go_simp
 refine UG.wPe rfl rfl ?_
 apply Exists.intro
 refine ⟨fun wq => ?_, ?_⟩
 · unfold pLa
   go_simp
   first | exact rfl | exact ⟨rfl, rfl⟩
 go_simp
 refine UG.wNi ?_
 intro w5 g5
 have X5 : Hid (KX (fun z => z = pl) L.kb W w5) := ((KX.gr GW3.out).trans I3.out).trans (KX.gr g5)
 have M5 := Lib.hid (I1.out.mono g5)
 have L5 := Lib.hid (I2.out.mono g5)
 have B5 : Hid (Below w0.heap.size w0 w5) := M5.out.below
 have S5 : Hid (Blk w5 ps 111 (storeC L a d l x (.pointer (some ⟨pl, 0, none⟩)) next (.slice (some ⟨b, 0, none⟩) N c) false false)) := X5.out.blk (HS.out.mono G0.out) (by unfold tyM; decide) (fun e => absurd e (by decide)) (fun e => ne1 e.symm)
 have V5 : Hid (Blk w5 w.heap.size 63 [.pointer (some ⟨ps, 0, none⟩)]) := X5.out.blk V0.out (by unfold tyM; decide) (fun e => absurd e (by decide)) (fun e => by have := HLG.out.lt; omega)
 have P5 : Hid (Blk w5 (w.heap.size + 1) 94 [.slice A KN c']) := X5.out.blk P0.out (by unfold tyM; decide) (fun e => absurd e (by decide)) (fun e => by have := HLG.out.lt; omega)
 have N5 : Hid (Blk w5 (w.heap.size + 1 + 1) 43 [.int .u64 (gen : Int)]) := X5.out.blk N0.out (by unfold tyM; decide) (fun e => absurd e (by decide)) (fun e => by have := HLG.out.lt; omega)
 have O5 : Hid (Pgo w0 L.kb w5 b c N R) := (HPO.out.mono G0.out).kx X5.out B5.out (fun z e => ⟨by rw [e]; exact fun q => ne3 q.symm, 193, logC L a d l x.life x.base first, by rw [e]; exact HLG.out.mono G0.out, by unfold tyB; decide⟩)
 have Q5 : Hid (Pgw w0 L.kb w5 A c' KN R') := (HPW.out.mono G0.out).kx X5.out B5.out (fun z e => ⟨193, logC L a d l x.life x.base first, by rw [e]; exact HLG.out.mono G0.out, by unfold tyB; decide, by decide⟩)
 clear g5 I1 I2 I3 GW3 G3
 have HPT := Lib.hid (storePut_any M5.out S5.out R O5.out hcN hNc A KN c' R' Q5.out.pgw HKK.out (fun y hy => Nat.le_trans (HSM.out y hy) (by decide)) (by omega) (by omega) (fun b' e => by
  cases A with
  | none => cases e
  | some z =>
   injection e with e
   have e : z.block = b' := e
   intro q
   obtain ⟨cs, zz⟩ := Q5.out.o.blk_at (b := z.block) rfl
   obtain ⟨cs2, z2⟩ := O5.out.o.blk_at (b := b) rfl
   rw [e, q] at zz
   exact absurd (bTy zz z2) (by decide)))
 have k0 := V5.out.cell 0
 have k1 := P5.out.cell 0
 go_wp2_with fail
 refine HPT.out.mono ?_
 rintro e w6 ⟨⟨vv, rfl⟩, m6, ⟨R2, p6, hb6⟩, t6⟩
 clear k0 k1
 have M6 := Lib.hid m6; have O6 := Lib.hid p6; have HB6 := Lib.hid hb6; have T6 := Lib.hid t6
 have S6 := Lib.hid (S5.out.tch t6 (fun e => ne2 e.symm))
 have V6 := Lib.hid (V5.out.tch t6 (fun e => by have := HZB.out.lt; omega))
 have N6 := Lib.hid (N5.out.tch t6 (fun e => by have := HZB.out.lt; omega))
 have L6 := Lib.hid (L5.out.tch t6 (fun e => ne3 e.symm))
 clear m6 p6 hb6 t6
 have k0 := V6.out.cell 0
 have k2 := N6.out.cell 0
 have s7 := S6.out.cell 7
 have f7 := Blk.free S6.out 7
 go_wp2_with fail
 go_ret
 have T7 : Tch (fun z => z = ps) w6 (w6.setCell ⟨ps, 7, none⟩ (.int .u64 (gen : Int))) := Tch.set ⟨ps, 7, none⟩ _ rfl
 have M7 : MSt w0 L m2 (w6.setCell ⟨ps, 7, none⟩ (.int .u64 (gen : Int))) := M6.out.off T7 (fun z e => by rw [e]; exact hps) (fun z e => by subst e; exact ⟨_, _, S6.out, tyA_store⟩)
 refine ⟨rfl, M7, S6.out.set 7 _, L6.out.tch T7 ne1, ⟨R2, O6.out.kx (KX.tch T7) M7.below (fun z e => by subst e; exact ⟨fun q => ne2 q.symm, _, _, S6.out, by unfold tyB; decide⟩), HB6.out⟩, ?_⟩
 exact (((KX.gr G0.out).trans (X5.out.wide (fun z _ e => .inr (.inl e)))).trans ((KX.tch T6.out).wide (fun z _ e => .inr (.inr e)))).trans ((KX.tch T7).wide (fun z _ e => .inl e))
end
end
section
open Go.RowKit
theorem Pgo.pgs {w0 w : World} {kb b c N : Nat} {R : List BRow} (h : Pgo w0 kb w b c N R) : Pgs kb w (some ⟨b, 0, none⟩) N c R := by
 obtain ⟨_, _, hv, s⟩ := h.o.slice
 injection hv with e1 _ e2
 subst e1 e2
 refine ⟨s, fun b' o h0 e => ?_, h.q⟩
 obtain ⟨cs, z⟩ := h.o.blk_at (b := b) rfl
 injection e with e
 injection e with e1 _
 subst e1
 exact ⟨_, _, _, z, by unfold tyM; decide, fun e => absurd e (by decide)⟩
section
variable {w0 w w' : World} {L : Pl} {m : Mc} {n : Nat} {a d l : Int} {ps b c N : Nat} {x : Spr} {vl vp : Value} {next : Nat} {due : Bool}
set_option maxRecDepth 100000 in
set_option maxHeartbeats 1000000 in
theorem storeTold_any (hs : Blk w ps 111 (storeC L a d l x vl next vp due false)) : Calls Tryz.prog 73 #[.pointer (some ⟨ps, 0, none⟩), .int .i64 0] w fun e w' => e = .returned (.int .i64 0) ∧ Blk w' ps 111 (storeC L a d l x vl next vp due false) ∧ Tch (fun z => z = ps) w w' := by
 have k12 := hs.cell 12
 have f12 := Blk.free hs 12
 have HS := Lib.hid hs
 clear hs
 go_enter Tryz.func73, Tryz.ntmps73
 go_wp2_with fail
 go_ret
 exact ⟨rfl, HS.out.set 12 _, Tch.set ⟨ps, 12, none⟩ _ rfl⟩
set_option maxRecDepth 100000 in
set_option maxHeartbeats 4000000 in
theorem storeRenew_any (h : MSt w0 L m w) (f : Fit m a d l) (hlv : m.Live) (ho : m.Ok n) (hl : x.life < 1000000) (hbs : next ≤ 1073741824) (hg : x.gen < 18446744073709551616) (hge : w0.heap.size ≤ ps)
 (R : List BRow) (hp : Pgo w0 L.kb w b c N R) (hlen : (N : Int) = pagesI a d l) (hsm : ∀ r ∈ R, r.n ≤ 479) (hn : n + 2 * N + 4 ≤ 900) (hs : Blk w ps 111 (storeC L a d l x vl next (.slice (some ⟨b, 0, none⟩) N c) true false)) :
 Calls Tryz.prog 29 #[.pointer (some ⟨ps, 0, none⟩)] w fun e w' => e = .returned (.int .i64 0) ∧ ∃ pl, MSt w0 L (m.begin a d l ⟨x.life + 1, next, x.gen⟩ (R.map BRow.l)) w' ∧ Blk w' ps 111 (storeC L a d l ⟨x.life + 1, next, x.gen⟩ (.pointer (some ⟨pl, 0, none⟩)) next (.slice (some ⟨b, 0, none⟩) N c) false false) ∧ KX (fun b => b = ps) L.kb w w' := by
 have HRD := Lib.hid (storeReady_any hs)
 have HBG := Lib.hid (fun wq (g : Gr w wq) => storeBegin_any (y := ⟨x.life + 1, next, x.gen⟩) (some ⟨b, 0, none⟩) N c R (h.mono g) f hlv ho (by show x.life + 1 < _; omega) hbs hg hge (hp.mono g).pgs hlen hsm hn (hs.mono g))
 obtain ⟨m2, hm2⟩ : ∃ m2, m2 = m.begin a d l ⟨x.life + 1, next, x.gen⟩ (R.map BRow.l) := ⟨_, rfl⟩
 rw [← hm2] at HBG ⊢
 have wl : IntKind.u64.wrap ((x.life : Int) + 1) = (x.life : Int) + 1 := IntWalk.u64_in ((x.life : Int) + 1) (by omega)
 have t1 : decide ((4611686018427387904 : Int) ≤ (x.life : Int)) = false := decide_eq_false (by omega)
 have HS := Lib.hid hs
 unfold sprC at HBG
 have hcast : ((x.life + 1 : Nat) : Int) = (x.life : Int) + 1 := by omega
 simp only [hcast] at HBG
 clear h f hlv ho hp hlen hsm hs hm2
 have k5 := HS.out.cell 5
 have k9 := HS.out.cell 9
 have k11 := HS.out.cell 11
 go_enter Tryz.func29, Tryz.ntmps29
 go_wp2_with fail
 refine HRD.out.mono ?_
 rintro e wd ⟨rfl, hwd⟩
 subst hwd
 go_upto_region 9 with fail
 clear k5 k9 k11
 refine UG.wrU RtS 129 (fun w w' h => h.1) (fun w w' b cs h hb => h.2 b cs hb) (by kernel_rfl) [0, 0, 0, 4, 12, 28, 60, 124, 0, 0, 512, 1536, 3584, 7680, 16380, 32766, 65535, 131071] [.p 0, .p 1, .p 2, .p 3, .p 4, .p 5, .p 8, .p 9, .p 10, .p 11, .p 12, .q 6, .p 7, .q 13, .p 14, .t 15, .t 16, .p 17] (by kernel_rfl) (trivial) ?_
 iterate 11
  refine UG.wPe rfl rfl ?_
  apply Exists.intro
  refine ⟨fun wq => ?_, ?_⟩
  · unfold pLa
    go_simp
    first | exact rfl | exact ⟨rfl, rfl⟩
  go_simp
 refine UG.wQe rfl rfl ?_
 apply Exists.intro
 refine ⟨fun wq hq => ?_, ?_⟩
 · have k5 := (HS.out.mono ((Gr.drew _).trans hq)).cell 5
   unfold pLa
   go_simp
   first | exact rfl | exact ⟨rfl, rfl⟩
 go_simp
 refine UG.wPe rfl rfl ?_
 apply Exists.intro
 refine ⟨fun wq => ?_, ?_⟩
 · unfold pLa
   go_simp
   first | exact rfl | exact ⟨rfl, rfl⟩
 go_simp
 refine UG.wQe rfl rfl ?_
 apply Exists.intro
 refine ⟨fun wq hq => ?_, ?_⟩
 · have k7 := (HS.out.mono ((Gr.drew _).trans hq)).cell 7
   unfold pLa
   go_simp
   first | exact rfl | exact ⟨rfl, rfl⟩
 go_simp
 refine UG.wPe rfl rfl ?_
 apply Exists.intro
 refine ⟨fun wq => ?_, ?_⟩
 · unfold pLa
   go_simp
   first | exact rfl | exact ⟨rfl, rfl⟩
 go_simp
 refine UG.wpG_t rfl rfl ?_
 intro w3 g3 K hK
 go_simp
 go_at_call 74
 refine (HBG.out w3 ((Gr.drew _).trans g3)).mono ?_
 rintro e wn ⟨rfl, pl, i1, i2, i3, i4, i5⟩
 refine hK _ _ (i5.rts (fun z e => by subst e; exact ⟨111, _, HS.out.mono ((Gr.drew _).trans g3), by decide⟩)) ?_; have GW3 := Lib.hid ((Gr.drew w).trans g3); have I1 := Lib.hid i1; have I2 := Lib.hid i2; have I5 := Lib.hid i5; clear g3 i1 i2 i3 i4 i5 hK
 go_simp
 refine UG.wpG_t rfl rfl ?_
 intro w5 g5 K hK
 go_simp
 go_at_call 73
 refine (storeTold_any (I2.out.mono g5)).mono ?_
 rintro e wn ⟨rfl, j2, j3⟩
 refine hK _ _ ((KX.tch (kb := L.kb) j3).rts (fun z e => by subst e; exact ⟨111, _, I2.out.mono g5, by decide⟩)) ?_; have J1 : Hid (MSt w0 L m2 wn) := (I1.out.mono g5).off j3 (fun z e => e ▸ hge) (fun z e => e ▸ ⟨_, _, I2.out.mono g5, tyA_store⟩); have J2 := Lib.hid j2; have J5 : Hid (KX (fun z => z = ps) L.kb w wn) := (((KX.gr GW3.out).trans I5.out).trans (KX.gr g5)).trans (KX.tch j3); clear g5 j2 j3 hK
 go_simp
 refine UG.wPe rfl rfl ?_
 apply Exists.intro
 refine ⟨fun wq => ?_, ?_⟩
 · unfold pLa
   go_simp
   first | exact rfl | exact ⟨rfl, rfl⟩
 go_simp
 refine UG.wNi ?_
 intro w7 g7
 have Z1 := Lib.hid (J1.out.mono g7); have Z2 := Lib.hid (J2.out.mono g7); have Z5 := Lib.hid (J5.out.trans (KX.gr g7))
 clear g7
 go_wp2_with fail
 go_ret
 exact ⟨rfl, pl, Z1.out, Z2.out, Z5.out⟩
end
end
section
open Go.RowKit
structure OpI (L : Pl) (a d l : Int) (x : Spr) (vl vp : Value) (next : Nat) (due dead : Bool) (ps pv pd pS pg : Nat) (w : World) : Prop where
 fd : Blk w pd 26 [.pointer (some ⟨L.dp, 0, none⟩)]
 fs : Blk w pS 31 [.pointer (some ⟨L.p, 0, none⟩)]
 fg : Blk w pg 23 [.int .i64 a, .int .i64 d, .int .i64 l]
 fv : Blk w pv 63 [.pointer (some ⟨ps, 0, none⟩)]
 fx : Blk w ps 111 (storeC L a d l x vl next vp due dead)
section
variable {w0 w w' : World} {L : Pl} {m : Mc} {n : Nat} {a d l : Int} {x y : Spr} {vl vp vl' vp' : Value} {next next' : Nat} {due dead due' dead' : Bool} {ps pv pd pS pg : Nat}
theorem OpI.gr (h : OpI L a d l x vl vp next due dead ps pv pd pS pg w) (k : Gr w w') : OpI L a d l x vl vp next due dead ps pv pd pS pg w' := ⟨k.blk h.fd, k.blk h.fs, k.blk h.fg, k.blk h.fv, k.blk h.fx⟩
theorem OpI.to (h : OpI L a d l x vl vp next due dead ps pv pd pS pg w) (T : Tch (fun z => z = ps) w w') (hs : Blk w' ps 111 (storeC L a d l y vl' next' vp' due' dead')) : OpI L a d l y vl' vp' next' due' dead' ps pv pd pS pg w' :=
 ⟨h.fd.tch T (fun e => by have := h.fd; rw [e] at this; exact absurd (bTy this h.fx) (by decide)), h.fs.tch T (fun e => by have := h.fs; rw [e] at this; exact absurd (bTy this h.fx) (by decide)), h.fg.tch T (fun e => by have := h.fg; rw [e] at this; exact absurd (bTy this h.fx) (by decide)), h.fv.tch T (fun e => by have := h.fv; rw [e] at this; exact absurd (bTy this h.fx) (by decide)), hs⟩
theorem OpI.cells (h : OpI L a d l x vl vp next due dead ps pv pd pS pg w) : w.cell? ⟨pd, 0, none⟩ = some (.pointer (some ⟨L.dp, 0, none⟩)) ∧ w.cell? ⟨pS, 0, none⟩ = some (.pointer (some ⟨L.p, 0, none⟩)) ∧ w.cell? ⟨pg, 0, none⟩ = some (.int .i64 a) ∧ w.cell? ⟨pg, 1, none⟩ = some (.int .i64 d) ∧ w.cell? ⟨pg, 2, none⟩ = some (.int .i64 l) ∧ w.cell? ⟨pv, 0, none⟩ = some (.pointer (some ⟨ps, 0, none⟩)) ∧ w.cell? ⟨ps, 5, none⟩ = some (.int .u64 (x.life : Int)) ∧ w.cell? ⟨ps, 6, none⟩ = some (.int .i64 (x.base : Int)) :=
 ⟨h.fd.cell 0, h.fs.cell 0, h.fg.cell 0, h.fg.cell 1, h.fg.cell 2, h.fv.cell 0, h.fx.cell 5, h.fx.cell 6⟩
set_option maxRecDepth 100000 in
set_option maxHeartbeats 4000000 in
theorem open1_any (h : MSt w0 L m w) (f : Fit m a d l) (ho : m.Ok n) (hn : n ≤ 900) (hd : m.d.down = false) (hp : m.d.pend = []) (hge : w0.heap.size ≤ ps) (hb : OpI L a d l x vl vp next due dead ps pv pd pS pg w) :
 Calls Tryz.prog 61 #[.pointer (some ⟨pd, 0, none⟩), .pointer (some ⟨pS, 0, none⟩), .pointer (some ⟨pg, 0, none⟩), .pointer (some ⟨pv, 0, none⟩)] w fun e w' => e = .returned (.int .i64 (if (superR m.S a d l m.d.kept).isSome = true then 0 else 11)) ∧ MSt w0 L m w' ∧ OpI L a d l ((superR m.S a d l m.d.kept).getD spr0) vl vp next due dead ps pv pd pS pg w' ∧ Tch (fun z => z = ps) w w' := by
 have HC := Lib.hid (fun wr (g : Gr w wr) => (hb.gr g).cells)
 have HB := Lib.hid hb; have HH := Lib.hid h
 have HR := Lib.hid (fun wr (g : Gr w wr) => superRead_any (h.mono g) f ho hn hd hp)
 obtain ⟨X, hX⟩ : ∃ X, X = (superR m.S a d l m.d.kept).getD spr0 := ⟨_, rfl⟩
 obtain ⟨q, hq⟩ : ∃ q : Int, q = if (superR m.S a d l m.d.kept).isSome = true then 0 else 11 := ⟨_, rfl⟩
 rw [← hX, ← hq] at HR ⊢
 clear h f ho hd hp hb hX hq
 go_enter Tryz.func61, Tryz.ntmps61
 go_upto_region 1 with fail
 refine wrG (by kernel_rfl) [0, 0, 0, 0, 14, 30, 62, 62, 127, 383, 895, 2047] [.q 0, .q 1, .q 2, .q 3, .c 4, .p 5, .p 6, .p 7, .p 8, .p 9, .s 10, .p 11] (by kernel_rfl) (trivial) ?_
 iterate 4
  refine wQe rfl rfl ?_
  apply Exists.intro
  refine ⟨fun wq hq => ?_, ?_⟩
  · obtain ⟨d0, s0, g0, g1, g2, v0, x5, x6⟩ := HC.out wq ((Gr.drew _).trans hq)
    unfold pLa
    go_simp
    first | exact rfl | exact ⟨rfl, rfl⟩
  go_simp
 refine wpG_c rfl rfl ?_
 intro w3 g3 K hK
 go_simp
 go_at_call 62
 refine (HR.out w3 ((Gr.drew _).trans g3)).mono ?_
 rintro e wn ⟨rfl, g4⟩
 refine hK _ _ g4 ?_; have G4 := Lib.hid (((Gr.drew w).trans g3).trans g4); clear g3 g4 hK
 go_simp
 iterate 5
  refine wPe rfl rfl ?_
  apply Exists.intro
  refine ⟨fun wq => ?_, ?_⟩
  · unfold pLa
    go_simp
    first | exact rfl | exact ⟨rfl, rfl⟩
  go_simp
 refine wpG_s rfl rfl ?_
 intro wa ga K hK
 have Ga := Lib.hid (G4.out.trans ga)
 have Ba := Lib.hid (HB.out.gr Ga.out)
 have TH : wa.there ps 5 3 := fun j hj => by
  rcases (show j = 0 ∨ j = 1 ∨ j = 2 by omega) with e | e | e <;> subst e
  · exact ⟨by rw [show wa.cell? ⟨ps, 5 + 0, none⟩ = _ from Ba.out.fx.cell 5]; rfl, Blk.free Ba.out.fx 5⟩
  · exact ⟨by rw [show wa.cell? ⟨ps, 5 + 1, none⟩ = _ from Ba.out.fx.cell 6]; rfl, Blk.free Ba.out.fx 6⟩
  · exact ⟨by rw [show wa.cell? ⟨ps, 5 + 2, none⟩ = _ from Ba.out.fx.cell 7]; rfl, Blk.free Ba.out.fx 7⟩
 clear ga
 refine wp_store_mid 108 (.tmp 14) (.tmp 11) rfl ps 5 (sprC X) rfl rfl TH sprSize (sprOne X) ?_
 refine hK _ _ ?_
 clear hK TH
 go_simp
 obtain ⟨wb, hwb⟩ : ∃ wb, wb = wa.setCells ps 5 (sprC X).toList := ⟨_, rfl⟩
 have Sb : Blk wb ps 111 (storeC L a d l X vl next vp due dead) := by rw [hwb]; exact ((Ba.out.fx.set 5 (.int .u64 (X.life : Int))).set 6 (.int .i64 (X.base : Int))).set 7 (.int .u64 (X.gen : Int))
 have Tb : Tch (fun z => z = ps) wa wb := by rw [hwb]; exact Tch.puts (S := fun z => z = ps) rfl _ _ _
 rw [← hwb]
 clear hwb
 refine wPe rfl rfl ?_
 apply Exists.intro
 refine ⟨fun wq => ?_, ?_⟩
 · unfold pLa
   go_simp
   first | exact rfl | exact ⟨rfl, rfl⟩
 go_simp
 refine wNi ?_
 intro wc gc
 have Tc : Hid (Tch (fun z => z = ps) w wc) := ((Tch.gr Ga.out).trans Tb).trans (Tch.gr gc)
 have Sc := Lib.hid (Sb.mono gc)
 have Hc : Hid (MSt w0 L m wc) := HH.out.off Tc.out (fun z e => e ▸ hge) (fun z e => e ▸ ⟨_, _, HB.out.fx, tyA_store⟩)
 clear Sb Tb gc
 go_wp2_with fail
 go_ret
 exact ⟨rfl, Hc.out, HB.out.to Tc.out Sc.out, Tc.out⟩
set_option maxRecDepth 100000 in
set_option maxHeartbeats 4000000 in
theorem open2_any (h : MSt w0 L m w) (f : Fit m a d l) (ho : m.Ok n) (hn : n ≤ 900) (hd : m.d.down = false) (hp : m.d.pend = []) (hge : w0.heap.size ≤ ps) (hb : OpI L a d l x vl vp next due dead ps pv pd pS pg w) (hl : x.life < 18446744073709551616) (N : Nat) (hN0 : 0 < N) (hN : (N : Int) = pagesI a d l) (hall : ∀ k, k < N → pgIs m a d l x.life k = true) :
 Calls Tryz.prog 63 #[.pointer (some ⟨pd, 0, none⟩), .pointer (some ⟨pS, 0, none⟩), .pointer (some ⟨pg, 0, none⟩), .pointer (some ⟨pv, 0, none⟩)] w fun e w' => e = .returned (.int .i64 0) ∧ ∃ b c R, MSt w0 L m w' ∧ OpI L a d l x vl (.slice (some ⟨b, 0, none⟩) N c) next due dead ps pv pd pS pg w' ∧ Pgo w0 L.kb w' b c N R ∧ R.map BRow.l = (List.range N).map (fun i => (pgR m a d l x.life i).1.body) ∧ N ≤ c ∧ c ≤ 9223372036854775807 ∧ w.heap.size ≤ b ∧ Tch (fun z => z = ps) w w' := by
 have HC := Lib.hid (fun wr (g : Gr w wr) => (hb.gr g).cells)
 have HB := Lib.hid hb; have HH := Lib.hid h
 have HR := Lib.hid (fun wr (g : Gr w wr) => snapRead_any (h.mono g) f ho hn hd hp x.life hl N hN hall)
 obtain ⟨Z, hZ⟩ : ∃ Z, Z = (List.range N).map (fun i => (pgR m a d l x.life i).1.body) := ⟨_, rfl⟩
 rw [← hZ] at HR ⊢
 clear h f ho hd hp hb hall hN hZ
 go_enter Tryz.func63, Tryz.ntmps63
 go_upto_region 1 with fail
 refine wrG (by kernel_rfl) [0, 0, 0, 0, 0, 16, 48, 112, 240, 510, 1022, 2046, 2046, 4095, 12287, 28671, 65535] [.q 0, .q 1, .q 2, .q 3, .q 4, .p 5, .p 6, .p 7, .q 8, .c 9, .p 10, .p 11, .p 12, .p 13, .p 14, .s 15, .p 16] (by kernel_rfl) (trivial) ?_
 iterate 5
  refine wQe rfl rfl ?_
  apply Exists.intro
  refine ⟨fun wq hq => ?_, ?_⟩
  · obtain ⟨d0, s0, g0, g1, g2, v0, x5, x6⟩ := HC.out wq ((Gr.drew _).trans hq)
    unfold pLa
    go_simp
    first | exact rfl | exact ⟨rfl, rfl⟩
  go_simp
 iterate 3
  refine wPe rfl rfl ?_
  apply Exists.intro
  refine ⟨fun wq => ?_, ?_⟩
  · unfold pLa
    go_simp
    first | exact rfl | exact ⟨rfl, rfl⟩
  go_simp
 refine wQe rfl rfl ?_
 apply Exists.intro
 refine ⟨fun wq hq => ?_, ?_⟩
 · obtain ⟨d0, s0, g0, g1, g2, v0, x5, x6⟩ := HC.out wq ((Gr.drew _).trans hq)
   unfold pLa
   go_simp
   first | exact rfl | exact ⟨rfl, rfl⟩
 go_simp
 refine wpG_c rfl rfl ?_
 intro w3 g3 K hK
 go_simp
 go_at_call 64
 refine (HR.out w3 ((Gr.drew _).trans g3)).mono ?_
 rintro e wn ⟨A, c, R, rfl, o4, h4, q4⟩
 refine hK _ _ o4.below ?_; have G4 := Lib.hid (((Gr.drew w).trans g3).trans o4.below); have G3 := Lib.hid ((Gr.drew w).trans g3); have O4 := Lib.hid o4; have H4 := Lib.hid h4; have Q4 := Lib.hid q4; clear g3 o4 h4 q4 hK
 go_simp
 iterate 5
  refine wPe rfl rfl ?_
  apply Exists.intro
  refine ⟨fun wq => ?_, ?_⟩
  · unfold pLa
    go_simp
    first | exact rfl | exact ⟨rfl, rfl⟩
  go_simp
 refine wpG_s rfl rfl ?_
 intro wa ga K hK
 have Ga := Lib.hid (G4.out.trans ga)
 have Ba := Lib.hid (HB.out.gr Ga.out)
 have Oa := Lib.hid (O4.out.mono ga)
 have Qa : Hid (∀ r ∈ R, QB L.kb wa r.a r.n r.c r.l) := fun r hr => (Q4.out r hr).mono ga
 have x10 := Ba.out.fx.cell 10
 have f10 := Blk.free Ba.out.fx 10
 clear ga
 go_simp
 refine hK _ _ ?_
 clear hK x10 f10
 go_simp
 obtain ⟨wb, hwb⟩ : ∃ wb, wb = wa.setCell ⟨ps, 10, none⟩ (.slice A N c) := ⟨_, rfl⟩
 have Sb : Blk wb ps 111 (storeC L a d l x vl next (.slice A N c) due dead) := by rw [hwb]; exact Ba.out.fx.set 10 _
 have Tb : Tch (fun z => z = ps) wa wb := by rw [hwb]; exact Tch.set ⟨ps, 10, none⟩ _ rfl
 rw [← hwb]
 clear hwb
 refine wPe rfl rfl ?_
 apply Exists.intro
 refine ⟨fun wq => ?_, ?_⟩
 · unfold pLa
   go_simp
   first | exact rfl | exact ⟨rfl, rfl⟩
 go_simp
 refine wNi ?_
 intro wc gc
 have Tac : Hid (Tch (fun z => z = ps) wa wc) := Tb.trans (Tch.gr gc)
 have Tc : Hid (Tch (fun z => z = ps) w wc) := (Tch.gr Ga.out).trans Tac.out
 have Sc := Lib.hid (Sb.mono gc)
 have Hc : Hid (MSt w0 L m wc) := HH.out.off Tc.out (fun z e => e ▸ hge) (fun z e => e ▸ ⟨_, _, HB.out.fx, tyA_store⟩)
 clear Sb Tb gc
 go_wp2_with fail
 go_ret
 have Ow : Own w0 wa 36 1 (.slice A N c) N (R.map BRow.v) := (Oa.out.base G3.out).base HH.out.below
 obtain ⟨g, cap, rest, hv, hg1, _⟩ := Oa.out.opened hN0
 obtain ⟨A', c', hv', sl⟩ := Oa.out.slice
 injection hv' with e1 _ e2
 subst e1 e2
 injection hv with e3 _ e4
 subst e3
 refine ⟨rfl, g, c, R, Hc.out, HB.out.to Tc.out Sc.out, Pgo.kx ⟨Ow, Qa.out⟩ (KX.tch Tac.out) Hc.out.below (fun z e => ⟨?_, 111, (storeC L a d l x vl next vp due dead), by rw [e]; exact Ba.out.fx, by unfold tyB; decide⟩), H4.out, Sl.cap sl, Sl.max sl, ?_, Tc.out⟩
 · intro q
   obtain ⟨cs, z2⟩ := Oa.out.blk_at (b := g) rfl
   rw [← q, e] at z2
   exact absurd (bTy z2 Ba.out.fx) (by decide)
 · exact Nat.le_trans G3.out.size (Oa.out.ge rfl)
end
end
end Go.Proofs.YtdkmlmbehlooiaaGreatDoor
