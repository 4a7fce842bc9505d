/- Own texts, one behind the other. No condition. -/
import Derived.Test.YtdkmlmbehlooiaaGreatDoorObPkBJ
set_option linter.unusedVariables false
set_option linter.unusedSimpArgs false
namespace Go.Proofs.YtdkmlmbehlooiaaGreatDoor
section
open Go.RowKit
structure TxnIs (m : Mc) (a d l : Int) (life base G : Nat) (P : List (Nat × List UInt8)) : Prop where
 len : ((P.length + 1 : Nat) : Int) = l
 pos : 0 < P.length
 all : ∀ k p, P[k]? = some p → walR m l base k = (walSec 4 life 0 k G p.1 p.2, 0) ∧ (p.1 : Int) < pagesI a d l ∧ p.2.length ≤ 473
 fin : walR m l base P.length = (walSec 5 life 0 P.length G P.length [], 0)
structure TxM (w0 : World) (kb : Nat) (w : World) (pb G : Nat) (P : List (Nat × List UInt8)) (A : Option Addr) (c : Nat) (A' : Option Addr) (c' : Nat) (R' : List PRow) : Prop where
 b : Blk w pb 112 [.slice A 1 c]
 o : Own w0 w 120 2 (.slice A 1 c) 1 [.slice A' P.length c', .int .u64 (G : Int)]
 p : Pgw w0 kb w A' c' P.length R'
 m : R'.map (fun x => (x.k, x.r.l)) = P
section
variable {w0 w w' : World} {L : Pl} {m : Mc} {n : Nat} {a d l : Int} {x y : Spr} {vl vp vl' vp' : Value} {next next' : Nat} {due dead due' dead' : Bool} {ps pv pd pS pg pb : Nat}
set_option maxRecDepth 100000 in
set_option maxHeartbeats 4000000 in
theorem open3_any (h : MSt w0 L m w) (f : Fit m a d l) (ho : m.Ok n) (hn : n ≤ 900) (hd : m.d.down = false) (hp : m.d.pend = []) (hge : w0.heap.size ≤ pb) (hb : OpI L a d l x vl vp next due dead ps pv pd pS pg w) (hbb : Blk w pb 112 [.slice none 0 0]) (hl : x.life < 18446744073709551616) (hbs : x.base ≤ 1073741824) (G : Nat) (P : List (Nat × List UInt8)) (hP : TxnIs m a d l x.life x.base G P) :
 Calls Tryz.prog 65 #[.pointer (some ⟨pd, 0, none⟩), .pointer (some ⟨pS, 0, none⟩), .pointer (some ⟨pg, 0, none⟩), .pointer (some ⟨pv, 0, none⟩), .pointer (some ⟨pb, 0, none⟩)] w fun e w' => e = .returned (.int .i64 0) ∧ MSt w0 L m w' ∧ (∃ A c A' c' R', TxM w0 L.kb w' pb G P A c A' c' R') ∧ Tch (fun z => z = pb) w w' := by
 have HC := Lib.hid (fun wr (g : Gr w wr) => (hb.gr g).cells)
 have HB := Lib.hid hb; have HH := Lib.hid h; have HBB := Lib.hid hbb
 have HR := Lib.hid (fun wr (g : Gr w wr) => walScan_any (h.mono g) f ho hn hd hp x.life x.base G hl hbs P hP.len hP.pos hP.all hP.fin)
 clear h f ho hd hp hb hP hbb
 go_enter Tryz.func65, Tryz.ntmps65
 go_upto_region 1 with fail
 refine wrG (by kernel_rfl) [0, 0, 0, 0, 8, 24, 56, 120, 0, 256, 768, 1792, 3840, 8191, 16383, 32767, 32767, 65535, 262143] [.q 0, .q 1, .q 2, .q 3, .p 4, .p 5, .p 6, .q 7, .q 8, .p 9, .p 10, .p 11, .q 12, .c 13, .p 14, .p 15, .p 16, .s 17, .p 18] (by kernel_rfl) (trivial) ?_
 iterate 4
  refine wQe rfl rfl ?_
  apply Exists.intro
  refine ⟨fun wq hq => ?_, ?_⟩
  · obtain ⟨d0, s0, g0, g1, g2, v0, x5, x6⟩ := HC.out wq ((Gr.drew _).trans hq)
    unfold pLa
    go_simp
    first | exact rfl | exact ⟨rfl, rfl⟩
  go_simp
 iterate 3
  refine wPe rfl rfl ?_
  apply Exists.intro
  refine ⟨fun wq => ?_, ?_⟩
  · unfold pLa
    go_simp
    first | exact rfl | exact ⟨rfl, rfl⟩
  go_simp
 iterate 2
  refine wQe rfl rfl ?_
  apply Exists.intro
  refine ⟨fun wq hq => ?_, ?_⟩
  · obtain ⟨d0, s0, g0, g1, g2, v0, x5, x6⟩ := HC.out wq ((Gr.drew _).trans hq)
    unfold pLa
    go_simp
    first | exact rfl | exact ⟨rfl, rfl⟩
  go_simp
 iterate 3
  refine wPe rfl rfl ?_
  apply Exists.intro
  refine ⟨fun wq => ?_, ?_⟩
  · unfold pLa
    go_simp
    first | exact rfl | exact ⟨rfl, rfl⟩
  go_simp
 refine wQe rfl rfl ?_
 apply Exists.intro
 refine ⟨fun wq hq => ?_, ?_⟩
 · obtain ⟨d0, s0, g0, g1, g2, v0, x5, x6⟩ := HC.out wq ((Gr.drew _).trans hq)
   unfold pLa
   go_simp
   first | exact rfl | exact ⟨rfl, rfl⟩
 go_simp
 refine wpG_c rfl rfl ?_
 intro w3 g3 K hK
 go_simp
 go_at_call 66
 refine (HR.out w3 ((Gr.drew _).trans g3)).mono ?_
 rintro e wn ⟨A, c, v, R', rfl, o4, p4, h4, q4⟩
 refine hK _ _ o4.below ?_; have G4 := Lib.hid (((Gr.drew w).trans g3).trans o4.below); have G3 := Lib.hid ((Gr.drew w).trans g3); have O4 := Lib.hid o4; have P4 := Lib.hid p4; have H4 := Lib.hid h4; have Q4 := Lib.hid q4; clear g3 o4 h4 q4 p4 hK
 go_simp
 iterate 3
  refine wPe rfl rfl ?_
  apply Exists.intro
  refine ⟨fun wq => ?_, ?_⟩
  · unfold pLa
    go_simp
    first | exact rfl | exact ⟨rfl, rfl⟩
  go_simp
 refine wpG_s rfl rfl ?_
 intro wa ga K hK
 have Ga := Lib.hid (G4.out.trans ga)
 have Ba := Lib.hid (HBB.out.mono Ga.out)
 have Oa := Lib.hid (O4.out.mono ga)
 have Pa := Lib.hid (P4.out.mono ga)
 have Qa : Hid (∀ r ∈ R', QB L.kb wa r.r.a r.r.n r.r.c r.r.l) := fun r hr => (Q4.out r hr).mono ga
 have x0 := Ba.out.cell 0
 have f0 := Blk.free Ba.out 0
 clear ga
 go_simp
 refine hK _ _ ?_
 clear hK x0 f0
 go_simp
 obtain ⟨wb, hwb⟩ : ∃ wb, wb = wa.setCell ⟨pb, 0, none⟩ (.slice A 1 c) := ⟨_, rfl⟩
 have Sb : Blk wb pb 112 [.slice A 1 c] := by rw [hwb]; exact Ba.out.set 0 _
 have Tb : Tch (fun z => z = pb) wa wb := by rw [hwb]; exact Tch.set ⟨pb, 0, none⟩ _ rfl
 rw [← hwb]
 clear hwb
 refine wPe rfl rfl ?_
 apply Exists.intro
 refine ⟨fun wq => ?_, ?_⟩
 · unfold pLa
   go_simp
   first | exact rfl | exact ⟨rfl, rfl⟩
 go_simp
 refine wNi ?_
 intro wc gc
 have Tac : Hid (Tch (fun z => z = pb) wa wc) := Tb.trans (Tch.gr gc)
 have Tc : Hid (Tch (fun z => z = pb) w wc) := (Tch.gr Ga.out).trans Tac.out
 have Sc := Lib.hid (Sb.mono gc)
 have Hc : Hid (MSt w0 L m wc) := HH.out.off Tc.out (fun z e => e ▸ hge) (fun z e => e ▸ ⟨_, _, HBB.out, by unfold tyA tyM; decide⟩)
 clear Sb Tb gc
 go_wp2_with fail
 go_ret
 obtain ⟨A', c', rfl, _⟩ := Pa.out.slice
 have Ow : Own w0 wa 120 2 (.slice A 1 c) 1 [.slice A' P.length c', .int .u64 (G : Int)] := (Oa.out.base G3.out).base HH.out.below
 have Pw : Own w0 wa 188 2 (.slice A' P.length c') P.length (R'.flatMap PRow.cells) := (Pa.out.base G3.out).base HH.out.below
 refine ⟨rfl, Hc.out, ⟨A, c, A', c', R', Sc.out, ?_, ?_, H4.out⟩, Tc.out⟩
 · exact Ow.kx (KX.tch (kb := L.kb) Tac.out) Hc.out.below (by unfold tyM; decide) (by decide) (fun z e q => by
    obtain ⟨cs, z2⟩ := Ow.blk_at q
    rw [e] at z2
    exact absurd (bTy z2 Ba.out) (by decide))
 · exact Pgw.kx ⟨Pw, Qa.out⟩ (KX.tch Tac.out) Hc.out.below (fun z e => by subst e; exact ⟨_, _, Ba.out, by unfold tyB; decide, by decide⟩)
set_option maxRecDepth 100000 in
set_option maxHeartbeats 1000000 in
theorem openSteps_any (N bs : Nat) (w2 : World) (h : MSt w0 L m w2) (f : Fit m a d l) (ho : m.Ok n) (hn : n ≤ 900) (hd : m.d.down = false) (hp : m.d.pend = []) (hge : w0.heap.size ≤ ps) (hgb : w0.heap.size ≤ pb) (hN0 : 0 < N) (hN : (N : Int) = pagesI a d l) (X : Spr) (hX : superR m.S a d l m.d.kept = some X) (hl : X.life < 18446744073709551616) (hbs : X.base ≤ 1073741824) (hall : ∀ k, k < N → pgIs m a d l X.life k = true) (G : Nat) (P : List (Nat × List UInt8)) (hP : TxnIs m a d l X.life X.base G P)
 (hb : OpI L a d l x vl vp next due dead ps pv pd pS pg w2) (hbb : Blk w2 pb 112 [.slice none 0 0])
 (hst : Blk w2 bs 164 [.func (.func 61) #[] #[.pointer (some ⟨pd, 0, none⟩), .pointer (some ⟨pS, 0, none⟩), .pointer (some ⟨pg, 0, none⟩), .pointer (some ⟨pv, 0, none⟩)], .func (.func 63) #[] #[.pointer (some ⟨pd, 0, none⟩), .pointer (some ⟨pS, 0, none⟩), .pointer (some ⟨pg, 0, none⟩), .pointer (some ⟨pv, 0, none⟩)], .func (.func 65) #[] #[.pointer (some ⟨pd, 0, none⟩), .pointer (some ⟨pS, 0, none⟩), .pointer (some ⟨pg, 0, none⟩), .pointer (some ⟨pv, 0, none⟩), .pointer (some ⟨pb, 0, none⟩)]]) :
 Calls Tryz.prog 60 #[.slice (some ⟨bs, 0, none⟩) 3 3] w2 (RetS (fun w' => ∃ b c R A c1 A' c' R', MSt w0 L m w' ∧ OpI L a d l X vl (.slice (some ⟨b, 0, none⟩) N c) next due dead ps pv pd pS pg w' ∧ Pgo w0 L.kb w' b c N R ∧ R.map BRow.l = (List.range N).map (fun i => (pgR m a d l X.life i).1.body) ∧ N ≤ c ∧ c ≤ 9223372036854775807 ∧ w2.heap.size ≤ b ∧ TxM w0 L.kb w' pb G P A c1 A' c' R' ∧ Tch (fun z => z = ps ∨ z = pb) w2 w') (fun _ _ => False)) := by
 have nb : bs ≠ ps := fun e => by rw [e] at hst; exact absurd (bTy hst hb.fx) (by decide)
 have nbp : pb ≠ ps := fun e => by rw [e] at hbb; exact absurd (bTy hbb hb.fx) (by decide)
 have o1 := open1_any h f ho hn hd hp hge hb
 rw [hX] at o1
 refine storeSteps3 _ _ _ _ _ _ _ _ _ (enters_of Tryz.func61 (by kernel_rfl) rfl) (enters_of Tryz.func63 (by kernel_rfl) rfl) (enters_of Tryz.func65 (by kernel_rfl) rfl) bs w2 (fun w' => MSt w0 L m w' ∧ OpI L a d l X vl vp next due dead ps pv pd pS pg w' ∧ Tch (fun z => z = ps) w2 w') (fun w' => ∃ b c R, MSt w0 L m w' ∧ OpI L a d l X vl (.slice (some ⟨b, 0, none⟩) N c) next due dead ps pv pd pS pg w' ∧ Pgo w0 L.kb w' b c N R ∧ R.map BRow.l = (List.range N).map (fun i => (pgR m a d l X.life i).1.body) ∧ N ≤ c ∧ c ≤ 9223372036854775807 ∧ w2.heap.size ≤ b ∧ Tch (fun z => z = ps) w2 w') _ _ hst ?_ ?_ ?_
 · refine o1.mono ?_
   rintro e w3 ⟨rfl, h3, b3, t3⟩
   exact ⟨0, rfl, fun _ => ⟨h3, b3, t3⟩, fun q => absurd rfl q⟩
 · rintro w3 ⟨h3, b3, t3⟩
   refine ⟨hst.tch t3 nb, (open2_any h3 f ho hn hd hp hge b3 hl N hN0 hN hall).mono ?_⟩
   rintro e w4 ⟨rfl, b, c, R, i1, i2, i3, i4, i5, i6, i7, i8⟩
   exact ⟨0, rfl, fun _ => ⟨b, c, R, i1, i2, i3, i4, i5, i6, Nat.le_trans t3.size i7, t3.trans i8⟩, fun q => absurd rfl q⟩
 · rintro w4 ⟨b, c, R, i1, i2, i3, i4, i5, i6, i7, i8⟩
   have hb4 := hbb.tch i8 nbp
   refine ⟨hst.tch i8 nb, (open3_any i1 f ho hn hd hp hgb i2 hb4 hl hbs G P hP).mono ?_⟩
   rintro e w5 ⟨rfl, j1, ⟨A, c1, A', c', R', j2⟩, j3⟩
   have nt : ∀ {g : Nat} {t : TypeId} {cs : List Value}, Blk w4 g t cs → t ≠ 112 → ¬ g = pb := fun hg hne e => by
    rw [e] at hg
    exact hne (bTy hg hb4)
   refine ⟨0, rfl, fun _ => ⟨b, c, R, A, c1, A', c', R', j1, ⟨i2.fd.tch j3 (nt i2.fd (by decide)), i2.fs.tch j3 (nt i2.fs (by decide)), i2.fg.tch j3 (nt i2.fg (by decide)), i2.fv.tch j3 (nt i2.fv (by decide)), i2.fx.tch j3 (nt i2.fx (by decide))⟩, i3.kx (KX.tch j3) j1.below (fun z e => ⟨?_, 112, [.slice none 0 0], by rw [e]; exact hb4, by unfold tyB; decide⟩), i4, i5, i6, i7, j2, (i8.mono (fun z _ q => .inl q)).trans (j3.mono (fun z _ q => .inr q))⟩, fun q => absurd rfl q⟩
   intro q
   obtain ⟨cs, z2⟩ := i3.o.blk_at (b := b) rfl
   rw [← q, e] at z2
   exact absurd (bTy z2 hb4) (by decide)
theorem openBad_any (bs : Nat) (w2 : World) (h : MSt w0 L m w2) (f : Fit m a d l) (ho : m.Ok n) (hn : n ≤ 900) (hd : m.d.down = false) (hp : m.d.pend = []) (hge : w0.heap.size ≤ ps) (hX : superR m.S a d l m.d.kept = none) (f2 f3 : Nat) (a2 b2 a3 b3 : Array Value) (e2 : ∀ args w, (callFunc f2 args).run Tryz.prog w = .ok (.enter f2 args) w) (e3 : ∀ args w, (callFunc f3 args).run Tryz.prog w = .ok (.enter f3 args) w)
 (hb : OpI L a d l x vl vp next due dead ps pv pd pS pg w2)
 (hst : Blk w2 bs 164 [.func (.func 61) #[] #[.pointer (some ⟨pd, 0, none⟩), .pointer (some ⟨pS, 0, none⟩), .pointer (some ⟨pg, 0, none⟩), .pointer (some ⟨pv, 0, none⟩)], .func (.func f2) a2 b2, .func (.func f3) a3 b3]) :
 Calls Tryz.prog 60 #[.slice (some ⟨bs, 0, none⟩) 3 3] w2 (RetS (fun _ => False) (fun q w' => q = 11 ∧ MSt w0 L m w' ∧ Tch (fun z => z = ps) w2 w')) := by
 have o1 := open1_any h f ho hn hd hp hge hb
 rw [hX] at o1
 refine storeSteps3 _ _ _ _ _ _ _ _ _ (enters_of Tryz.func61 (by kernel_rfl) rfl) e2 e3 bs w2 (fun _ => False) (fun _ => False) _ _ hst ?_ (fun _ h => h.elim) (fun _ h => h.elim)
 refine o1.mono ?_
 rintro e w3 ⟨rfl, h3, b3, t3⟩
 exact ⟨11, rfl, fun q => absurd q (by decide), fun _ => ⟨rfl, h3, t3⟩⟩
end
end
end Go.Proofs.YtdkmlmbehlooiaaGreatDoor
