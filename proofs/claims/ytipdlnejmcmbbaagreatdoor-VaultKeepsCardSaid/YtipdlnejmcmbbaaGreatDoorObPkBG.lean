/- Own texts, one behind the other. No condition. -/
import Derived.Test.YtipdlnejmcmbbaaGreatDoorObPkBF
import Derived.Defers
import Derived.Recover
set_option linter.unusedVariables false
set_option maxRecDepth 100000
set_option maxHeartbeats 8000000
set_option linter.unusedSimpArgs false
namespace Go.Proofs.YtipdlnejmcmbbaaGreatDoor
section
open Go.RowKit
structure wO (m:Mc) (a d l:Int) (life base G:Nat) (P:List (Nat×List UInt8)):Prop where
 len:((P.length+1:Nat):Int)=l
 pos:0<P.length
 all:∀k p,P[k]?=some p→bU m l base k=(fQ 4 life 0 k G p.1 p.2,0)∧(p.1:Int)<au a d l∧p.2.length≤473
 fin:bU m l base P.length=(fQ 5 life 0 P.length G P.length [],0)
structure TxM (w0:World) (kb:Nat) (w:World) (pb G:Nat) (P:List (Nat×List UInt8)) (A:Option Addr) (c:Nat) (A':Option Addr) (c':Nat) (R':List aU):Prop where
 b:Blk w pb 183 [.slice A 1 c]
 o:Own w0 w 190 2 (.slice A 1 c) 1 [.slice A' P.length c',.int .u64 (G:Int)]
 p:Pgw w0 kb w A' c' P.length R'
 m:R'.map (fun x=>(x.k,x.r.l))=P
section
variable {w0 w w':World} {L:Pl} {m:Mc} {n:Nat} {a d l:Int} {x y:Spr} {vl vp vl' vp':Value} {next next':Nat} {due dead due' dead':Bool} {ps pv pd pS pg pb:Nat}
theorem PG (h:MSt w0 L m w) (f:Fit m a d l) (ho:m.Ok n) (hn:n≤90000) (hd:m.d.down=false) (hp:m.d.pend=[]) (hge:w0.heap.size≤pb) (hb:OpI L a d l x vl vp next due dead ps pv pd pS pg w) (hbb:Blk w pb 183 [.slice none 0 0]) (hl:x.life<18446744073709551616) (hbs:x.base≤1073741824) (G:Nat) (P:List (Nat×List UInt8)) (hP:wO m a d l x.life x.base G P):
 Calls Tryz.prog 150 #[.pointer (some ⟨pd,0,none⟩),.pointer (some ⟨pS,0,none⟩),.pointer (some ⟨pg,0,none⟩),.pointer (some ⟨pv,0,none⟩),.pointer (some ⟨pb,0,none⟩)] w fun e w'=>e= .returned (.int .i64 0)∧MSt w0 L m w'∧(∃A c A' c' R',TxM w0 L.kb w' pb G P A c A' c' R')∧Tch (fun z=>z=pb) w w':=by
 have HC:=Xh (fun wr (g:Gr w wr)=>(hb.gr g).cells)
 have HB:=Xh hb;have HH:=Xh h;have HBB:=Xh hbb
 have HR:=Xh (fun wr (g:Gr w wr)=>Jj (h.mono g) f ho hn hd hp x.life x.base G hl hbs P hP.len hP.pos hP.all hP.fin)
 clear h f ho hd hp hb hP hbb
 go_in
 go_upto_region 1 with fail
 refine wrG Xe [0,0,0,0,8,24,56,120,0,256,768,1792,3840,8191,16383,32767,32767,65535,262143] [.q 0,.q 1,.q 2,.q 3,.p 4,.p 5,.p 6,.q 7,.q 8,.p 9,.p 10,.p 11,.q 12,.c 13,.p 14,.p 15,.p 16,.s 17,.p 18] Xe (trivial) ?_
 refine gQ (fun wq hq=>HC.out wq (Xk hq)) ?_
 refine gQ (fun wq hq=>HC.out wq (Xk hq)) ?_
 refine gQ (fun wq hq=>HC.out wq (Xk hq)) ?_
 refine gQ (fun wq hq=>HC.out wq (Xk hq)) ?_
 refine gP ?_
 refine gP ?_
 refine gP ?_
 refine gQ (fun wq hq=>HC.out wq (Xk hq)) ?_
 refine gQ (fun wq hq=>HC.out wq (Xk hq)) ?_
 refine gP ?_
 refine gP ?_
 refine gP ?_
 refine gQ (fun wq hq=>HC.out wq (Xk hq)) ?_
 refine gC ?_
 intro w3 g3 K hK
 refine (HR.out w3 ((Gr.drew _).trans g3)).mono ?_
 rintro e wn ⟨A,c,v,R',rfl,o4,p4,h4,q4⟩
 refine hK _ _ o4.below ?_;have G4:=Xh (((Gr.drew w).trans g3).trans o4.below);have G3:=Xh ((Gr.drew w).trans g3);have O4:=Xh o4;have P4:=Xh p4;have H4:=Xh h4;have Q4:=Xh q4;clear g3 o4 h4 q4 p4 hK
 go_simp
 refine gP ?_
 refine gP ?_
 refine gP ?_
 refine dV rfl rfl ?_
 intro wa ga K hK
 have Ga:=Xh (G4.out.trans ga)
 have Ba:=Xh (HBB.out.mono Ga.out)
 have Oa:=Xh (O4.out.mono ga)
 have Pa:=Xh (P4.out.mono ga)
 have Qa:Hid (∀r∈R',QB L.kb wa r.r.a r.r.n r.r.c r.r.l):=fun r hr=>(Q4.out r hr).mono ga
 have x0:=Ba.out.cell 0
 have f0:=Blk.free Ba.out 0
 clear ga
 go_simp
 refine hK _ _ ?_
 clear hK x0 f0
 go_simp
 obtain⟨wb,hwb⟩:∃wb,wb=wa.setCell ⟨pb,0,none⟩ (.slice A 1 c):=⟨_,rfl⟩
 have Sb:Blk wb pb 183 [.slice A 1 c]:=by rw[hwb];exact Ba.out.set 0 _
 have Tb:Tch (fun z=>z=pb) wa wb:=by rw[hwb];exact Tch.set ⟨pb,0,none⟩ _ rfl
 rw[←hwb]
 clear hwb
 refine gP ?_
 refine wNi fun wc gc=> ?_
 have Tac:Hid (Tch (fun z=>z=pb) wa wc):=Tb.trans (Tch.gr gc)
 have Tc:Hid (Tch (fun z=>z=pb) w wc):=(Tch.gr Ga.out).trans Tac.out
 have Sc:=Xh (Sb.mono gc)
 have Hc:Hid (MSt w0 L m wc):=HH.out.off Tc.out (fun z e=>e▸hge) (fun z e=>e▸⟨_,_,HBB.out,by unfold tyA tyM;decide⟩)
 clear Sb Tb gc
 go_wp2_with fail
 go_ret
 obtain⟨A',c',rfl,_⟩:=Pa.out.slice
 have Ow:Own w0 wa 190 2 (.slice A 1 c) 1 [.slice A' P.length c',.int .u64 (G:Int)]:=(Oa.out.base G3.out).base HH.out.below
 have Pw:Own w0 wa 234 2 (.slice A' P.length c') P.length (R'.flatMap aU.cells):=(Pa.out.base G3.out).base HH.out.below
 refine⟨rfl,Hc.out,⟨A,c,A',c',R',Sc.out,?_,?_,H4.out⟩,Tc.out⟩
 · exact Ow.kx (KX.tch (kb:=L.kb) Tac.out) Hc.out.below Xi Xg (fun z e q=>by
    obtain⟨cs,z2⟩:=Ow.aA q
    rw[e] at z2
    exact absurd (bTy z2 Ba.out) Xg)
 · exact Pgw.kx ⟨Pw,Qa.out⟩ (KX.tch Tac.out) Hc.out.below (fun z e=>by subst e;exact⟨_,_,Ba.out,by unfold tyB;decide,Xg⟩)
theorem DI (N bs:Nat) (w2:World) (h:MSt w0 L m w2) (f:Fit m a d l) (ho:m.Ok n) (hn:n≤90000) (hd:m.d.down=false) (hp:m.d.pend=[]) (hge:w0.heap.size≤ps) (hgb:w0.heap.size≤pb) (hN0:0<N) (hN:(N:Int)=au a d l) (X:Spr) (hX:fP m.S a d l m.d.kept=some X) (hl:X.life<18446744073709551616) (hbs:X.base≤1073741824) (hall:∀k,k<N→jW m a d l X.life k=true) (G:Nat) (P:List (Nat×List UInt8)) (hP:wO m a d l X.life X.base G P)
 (hb:OpI L a d l x vl vp next due dead ps pv pd pS pg w2) (hbb:Blk w2 pb 183 [.slice none 0 0])
 (hst:Blk w2 bs 211 [.func (.func 146) #[] #[.pointer (some ⟨pd,0,none⟩),.pointer (some ⟨pS,0,none⟩),.pointer (some ⟨pg,0,none⟩),.pointer (some ⟨pv,0,none⟩)],.func (.func 148) #[] #[.pointer (some ⟨pd,0,none⟩),.pointer (some ⟨pS,0,none⟩),.pointer (some ⟨pg,0,none⟩),.pointer (some ⟨pv,0,none⟩)],.func (.func 150) #[] #[.pointer (some ⟨pd,0,none⟩),.pointer (some ⟨pS,0,none⟩),.pointer (some ⟨pg,0,none⟩),.pointer (some ⟨pv,0,none⟩),.pointer (some ⟨pb,0,none⟩)]]):
 Calls Tryz.prog 98 #[.slice (some ⟨bs,0,none⟩) 3 3] w2 (iq (fun w'=>∃b c R A c1 A' c' R',MSt w0 L m w'∧OpI L a d l X vl (.slice (some ⟨b,0,none⟩) N c) next due dead ps pv pd pS pg w'∧Pgo w0 L.kb w' b c N R∧R.map aj.l=(List.range N).map (fun i=>(pgR m a d l X.life i).1.body)∧N≤c∧c≤9223372036854775807∧w2.heap.size≤b∧TxM w0 L.kb w' pb G P A c1 A' c' R'∧Tch (fun z=>z=ps∨z=pb) w2 w') (fun _ _=>False)):=by
 have nb:bs≠ps:=fun e=>by rw[e] at hst;exact absurd (bTy hst hb.fx) Xg
 have nbp:pb≠ps:=fun e=>by rw[e] at hbb;exact absurd (bTy hbb hb.fx) Xg
 have o1:=PD h f ho hn hd hp hge hb
 rw[hX] at o1
 refine qJ _ _ _ _ _ _ _ _ _ (enters_of Tryz.func146 Xe rfl) (enters_of Tryz.func148 Xe rfl) (enters_of Tryz.func150 Xe rfl) bs w2 (fun w'=>MSt w0 L m w'∧OpI L a d l X vl vp next due dead ps pv pd pS pg w'∧Tch (fun z=>z=ps) w2 w') (fun w'=>∃b c R,MSt w0 L m w'∧OpI L a d l X vl (.slice (some ⟨b,0,none⟩) N c) next due dead ps pv pd pS pg w'∧Pgo w0 L.kb w' b c N R∧R.map aj.l=(List.range N).map (fun i=>(pgR m a d l X.life i).1.body)∧N≤c∧c≤9223372036854775807∧w2.heap.size≤b∧Tch (fun z=>z=ps) w2 w') _ _ hst ?_ ?_ ?_
 · refine o1.mono ?_
   rintro e w3 ⟨rfl,h3,b3,t3⟩
   exact⟨0,rfl,fun _=>⟨h3,b3,t3⟩,fun q=>absurd rfl q⟩
 · rintro w3 ⟨h3,b3,t3⟩
   refine⟨hst.tch t3 nb,(Pn h3 f ho hn hd hp hge b3 hl N hN0 hN hall).mono ?_⟩
   rintro e w4 ⟨rfl,b,c,R,i1,i2,i3,i4,i5,i6,i7,i8⟩
   exact⟨0,rfl,fun _=>⟨b,c,R,i1,i2,i3,i4,i5,i6,Nat.le_trans t3.size i7,t3.trans i8⟩,fun q=>absurd rfl q⟩
 · rintro w4 ⟨b,c,R,i1,i2,i3,i4,i5,i6,i7,i8⟩
   have hb4:=hbb.tch i8 nbp
   refine⟨hst.tch i8 nb,(PG i1 f ho hn hd hp hgb i2 hb4 hl hbs G P hP).mono ?_⟩
   rintro e w5 ⟨rfl,j1,⟨A,c1,A',c',R',j2⟩,j3⟩
   have nt:∀{g:Nat} {t:TypeId} {cs:List Value},Blk w4 g t cs→t≠183→¬g=pb:=fun hg hne e=>by
    rw[e] at hg
    exact hne (bTy hg hb4)
   refine⟨0,rfl,fun _=>⟨b,c,R,A,c1,A',c',R',j1,⟨i2.fd.tch j3 (nt i2.fd Xg),i2.fs.tch j3 (nt i2.fs Xg),i2.fg.tch j3 (nt i2.fg Xg),i2.fv.tch j3 (nt i2.fv Xg),i2.fx.tch j3 (nt i2.fx Xg)⟩,i3.kx (KX.tch j3) j1.below (fun z e=>⟨?_,183,[.slice none 0 0],by rw[e];exact hb4,by unfold tyB;decide⟩),i4,i5,i6,i7,j2,(i8.mono (fun z _ q=> .inl q)).trans (j3.mono (fun z _ q=> .inr q))⟩,fun q=>absurd rfl q⟩
   intro q
   obtain⟨cs,z2⟩:=i3.o.aA (b:=b) rfl
   rw[←q,e] at z2
   exact absurd (bTy z2 hb4) Xg
end
end
section
open Go.RowKit
section
variable {w0 w w':World} {L:Pl} {m:Mc} {n:Nat} {a d l:Int}
abbrev Tp (L:Pl) (a d l:Int):Array Value:=#[.pointer (some ⟨L.dp,0,none⟩),.pointer (some ⟨L.p,0,none⟩),.int .i64 a,.int .i64 d,.int .i64 l,.int .u64 0,.int .i64 0,.int .u64 0,.pointer none,.int .i64 0,.slice none 0 0,.bool true,.bool false]
abbrev opF (pd pS pg pv pb:Nat):Array Value:=#[.func (.func 146) #[] #[.pointer (some ⟨pd,0,none⟩),.pointer (some ⟨pS,0,none⟩),.pointer (some ⟨pg,0,none⟩),.pointer (some ⟨pv,0,none⟩)],.func (.func 148) #[] #[.pointer (some ⟨pd,0,none⟩),.pointer (some ⟨pS,0,none⟩),.pointer (some ⟨pg,0,none⟩),.pointer (some ⟨pv,0,none⟩)],.func (.func 150) #[] #[.pointer (some ⟨pd,0,none⟩),.pointer (some ⟨pS,0,none⟩),.pointer (some ⟨pg,0,none⟩),.pointer (some ⟨pv,0,none⟩),.pointer (some ⟨pb,0,none⟩)]]
theorem OU (w w1:World) (pd pS pg:Nat) (g1:Gr w w1) (L:Pl) (a d l:Int)
 (hd:Blk w1 pd 28 [.pointer (some ⟨L.dp,0,none⟩)]) (hS:Blk w1 pS 33 [.pointer (some ⟨L.p,0,none⟩)]) (hg:Blk w1 pg 23 [.int .i64 a,.int .i64 d,.int .i64 l]) (wC:World)
 (hC:wC=(w1.alloc (.cells (Tp L a d l) 150)).alloc (.cells #[.pointer (some ⟨w1.heap.size,0,none⟩)] 90)):
 Gr w wC∧OpI L a d l bO (.pointer none) (.slice none 0 0) 0 true false w1.heap.size (w1.heap.size+1) pd pS pg wC∧wC.heap.size=w1.heap.size+2:=by
 have GC:Gr w1 wC:=by rw[hC];exact (Gr.alloc _ _).trans (Gr.alloc _ _)
 have sB:Blk wC w1.heap.size 150 (aI L a d l bO (.pointer none) 0 (.slice none 0 0) true false):=by rw[hC];exact (Blk.new w1 _ (Tp L a d l)).alloc _
 have vB:Blk wC (w1.heap.size+1) 90 [.pointer (some ⟨w1.heap.size,0,none⟩)]:=by rw[hC];exact heap_alloc2_new w1 _ _
 refine⟨g1.trans GC,⟨hd.mono GC,hS.mono GC,hg.mono GC,vB,sB⟩,?_⟩
 rw[hC,World.size_alloc,World.size_alloc]
theorem Uj {A:Option Addr} {n c b:Nat} (h:A.map (·.block)=some b):(Value.slice A n c).ownBlock=some b:=by
 cases A with
 |none=>cases h
 |some z=>exact h
theorem Et (h:MSt w0 L m w) (f:Fit m a d l) (ho:m.Ok n) (hn:n≤90000) (hd:m.d.down=false) (hp:m.d.pend=[]) (N:Nat) (hN0:0<N) (hN:(N:Int)=au a d l) (X:Spr) (hX:fP m.S a d l m.d.kept=some X) (hl:X.life<18446744073709551616) (hbs:X.base≤1073741824) (hall:∀k,k<N→jW m a d l X.life k=true) (G:Nat) (hG:G<18446744073709551616) (P:List (Nat×List UInt8)) (hP:wO m a d l X.life X.base G P):
 Calls Tryz.prog 77 #[.pointer (some ⟨L.dp,0,none⟩),.pointer (some ⟨L.p,0,none⟩),.agg #[.int .i64 a,.int .i64 d,.int .i64 l]] w fun e w'=>∃ps b c R,e= .returned (.tuple #[.pointer (some ⟨ps,0,none⟩),.int .i64 0])∧MSt w0 L m w'∧Blk w' ps 150 (aI L a d l ⟨X.life,X.base,G⟩ (.pointer none) ((X.base+(P.length+1)) % l.toNat) (.slice (some ⟨b,0,none⟩) N c) true false)∧Pgo w0 L.kb w' b c N R∧R.map aj.l=gY ((List.range N).map (fun i=>(pgR m a d l X.life i).1.body)) P∧N≤c∧c≤9223372036854775807∧w.heap.size≤ps∧w.heap.size≤b∧Gr w w':=by
 have hw0:w0.heap.size≤w.heap.size:=h.below.size
 obtain⟨hl3,hl64⟩:=f.g.l
 have hPg:=pgE a d l
 obtain⟨Q,hQ⟩:∃Q:Nat,Q=X.base+(P.length+1):=⟨_,rfl⟩
 obtain⟨QR,hQR⟩:∃QR:Nat,QR=Q % l.toNat:=⟨_,rfl⟩
 rw[←hQ,←hQR]
 have hm:Int.tmod (Q:Int) l=(QR:Int):=by
  rw[hQR,show l=(l.toNat:Int) by omega,Int.toNat_natCast]
  exact (Int.ofNat_tmod Q l.toNat).symm
 have HQ:=Xh hQ;have HM:=Xh hm
 clear hQ hQR hm
 obtain⟨W,hW⟩:∃W,W=((w.alloc (.cells #[.pointer (some ⟨L.dp,0,none⟩)] 28)).alloc (.cells #[.pointer (some ⟨L.p,0,none⟩)] 33)).alloc (.cells #[.int .i64 a,.int .i64 d,.int .i64 l] 23):=⟨_,rfl⟩
 have g0:Gr w W:=by rw[hW];exact ((Gr.alloc _ _).trans (Gr.alloc _ _)).trans (Gr.alloc _ _)
 have d0:Blk W w.heap.size 28 [.pointer (some ⟨L.dp,0,none⟩)]:=by rw[hW];exact ((Blk.new w _ _).alloc _).alloc _
 have s0:Blk W (w.heap.size+1) 33 [.pointer (some ⟨L.p,0,none⟩)]:=by rw[hW];exact (show Blk ((w.alloc (.cells #[.pointer (some ⟨L.dp,0,none⟩)] 28)).alloc (.cells #[.pointer (some ⟨L.p,0,none⟩)] 33)) (w.heap.size+1) 33 [.pointer (some ⟨L.p,0,none⟩)] from heap_alloc2_new w _ _).alloc _
 have q0:Blk W (w.heap.size+1+1) 23 [.int .i64 a,.int .i64 d,.int .i64 l]:=by
  rw[hW]
  have :=Blk.new ((w.alloc (.cells #[.pointer (some ⟨L.dp,0,none⟩)] 28)).alloc (.cells #[.pointer (some ⟨L.p,0,none⟩)] 33)) 23 #[.int .i64 a,.int .i64 d,.int .i64 l]
  rwa[World.size_alloc,World.size_alloc] at this
 have G0:=Xh g0;have D0:=Xh d0;have S0:=Xh s0;have Q0:=Xh q0;have HW:=Xh hW
 have HRI:=Xh (rE (h.mono g0) f)
 have HST:=Xh (fun (w2:World) (g:Gr w w2) (bs ps pv pd pS pg pb:Nat) (hge:w.heap.size≤ps) (hgb:w.heap.size≤pb) (hb:OpI L a d l bO (.pointer none) (.slice none 0 0) 0 true false ps pv pd pS pg w2) (hpb:Blk w2 pb 183 [.slice none 0 0]) (hst:Blk w2 bs 211 (opF pd pS pg pv pb).toList)=>DI N bs w2 (h.mono g) f ho hn hd hp (Nat.le_trans hw0 hge) (Nat.le_trans hw0 hgb) hN0 hN X hX hl hbs hall G P hP hb hpb hst)
 have HNN:=Xh hN
 have HPL:=Xh hP.len;have HP0:=Xh hP.pos;have HPA:=Xh hP.all
 clear hW g0 d0 s0 q0 h f ho hd hp hX hall hP
 go_in
 go_upto_region 1 with fail
 rw[←HW.out]
 have k0:=D0.out.cell 0
 have k1:=S0.out.cell 0
 have y0:=Q0.out.cell 0
 have y1:=Q0.out.cell 1
 have y2:=Q0.out.cell 2
 go_wp2_with fail
 refine HRI.out.mono ?_
 rintro e w1 ⟨rfl,g1⟩
 have G1:=Xh (G0.out.trans g1)
 have D1:=Xh (D0.out.mono g1);have S1:=Xh (S0.out.mono g1)
 have Q1:=Xh (Q0.out.mono g1)
 clear g1 k0 k1 y0 y1 y2
 have k0:=D1.out.cell 0
 have k1:=S1.out.cell 0
 have y0:=Q1.out.cell 0
 have y1:=Q1.out.cell 1
 have y2:=Q1.out.cell 2
 go_upto_region 5 with fail
 obtain⟨wC,hC⟩:∃wC,wC=(w1.alloc (.cells #[.pointer (some ⟨L.dp,0,none⟩),.pointer (some ⟨L.p,0,none⟩),.int .i64 a,.int .i64 d,.int .i64 l,.int .u64 0,.int .i64 0,.int .u64 0,.pointer none,.int .i64 0,.slice none 0 0,.bool true,.bool false] 150)).alloc (.cells #[.pointer (some ⟨w1.heap.size,0,none⟩)] 90):=⟨_,rfl⟩
 obtain⟨gC,oC,eC⟩:=OU w w1 _ _ _ G1.out L a d l D1.out S1.out Q1.out wC hC
 rw[←hC]
 have hps:w.heap.size≤w1.heap.size:=G1.out.size
 have GC:=Xh gC;have OC:=Xh oC
 have v0:=oC.fv.cell 0
 clear hC k0 k1 y0 y1 y2 gC oC
 generalize w1.heap.size=ps at *
 go_wp2_with fail
 obtain⟨wE,hE⟩:∃wE,wE=(wC.alloc (.cells #[.slice none 0 0] 183)).alloc (.cells (opF w.heap.size (w.heap.size+1) (w.heap.size+1+1) (ps+1) (ps+2)) 211):=⟨_,rfl⟩
 have gE:Gr wC wE:=by rw[hE];exact (Gr.alloc _ _).trans (Gr.alloc _ _)
 have bE:Blk wE (ps+2+1) 211 (opF w.heap.size (w.heap.size+1) (w.heap.size+1+1) (ps+1) (ps+2)).toList:=by
  rw[hE]
  have :=heap_alloc2_new wC (.cells #[.slice none 0 0] 183) (.cells (opF w.heap.size (w.heap.size+1) (w.heap.size+1+1) (ps+1) (ps+2)) 211)
  rw[eC] at this
  exact this
 have pE:Blk wE (ps+2) 183 [.slice none 0 0]:=by
  rw[hE]
  have :=Blk.new wC 183 #[.slice none 0 0]
  rw[eC] at this
  exact this.alloc _
 have HS2:=Xh (HST.out wE (GC.out.trans gE) (ps+2+1) ps (ps+1) _ _ _ (ps+2) hps Xf (OC.out.gr gE) pE bE)
 have GE:=Xh (GC.out.trans gE);have OE:=Xh (OC.out.gr gE);have PE:=Xh pE
 unfold opF at hE
 rw[←hE]
 clear hE gE bE pE v0
 refine HS2.out.mono ?_
 rintro e wF ⟨q,rfl,hi,he⟩
 have hq:q=0:=by
  rcases (show q=0∨q≠0 by omega) with z|z
  · exact z
  · exact (he z).elim
 subst hq
 obtain⟨b,c,R,A,c1,A',c',R',i1,i2,i3,i4,i5,i6,i7,i8,i9⟩:=hi rfl
 have I1:=Xh i1;have I2:=Xh i2;have I3:=Xh i3;have I4:=Xh i4;have I8:=Xh i8
 have GF:Hid (Gr w wF):=Tch.below GE.out i9 GE.out.size (fun z e=>by
  rcases e with e|e
  · rw[e];exact hps
  · omega)
 clear hi he i1 i2 i3 i4 i8 i9
 go_upto_region 9 with fail
 refine wrG Xe [0,0,2,6,14,30,63,127,255] [.q 0,.q 1,.p 2,.p 3,.p 4,.q 5,.p 6,.p 7,.s 8] Xe (trivial) ?_
 refine gQ (fun _ hq=>(I2.out.gr (Xk hq)).fv.cell 0) ?_
 refine gQ (fun _ hq=>(I2.out.gr (Xk hq)).fv.cell 0) ?_
 refine gP ?_
 refine gP ?_
 refine gP ?_
 refine gQ (fun _ hq=>(I2.out.gr (Xk hq)).fx.cell 6) ?_
 refine gP ?_
 refine gP ?_
 refine dV rfl rfl ?_
 intro w3 g3 K hK
 have G3:=Xh ((Gr.drew wF).trans g3)
 have B3:=Xh (I2.out.gr G3.out)
 have x9:=B3.out.fx.cell 9
 have f9:=Blk.free B3.out.fx 9
 clear g3
 go_simp
 refine hK _ _ ?_
 clear hK x9 f9
 go_simp
 obtain⟨w4,hw4⟩:∃w4,w4=w3.setCell ⟨ps,9,none⟩ (.int .i64 (X.base:Int)):=⟨_,rfl⟩
 have S4:Blk w4 ps 150 (aI L a d l X (.pointer none) X.base (.slice (some ⟨b,0,none⟩) N c) true false):=by rw[hw4];exact B3.out.fx.set 9 _
 have T4:Tch (fun z=>z=ps) w3 w4:=by rw[hw4];exact Tch.set ⟨ps,9,none⟩ _ rfl
 rw[←hw4]
 clear hw4
 refine wNi fun w5 g5=> ?_
 have S5:=Xh (S4.mono g5)
 have T5:Hid (Tch (fun z=>z=ps) wF w5):=((Tch.gr G3.out).trans T4).trans (Tch.gr g5)
 have M5:Hid (MSt w0 L m w5):=I1.out.off T5.out (fun z e=>by omega) (fun z e=>e▸⟨_,_,I2.out.fx,gI⟩)
 have B5:Hid (OpI L a d l X (.pointer none) (.slice (some ⟨b,0,none⟩) N c) X.base true false ps (ps+1) w.heap.size (w.heap.size+1) (w.heap.size+1+1) w5):=I2.out.to T5.out S5.out
 clear S4 T4 g5
 have nps:∀{g:Nat} {t:TypeId} {cs:List Value},Blk wF g t cs→t≠150→¬g=ps:=fun hg hne e=>by
  rw[e] at hg
  exact hne (bTy hg I2.out.fx)
 have PB5:Hid (Blk w5 (ps+2) 183 [.slice A 1 c1]):=I8.out.b.tch T5.out (nps I8.out.b Xg)
 have TO5:Own w0 w5 190 2 (.slice A 1 c1) 1 [.slice A' P.length c',.int .u64 (G:Int)]:=I8.out.o.kx (KX.tch (kb:=L.kb) T5.out) M5.out.below Xi Xg (fun z e q=>by
  obtain⟨cs,z2⟩:=I8.out.o.aA q
  exact nps z2 Xg e)
 have TP5:Hid (Pgw w0 L.kb w5 A' c' P.length R'):=I8.out.p.kx (KX.tch T5.out) M5.out.below (fun z e=>by subst e;exact⟨_,_,I2.out.fx,by unfold tyB;decide,Xg⟩)
 have PG5:Hid (Pgo w0 L.kb w5 b c N R):=I3.out.kx (KX.tch T5.out) M5.out.below (fun z e=>by
  subst e
  refine⟨fun q=> ?_,_,_,I2.out.fx,by unfold tyB;decide⟩
  obtain⟨cs,z2⟩:=I3.out.o.aA (b:=b) rfl
  exact nps z2 Xg q.symm)
 have HRM:=Xh I8.out.m
 have hAA:∃bA oA,A=some ⟨bA,oA,none⟩∧w5.cell? ⟨bA,oA,none⟩=some (.slice A' P.length c')∧w5.cell? ⟨bA,oA+1,none⟩=some (.int .u64 (G:Int)):=by
  obtain⟨_,_,hv,sl⟩:=TO5.slice
  injection hv with e1 _ e2
  subst e1 e2
  obtain⟨bA,oA,e,hcc⟩:=Sl.addr sl Xg
  exact⟨bA,oA,e,hcc 0 _ rfl,hcc 1 _ rfl⟩
 obtain⟨bA,oA,rfl,z0,z1⟩:=hAA
 have k0:=PB5.out.cell 0
 clear nps TO5
 go_wp2_with fail
 refine wp_loop_rounds 2 ?_
 rw[rounds_succ]
 go_upto_region 13 with (refine wpList_store_row rfl 190 (.tmp 13) (.tmp 47) rfl w5.heap.size (qC (.slice A' P.length c') G) rfl rfl 190 #[.slice none 0 0,.int .u64 0] (Blk.new w5 190 #[.slice none 0 0,.int .u64 0]) Bg rfl (OX _ _ _ _) ?_)
 obtain⟨w6,hw6⟩:∃w6,w6=(w5.alloc (.cells #[.slice none 0 0,.int .u64 0] 190)).setRow w5.heap.size (qC (.slice A' P.length c') G):=⟨_,rfl⟩
 have G6:Hid (Gr w5 w6):=by
  show Gr _ _
  rw[hw6]
  exact (Tch.row (S:=fun b=>b=w5.heap.size) (w:=w5.alloc (.cells #[.slice none 0 0,.int .u64 0] 190)) (g:=w5.heap.size) rfl (qC (.slice A' P.length c') G)).below (Gr.alloc _ _) (Gr.alloc w5 _).size (fun b e=>e▸Nat.le_refl _)
 have TX6:Hid (Blk w6 w5.heap.size 190 [.slice A' P.length c',.int .u64 (G:Int)]):=by
  show Blk _ _ _ _
  rw[hw6]
  exact setRow_heap _ w5.heap.size _ (qC (.slice A' P.length c') G) _ _ (Blk.new w5 _ #[.slice none 0 0,.int .u64 0])
 rw[←hw6]
 have ht:w.heap.size≤w5.heap.size:=Nat.le_trans GF.out.size T5.out.size
 have hPl:P.length≤64:=by have :=HPL.out;omega
 have hN264:N≤264:=by have :=HNN.out;omega
 have HPT:=Xh (vY (M5.out.mono G6.out) (B5.out.gr G6.out).fx R (PG5.out.mono G6.out) i6 i5 A' P.length c' R' (TP5.out.mono G6.out).pgw (fun y hy=>by
  have hm:(y.k,y.r.l)∈P:=by rw[←HRM.out];exact List.mem_map.2 ⟨y,hy,rfl⟩
  obtain⟨k,hk⟩:=List.getElem?_of_mem hm
  have :=(HPA.out k _ hk).2.1
  have hn:=HNN.out
  have e:((y.k,y.r.l):Nat×List UInt8).1=y.k:=rfl
  rw[e] at this
  omega) (fun y hy=>by
  have hm:(y.k,y.r.l)∈P:=by rw[←HRM.out];exact List.mem_map.2 ⟨y,hy,rfl⟩
  obtain⟨k,hk⟩:=List.getElem?_of_mem hm
  have h1:=(HPA.out k _ hk).2.2
  have h2:=(TP5.out.q y hy).b.len
  have e:((y.k,y.r.l):Nat×List UInt8).2=y.r.l:=rfl
  rw[e] at h1
  have h3:y.r.l.length=y.r.n:=by simpa using h2
  omega) Xf hN264 (fun b' e q=>by
  obtain⟨cs,z1⟩:=TP5.out.o.aA (Uj e)
  obtain⟨cs2,z2⟩:=PG5.out.o.aA (b:=b) rfl
  rw[q] at z1
  exact absurd (bTy z1 z2) Xg))
 have B6:=Xh (B5.out.gr G6.out)
 clear hw6 k0 z0 z1
 generalize w5.heap.size=pt at *
 have v0:=B6.out.fv.cell 0
 have t0:=TX6.out.cell 0
 go_wp2_with fail
 refine HPT.out.mono ?_
 rintro e w7 ⟨⟨vv,rfl⟩,m7,⟨R2,p7,hb7⟩,T7⟩
 have nb:∀{g:Nat} {t:TypeId} {cs:List Value},Blk w6 g t cs→t≠43→¬g=b:=fun hg hne e=>by
  obtain⟨cs2,z2⟩:=(PG5.out.mono G6.out).o.aA (b:=b) rfl
  rw[e] at hg
  exact hne (bTy hg z2)
 have M7:=Xh m7;have P7:=Xh p7;have HB7:=Xh hb7
 have B7:Hid (OpI L a d l X (.pointer none) (.slice (some ⟨b,0,none⟩) N c) X.base true false ps (ps+1) w.heap.size (w.heap.size+1) (w.heap.size+1+1) w7):=⟨B6.out.fd.tch T7 (nb B6.out.fd Xg),B6.out.fs.tch T7 (nb B6.out.fs Xg),B6.out.fg.tch T7 (nb B6.out.fg Xg),B6.out.fv.tch T7 (nb B6.out.fv Xg),B6.out.fx.tch T7 (nb B6.out.fx Xg)⟩
 have X7:=Xh (TX6.out.tch T7 (nb TX6.out Xg))
 have TT7:=Xh T7
 clear v0 t0 m7 p7 hb7 T7 nb
 have v0:=B7.out.fv.cell 0
 have t1:=X7.out.cell 1
 have x7:=B7.out.fx.cell 7
 have f7:=Blk.free B7.out.fx 7
 go_upto_region 15 with fail
 obtain⟨w8,hw8⟩:∃w8,w8=w7.setCell ⟨ps,7,none⟩ (.int .u64 (G:Int)):=⟨_,rfl⟩
 rw[←hw8]
 have T8:Hid (Tch (fun z=>z=ps) w7 w8):=by show Tch _ _ _;rw[hw8];exact Tch.set ⟨ps,7,none⟩ _ rfl
 have B8:Hid (OpI L a d l ⟨X.life,X.base,G⟩ (.pointer none) (.slice (some ⟨b,0,none⟩) N c) X.base true false ps (ps+1) w.heap.size (w.heap.size+1) (w.heap.size+1+1) w8):=B7.out.to T8.out (by rw[hw8];exact B7.out.fx.set 7 _)
 have M8:Hid (MSt w0 L m w8):=M7.out.off T8.out (fun z e=>by omega) (fun z e=>e▸⟨_,_,B7.out.fx,gI⟩)
 have X8:=Xh (X7.out.tch T8.out (fun e=>by have :=X7.out;rw[e] at this;exact absurd (bTy this B7.out.fx) Xg))
 have npb:¬ps=b:=fun e=>by
  obtain⟨cs,z2⟩:=P7.out.o.aA (b:=b) rfl
  rw[←e] at z2
  exact absurd (bTy z2 B7.out.fx) Xg
 have P8:Hid (Pgo w0 L.kb w8 b c N R2):=P7.out.kx (KX.tch T8.out) M8.out.below (fun z e=>by subst e;exact⟨npb,_,_,B7.out.fx,by unfold tyB;decide⟩)
 clear v0 t1 x7 f7 hw8
 have hQ:=HQ.out
 have wr1:IntKind.i64.wrap ((P.length:Int)+1)=(P.length:Int)+1:=IntWalk.i64_in _ Xf
 have wr2:IntKind.i64.wrap ((X.base:Int)+((P.length:Int)+1))=(Q:Int):=by rw[IntWalk.i64_in _ Xf];omega
 have hQ1:Q≤2147483648:=by omega
 clear hQ
 refine wrG Xe [0,1,3,7,0,16,48,112,255,511,1023,2047] [.p 4,.q 0,.p 1,.p 2,.q 3,.q 5,.p 6,.p 7,.p 8,.p 9,.p 10,.s 11] Xe (trivial) ?_
 refine gP ?_
 refine gQ (fun _ hq=>(B8.out.gr (Xk hq)).fv.cell 0) ?_
 refine gP ?_
 refine gP ?_
 refine gQ (fun _ hq=>(B8.out.gr (Xk hq)).fx.cell 9) ?_
 refine gQ (fun _ hq=>(X8.out.mono (Xk hq)).cell 0) ?_
 refine gP ?_
 refine gP ?_
 refine gP ?_
 refine gP ?_
 refine gP ?_
 refine dV rfl rfl ?_
 intro w9 g9 K hK
 have G9:=Xh ((Gr.drew w8).trans g9)
 have B9:=Xh (B8.out.gr G9.out)
 have x9:=B9.out.fx.cell 9
 have f9:=Blk.free B9.out.fx 9
 clear g9
 go_simp
 refine hK _ _ ?_
 clear hK x9 f9
 go_simp
 obtain⟨wa,hwa⟩:∃wa,wa=w9.setCell ⟨ps,9,none⟩ (.int .i64 (Q:Int)):=⟨_,rfl⟩
 have Sa:Blk wa ps 150 (aI L a d l ⟨X.life,X.base,G⟩ (.pointer none) Q (.slice (some ⟨b,0,none⟩) N c) true false):=by rw[hwa];exact B9.out.fx.set 9 _
 have Ta:Tch (fun z=>z=ps) w9 wa:=by rw[hwa];exact Tch.set ⟨ps,9,none⟩ _ rfl
 rw[←hwa]
 clear hwa
 refine wNi fun wb gb=> ?_
 have Tb:Hid (Tch (fun z=>z=ps) w8 wb):=((Tch.gr G9.out).trans Ta).trans (Tch.gr gb)
 have Bb:Hid (OpI L a d l ⟨X.life,X.base,G⟩ (.pointer none) (.slice (some ⟨b,0,none⟩) N c) Q true false ps (ps+1) w.heap.size (w.heap.size+1) (w.heap.size+1+1) wb):=B8.out.to Tb.out (Sa.mono gb)
 have Mb:Hid (MSt w0 L m wb):=M8.out.off Tb.out (fun z e=>by omega) (fun z e=>e▸⟨_,_,B8.out.fx,gI⟩)
 have Pb:Hid (Pgo w0 L.kb wb b c N R2):=P8.out.kx (KX.tch Tb.out) Mb.out.below (fun z e=>by subst e;exact⟨npb,_,_,B8.out.fx,by unfold tyB;decide⟩)
 clear Sa Ta gb wr1 wr2
 go_wp2_with fail
 rw[rounds_succ]
 go_upto_region 17 with fail
 have hm:=HM.out
 have nz:(l==0)=false:=by rw[beq_eq_false_iff_ne];omega
 have nz2:¬(l=0):=by omega
 have hqr:QR≤64:=by
  have h1:=Int.tmod_lt_of_pos (Q:Int) (show (0:Int)<l by omega)
  omega
 have wq:IntKind.i64.wrap (QR:Int)=(QR:Int):=IntWalk.i64_in _ Xf
 refine wrG Xe [0,1,3,7,0,16,63,127,255,511] [.p 4,.q 0,.p 1,.p 2,.q 3,.q 5,.p 6,.p 7,.p 8,.s 9] Xe (trivial) ?_
 refine gP ?_
 refine gQ (fun _ hq=>(Bb.out.gr (Xk hq)).fv.cell 0) ?_
 refine gP ?_
 refine gP ?_
 refine gQ (fun _ hq=>(Bb.out.gr (Xk hq)).fx.cell 9) ?_
 refine gQ (fun _ hq=>(Bb.out.gr (Xk hq)).fg.cell 2) ?_
 refine gP ?_
 refine gP ?_
 refine gP ?_
 refine dV rfl rfl ?_
 intro wc gc K hK
 have Gc:=Xh ((Gr.drew wb).trans gc)
 have Bc:=Xh (Bb.out.gr Gc.out)
 have x9:=Bc.out.fx.cell 9
 have f9:=Blk.free Bc.out.fx 9
 clear gc
 go_simp
 refine hK _ _ ?_
 clear hK x9 f9
 go_simp
 obtain⟨wd,hwd⟩:∃wd,wd=wc.setCell ⟨ps,9,none⟩ (.int .i64 (QR:Int)):=⟨_,rfl⟩
 have Sd:Blk wd ps 150 (aI L a d l ⟨X.life,X.base,G⟩ (.pointer none) QR (.slice (some ⟨b,0,none⟩) N c) true false):=by rw[hwd];exact Bc.out.fx.set 9 _
 have Td:Tch (fun z=>z=ps) wc wd:=by rw[hwd];exact Tch.set ⟨ps,9,none⟩ _ rfl
 rw[←hwd]
 clear hwd
 refine wNi fun wz gz=> ?_
 have Tz:Hid (Tch (fun z=>z=ps) wb wz):=((Tch.gr Gc.out).trans Td).trans (Tch.gr gz)
 have Bz:Hid (OpI L a d l ⟨X.life,X.base,G⟩ (.pointer none) (.slice (some ⟨b,0,none⟩) N c) QR true false ps (ps+1) w.heap.size (w.heap.size+1) (w.heap.size+1+1) wz):=Bb.out.to Tz.out (Sd.mono gz)
 have Mz:Hid (MSt w0 L m wz):=Mb.out.off Tz.out (fun z e=>by omega) (fun z e=>e▸⟨_,_,Bb.out.fx,gI⟩)
 have Pz:Hid (Pgo w0 L.kb wz b c N R2):=Pb.out.kx (KX.tch Tz.out) Mz.out.below (fun z e=>by subst e;exact⟨npb,_,_,Bb.out.fx,by unfold tyB;decide⟩)
 clear Sd Td gz hm wq
 have v0:=Bz.out.fv.cell 0
 go_wp2_with fail
 go_ret2
 refine⟨ps,b,c,R2,rfl,Mz.out,Bz.out.fx,Pz.out,?_,i5,i6,hps,Nat.le_trans GE.out.size i7,?_⟩
 · rw[HB7.out,I4.out,HRM.out]
 · have hge:∀z,z=ps→w.heap.size≤z:=fun z e=>by rw[e];exact hps
   have hgb:∀z,z=b→w.heap.size≤z:=fun z e=>by rw[e];exact Nat.le_trans GE.out.size i7
   have g1:Gr w w5:=Tch.below GF.out T5.out GF.out.size hge
   have g2:Gr w w6:=g1.trans G6.out
   have g3:Gr w w7:=Tch.below g2 TT7.out g2.size hgb
   have g4:Gr w w8:=Tch.below g3 T8.out g3.size hge
   have g5:Gr w wb:=Tch.below g4 Tb.out g4.size hge
   exact Tch.below g5 Tz.out g5.size hge
end
end
section
open Go.RowKit
theorem Ui {P:Program} {t e:TypeId} {z:Value} {size bytes:Nat} (ht:eB P t e z size bytes) (A:Option Addr) (n c k:Nat) (hk:k≤c) (w:World):
 (Instr.slice t (.slice A n c) none (some (.int .i64 (k:Int))) (some (.int .i64 (k:Int)))).run P w= .ok (.slice A k k) w:=by
 obtain⟨i,hi,hz,hsz,hby⟩:=info_parts ht.info
 have hu:P.underlying t=some (.slice (P.elem t)):=by
  have :=ht.und
  simp[Program.elem,this]
 rw[run_slice_hm w t A n c hu .i64 .i64 k k Xf Xf Xf]
 have he:P.elem t=e:=by simp[Program.elem,ht.und]
 simp[sizeOf,typeInfo,he,hi,Result.andThen,sliced]
 cases A<;>simp[Addr.add]
theorem QB.take {kb:Nat} {w:World} {A:Option Addr} {n c:Nat} {l:List UInt8} (h:QB kb w A n c l) {k:Nat} (hk:k≤n):QB kb w A k k (l.take k):=by
 have h1:=Sl.upto h.b hk
 rw[←List.map_take] at h1
 exact⟨⟨h1.1,Nat.le_refl _,Nat.le_trans (Nat.le_trans hk h.b.2.1) h.b.2.2.1,h1.2.2.2⟩,fun b o h0 e=>h.u b o Xf e⟩
section
variable {w0 w w':World} {kb pr k:Nat} {l:List UInt8}
structure RdS (kb:Nat) (w0 w:World) (pr:Nat) (l:List UInt8):Prop where
 ge:w0.heap.size≤pr
 g:Gr w0 w
 b:∃A c,Blk w pr 236 [.slice A l.length c,.int .i64 0]∧QB kb w A l.length c l
theorem RdS.mono (h:RdS kb w0 w pr l) (g:Gr w w'):RdS kb w0 w' pr l:=by
 obtain⟨A,c,h1,h2⟩:=h.b
 exact⟨h.ge,h.g.trans g,A,c,h1.mono g,h2.mono g⟩
theorem RdS.off {S:Nat→Prop} (h:RdS kb w0 w pr l) (T:Tch S w w') (hS:∀z,S z→w0.heap.size≤z∧∃t cs,Blk w z t cs∧t≠236∧¬tyB t):RdS kb w0 w' pr l:=by
 obtain⟨A,c,h1,h2⟩:=h.b
 refine⟨h.ge,T.below h.g h.g.size (fun z e=>(hS z e).1),A,c,h1.tch T (fun e=> ?_),h2.gK T (fun z e=> ?_)⟩
 · obtain⟨_,t,cs,q,q2,_⟩:=hS _ e
   exact q2 (bTy q h1)
 · obtain⟨_,t,cs,q,_,q2⟩:=hS _ e
   exact⟨t,cs,q,q2⟩
theorem zG (h:RdS kb w0 w pr l) (hk:k≤l.length):
 Calls Tryz.prog 203 #[.pointer (some ⟨pr,0,none⟩),.int .i64 (k:Int)] w fun e w'=>∃A,e= .returned (.slice A k k)∧QB kb w' A k k (l.take k)∧RdS kb w0 w' pr (l.drop k)∧Tch (fun z=>z=pr) w w':=by
 obtain⟨A,c,hb,hq⟩:=h.b
 have hcap:=hq.b.cap;have hmax:=hq.b.max
 obtain⟨A2,hA2,hr2⟩:=og bC A l.length c k hk hcap
 have hr1:=Ui bC A l.length c k Xf
 have H:=Xh hb;have HQ:=Xh hq;have HA2:=Xh hA2;have H0:=Xh h
 have HL:Hid ((l.drop k).length=l.length - k):=List.length_drop
 have t1:decide ((k:Int)<0)=false:=decide_eq_false Xf
 have t2:decide ((l.length:Int)<(k:Int))=false:=decide_eq_false Xf
 have k0:=hb.cell 0
 have f0:=Blk.free hb 0
 clear h hb hq hA2
 generalize l.length=N at *
 go_in
 go_wp2_with fail
 go_ret
 have T:Tch (fun z=>z=pr) w (w.setCell ⟨pr,0,none⟩ (.slice A2 (N - k) (c - k))):=Tch.set ⟨pr,0,none⟩ _ rfl
 have hty:∀x,x=pr→∃t cs,Blk w x t cs∧¬tyB t:=fun x e=>⟨236,[.slice A N c,.int .i64 0],by rw[e];exact H.out,by unfold tyB;decide⟩
 refine⟨A,rfl,(HQ.out.take hk).gK T hty,⟨H0.out.ge,T.below H0.out.g H0.out.g.size (fun z e=>by rw[e];exact H0.out.ge),A2,c - k,?_,?_⟩,T⟩
 · rw[HL.out];exact H.out.set 0 _
 · rw[HL.out];exact (HQ.out.from hk (fun hlt b o e=>by have :=HA2.out hlt b o e;rwa[Nat.mul_one] at this)).gK T hty
theorem He (h:RdS kb w0 w pr l) (hk:2≤l.length):
 Calls Tryz.prog 202 #[.pointer (some ⟨pr,0,none⟩),.int .i64 2] w fun e w'=>e= .returned (.int .u64 (cu (l.take 2):Int))∧RdS kb w0 w' pr (l.drop 2)∧Tch (fun z=>z=pr) w w':=by
 have HT:=Xh (zG h hk)
 clear h hk
 go_in
 go_wp2_with fail
 refine HT.out.mono ?_
 rintro e w1 ⟨A,rfl,q1,r1,T1⟩
 have HG:=Xh (J7 A 2 2 (l.take 2) w1 q1.b Xg Xg)
 have R1:=Xh r1;have TT:=Xh T1
 clear q1 r1 T1
 go_wp2_with fail
 refine HG.out.mono ?_
 rintro e wd ⟨rfl,hwd⟩
 subst hwd
 go_wp2_with fail
 go_ret
 exact⟨rfl,R1.out,TT.out⟩
end
end
end Go.Proofs.YtipdlnejmcmbbaaGreatDoor
