/- Own texts, one behind the other. No condition. -/
import Derived.Test.YtipdlnejmcmbbaaGreatDoorObPkBW
set_option linter.unusedVariables false
set_option maxRecDepth 100000
set_option maxHeartbeats 8000000
set_option linter.unusedSimpArgs false
namespace Go.Proofs.YtipdlnejmcmbbaaGreatDoor
section
open Go.RowKit
structure M0 (a d l:Int) (N:Nat) (m:Mc) (n:Nat) (X:Spr) (G:Nat) (P:List (Nat×List UInt8)) (Q:List (List UInt8)) (K:Nat→List UInt8) (cs:Nat→Option (List UInt8×List UInt8)):Prop where
 f:Fit m a d l
 lv:m.Live
 ok:m.Ok n
 n9:n+2*N+20≤90000
 n0:0<N
 hN:(N:Int)=au a d l
 p:m.d.pend=[]
 x:fP m.S a d l m.d.kept=some X
 xl:X.life<1000000
 xb:X.base≤1073741824
 g:G<18446744073709551616
 all:∀k,k<N→jW m a d l X.life k=true
 t:wO m a d l X.life X.base G P
 q:gY ((List.range N).map (fun i=>(pgR m a d l X.life i).1.body)) P=Q
 s1:m.settle G=((m,0),K 0)
 ti:TrI a d l m.T Q K cs
 sm:∀b∈Q,b.length≤473
section
variable {w0 w w':World} {L:Pl} {m:Mc} {n:Nat} {a d l:Int} {vx vk:Value} {dead:Bool} {pt pv pd pS pg:Nat}
theorem DW {ps b c N next:Nat} {x:Spr} {vl:Value} (h:MSt w0 L m w) (f:Fit m a d l) (hlv:m.Live) (ho:m.Ok n) (hl:x.life<1000000) (hbs:next≤1073741824) (hg:x.gen<18446744073709551616) (hge:w0.heap.size≤ps)
 (R:List aj) (hp:Pgo w0 L.kb w b c N R) (hlen:(N:Int)=au a d l) (hsm:∀r∈R,r.n≤479) (hn:n+2*N+4≤90000) (hs:Blk w ps 150 (aI L a d l x vl next (.slice (some ⟨b,0,none⟩) N c) true false)) (bb:TrB L a d l (.pointer (some ⟨ps,0,none⟩)) vk dead pt pv pd pS pg w):
 Calls Tryz.prog 82 #[.pointer (some ⟨pv,0,none⟩)] w fun e w'=>e= .returned (.int .i64 0)∧∃pl,MSt w0 L (m.begin a d l ⟨x.life+1,next,x.gen⟩ (R.map aj.l)) w'∧Blk w' ps 150 (aI L a d l ⟨x.life+1,next,x.gen⟩ (.pointer (some ⟨pl,0,none⟩)) next (.slice (some ⟨b,0,none⟩) N c) false false)∧KX (fun b=>b=ps) L.kb w w':=by
 have HR:=Xh (qj h f hlv ho hl next hbs (.inl ⟨rfl,rfl⟩) hg hge R hp hlen hsm hn hs)
 obtain⟨m2,hm2⟩:∃m2,m2=m.begin a d l ⟨x.life+1,next,x.gen⟩ (R.map aj.l):=⟨_,rfl⟩
 rw[←hm2] at HR ⊢
 obtain⟨d0,s0,g0,g1,g2,v0,x5,x6⟩:=bb.cells
 clear h f hlv ho hp hlen hsm hs hm2 bb
 go_in
 go_wp2_with fail
 refine HR.out.mono ?_
 rintro e w1 ⟨rfl,pl,_,_,i1,i2,i3⟩
 have I1:=Xh i1;have I2:=Xh i2;have I3:=Xh i3
 clear i1 i2 i3 d0 s0 g0 g1 g2 v0 x5 x6
 go_wp2_with fail
 go_ret
 exact⟨rfl,pl,I1.out,I2.out,I3.out⟩
abbrev toF (pd pS pg pv pt:Nat):Array Value:=#[.func (.func 76) #[] #[.pointer (some ⟨pd,0,none⟩),.pointer (some ⟨pS,0,none⟩),.pointer (some ⟨pg,0,none⟩),.pointer (some ⟨pv,0,none⟩)],.func (.func 78) #[] #[.pointer (some ⟨pd,0,none⟩),.pointer (some ⟨pS,0,none⟩),.pointer (some ⟨pv,0,none⟩)],.func (.func 81) #[.pointer (some ⟨pt,0,none⟩)] #[],.func (.func 82) #[] #[.pointer (some ⟨pv,0,none⟩)]]
def OpG (w0:World) (L:Pl) (a d l:Int) (N:Nat) (m2:Mc) (n2:Nat) (x:Spr) (K:Nat→List UInt8) (cs:Nat→Option (List UInt8×List UInt8)) (pt:Nat) (w:World):Prop:=
 ∃ps vl b c R A kc next,TrG w0 L a d l N m2 n2 x vl next false (.slice A 32 kc) pt ps b c R w∧TrI a d l m2.T (R.map aj.l) K cs∧Bs w A 32 kc (K 0)
theorem wP {N:Nat} {X:Spr} {G:Nat} {P:List (Nat×List UInt8)} {Q:List (List UInt8)} {K:Nat→List UInt8} {cs:Nat→Option (List UInt8×List UInt8)} (bs:Nat) (w2:World) (h:MSt w0 L m w2) (e:M0 a d l N m n X G P Q K cs) (hT:U8 w0) (hge:w0.heap.size≤pt)
 (b:TrB L a d l (.pointer none) (.slice none 0 0) false pt pv pd pS pg w2) (hst:Blk w2 bs 139 (toF pd pS pg pv pt).toList):
 Calls Tryz.prog 42 #[.slice (some ⟨bs,0,none⟩) 4 4] w2 (iq (fun w'=>(∃m2 x,m2=m.begin a d l x Q∧OpG w0 L a d l N m2 (n+2*N+20) x K cs pt w')∧Blk w' pv 68 [.pointer (some ⟨pt,0,none⟩)]) (fun _ _=>False)):=by
 have hn9:=e.n9
 have hg:=e.f.g
 have hl64:=hg.l.2
 have hk:2≤m.d.kept.length:=by have h1:=e.f.s;have h2:=e.hN;have h3:=e.n0;have h4:=hg.l.1;unfold dS at h1;omega
 obtain⟨QR,hQR⟩:∃QR:Nat,QR=(X.base+(P.length+1)) % l.toNat:=⟨_,rfl⟩
 have hqr:QR<64:=by have h4:=hg.l.1;have :=Nat.mod_lt (X.base+(P.length+1)) (show 0<l.toNat by omega);omega
 have nst:∀{w:World} {g:Nat} {cs:List Value},Blk w pt 92 cs→∀{t:TypeId},Blk w g t (toF pd pS pg pv pt).toList→t=139→¬g=pt:=fun h1 t h2 e1 e2=>by
  rw[e2,e1] at h2
  exact absurd (bTy h1 h2) Xg
 have sm:∀{w:World} {bb c:Nat} {R:List aj},Pgo w0 L.kb w bb c N R→R.map aj.l=Q→∀r∈R,r.n≤473:=fun i4 i5 r hr=>by
  have hlr:r.l.length=r.n:=by have :=(i4.q r hr).b.len;simpa using this
  have :=e.sm r.l (by rw[←i5];exact List.mem_map_of_mem hr)
  omega
 refine LP _ _ _ _ _ _ _ _ _ _ _ _ (enters_of Tryz.func76 Xe rfl) (enters_of Tryz.func78 Xe rfl) (enters_of Tryz.func81 Xe rfl) (enters_of Tryz.func82 Xe rfl) bs w2
  (fun w'=>Blk w' bs 139 (toF pd pS pg pv pt).toList∧∃ps bb c R,MSt w0 L m w'∧TrB L a d l (.pointer (some ⟨ps,0,none⟩)) (.slice none 0 0) false pt pv pd pS pg w'∧Blk w' ps 150 (aI L a d l ⟨X.life,X.base,G⟩ (.pointer none) QR (.slice (some ⟨bb,0,none⟩) N c) true false)∧Pgo w0 L.kb w' bb c N R∧R.map aj.l=Q∧N≤c∧c≤9223372036854775807∧w0.heap.size≤ps)
  (fun w'=>Blk w' bs 139 (toF pd pS pg pv pt).toList∧∃ps bb c R A kc,MSt w0 L m w'∧TrB L a d l (.pointer (some ⟨ps,0,none⟩)) (.slice A 32 kc) false pt pv pd pS pg w'∧QB L.kb w' A 32 kc (K 0)∧Blk w' ps 150 (aI L a d l ⟨X.life,X.base,G⟩ (.pointer none) QR (.slice (some ⟨bb,0,none⟩) N c) true false)∧Pgo w0 L.kb w' bb c N R∧R.map aj.l=Q∧N≤c∧c≤9223372036854775807∧w0.heap.size≤ps)
  (fun w'=>Blk w' bs 139 (toF pd pS pg pv pt).toList∧∃ps bb c R A kc,MSt w0 L m w'∧TrB L a d l (.pointer (some ⟨ps,0,none⟩)) (.slice A 32 kc) false pt pv pd pS pg w'∧QB L.kb w' A 32 kc (K 0)∧Blk w' ps 150 (aI L a d l ⟨X.life,X.base,G⟩ (.pointer none) QR (.slice (some ⟨bb,0,none⟩) N c) true false)∧Pgo w0 L.kb w' bb c N R∧R.map aj.l=Q∧N≤c∧c≤9223372036854775807∧w0.heap.size≤ps)
  _ _ hst ?_ ?_ ?_ ?_
 · refine (Ev h e.f e.ok Xf e.lv.d e.p N e.n0 e.hN X e.x (by have :=e.xl;omega) e.xb e.all G e.g P e.t hge b ⟨_,rfl⟩).mono ?_
   rintro e2 w3 ⟨rfl,ps,bb,c,R,i1,i2,i3,i4,i5,i6,i7,i8,i9⟩
   rw[e.q] at i5
   rw[←hQR] at i3
   exact⟨0,rfl,fun _=>⟨hst.tch i9 (nst b.ft hst rfl),ps,bb,c,R,i1,i2,i3,i4,i5,i6,i7,Nat.le_trans h.below.size i8⟩,fun q=>absurd rfl q⟩
 · rintro w3 ⟨hb3,ps,bb,c,R,i1,i2,i3,i4,i5,i6,i7,i8⟩
   have st:m.settle (⟨X.life,X.base,G⟩:Spr).gen=((m,0),K 0):=e.s1
   refine⟨hb3,(Dx i1 e.ok Xf e.lv.d e.p hk ⟨X.life,X.base,G⟩ e.g (K 0) (by rw[st]) e.ti.k0 (by rw[st]) ps _ _ _ _ _ i3 hge i2 ⟨_,_,_,rfl⟩).mono ?_⟩
   rintro e2 w4 ⟨rfl,A,kc,j1,j2,j3,j4⟩
   rw[st] at j1
   have hsp:¬ps=pt:=fun q=>by
    rw[q] at i3
    exact absurd (bTy i3 i2.ft) Xg
   exact⟨0,rfl,fun _=>⟨j4.blk hb3 Xi Xd (nst i2.ft hb3 rfl),ps,bb,c,R,A,kc,j1,j2,j3,j4.blk i3 Xi Xd hsp,i4.kx j4 j1.below (fun z ez=>by
    subst ez
    refine⟨fun q=> ?_,_,_,i2.ft,by unfold tyB;decide⟩
    obtain⟨cs,z2⟩:=i4.o.aA (b:=bb) rfl
    rw[←q] at z2
    exact absurd (bTy z2 i2.ft) Xg),i5,i6,i7,i8⟩,fun q=>absurd rfl q⟩
 · rintro w4 ⟨hb4,ps,bb,c,R,A,kc,j1,j2,j3,i3,i4,i5,i6,i7,i8⟩
   have TP:TrG w0 L a d l N m n ⟨X.life,X.base,G⟩ (.pointer none) QR true (.slice A 32 kc) pt ps bb c R w4:=⟨j1,e.ok,Xf,hg,e.hN,j2.ft,i3,i4,i6,i7,sm i4 i5⟩
   refine⟨hb4,(Ph TP (by rw[i5];exact e.ti) (hT.mono j1.below) j3.b).mono ?_⟩
   rintro e2 w5 ⟨rfl,g5⟩
   exact⟨0,rfl,fun _=>⟨hb4.mono g5,ps,bb,c,R,A,kc,j1.mono g5,j2.gr g5,j3.mono g5,i3.mono g5,i4.mono g5,i5,i6,i7,i8⟩,fun q=>absurd rfl q⟩
 · rintro w5 ⟨hb5,ps,bb,c,R,A,kc,j1,j2,j3,i3,i4,i5,i6,i7,i8⟩
   refine⟨hb5,(DW (x:=⟨X.life,X.base,G⟩) j1 e.f e.lv e.ok e.xl Xf e.g i8 R i4 e.hN (fun r hr=>by have :=sm i4 i5 r hr;omega) Xf i3 j2).mono ?_⟩
   rintro e2 w6 ⟨rfl,pl,k1,k2,k3⟩
   rw[i5] at k1
   have np:∀{g:Nat} {t:TypeId} {cs:List Value},Blk w5 g t cs→t≠150→¬g=ps:=fun hg hne q=>by
    rw[q] at hg
    exact hne (bTy hg i3)
   have hQl:Q.length=N:=by rw[←i5,List.length_map];exact i4.len
   have p6:Pgo w0 L.kb w6 bb c N R:=i4.kx k3 k1.below (fun z ez=>by
    obtain⟨cs,z2⟩:=i4.o.aA (b:=bb) rfl
    exact⟨fun q=>np z2 Xg (q.symm.trans ez),_,_,ez▸i3,by unfold tyB;decide⟩)
   refine⟨0,rfl,fun _=>⟨⟨_,_,rfl,ps,_,bb,c,R,A,kc,QR,⟨k1,(e.ok.begin _ _ _ _ _).le Xf,Xf,hg,e.hN,k3.blk j2.ft Xi Xd (np j2.ft Xg),k2,p6,i6,i7,sm p6 i5⟩,by rw[i5,KR];exact e.ti,(j3.kx k3 (fun z ez=>ez▸⟨_,_,i3,by unfold tyB;decide⟩)).b⟩,k3.blk j2.fv Xi Xd (np j2.fv Xg)⟩,fun q=>absurd rfl q⟩
end
section
variable {w0 w w':World} {L:Pl} {m:Mc} {n:Nat} {a d l:Int}
abbrev Te (L:Pl) (a d l:Int):Array Value:=#[.pointer (some ⟨L.dp,0,none⟩),.pointer (some ⟨L.p,0,none⟩),.int .i64 a,.int .i64 d,.int .i64 l,.pointer none,.slice none 0 0,.bool false]
theorem OZ (w w1:World) (pd pS pg:Nat) (g1:Gr w w1) (L:Pl) (a d l:Int)
 (hd:Blk w1 pd 28 [.pointer (some ⟨L.dp,0,none⟩)]) (hS:Blk w1 pS 33 [.pointer (some ⟨L.p,0,none⟩)]) (hg:Blk w1 pg 23 [.int .i64 a,.int .i64 d,.int .i64 l]) (wC:World)
 (hC:wC=(w1.alloc (.cells (Te L a d l) 92)).alloc (.cells #[.pointer (some ⟨w1.heap.size,0,none⟩)] 68)):
 Gr w wC∧TrB L a d l (.pointer none) (.slice none 0 0) false w1.heap.size (w1.heap.size+1) pd pS pg wC∧wC.heap.size=w1.heap.size+2:=by
 have GC:Gr w1 wC:=by rw[hC];exact (Gr.alloc _ _).trans (Gr.alloc _ _)
 have sB:Blk wC w1.heap.size 92 (jm L a d l (.pointer none) (.slice none 0 0) false):=by rw[hC];exact (Blk.new w1 _ (Te L a d l)).alloc _
 have vB:Blk wC (w1.heap.size+1) 68 [.pointer (some ⟨w1.heap.size,0,none⟩)]:=by rw[hC];exact heap_alloc2_new w1 _ _
 refine⟨g1.trans GC,⟨hd.mono GC,hS.mono GC,hg.mono GC,vB,sB⟩,?_⟩
 rw[hC,World.size_alloc,World.size_alloc]
theorem Hw {N:Nat} {X:Spr} {G:Nat} {P:List (Nat×List UInt8)} {Q:List (List UInt8)} {K:Nat→List UInt8} {cs:Nat→Option (List UInt8×List UInt8)} (h:MSt w0 L m w) (e:M0 a d l N m n X G P Q K cs) (hT:U8 w0):
 Calls Tryz.prog 38 #[.pointer (some ⟨L.dp,0,none⟩),.pointer (some ⟨L.p,0,none⟩),.agg #[.int .i64 a,.int .i64 d,.int .i64 l]] w fun e w'=>∃pt,e= .returned (.tuple #[.pointer (some ⟨pt,0,none⟩),.int .i64 0])∧∃m2 x,m2=m.begin a d l x Q∧OpG w0 L a d l N m2 (n+2*N+20) x K cs pt w':=by
 have hw0:w0.heap.size≤w.heap.size:=h.below.size
 have f:=e.f
 have HST:=Xh (fun (w2:World) (g:Gr w w2) (bs pt pv pd pS pg:Nat) (hge:w.heap.size≤pt) (b:TrB L a d l (.pointer none) (.slice none 0 0) false pt pv pd pS pg w2) (hst:Blk w2 bs 139 (toF pd pS pg pv pt).toList)=>wP bs w2 (h.mono g) e hT (Nat.le_trans hw0 hge) b hst)
 clear e hT
 obtain⟨W,hW⟩:∃W,W=((w.alloc (.cells #[.pointer (some ⟨L.dp,0,none⟩)] 28)).alloc (.cells #[.pointer (some ⟨L.p,0,none⟩)] 33)).alloc (.cells #[.int .i64 a,.int .i64 d,.int .i64 l] 23):=⟨_,rfl⟩
 have g0:Gr w W:=by rw[hW];exact ((Gr.alloc _ _).trans (Gr.alloc _ _)).trans (Gr.alloc _ _)
 have d0:Blk W w.heap.size 28 [.pointer (some ⟨L.dp,0,none⟩)]:=by rw[hW];exact ((Blk.new w _ _).alloc _).alloc _
 have s0:Blk W (w.heap.size+1) 33 [.pointer (some ⟨L.p,0,none⟩)]:=by rw[hW];exact (show Blk ((w.alloc (.cells #[.pointer (some ⟨L.dp,0,none⟩)] 28)).alloc (.cells #[.pointer (some ⟨L.p,0,none⟩)] 33)) (w.heap.size+1) 33 [.pointer (some ⟨L.p,0,none⟩)] from heap_alloc2_new w _ _).alloc _
 have q0:Blk W (w.heap.size+1+1) 23 [.int .i64 a,.int .i64 d,.int .i64 l]:=by
  rw[hW]
  have :=Blk.new ((w.alloc (.cells #[.pointer (some ⟨L.dp,0,none⟩)] 28)).alloc (.cells #[.pointer (some ⟨L.p,0,none⟩)] 33)) 23 #[.int .i64 a,.int .i64 d,.int .i64 l]
  rwa[World.size_alloc,World.size_alloc] at this
 have G0:=Xh g0;have D0:=Xh d0;have S0:=Xh s0;have Q0:=Xh q0;have HW:=Xh hW
 have HRI:=Xh (tY (h.mono g0) f)
 clear hW g0 d0 s0 q0 h f
 go_in
 go_upto_region 1 with fail
 rw[←HW.out]
 have k0:=D0.out.cell 0
 have k1:=S0.out.cell 0
 have y0:=Q0.out.cell 0
 have y1:=Q0.out.cell 1
 have y2:=Q0.out.cell 2
 go_wp2_with fail
 refine HRI.out.mono ?_
 rintro e w1 ⟨rfl,g1⟩
 have G1:=Xh (G0.out.trans g1)
 have D1:=Xh (D0.out.mono g1);have S1:=Xh (S0.out.mono g1)
 have Q1:=Xh (Q0.out.mono g1)
 clear g1 k0 k1 y0 y1 y2
 have k0:=D1.out.cell 0
 have k1:=S1.out.cell 0
 have y0:=Q1.out.cell 0
 have y1:=Q1.out.cell 1
 have y2:=Q1.out.cell 2
 go_upto_region 5 with fail
 obtain⟨wC,hC⟩:∃wC,wC=(w1.alloc (.cells #[.pointer (some ⟨L.dp,0,none⟩),.pointer (some ⟨L.p,0,none⟩),.int .i64 a,.int .i64 d,.int .i64 l,.pointer none,.slice none 0 0,.bool false] 92)).alloc (.cells #[.pointer (some ⟨w1.heap.size,0,none⟩)] 68):=⟨_,rfl⟩
 obtain⟨gC,oC,eC⟩:=OZ w w1 _ _ _ G1.out L a d l D1.out S1.out Q1.out wC hC
 rw[←hC]
 have hpt:w.heap.size≤w1.heap.size:=G1.out.size
 have GC:=Xh gC;have OC:=Xh oC
 have v0:=oC.fv.cell 0
 clear hC k0 k1 y0 y1 y2 gC oC
 generalize w1.heap.size=pt at *
 go_wp2_with fail
 obtain⟨wE,hE⟩:∃wE,wE=wC.alloc (.cells (toF w.heap.size (w.heap.size+1) (w.heap.size+1+1) (pt+1) pt) 139):=⟨_,rfl⟩
 have gE:Gr wC wE:=by rw[hE];exact Gr.alloc _ _
 have bE:Blk wE (pt+2) 139 (toF w.heap.size (w.heap.size+1) (w.heap.size+1+1) (pt+1) pt).toList:=by
  rw[hE]
  have :=Blk.new wC 139 (toF w.heap.size (w.heap.size+1) (w.heap.size+1+1) (pt+1) pt)
  rw[eC] at this
  exact this
 have HS2:=Xh (HST.out wE (GC.out.trans gE) (pt+2) pt (pt+1) _ _ _ hpt (OC.out.gr gE) bE)
 have GE:=Xh (GC.out.trans gE);have OE:=Xh (OC.out.gr gE)
 unfold toF at hE
 rw[←hE]
 clear hE gE bE v0
 refine HS2.out.mono ?_
 rintro e wF ⟨q,rfl,hi,he⟩
 have hq:q=0:=by
  rcases (show q=0∨q≠0 by omega) with z|z
  · exact z
  · exact (he z).elim
 subst hq
 obtain⟨i1,i2⟩:=hi rfl
 have I1:=Xh i1
 have v0:=i2.cell 0
 clear hi he i1 i2
 go_wp2_with fail
 go_ret2
 exact⟨pt,rfl,I1.out⟩
end
end
section
open Go.RowKit Go.ChangeShapes Go.WideShapes Go.Deep
section
variable {H:Type} {enc:TypeId×Value→H} {P:Program} {W:World}
theorem Gl {t e b:TypeId} {f0 f1 f2:Field} {a:Option Addr} {len cap:Nat} {d:DataW H} {p:List MemPlace} (ht:P.underlying t=some (.slice e)) (he:P.underlying e=some (.struct #[f0,f1,f2])) (hone:oneCellFields P #[f0,f1,f2]=true) (hC:P.cellsOf e=3)
 (h0:P.underlying f0.type=some .string) (h1:P.underlying f1.type=some (.slice b)) (h2:P.underlying f2.type=some .bool) (hb:P.underlying b=some (.int .u8)) (hcb:P.cellsOf b=1)
 (h:DataW.Trod enc P W 0 (fun _=>true) true t (.slice a len cap) d p):∃L:List ChV,Chg W a len cap L:=by
 obtain⟨fuel,hf⟩:=h
 obtain⟨L,hl,hs,hg⟩:=su (α:=ChV) ht hC Xg hf ChV.cells ChV.eX (fun x=>Bs W x.a x.m x.c x.d.v∧x.d.n.length≤9223372036854775807) (fun n cs z hlen hz=>by
  obtain⟨_,m,hfs⟩:=IX he hone hC hz
  obtain⟨v0,y0,e0,t0⟩:=hfs 0 f0 rfl
  obtain⟨v1,y1,e1,t1⟩:=hfs 1 f1 rfl
  obtain⟨v2,y2,e2,t2⟩:=hfs 2 f2 rfl
  obtain⟨s0,q0,_,b0⟩:=DataW.trod_string h0 t0
  obtain⟨a',l',c',q1⟩:=Go.Joins.slice_form h1 t1
  obtain⟨g0,q2,_⟩:=DataW.trod_bool h2 t2
  simp at q0 q1 q2
  subst q0 q1 q2
  obtain⟨l,hl⟩:=Jk h1 hb hcb t1
  refine⟨⟨⟨s0.data.toList,l,g0⟩,a',l',c'⟩,?_,hl,?_⟩
  · match cs,hlen with
    | [c0,c1,c2],_=>
     simp at e0 e1 e2
     subst e0 e1 e2
     rfl
  · have :s0.data.toList.length=s0.size:=Array.length_toList
    show s0.data.toList.length≤_
    rw[this]
    exact b0)
 exact⟨L,hl,hs,hg⟩
end
end
section
open Go.RowKit Go.ChangeShapes Go.WideShapes Go.Deep
structure ChR where
 a:Option Addr
 n:Nat
 c:Nat
 l:List ChV
instance:Inhabited ChR:=⟨⟨none,0,0,[]⟩⟩
def ChR.v (x:ChR):Value:= .slice x.a x.n x.c
structure qK (w:World) (A:Option Addr) (n c:Nat) (L:List ChR):Prop where
 s:Sl w A n c 1 (L.map ChR.v)
 r:∀x∈L,Chg w x.a x.n x.c x.l
theorem qK.mono {w w':World} {A:Option Addr} {n c:Nat} {L:List ChR} (h:qK w A n c L) (g:Gr w w'):qK w' A n c L:=⟨h.s.mono g,fun x hx=>(h.r x hx).mono g⟩
theorem qK.len {w:World} {A:Option Addr} {n c:Nat} {L:List ChR} (h:qK w A n c L):L.length=n:=by have :=Sl.len h.s;simpa using this
theorem qK.row {w:World} {A:Option Addr} {n c:Nat} {L:List ChR} (h:qK w A n c L) {k:Nat} (hk:k<L.length):∃b o,A=some ⟨b,o,none⟩∧w.cell? ⟨b,o+k,none⟩=some (.slice L[k].a L[k].n L[k].c)∧Chg w L[k].a L[k].n L[k].c L[k].l:=by
 have :=h.len
 obtain⟨b,o,e,hc⟩:=Sl.addr h.s Xf
 exact⟨b,o,e,hc k _ (by rw[List.getElem?_map,List.getElem?_eq_getElem hk];rfl),h.r _ (List.getElem_mem hk)⟩
section
variable {H:Type} {enc:TypeId×Value→H} {P:Program} {W:World}
theorem Vh {t e0 e b:TypeId} {f0 f1 f2:Field} {a:Option Addr} {len cap:Nat} {d:DataW H} {p:List MemPlace} (ht:P.underlying t=some (.slice e0)) (he0:P.underlying e0=some (.slice e)) (he:P.underlying e=some (.struct #[f0,f1,f2])) (hone:oneCellFields P #[f0,f1,f2]=true) (hC0:P.cellsOf e0=1) (hC:P.cellsOf e=3)
 (h0:P.underlying f0.type=some .string) (h1:P.underlying f1.type=some (.slice b)) (h2:P.underlying f2.type=some .bool) (hb:P.underlying b=some (.int .u8)) (hcb:P.cellsOf b=1)
 (h:DataW.Trod enc P W 0 (fun _=>true) true t (.slice a len cap) d p):∃L:List ChR,qK W a len cap L:=by
 obtain⟨fuel,hf⟩:=h
 obtain⟨L,hl,hs,hg⟩:=su (α:=ChR) ht hC0 Xg hf (fun x=>[x.v]) (fun _=>rfl) (fun x=>Chg W x.a x.n x.c x.l) (fun n cs z hlen hz=>by
  obtain⟨a',l',c',rfl⟩:=Go.Joins.slice_form he0 hz
  obtain⟨l,hl⟩:=Gl (d:=z.1) (p:=z.2) he0 he hone hC h0 h1 h2 hb hcb ⟨n,hz⟩
  exact⟨⟨a',l',c',l⟩,rfl,hl⟩)
 have e:L.flatMap (fun x=>[x.v])=L.map ChR.v:=Gh _ L
 rw[e] at hs
 exact⟨L,hs,hg⟩
end
end
section
open Go.RowKit Go.Maps
theorem IY (a d l:Int) (A:Option Addr) (n c:Nat) (Ls:List ChR) (w:World) (h:qK w A n c Ls):
 Calls Tryz.prog 4 #[.agg #[.int .i64 a,.int .i64 d,.int .i64 l],.slice A n c] w fun e w'=>∃b,e= .returned (.bool b)∧(b=true→au a d l≤40∧n≤10∧∀r∈Ls,oW [] r.l)∧Gr w w':=by
 obtain⟨wl,HWL,HB,HCELL⟩:=iO w a d l
 have HB2:Hid (Gr w wl):=HB.out
 have HPG:=Xh (fun wr=>uY a d l wr)
 have HLN:=Xh h.len
 have hmm:=h.s.max;have hcc:=h.s.cap
 have HH:=Xh h
 obtain⟨p,hp⟩:∃p,p=au a d l:=⟨_,rfl⟩
 rw[←hp] at HPG ⊢
 clear h hp
 go_in
 go_upto_region 1 with fail
 rw[←HWL.out]
 obtain⟨c0,c1,c2⟩:=HCELL.out wl (Below.refl _ _)
 go_wp2_with fail
 refine (HPG.out wl).mono ?_
 rintro e w1 ⟨rfl,b1⟩
 have B1:Hid (Gr w w1):=HB2.out.trans (show Gr wl w1 from b1)
 clear b1 c0 c1 c2
 by_cases h40:40<p
 · have t1:decide ((40:Int)<p)=true:=decide_eq_true h40
   go_wp2_with fail
   go_ret
   exact⟨false,rfl,(fun q=>by cases q),B1.out⟩
 have t1:decide ((40:Int)<p)=false:=decide_eq_false h40
 by_cases h10:10<n
 · have t2:decide ((10:Int)<(n:Int))=true:=decide_eq_true Xf
   go_wp2_with fail
   go_ret
   exact⟨false,rfl,(fun q=>by cases q),B1.out⟩
 have t2:decide ((10:Int)<(n:Int))=false:=decide_eq_false Xf
 go_wp2_with fail
 go_loopw [5] (fun i wr=>∃k:Nat,k≤n∧i= .int .i64 (k:Int)∧Gr w wr∧∀r∈Ls.take k,oW [] r.l) (fun i _=>n - (Go.RowKit.intOf i).toNat)
 case atStart=>exact⟨0,Nat.zero_le _,rfl,B1.out,by simp⟩
 case round=>
  obtain⟨k,hk,rfl,g,hall⟩:=hrel
  have G:=Xh g;have HA:=Xh hall
  clear g hall
  by_cases hlt:k<n
  · have t:decide ((k:Int)<(n:Int))=true:=decide_eq_true Xf
    have wk:IntKind.i64.wrap ((k:Int)+1)=(k:Int)+1:=IntWalk.i64_in _ Xf
    have hkl:k<Ls.length:=by have :=HLN.out;omega
    obtain⟨b,o,rfl,c3,hch⟩:=(HH.out.mono G.out).row hkl
    have HLT:=Xh (Jg none Ls[k].a 0 0 Ls[k].n Ls[k].c [] Ls[k].l wr (Sl.nil _ _) (fun p hp=>by cases hp) hch)
    have HTK:Hid (oW [] Ls[k].l→∀r∈Ls.take (k+1),oW [] r.l):=fun h=>yL (P:=fun r:ChR=>oW [] r.l) hkl HA.out h
    clear hch
    generalize Ls[k]=x at *
    obtain⟨xa,xn,xc,xl⟩:=x
    simp only at c3 HLT HTK
    go_wp2_with fail
    refine HLT.out.mono ?_
    rintro e w2 ⟨q,rfl,hq,g2⟩
    have HQ:=Xh hq;have G2:=Xh (G.out.trans g2)
    clear hq g2 c3 HLT
    cases q
    · go_wp2_with fail
      go_ret
      exact⟨false,rfl,(fun q=>by cases q),G2.out⟩
    · have HT2:=Xh (HTK.out (HQ.out rfl))
      clear HQ HTK
      go_wp2_with fail
      go_roundw
      case rel=>exact⟨k+1,Xf,by go_num,G2.out,HT2.out⟩
      case measure=>simp[Go.RowKit.intOf];omega
  · obtain rfl:k=n:=by omega
    have t:decide ((k:Int)<(k:Int))=false:=decide_eq_false Xf
    have HA2:Hid (∀r∈Ls,oW [] r.l):=by have :=HA.out;rwa[List.take_of_length_le (by have :=HLN.out;omega)] at this
    clear HA
    go_wp2_with fail
    go_ret
    exact⟨true,rfl,fun _=>⟨Xf,Xf,HA2.out⟩,G.out⟩
section
variable {w w':World}
theorem Gy (v:Value) (kv:∃s,v= .string s):Calls Tryz.prog 14 #[.pointer none,v] w fun e w'=>e= .returned (.tuple #[.slice none 0 0,.bool false])∧w=w':=by
 obtain⟨s,rfl⟩:=kv
 go_in
 go_wp2_with fail
 go_ret2
 exact⟨rfl,rfl⟩
theorem Bq:Calls Tryz.prog 12 #[.pointer none,.slice none 0 0] w fun e w'=>e= .returned (.int .i64 1)∧w=w':=by
 go_in
 go_wp2_with fail
 go_ret
 exact⟨rfl,rfl⟩
theorem FD:Calls Tryz.prog 16 #[.pointer none,.slice none 0 0] w fun e w'=>e= .returned (.int .i64 1)∧w=w':=by
 go_in
 go_wp2_with fail
 go_ret
 exact⟨rfl,rfl⟩
theorem rF:Calls Tryz.prog 18 #[.pointer none] w fun e w'=>e= .returned (.slice none 0 0)∧w=w':=by
 go_in
 go_wp2_with fail
 go_ret
 exact⟨rfl,rfl⟩
theorem Dw:Calls Tryz.prog 19 #[.pointer none] w fun e w'=>e= .returned (.bool false)∧w=w':=by
 go_in
 go_wp2_with fail
 go_ret
 exact⟨rfl,rfl⟩
theorem rJ (hU:U8 w) (hM:gL w):Calls Tryz.prog 17 #[.pointer none] w fun e w'=>∃A n c,e= .returned (.slice A n c)∧Ws w' A n c []∧Gr w w':=by
 have HNA:=Xh (uT none 0 0 [] w (Sl.nil _ _) Xf (fun y hy=>by cases hy) hU hM)
 clear hU hM
 go_in
 go_wp2_with fail
 refine rF.mono ?_
 rintro e wd ⟨rfl,hwd⟩
 subst hwd
 go_wp2_with fail
 refine HNA.out.mono ?_
 rintro e w2 ⟨A2,n2,c2,NN,rfl,hN,_,r2,g2⟩
 have hNN:NN=[]:=sH hN Dv
 subst hNN
 have R2:=Xh (yX r2);have G2:=Xh g2
 clear hN r2 g2 HNA
 go_wp2_with fail
 go_ret
 exact⟨A2,n2,c2,rfl,R2.out,G2.out⟩
theorem Gs (hU:U8 w) (hM:gL w):Calls Tryz.prog 11 #[.pointer none] w fun e w'=>∃A c,e= .returned (.slice A 0 c)∧Gr w w':=by
 refine (uZ (kb:=0) ⟨none,rfl⟩ [] (fun _=>[]) Xg (fun wr g=>rJ (hU.mono g) (hM.mono g)) (fun s hs=>by cases hs)).mono ?_
 rintro e w' ⟨v',E,rfl,hw,hE⟩
 obtain rfl:E=[]:=List.map_eq_nil_iff.1 hE
 obtain⟨A,c,rfl,_⟩:=hw.o.slice
 exact⟨A,c,rfl,hw.o.below⟩
end
section
variable {w0 w w':World} {L:Pl} {m:Mc} {n:Nat} {a d l:Int}
theorem Eh {N LV:Nat} {X:Spr} {G:Nat} {P:List (Nat×List UInt8)} {Q:List (List UInt8)} {K:Nat→List UInt8} {cs:Nat→Option (List UInt8×List UInt8)} (h:MSt w0 L m w) (e:M0 a d l N m n X G P Q K cs) (hT:U8 w0) (hM:gL w0) (hLV:ay a d l=(LV:Int)) (hnm:(kE (aF LV cs)).length=fA (aF LV cs)):
 Calls Tryz.prog 23 #[.pointer (some ⟨L.dp,0,none⟩),.pointer (some ⟨L.p,0,none⟩),.agg #[.int .i64 a,.int .i64 d,.int .i64 l]] w fun e w'=>∃pv pt m2 n2 x,e= .returned (.tuple #[.pointer (some ⟨pv,0,none⟩),.int .i64 0])∧OpG w0 L a d l N m2 n2 x K cs pt w'∧Blk w' pv 76 [.pointer (some ⟨pt,0,none⟩)]:=by
 have hl64:LV≤64:=by have :=bM a d l;omega
 obtain⟨W,hW⟩:∃W,W=w.alloc (.cells #[.int .i64 a,.int .i64 d,.int .i64 l] 23):=⟨_,rfl⟩
 have g0:Gr w W:=by rw[hW];exact Gr.alloc _ _
 have q0:Blk W w.heap.size 23 [.int .i64 a,.int .i64 d,.int .i64 l]:=by rw[hW];exact Blk.new w _ _
 have HF:=Xh (Hw (h.mono g0) e hT)
 have HW:=Xh hW;have Q0:=Xh q0
 have HT:=Xh hT;have HM:=Xh hM;have HNM:=Xh hnm
 have y0:=q0.cell 0
 have y1:=q0.cell 1
 have y2:=q0.cell 2
 clear hW g0 q0 h e hT hM hnm
 go_in
 go_upto_region 1 with fail
 rw[←HW.out]
 go_wp2_with fail
 refine HF.out.mono ?_
 rintro e w1 ⟨pt,rfl,m2,x,_,o1⟩
 have O1:=Xh o1
 clear o1 HF y0 y1 y2
 go_wp2_with fail
 refine (uy pt w1).mono ?_
 rintro e w2 ⟨rfl,e2⟩
 have B2:Hid (Blk w2 w1.heap.size 76 [.pointer (some ⟨pt,0,none⟩)]):=by show Blk _ _ _ _;rw[e2];exact Blk.new w1 _ _
 have g2:Gr w1 w2:=by rw[e2];exact Gr.alloc _ _
 obtain⟨ps,vl,b,c,R,A,kc,next,t1,i1,k1⟩:=O1.out
 have T2:=Xh (t1.gr g2);have I2:=Xh i1;have K2:=Xh (k1.mono g2)
 have hsh:=Xh (xP t1 i1 hLV)
 generalize w1.heap.size=pv at *
 have HHE:=Xh (jN T2.out I2.out (HT.out.mono T2.out.ms.below) LV hLV B2.out)
 clear e2 g2 t1 i1 k1 O1
 go_wp2_with fail
 refine HHE.out.mono ?_
 rintro e w3 ⟨v3,rfl,o3⟩
 obtain⟨A3,c3,rfl,s3⟩:=o3.slice
 have G3:=Xh (show Gr w2 w3 from o3.below)
 have S3:=Xh (show Ws w3 A3 LV c3 (aF LV cs) from s3)
 have HNA:=Xh (uT A3 LV c3 (aF LV cs) w3 s3 Xf (fun y hy=>by have :=hsh.out y hy;omega) ((HT.out.mono T2.out.ms.below).mono G3.out) ((HM.out.mono T2.out.ms.below).mono G3.out))
 clear o3 s3 HHE
 go_wp2_with fail
 refine HNA.out.mono ?_
 rintro e w4 ⟨A4,n4,c4,NN,rfl,hN,_,r4,g4⟩
 have hNN:NN=kE (aF LV cs):=sH hN (pO _)
 subst hNN
 have hn4:n4=fA (aF LV cs):=by have h1:=(yX r4).len;have h2:=HNM.out;omega
 have G4:=Xh (G3.out.trans g4)
 have HUS:=Xh (QA A3 LV c3 (aF LV cs) w4 (S3.out.mono g4))
 rw[←hn4] at HUS
 have t1:((n4:Int) !=(n4:Int))=false:=by simp
 have hcp:=(yX r4).cap;have hmx:=(yX r4).max
 clear hN r4 g4 HNA hn4
 go_wp2_with fail
 refine HUS.out.mono ?_
 rintro e w5 ⟨rfl,rfl⟩
 go_wp2_with fail
 go_ret2
 exact⟨pv,pt,m2,_,x,rfl,⟨ps,vl,b,c,R,A,kc,next,T2.out.gr G4.out,I2.out,K2.out.mono G4.out⟩,B2.out.mono G4.out⟩
end
end
section
open Go.RowKit
def aw0:Mc:=⟨[],[],Dk.new 13⟩
def aw1:Mc:=aw0.iE 2 1 3 3
def awQ:List (List UInt8):=List.replicate 3 []
def awN:List UInt8:=aC (aG aw1.T).2
def awR:Option TS:=gU 2 1 (fun q=>awQ.getD q []) (fun k=>if k=0 then some ⟨[97],[7],false⟩ else none) (fun q=>(jl 2 1 3 [0] 3).contains (q:Int)) 1 0 aw0.key awN ((aG aw1.T).1,[])
def awT:List Nd:=(awR.getD ([],[])).1
def awP:List (Nat×List UInt8):=(awR.getD ([],[])).2
def awM:Mc:=((aw1.tb awT).lT 2 1 3 ⟨1,0,0⟩ 0 awN awQ awP).1
theorem VQ:awR=some (awT,awP):=by
 have h:awR.isSome=true:=by decide +kernel
 obtain⟨r,hr⟩:=Option.isSome_iff_exists.1 h
 unfold awT awP
 rw[hr]
 rfl
theorem Ut:awM.d.pend=[]:=by decide +kernel
theorem Sv:fP awM.S 2 1 3 awM.d.kept=some ⟨1,0,0⟩:=by
 have h:(fP awM.S 2 1 3 awM.d.kept).map (fun x=>(x.life,x.base,x.gen))=some (1,0,0):=by decide +kernel
 cases hq:fP awM.S 2 1 3 awM.d.kept with
 |none=>rw[hq] at h;exact absurd h (by simp)
 |some x=>
  rw[hq] at h
  simp only[Option.map_some,Option.some.injEq,Prod.mk.injEq] at h
  obtain⟨x1,x2,x3⟩:=x
  simp only at h
  obtain⟨rfl,rfl,rfl⟩:=h
  rfl
theorem Sg:(List.range 3).all (fun k=>jW awM 2 1 3 1 k && decide ((pgR awM 2 1 3 1 k).1.body=[]))=true:=by decide +kernel
theorem KV:(awM.settle 1).2=awN∧(awM.settle 1).1.2=0∧awM.d.kept.getD 0 []=aK:=by decide +kernel
theorem EK (k:Nat) (hk:k<3):jW awM 2 1 3 1 k=true∧(pgR awM 2 1 3 1 k).1.body=[]:=by
 have h:=List.all_eq_true.1 Sg k (List.mem_range.2 hk)
 rw[Bool.and_eq_true] at h
 exact⟨h.1,of_decide_eq_true h.2⟩
theorem NY:awM.settle 1=((awM,0),awN):=by
 obtain⟨h1,h2,h3⟩:=KV
 unfold Mc.settle at h1 h2 ⊢
 split at h1
 · rename_i e;rw[e] at h2;exact absurd h2 Xg
 · rename_i key e
   rw[if_pos (show awM.d.kept.getD ((1 ^^^ 1) % 2) []=aK from h3)] at h1
   rw[if_pos (show awM.d.kept.getD ((1 ^^^ 1) % 2) []=aK from h3)]
   rw[show key=awN from h1]
def EC (x:Sec) (k:Nat) (y:Sec):Bool:=decide (k=0) && decide (x.kind=y.kind) && decide (x.life=y.life) && decide (x.seq=y.seq) && decide (x.gen=y.gen) && decide (x.body=y.body)
theorem Hf {r:Sec×Nat} {y:Sec} (h:EC r.1 r.2 y=true):r=(y,0):=by
 obtain⟨⟨k1,k2,k3,k4,k5⟩,k6⟩:=r
 obtain⟨j1,j2,j3,j4,j5⟩:=y
 simp only[EC,Bool.and_eq_true,decide_eq_true_eq] at h
 obtain⟨⟨⟨⟨⟨rfl,rfl⟩,rfl⟩,rfl⟩,rfl⟩,rfl⟩:=h
 rfl
theorem VF:(decide (awP.length=2) && EC (bU awM 3 0 2).1 (bU awM 3 0 2).2 (fQ 5 1 0 2 1 2 []) && (List.range 2).all fun k=>EC (bU awM 3 0 k).1 (bU awM 3 0 k).2 (fQ 4 1 0 k 1 (awP.getD k (0,[])).1 (awP.getD k (0,[])).2) && decide ((awP.getD k (0,[])).1<3) && decide ((awP.getD k (0,[])).2.length≤473))=true:=by decide +kernel
theorem V4:wO awM 2 1 3 1 0 1 awP:=by
 have h:=VF
 rw[Bool.and_eq_true,Bool.and_eq_true,decide_eq_true_eq] at h
 obtain⟨⟨h1,h2⟩,h3⟩:=h
 refine⟨by rw[h1];rfl,by rw[h1];decide,fun k p hp=> ?_,by rw[h1];exact Hf h2⟩
 have hk:k<2:=by rw[←h1];exact (List.getElem?_eq_some_iff.1 hp).1
 have h4:=List.all_eq_true.1 h3 k (List.mem_range.2 hk)
 rw[Bool.and_eq_true,Bool.and_eq_true,decide_eq_true_eq,decide_eq_true_eq,List.getD_eq_getElem?_getD,hp,Option.getD_some] at h4
 refine⟨Hf h4.1.1,?_,h4.2⟩
 have :=h4.1.2
 rw[show au 2 1 3=3 by decide]
 omega
theorem VL:Geo 2 1 3:=⟨Xg⟩
theorem Vy:aw0.Ok 0:=⟨Nat.le_refl _,Nat.le_refl _,Nat.le_refl _,Xg,Xg,Xg,Xg,fun x h=>absurd h (by simp[aw0])⟩
theorem QU:aw0.Live:=⟨rfl,rfl⟩
theorem UE:Fit aw0 2 1 3:=⟨VL,Xg⟩
def awC:List ChD:=[⟨[97],[7],false⟩]
theorem KG:(aD 350 (aF 2 (fun _=>none),[]) awC).2=0∧(iN (aD 350 (aF 2 (fun _=>none),[]) awC).1.2).map (fun t=>(t.s,t.h,t.v,t.g))=[(0,[97],[7],false)]:=by decide +kernel
theorem WS {T:List TcV} (h:T.map TcV.d=iN (aD 350 (aF 2 (fun _=>none),[]) awC).1.2):∃t:TcV,T=[t]∧t.d=⟨0,[97],[7],false⟩:=by
 have h2:=KG.2
 rw[←h,List.map_map] at h2
 have hl:T.length=1:=by have :=congrArg List.length h2;simpa using this
 obtain⟨t,rfl⟩:=List.length_eq_one_iff.1 hl
 refine⟨t,rfl,?_⟩
 obtain⟨⟨t1,t2,t3,t4⟩,ta,tm,tc⟩:=t
 simp only[List.map_cons,List.map_nil,Function.comp,List.cons.injEq,Prod.mk.injEq,and_true] at h2
 obtain⟨rfl,rfl,rfl,rfl⟩:=h2
 rfl
theorem Uc {t:TcV} (h:t.d=⟨0,[97],[7],false⟩):(fun k=>(dB [t] k).map cgT)=fun k=>if k=0 then some (⟨[97],[7],false⟩:Cg) else none:=by
 funext k
 have e:dB [t] k=if 0=k then some t else none:=by
  have :=nG [] t k
  rw[List.nil_append,h] at this
  rw[this]
  rfl
 rw[e]
 by_cases hk:k=0
 · subst hk
   rw[if_pos rfl,if_pos rfl]
   show some (cgT t)=_
   unfold cgT
   rw[h]
 · rw[if_neg (fun e=>hk e.symm),if_neg hk]
   rfl
theorem Rq {t:TcV} (h:t.d=⟨0,[97],[7],false⟩):iH [t]=[0]:=by
 show [(t.d.s:Int)]=_
 rw[h]
 rfl
theorem NC {t:TcV} (h:t.d=⟨0,[97],[7],false⟩):gN 2 1 3 [t]=jl 2 1 3 [0] 3:=by
 unfold gN
 rw[Rq h]
 rfl
theorem Um {t:TcV} (h:t.d=⟨0,[97],[7],false⟩):qd 2 1 3 [t]=true:=by
 unfold qd
 rw[NC h]
 decide +kernel
theorem Tv {t:TcV} (h:t.d=⟨0,[97],[7],false⟩) {r:Mc×Spr×Nat} {Q':List (List UInt8)} {k':List UInt8} (hA:RO 2 1 3 aw1 ⟨1,0,0⟩ 0 awQ aw0.key [t] r Q' k'):r.1=awM∧Q'=gY awQ awP∧k'=awN:=by
 obtain⟨T',P,h1,h2,h3,h4⟩:=hA
 have e:awR=some (T',P):=by
  rw[←h1]
  unfold awR
  rw[Uc h,NC h]
  rfl
 rw[VQ] at e
 injection e with e
 injection e with e1 e2
 subst e1 e2
 exact⟨by rw[h2];rfl,h3,h4⟩
theorem TV:(List.range 3).map (fun i=>(pgR awM 2 1 3 1 i).1.body)=awQ:=by
 rw[show List.range 3=[0,1,2] by decide,List.map_cons,List.map_cons,List.map_cons,List.map_nil,(EK 0 Xg).2,(EK 1 Xg).2,(EK 2 Xg).2]
 rfl
theorem VT {w0 w:World} {L:Pl} {n next pt ps b c pl kc first:Nat} {x:Spr} {A:Option Addr} {R:List aj} {K:Nat→List UInt8} {cs:Nat→Option (List UInt8×List UInt8)} (h:TrV w0 L 2 1 3 3 awM n x next pt ps b c pl A kc first R K cs w) (hQ:R.map aj.l=gY awQ awP) (hK:K 0=awN) (hn:n+30≤90000):M0 2 1 3 3 awM n ⟨1,0,0⟩ 1 awP (R.map aj.l) K cs:=
 ⟨h.ft,h.lv,h.tp.ok,Xf,Xg,Xg,Ut,Sv,Xg,Xg,Xg,fun k hk=>(EK k hk).1,V4,by rw[hQ,TV],by rw[hK];exact NY,h.ti,fun b hb=>by
  obtain⟨r,hr,rfl⟩:=List.mem_map.1 hb
  have hlr:r.l.length=r.n:=by have :=(h.tp.fp.q r hr).b.len;simpa using this
  have :=h.tp.sm r hr
  omega⟩
end
end Go.Proofs.YtipdlnejmcmbbaaGreatDoor
