/- Own texts, one behind the other. No condition. -/
import Derived.Test.YtipdlnejmcmbbaaGreatDoorObPkBT
set_option linter.unusedVariables false
set_option maxRecDepth 100000
set_option maxHeartbeats 8000000
set_option linter.unusedSimpArgs false
namespace Go.Proofs.YtipdlnejmcmbbaaGreatDoor
section
open Go.RowKit Go.Maps
theorem bF.nt {w0 w:World} {p g bm bs q:Nat} {T:List Nd} (h:bF w0 w p g bm bs T) (hq:w.heap.size≤q):NT g w q:=by
 obtain⟨vl,vs,ht⟩:=h.t
 refine⟨_,ht.x.blk,fun v hv e=> ?_⟩
 simp only[List.mem_cons,List.not_mem_nil,or_false] at hv
 rcases hv with rfl|rfl|rfl|rfl
 · have :=(ht.x.l.1.lt q e).2;omega
 · have :=(ht.x.s.1.lt q e).2;omega
 · cases e
 · cases e
theorem KX.ky {S:Nat→Prop} {kb:Nat} {w w1 w':World} (k:KX S kb w w1) (y:KY kb w1 w') (hS:∀z,Wb w z→S z):KX S kb w w':=⟨Nat.le_trans k.size y.1,fun b a t m e h1 h2 h3=>by
 have e':=k.keep b a t m e h1 h2 h3
 refine y.2 b a t m e' h1 h2 (fun⟨t',cs,z,q⟩=>h3 (hS b ⟨t',cs,?_,q⟩))
 unfold Blk at z ⊢
 rwa[e',←e] at z⟩
theorem TrG.le {w0 w:World} {L:Pl} {a d l:Int} {N:Nat} {m:Mc} {n n':Nat} {x:Spr} {vl vk:Value} {next:Nat} {due:Bool} {pt ps b c:Nat} {R:List aj} (h:TrG w0 L a d l N m n x vl next due vk pt ps b c R w) (h1:n≤n') (h2:n'≤90000):TrG w0 L a d l N m n' x vl next due vk pt ps b c R w:=⟨h.ms,h.ok.le h1,h2,h.g,h.hN,h.ft,h.fx,h.fp,h.c1,h.c2,h.sm⟩
theorem qU (m:Mc) (k:Nat) (b:List UInt8):(m.write k b).1.T=m.T:=by unfold Mc.write;split<;>rfl
theorem nO (m:Mc):m.flush.1.T=m.T:=by unfold Mc.flush;split<;>rfl
theorem qR {r:Mc×Int} {f:Mc→Mc×Int} (hf:∀m:Mc,(f m).1.T=m.T):(dU r f).1.T=r.1.T:=by unfold dU;split;exact hf _;rfl
theorem NG (m:Mc) (g:Nat) (k:List UInt8):(m.aT g k).1.T=m.T:=(qR nO).trans (qU _ _ _)
theorem JJ (m:Mc) (g:Nat):(m.aL g).1.T=m.T:=(qR nO).trans (qU _ _ _)
theorem Fv (m:Mc) (l:Int) (life base first i kind gen k:Nat) (b:List UInt8):(m.bY l life base first i kind gen k b).1.T=m.T:=qU _ _ _
theorem CX {l:Int} {life base first gen:Nat}:∀(P:List (Nat×List UInt8)) (m:Mc) (i:Nat),(m.iy l life base first gen i P).T=m.T
 | [],m,i=>rfl
 |p::P,m,i=>(CX P _ _).trans (Fv _ _ _ _ _ _ _ _ _ _)
theorem xA (m:Mc) (l:Int) (life base first gen:Nat) (P:List (Nat×List UInt8)):(m.eU l life base first gen P).T=m.T:=(nO _).trans ((Fv _ _ _ _ _ _ _ _ _ _).trans ((nO _).trans (CX _ _ _)))
theorem zA {a d l:Int} {life:Nat}:∀(P:List (List UInt8)) (m:Mc) (i:Nat),(m.aN a d l life i P).1.T=m.T
 | [],m,i=>rfl
 |p::P,m,i=>(qR (fun m=>zA P m _)).trans (qU _ _ _)
theorem KR (m:Mc) (a d l:Int) (y:Spr) (P:List (List UInt8)):(m.begin a d l y P).T=m.T:=by
 unfold Mc.begin Mc.bL Mc.bJ
 exact (qR nO).trans ((qU _ _ _).trans ((qR nO).trans (zA _ _ _)))
theorem Nn {m:Mc} {n:Nat} {a d l:Int} {x:Spr} {first:Nat} {nxt:List UInt8} {Q:List (List UInt8)} {P:List (Nat×List UInt8)} (hl:m.Live) (ho:m.Ok n) (h3:3≤l) (h4:l≤64) (hb:x.base≤1000) (hP:(P.length:Int)<l):
 (m.lT a d l x first nxt Q P).1.Live∧(m.lT a d l x first nxt Q P).1.d.kept.length=m.d.kept.length∧(m.lT a d l x first nxt Q P).1.T=m.T∧(m.lT a d l x first nxt Q P).2.1.life≤x.life+1∧(m.lT a d l x first nxt Q P).2.1.base≤1000∧(m.lT a d l x first nxt Q P).2.1.gen=x.gen+1∧((m.lT a d l x first nxt Q P).2.2:Int)≤l:=by
 obtain⟨q1,q2,q3,q4,q5,q6,q7⟩:=Aq (a:=a) (d:=d) (first:=first) (gen:=x.gen+1) (Q:=Q) (hl.aT (x.gen+1) nxt).2 (ho.aT (x.gen+1) nxt) h3 h4 hb hP
 refine⟨(q1.aL _).2,(mh _ _).trans (q3.trans (iP _ _ _)),(JJ _ _).trans (Eq.trans ?_ (NG m (x.gen+1) nxt)),q4,q5,q6,q7⟩
 unfold Mc.commit
 split
 · exact xA _ _ _ _ _ _ _
 · exact (xA _ _ _ _ _ _ _).trans (KR _ _ _ _ _ _)
theorem TrG.told {w0 w w':World} {L:Pl} {a d l:Int} {N:Nat} {m:Mc} {n:Nat} {x:Spr} {vl vk:Value} {next:Nat} {due:Bool} {pt ps b c:Nat} {R:List aj} (h:TrG w0 L a d l N m n x vl next due vk pt ps b c R w) (hf:Blk w' pt 92 (jm L a d l (.pointer (some ⟨ps,0,none⟩)) vk false)) (T:Tch (fun z=>z=pt) w w') (hge:w0.heap.size≤pt):TrG w0 L a d l N m n x vl next due vk pt ps b c R w':=by
 have ms:=h.ms.off T (fun z e=>e▸hge) (fun z e=>e▸⟨_,_,h.ft,oQ⟩)
 refine⟨ms,h.ok,h.n9,h.g,h.hN,hf,h.fx.tch T (fun e=>by have :=h.fx;rw[e] at this;exact absurd (bTy this h.ft) Xg),h.fp.kx (KX.tch T) ms.below (fun z e=>⟨fun q=> ?_,by subst e;exact⟨_,_,h.ft,by unfold tyB;decide⟩⟩),h.c1,h.c2,h.sm⟩
 obtain⟨cs,z2⟩:=h.fp.o.aA (b:=b) rfl
 rw[←q,e] at z2
 exact absurd (bTy z2 h.ft) Xg
section
variable {w0 w w':World} {L:Pl} {a d l:Int} {N:Nat} {m:Mc} {n:Nat} {x:Spr} {next pt ps b c pl kc first:Nat} {A:Option Addr} {R:List aj} {KF:Nat→List UInt8} {cs:Nat→Option (List UInt8×List UInt8)}
def RO (a d l:Int) (m:Mc) (x:Spr) (first:Nat) (Q:List (List UInt8)) (key:List UInt8) (T:List TcV) (r:Mc×Spr×Nat) (Q':List (List UInt8)) (key':List UInt8):Prop:=∃T' P,gU a.toNat (av a d l).toNat (fun q=>Q.getD q []) (fun k=>(dB T k).map cgT) (fun q=>(gN a d l T).contains (q:Int)) d.toNat 0 key (aC (aG m.T).2) ((aG m.T).1,[])=some (T',P)∧r=(m.tb T').lT a d l x first (aC (aG m.T).2) Q P∧Q'=gY Q P∧key'=aC (aG m.T).2
def SK (w0:World) (L:Pl) (a d l:Int) (N n next pt ps b c pl:Nat) (m:Mc) (x:Spr) (first:Nat) (Q:List (List UInt8)) (key:List UInt8) (cs:Nat→Option (List UInt8×List UInt8)) (T:List TcV) (w:World) (e:Ending) (w':World):Prop:=
 (qd a d l T=false∧e= .returned (.int .i64 6)∧Gr w w')∨(T=[]∧e= .returned (.int .i64 0)∧Gr w w')∨(qd a d l T=true∧e= .returned (.int .i64 0)∧∃m' x' pl' A' kc' first' R' K',TrV w0 L a d l N m' (n+2000) x' next pt ps b c pl' A' kc' first' R' K' (iX cs T) w'∧x'.life≤x.life+1∧x'.gen=x.gen+1∧KX (fun z=>Wb w z∨z=pt∨z=ps∨z=pl∨z=b) L.kb w w'∧RO a d l m x first Q key T (m',x',first') (R'.map aj.l) (K' 0))
theorem Ef (h:TrV w0 L a d l N m n x next pt ps b c pl A kc first R KF cs w) (hU:U8 w0) (hn:n+2100≤90000) (hxl:x.life<100000) (hxg:x.gen<1000000) {AL:Option Addr} {KL cl:Nat} {T:List TcV} (hl:TcS w AL KL cl T) (hK:KL≤64) {LV:Nat} (hL:ay a d l=(LV:Int)) (hT:∀t∈T,t.d.s<LV) (go:∀t∈T,t.d.g=false→0<t.d.h.length∧t.d.h.length≤60∧aB t.d.h=true∧t.d.v.length≤350) (va:∀t∈T,t.d.g=false→QB L.kb w t.a t.m t.c t.d.v):
 Calls Tryz.prog 29 #[.pointer (some ⟨pt,0,none⟩),.slice AL KL cl] w (SK w0 L a d l N n next pt ps b c pl m x first (R.map aj.l) (KF 0) cs T w):=by
 obtain⟨NN,hN⟩:∃NN:Nat,av a d l=(NN:Int):=by
  obtain⟨X,y,_,_,_,_,_,_,e1,_⟩:=h.tp.g.nn
  exact⟨_,e1⟩
 have ha:0<a:=by obtain⟨X,y,e,_,h2,_⟩:=h.tp.g.nn;omega
 have hTn:=hl.n
 have HRY:=Xh (Bh h.tp)
 have HAS:=Xh (D6 h.tp (hU.mono h.tp.ms.below) AL KL cl T hl hK LV hL (fun t ht=>⟨hT t ht,fun hg=>by
  obtain⟨q1,q2,q3,q4⟩:=go t ht hg
  have :=(va t ht hg).b.len
  exact⟨q3,Xf,by have h5:t.d.v.length=t.m:=by simpa using this
                 omega⟩⟩))
 have HGN:=Xh (fun wr (g:Gr w wr)=>uN (h.tp.gr g))
 have HKC:=Xh CG
 have HCC:=Xh (fun mb Bm W h1 h2=>vV mb Bm T Xf W h1 h2)
 have HTO:=Xh (fun B k c S W (hb:Is W B k c S) (hk:k≤64)=>wR a d l B k c S W hb hk)
 have tg:decide ((4611686018427387904:Int)≤(x.gen:Int))=false:=decide_eq_false Xf
 have HH:=Xh h;have HVA:=Xh va;have HGO:=Xh go;have HTT:=Xh hT;have HU:=Xh hU;have HTN:=Xh hTn
 have HLL:=Xh hl
 have hcap:=hl.s.cap;have hmax:=hl.s.max
 clear h hl hT go va hU hTn
 go_in
 go_wp2_with fail
 refine HRY.out.mono ?_
 rintro e wd ⟨rfl,hwd⟩
 subst hwd
 go_wp2_with fail
 refine HAS.out.mono ?_
 rintro e w1 ⟨g1,⟨hfit,mb,rfl,m1,hmb⟩| ⟨hfit,rfl⟩⟩
 rotate_left
 · have G1:=Xh g1;have HFI:=Xh hfit
   clear g1 hfit
   go_wp2_with fail
   go_ret
   exact .inl ⟨HFI.out,rfl,G1.out⟩
 have G1:=Xh g1;have M1:=Xh m1;have HFI:=Xh hfit
 clear m1 g1 hfit
 by_cases hK0:KL=0
 · subst hK0
   have HT0:Hid (T=[]):=List.length_eq_zero_iff.1 HTN.out
   go_wp2_with fail
   go_ret
   exact .inr (.inl ⟨HT0.out,rfl,G1.out⟩)
 have tk:((KL:Int)==0)=false:=by rw[beq_eq_false_iff_ne];omega
 have tk2:(KL==0)=false:=by rw[beq_eq_false_iff_ne];omega
 have HT0:Hid (T≠[]):=fun e=>hK0 (by rw[←HTN.out,e];rfl)
 have HPOS:Hid (0<(gN a d l T).length):=by
  have :=List.contains_iff_mem.1 (Hz ha hN hL HTT.out HT0.out)
  exact List.length_pos_of_mem this
 go_wp2_with fail
 refine (HGN.out w1 G1.out).mono ?_
 rintro e wd ⟨rfl,hwd⟩
 subst hwd
 go_upto_region 9 with fail
 refine wrG Xe [0,0,0,4,12,28,0,64,192,508,1023,2047,4095] [.p 0,.p 1,.p 2,.p 3,.p 4,.p 6,.q 5,.c 7,.c 8,.c 9,.p 10,.c 11,.p 12] Xe (trivial) ?_
 iterate 6 refine gP ?_
 refine gQ (fun wq hq=>(HH.out.tp.gr (G1.out.trans (Xk hq))).cells) ?_
 refine gC ?_
 intro w8 g8 K hK
 refine (HKC.out mb w8).mono ?_
 rintro e wn ⟨rfl,e9⟩
 have g9:Gr w8 wn:=by {rw[e9];exact Gr.alloc _ _};refine hK _ _ g9 ?_;have K9:Hid (Blk wn w8.heap.size 101 [.map (some mb)]):=by {show Blk _ _ _ _;rw[e9];exact Blk.new w8 _ #[.map (some mb)]};have G79:=Xh (((Gr.drew w1).trans g8).trans g9);clear g8 g9 e9 hK
 go_simp
 refine gC ?_
 intro wa ga K hK
 refine (HCC.out mb w8.heap.size wa (K9.out.mono ga) (M1.out.mono (G79.out.trans ga))).mono ?_
 rintro e wn ⟨ss,hsm,hsl,vb,rfl,ob⟩
 refine hK _ _ ob.below ?_;obtain⟨Ab,cb,rfl,sb⟩:=ob.slice;have Gb:=Xh ((G79.out.trans ga).trans (show Gr wa wn from ob.below));have Sb:=Xh (show Is wn Ab _ cb ss from sb);have HSM:=Xh hsm;have HSS:=Xh hsl;clear ga ob sb hK hsm hsl
 go_simp
 refine gC ?_
 intro wc gc K hK
 refine (HTO.out Ab _ cb ss wc (Sb.out.mono gc) (by have :=HSS.out;have :=HTN.out;omega)).mono ?_
 rintro e wn ⟨vd,rfl,od⟩
 refine hK _ _ od.below ?_;rw[CP HSM.out] at od;have od':Own wc wn 3 1 vd (gN a d l T).length ((gN a d l T).map eD):=od;have Gd:=Xh ((Gb.out.trans gc).trans (show Gr wc wn from od.below));have Gwc:=Xh (Gb.out.trans gc);obtain⟨q,tc,rst,rfl,hq1,hq2,_,_,_⟩:=od'.opened HPOS.out;have Od:=Xh od';have Qd:=Xh hq2;have hqw:w.heap.size≤q:=Nat.le_trans (G1.out.trans Gwc.out).size hq1;clear gc od od' hq1 hq2 hK
 go_simp
 refine gP ?_
 refine jh rfl rfl ?_
 intro we ge K0 hK
 go_simp
 refine hK _ _ (Gr.alloc _ _) ?_
 obtain⟨w6,hw6⟩:∃w6,w6=we.alloc (.cells #[.pointer (some ⟨pt,0,none⟩),.map (some mb),.slice (some ⟨q,0,none⟩) (gN a d l T).length tc,.slice none 0 0] 118):=⟨_,rfl⟩
 rw[←hw6]
 have g56:Gr we w6:=by rw[hw6];exact Gr.alloc _ _
 have W6:Hid (Blk w6 we.heap.size 118 [.pointer (some ⟨pt,0,none⟩),.map (some mb),.slice (some ⟨q,0,none⟩) (gN a d l T).length tc,.slice none 0 0]):=by show Blk _ _ _ _;rw[hw6];exact Blk.new we _ #[.pointer (some ⟨pt,0,none⟩),.map (some mb),.slice (some ⟨q,0,none⟩) (gN a d l T).length tc,.slice none 0 0]
 have G16:Hid (Gr w1 w6):=(Gd.out.trans ge).trans g56
 have O6:=Xh (Od.out.mono (ge.trans g56));have Q6:=Xh (Qd.out.mono (ge.trans g56))
 have hpw:w.heap.size≤we.heap.size:=(G1.out.trans (Gd.out.trans ge)).size
 clear hK ge g56 hw6
 generalize we.heap.size=pw at *
 go_simp
 refine gP ?_
 refine wNi fun wf gf=> ?_
 have Gf:=Xh (G1.out.trans (G16.out.trans gf))
 have Wf:=Xh (W6.out.mono gf)
 have Of:=Xh (O6.out.mono gf)
 have Qf:=Xh (Q6.out.mono gf)
 have Mf:=Xh (M1.out.mono (G16.out.trans gf))
 clear gf W6 O6 Q6 M1 Od Qd
 obtain⟨W,hWd⟩:∃W:Wk,W=⟨w0,L,a,d,l,N,m,n+700,x,.pointer (some ⟨pl,0,none⟩),next,false,.slice A 32 kc,pt,ps,b,c,R,pw,mb,q,(gN a d l T).length,tc,T,gN a d l T⟩:=⟨_,rfl⟩
 have hsz:=HH.out.tp.ms.below.size
 obtain⟨es,ck,hbm⟩:=HH.out.tp.ms.sy.Mk
 have hbl:=fV hbm
 have hpg:=pgE a d l
 have hNp:=HH.out.tp.hN
 have htl:=Qy (a:=a) (d:=d) (l:=l) (iH T) (au a d l).toNat
 have htl2:(gN a d l T).length≤264:=by unfold gN;omega
 have hok:=HH.out.tp.ok.t
 have hgn:=HH.out.tp.ok
 have S0:WkS W (m.T,[]) wf:=by
  rw[hWd]
  refine⟨(HH.out.tp.gr Gf.out).le (show n≤n+700 by omega) (show n+700≤90000 by omega),⟨none,0,[],rfl,Wf.out,(Own.nil wf 234 2).base (HH.out.tp.gr Gf.out).ms.below,fun r hr=>by cases hr⟩,by show w0.heap.size≤pw;omega,Mf.out,by show mb≠L.bm;omega,fun t ht hg=>(HVA.out t ht hg).mono Gf.out,⟨(HH.out.tp.ms.sy.nt hqw).gr Gf.out,⟨_,Qf.out⟩,?_⟩⟩
  obtain⟨_,_,hv,sl⟩:=Of.out.slice
  injection hv with e1 _ e2
  subst e1 e2
  exact sl
 obtain⟨T',P,K1,hnd,hTl,hTz,hPs,hPn,hTI,hK1⟩:=Jy HH.out.tp.g hN hL hNp (by rw[List.length_map];exact HH.out.tp.len) HH.out.ti Xf HTT.out HGO.out HT0.out
 have hat:(aG m.T).1.length=m.T.length+1:=by unfold aG;simp
 obtain⟨nxt,hnx⟩:∃nxt,nxt=aC (aG m.T).2:=⟨_,rfl⟩
 have HDR:Hid (Calls Tryz.prog 41 #[.pointer (some ⟨L.p,0,none⟩)] wf fun e w'=>∃A c,e= .returned (.slice A 32 c)∧QB L.kb w' A 32 c nxt∧WkS W ((aG m.T).1,[]) w'∧KQ L.kb wf w'):=by
  have :=S0.draw (by rw[hWd];show (aG m.T).1.length≤n+700;omega)
  rw[←hnx] at this
  rw[hWd] at this ⊢
  exact this
 rw[←hnx] at hnd hK1
 have HND:Hid (∀wr NA nc,WkS W ((aG m.T).1,[]) wr→QB L.kb wr A 32 kc (KF 0)→QB L.kb wr NA 32 nc nxt→Calls Tryz.prog 57 #[.pointer (some ⟨pw,0,none⟩),.int .i64 0,.slice A 32 kc,.slice NA 32 nc] wr fun e w'=>e= .returned (.int .i64 0)∧WkS W (T',P) w'∧KY L.kb wr w'):=by
  intro wr NA nc hs hk hx
  have :=vN (W:=W) (NN:=NN) (by rw[hWd];exact⟨HU.out,hN,VY _ _,HGO.out⟩) (by rw[hWd];show (gN a d l T).length≤1000;omega) (fun p hp=>by
   rw[hWd]
   have hpN:p<(au a d l).toNat:=by
    have hp2:au a d l=av a d l+ay a d l:=rfl
    omega
   obtain⟨rows,r1,r2,_,r4,_⟩:=(HH.out.ti.ok p hpN).rows Xf Xf
   exact⟨rows,by show (rows.length:Int)=a;omega,r2,r4⟩) d.toNat 0 (by obtain⟨X,y,_,_,_,_,_,_,e1,_,_,e4,_⟩:=HH.out.tp.g.nn;omega)
  rw[hWd] at this hs ⊢
  exact this _ _ wr A NA 32 kc nc (KF 0) nxt hs hk hx hnd (by show T'.length≤n+700;omega) (by show P.length≤900;omega)
 have HNK:=Xh hnd;have HNX:=Xh hnx
 have HWD:=Xh hWd;have HPS:=Xh hPs;have HTI:=Xh hTI;have HTZ:=Xh (hTz hgn.z)
 clear hWd hnd hPs hTI hTz S0 hbm HGO HTT HVA HLL Of Qf Mf HCC HKC HTO HAS HRY hgn Wf G16 Gd Gb Gwc Sb HSM HSS G79 K9
 obtain⟨s1,s2,s3,s4,s5,s6⟩:=(HH.out.tp.gr Gf.out).cells
 go_wp2_with fail
 refine HDR.out.mono ?_
 rintro e wg ⟨NA,nc,rfl,qg,zg,kg⟩
 have Qg:=Xh qg;have Zg:=Xh zg;have Kg:=Xh kg
 have HN2:=Xh (HND.out wg NA nc zg ((HH.out.ke.mono Gf.out).kq kg) qg)
 have TGg:Hid (Blk wg pt 92 (jm L a d l (.pointer (some ⟨ps,0,none⟩)) (.slice A 32 kc) false)):=kg.blk (HH.out.tp.ft.mono Gf.out) Xi Xd
 clear qg zg kg s1 s2 s3 s4 s5 s6 HDR HND
 have s6:=TGg.out.cell 6
 go_wp2_with fail
 refine HN2.out.mono ?_
 rintro e wh ⟨rfl,zh,yh⟩
 have Zh:=Xh zh;have Yh:=Xh yh
 clear zh yh s6 HN2
 have hwk:=Zh.out.wk
 rw[HWD.out] at hwk
 obtain⟨A2,c2,PR,hPR0,b2,p2⟩:=hwk
 have hPR:PR.map aU.pr=P:=hPR0
 have htp:=Zh.out.tp
 rw[HWD.out] at htp
 have Th:Hid (TrG w0 L a d l N (m.tb T') (n+700) x (.pointer (some ⟨pl,0,none⟩)) next false (.slice A 32 kc) pt ps b c R wh):=htp
 have hPRl:PR.length=P.length:=by rw[←hPR,List.length_map]
 have B2:Hid (Blk wh pw 118 [.pointer (some ⟨pt,0,none⟩),.map (some mb),.slice (some ⟨q,0,none⟩) (gN a d l T).length tc,.slice A2 PR.length c2]):=b2
 have LGh:=Yh.out.blk (Kg.out.blk (HH.out.lg.mono Gf.out) Xi Xd) Xi Xg Xg Xg
 have hfl:((gN a d l T).length:Int)<l:=by have :=HFI.out;unfold qd at this;simpa using this
 obtain⟨r,hr⟩:∃r,r=(m.tb T').lT a d l x first nxt (R.map aj.l) (PR.map fun y=>(y.k,y.r.l)):=⟨_,rfl⟩
 have hPP:∀y∈PR,y.k<N∧y.r.n≤473:=fun y hy=>by
  have h1:=HPS.out (y.pr) (by rw[←hPR];exact List.mem_map_of_mem hy)
  have h2:y.r.l.length=y.r.n:=by have :=(p2.q y hy).b.len;simpa using this
  exact⟨h1.1,by rw[←h2];exact h1.2⟩
 have HTU:=Xh (FZ Th.out ⟨HH.out.ft.g,HH.out.ft.s⟩ ⟨HH.out.lv.d,HH.out.lv.f⟩ Xf HH.out.gt HH.out.gs HH.out.gl LGh (Qg.out.ky Yh.out) p2 (fun y hy=>(hPP y hy).1) (fun y hy=>(hPP y hy).2) Xf HH.out.fi hxl HH.out.xb hxg r hr)
 obtain⟨z1,z2,z3,z4,z5,z6,z7⟩:=Nn (a:=a) (d:=d) (first:=first) (nxt:=nxt) (Q:=R.map aj.l) (P:=PR.map fun y=>(y.k,y.r.l)) (m:=m.tb T') ⟨HH.out.lv.d,HH.out.lv.f⟩ Th.out.ok Th.out.g.l.1 Th.out.g.l.2 HH.out.xb (by rw[List.length_map];omega)
 rw[←hr] at z1 z2 z3 z4 z5 z6 z7
 have z3':r.1.T=T':=z3
 have hkx:KX (fun z=>Wb w z∨z=pt∨z=ps∨z=pl∨z=b) L.kb w wh:=((KX.gr Gf.out).trans (KX.kq Kg.out)).ky Yh.out (fun z s=> .inl s)
 have HKX:=Xh hkx;have HZ1:=Xh z1;have HZ3:=Xh z3'
 have hPRm:(PR.map fun y=>(y.k,y.r.l))=P:=hPR
 rw[hPRm] at HTU
 have HAP:Hid (RO a d l m x first (R.map aj.l) (KF 0) T r (gY (R.map aj.l) P) nxt):=⟨T',P,by rw[hN,Int.toNat_natCast,←HNX.out];exact HNK.out,by rw[hr,hPRm,←HNX.out],rfl,HNX.out⟩
 have k3:=B2.out.cell 3
 have HPRL:=Xh hPRl
 clear hPRl hr hPP htp b2 p2 hPR0 hPR hPRm LGh hkx z1 z3 z3' Zh Qg
 go_wp2_with fail
 refine HTU.out.mono ?_
 rintro e wi ⟨rfl,ti⟩
 have TI:=Xh ti
 clear ti k3 HTU
 obtain⟨pl',R2,hpl',t2,lg2,kx2,hR2,x2⟩:=TI.out
 have HTL:=Xh (Gm (L:=L) t2.ft)
 have T2:=Xh t2;have LG2:=Xh lg2;have KX2:=Xh kx2;have X2:=Xh x2;have HPL:=Xh hpl'
 clear t2 lg2 kx2 x2 hpl' TI
 go_wp2_with fail
 refine HTL.out.mono ?_
 rintro e wj ⟨rfl,fj,tj⟩
 have FJ:=Xh fj;have TJ:=Xh tj
 clear fj tj
 go_wp2_with fail
 go_ret
 have hPRl:=HPRL.out
 have hpt:w.heap.size≤wh.heap.size:=HKX.out.size
 refine .inr (.inr ⟨HFI.out,rfl,r.1,r.2.1,pl',NA,nc,r.2.2,R2,K1,⟨(T2.out.told FJ.out TJ.out HH.out.gt).le Xf Xf,LG2.out.tch TJ.out (fun e=>by have :=LG2.out;rw[e] at this;exact absurd (bTy this T2.out.ft) Xg),?_,?_,HZ1.out,⟨HH.out.ft.g,by rw[z2];exact HH.out.ft.s⟩,HH.out.gt,HH.out.gs,?_,z7,z5⟩,z4,z6,(HKX.out.trans (X2.out.wide (fun z _ e=> .inr e))).trans ((KX.tch TJ.out).wide (fun z _ e=> .inr (.inl e))),by have :=HAP.out;rw[hR2,hK1];exact this⟩)
 · rw[hK1]
   exact KX2.out.gK TJ.out (fun z e=>by subst e;exact⟨_,_,T2.out.ft,by unfold tyB;decide⟩)
 · rw[HZ3.out,hR2];exact HTI.out
 · rcases HPL.out with e|e
   · rw[e];exact HH.out.gl
   · omega
end
end
section
open Go.RowKit Go.Maps
section
variable {w0 w w':World} {L:Pl} {a d l:Int} {m:Mc} {n:Nat}
theorem WX (g:Geo a d l) (T:List Nd) (key:List UInt8) (hk:key.length=32) (N:Nat) (hN:(N:Int)=au a d l):TrI a d l T (List.replicate N []) (fun q=>if q=0 then key else []) (fun _=>none):=by
 obtain⟨X,y,rfl,rfl,h1,h2,h3,h4,e1,e2,e3,e4,e5⟩:=g.nn
 refine⟨by rw[if_pos rfl];exact hk,fun q hq=> ?_⟩
 have hQ:(List.replicate N ([]:List UInt8)).getD q []=[]:=by
  rw[List.getD_eq_getElem?_getD,List.getElem?_replicate]
  split<;>rfl
 rw[e1,Int.toNat_natCast,Int.toNat_natCast]
 unfold iZ
 by_cases hn:q<ndN X y
 · rw[if_pos hn]
   refine⟨List.replicate X [],List.length_replicate,?_,fun j r hj=> .inl ⟨if_neg Xf,?_⟩⟩
   · show (List.replicate N ([]:List UInt8)).getD q []=_
     rw[hQ]
     unfold dI
     rw[if_neg]
     rw[List.any_eq_true]
     rintro⟨r,hr,h0⟩
     rw[List.eq_of_mem_replicate hr] at h0
     cases h0
   · exact List.eq_of_mem_replicate (List.mem_of_getElem? hj)
 · rw[if_neg hn]
   exact⟨if_neg Xf,hQ⟩
theorem Nc {N pt ps pl bb kc:Nat} {A:Option Addr} (hlv:m.Live) (ho:m.Ok n) (f:Fit m a d l) (hlen:(N:Int)=au a d l) (hn:n+2*N+100≤90000) (h1:MSt w0 L (m.iE a d l N) w) (h2:Blk w pt 92 (jm L a d l (.pointer (some ⟨ps,0,none⟩)) (.slice A 32 kc) false)) (h3:QB L.kb w A 32 kc m.key) (h4:Blk w ps 150 (aI L a d l ⟨1,0,0⟩ (.pointer (some ⟨pl,0,none⟩)) 0 (.slice (some ⟨bb,0,none⟩) N N) false false)) (h5:Blk w pl 294 (cB L a d l 1 0 0)) (h6:Blk w bb 43 (List.replicate N (.slice none 0 0))) (h7:w0.heap.size≤pt) (h8:w0.heap.size≤ps) (h9:w0.heap.size≤pl) (h10:w0.heap.size≤bb):
 TrV w0 L a d l N (m.iE a d l N) (n+2*N+100) ⟨1,0,0⟩ 0 pt ps bb N pl A kc 0 (List.replicate N ⟨none,0,0,[]⟩) (fun q=>if q=0 then m.key else []) (fun _=>none) w:=by
 have hp:=(pgE a d l).1
 have hp2:=(pgE a d l).2
 have hl4:=f.g.l
 have hN1:0<N:=by obtain⟨X,y,_,_,_,_,_,_,_,_,e3,_⟩:=f.g.nn;omega
 have q1:=((hlv.draw).aT 0 m.key).2
 have q2:=(q1.aL 1).2
 have o1:=((ho.draw).aT 0 m.key).aL 1
 have o2:=(Mc.Ok.jV q2.clear.2 o1.clear l).begin a d l ⟨1,0,0⟩ (List.replicate N [])
 rw[List.length_replicate] at o2
 refine⟨⟨h1,o2.le Xf,Xf,f.g,hlen,h2,h4,Pgo.new Xf hN1 h1.below h10 h6,Nat.le_refl _,Xf,fun r hr=>by rw[List.eq_of_mem_replicate hr];decide⟩,h5,by rw[if_pos rfl];exact h3,?_,q2.format o1 a d l N,⟨f.g,?_⟩,h7,h8,h9,Xf,Xg⟩
 · rw[List.map_replicate]
   exact WX f.g _ _ (Tx m) N hlen
 · have :(m.iE a d l N).d.kept.length=m.d.kept.length:=(IE _ _ _ _ _).trans ((mh _ _).trans (iP _ _ _))
   rw[this]
   exact f.s
end
end
section
open Go.RowKit Go.Maps
theorem uy (pt:Nat) (w:World):Calls Tryz.prog 25 #[.pointer (some ⟨pt,0,none⟩),.int .i64 0] w fun e w'=>e= .returned (.tuple #[.pointer (some ⟨w.heap.size,0,none⟩),.int .i64 0])∧w'=w.alloc (.cells #[.pointer (some ⟨pt,0,none⟩)] 76):=by
 go_in
 go_wp2_with fail
 go_ret2
 exact⟨rfl,rfl⟩
section
variable {w0 w w':World} {L:Pl} {a d l:Int} {N:Nat} {m:Mc} {n:Nat} {x:Spr} {vl vk:Value} {next:Nat} {due:Bool} {pt ps b c pv:Nat} {R:List aj}
theorem DK (h:TrG w0 L a d l N m n x vl next due vk pt ps b c R w) (hv:Blk w pv 76 [.pointer (some ⟨pt,0,none⟩)]):Calls Tryz.prog 19 #[.pointer (some ⟨pv,0,none⟩)] w fun e w'=>e= .returned (.bool false)∧w=w':=by
 have HD:=Xh (uf h)
 have k0:=hv.cell 0
 clear h hv
 go_in
 go_wp2_with fail
 refine HD.out.mono ?_
 rintro e wd ⟨rfl,hwd⟩
 subst hwd
 go_wp2_with fail
 go_ret
 exact⟨rfl,rfl⟩
theorem jN {K:Nat→List UInt8} {cs:Nat→Option (List UInt8×List UInt8)} (h:TrG w0 L a d l N m n x vl next due vk pt ps b c R w) (hI:TrI a d l m.T (R.map aj.l) K cs) (hU:U8 w) (LV:Nat) (hLV:ay a d l=LV) (hv:Blk w pv 76 [.pointer (some ⟨pt,0,none⟩)]):
 Calls Tryz.prog 18 #[.pointer (some ⟨pv,0,none⟩)] w fun e w'=>∃v,e= .returned v∧Own w w' 9 1 v LV ((aF LV cs).map ak):=by
 have HD:=Xh (Ee h hI hU LV hLV)
 have k0:=hv.cell 0
 clear h hI hv hU
 go_in
 go_wp2_with fail
 refine HD.out.mono ?_
 rintro e w1 ⟨v,rfl,o⟩
 have O:=Xh o
 clear o
 go_wp2_with fail
 go_ret
 exact⟨_,rfl,O.out⟩
theorem pG (N:Nat) (h:MSt w0 L m w) (f:Fit m a d l) (hlv:m.Live) (ho:m.Ok n) (hlen:(N:Int)=au a d l) (hn:n+2*N+100≤90000):
 Calls Tryz.prog 10 #[.pointer (some ⟨L.dp,0,none⟩),.pointer (some ⟨L.p,0,none⟩),.agg #[.int .i64 a,.int .i64 d,.int .i64 l]] w fun e w'=>∃pv pt ps bb pl A kc,e= .returned (.tuple #[.pointer (some ⟨pv,0,none⟩),.int .i64 0])∧Blk w' pv 76 [.pointer (some ⟨pt,0,none⟩)]∧w0.heap.size≤pv∧TrV w0 L a d l N (m.iE a d l N) (n+2*N+100) ⟨1,0,0⟩ 0 pt ps bb N pl A kc 0 (List.replicate N ⟨none,0,0,[]⟩) (fun q=>if q=0 then m.key else []) (fun _=>none) w':=by
 obtain⟨W,hW⟩:∃W,W=w.alloc (.cells #[.int .i64 a,.int .i64 d,.int .i64 l] 23):=⟨_,rfl⟩
 have g0:Gr w W:=by rw[hW];exact Gr.alloc _ _
 have q0:Blk W w.heap.size 23 [.int .i64 a,.int .i64 d,.int .i64 l]:=by rw[hW];exact Blk.new w _ _
 have HF:=Xh (AA N (h.mono g0) f hlv ho hlen Xf)
 have HT:=Xh (fun wr pt ps pl bb A kc=>Nc (w0:=w0) (L:=L) (w:=wr) (pt:=pt) (ps:=ps) (pl:=pl) (bb:=bb) (kc:=kc) (A:=A) hlv ho f hlen hn)
 have HW:=Xh hW;have Q0:=Xh q0
 have y0:=q0.cell 0
 have y1:=q0.cell 1
 have y2:=q0.cell 2
 clear hW g0 q0 h f hlv ho hlen
 generalize m.iE a d l N=mf at *
 generalize m.key=mk at *
 go_in
 go_upto_region 1 with fail
 rw[←HW.out]
 go_wp2_with fail
 refine HF.out.mono ?_
 rintro e w1 ⟨pt,ps,pl,bb,A,kc,rfl,h1,h2,h3,h4,h5,h6,h7,h8,h9,h10⟩
 have T1:=Xh (HT.out w1 pt ps pl bb A kc h1 h2 h3 h4 h5 h6 h7 h8 h9 h10)
 have hz:=h1.below.size
 clear h1 h2 h3 h4 h5 h6 h7 h8 h9 h10 HF HT y0 y1 y2
 go_wp2_with fail
 refine (uy pt w1).mono ?_
 rintro e w2 ⟨rfl,e2⟩
 have B2:Hid (Blk w2 w1.heap.size 76 [.pointer (some ⟨pt,0,none⟩)]):=by show Blk _ _ _ _;rw[e2];exact Blk.new w1 _ _
 have T2:=Xh (T1.out.gr (show Gr w1 w2 by rw[e2];exact Gr.alloc _ _))
 clear e2
 go_wp2_with fail
 go_ret2
 exact⟨_,pt,ps,bb,pl,A,kc,rfl,B2.out,hz,T2.out⟩
end
end
section
open Go.RowKit
theorem vM:∀{l:List UInt8} {n:Nat},aS l=some n→l.length≤2*n
 | [],n,_=>Nat.zero_le _
 | [b],n,h=>by
  simp only[aS] at h
  split at h
  · injection h with h;subst h;simp
  · cases h
 |b::c::l,n,h=>by
  simp only[aS] at h
  split at h
  · obtain⟨k,hk,rfl⟩:=Option.map_eq_some_iff.1 h
    have :=vM hk
    simp only[List.length_cons] at this ⊢
    omega
  · split at h
    · obtain⟨k,hk,rfl⟩:=Option.map_eq_some_iff.1 h
      have :=vM hk
      simp only[List.length_cons]
      omega
    · cases h
theorem yY:∀l:List UInt8,((pcL l).map fun p=>p.length+1).sum=l.length+1
 | []=>rfl
 |b::t=>by
  have ih:=yY t
  unfold pcL
  split
  · rw[List.map_cons,List.sum_cons,ih,List.length_cons,List.length_nil];omega
  · cases hp:pcL t with
    |nil=>exact absurd hp (lq t)
    |cons p ps=>
     rw[hp,List.map_cons,List.sum_cons] at ih
     show (((b::p)::ps).map fun p=>p.length+1).sum=_
     rw[List.map_cons,List.sum_cons,List.length_cons,List.length_cons]
     omega
theorem Cx:∀ps:List (List UInt8),(∀p∈ps,aS p≠none)→(ps.map fun p=>p.length+1).sum≤2*jJ ps
 | [],_=>Nat.zero_le _
 |p::ps,h=>by
  have ih:=Cx ps (fun q hq=>h q (List.mem_cons_of_mem _ hq))
  unfold jJ at ih ⊢
  rw[List.map_cons,List.map_cons,List.sum_cons,List.sum_cons]
  cases hr:aS p with
  |none=>exact absurd hr (h p List.mem_cons_self)
  |some n=>
   have :=vM hr
   rw[Option.getD_some]
   omega
theorem Dg {l:List UInt8} (h:aB l=true):0<l.length∧l.length≤60:=by
 have h0:=sN h
 refine⟨List.length_pos_iff.2 h0,?_⟩
 unfold aB at h
 rw[Bool.and_eq_true,Bool.and_eq_true,decide_eq_true_iff,decide_eq_true_iff] at h
 have h1:=Cx (pcL l) (fun p hp=>Qv (List.all_eq_true.1 h.1.1 p hp))
 rw[yY] at h1
 have :=h.2
 omega
theorem Fg {s:List UInt8}:∀{A B:List (List UInt8)},A.length=B.length→(∀i (h:i<A.length) (h':i<B.length),A[i]=s↔B[i]=s)→A.findIdx? (·==s)=B.findIdx? (·==s)
 | [],[],_,_=>rfl
 | [],_::_,h,_=>by cases h
 |_::_,[],h,_=>by cases h
 |x::A,y::B,hl,h=>by
  rw[List.length_cons,List.length_cons] at hl
  have h0:x=s↔y=s:=h 0 (by simp) (by simp)
  have e:(x==s)=(y==s):=by
   by_cases q:x=s
   · rw[beq_iff_eq.2 q,beq_iff_eq.2 (h0.1 q)]
   · rw[beq_eq_false_iff_ne.2 q,beq_eq_false_iff_ne.2 (fun z=>q (h0.2 z))]
  rw[List.findIdx?_cons,List.findIdx?_cons,e,Fg (A:=A) (B:=B) Xf (fun i h1 h2=>h (i+1) (by simp;omega) (by simp;omega))]
structure Kp (hs:List (List UInt8)) (s:List UInt8) (st:List (List UInt8)×List TcD):Prop where
 len:st.1.length=hs.length
 eq:∀i (h:i<st.1.length) (h':i<hs.length),st.1[i]=s↔hs[i]=s
 no:∀t∈st.2,t.h≠s∧∀h':t.s<hs.length,hs[t.s]≠s
theorem Kp.step {M:Nat} {hs:List (List UInt8)} {s:List UInt8} {st:List (List UInt8)×List TcD} {c:ChD} (h:Kp hs s st) (h0:s≠[]) (hn:c.n≠s) (hf:aP M st.1 c=0):Kp hs s (doC st c):=by
 obtain⟨hr,i,he,hi,hc⟩:=rD hf
 have e:doC st c=(st.1.set i (fT c),st.2++ [oz i c]):=by unfold doC;rw[he];rfl
 have hne:st.1[i]≠s:=by
  rcases hc with q|q
  · rw[q];exact hn
  · rw[q.1];exact fun z=>h0 z.symm
 have hhd:fT c≠s:=by
  unfold fT
  split
  · exact fun z=>h0 z.symm
  · exact hn
 rw[e]
 refine⟨by rw[List.length_set];exact h.len,fun k hk hk'=> ?_,fun t ht=> ?_⟩
 · rw[List.length_set] at hk
   show (st.1.set i (fT c))[k]=s↔hs[k]=s
   rw[List.getElem_set]
   split
   · next e=>subst e;exact⟨fun z=>absurd z hhd,fun z=>absurd ((h.eq i hi hk').2 z) hne⟩
   · exact h.eq k hk hk'
 · rcases List.mem_append.1 ht with ht|ht
   · exact h.no t ht
   · rw[List.mem_singleton.1 ht]
     refine⟨by rw[(Ih i c).2];exact hhd,?_⟩
     rw[(Ih i c).1]
     exact fun h' z=>hne ((h.eq i hi h').2 z)
theorem Kv {M:Nat} {hs:List (List UInt8)} {s:List UInt8} (h0:s≠[]):∀(l:List ChD) (st:List (List UInt8)×List TcD),Kp hs s st→(∀c∈l,c.n≠s)→(aD M st l).2=0→Kp hs s (aD M st l).1
 | [],st,h,_,_=>by rw[aD];exact h
 |c::l,st,h,hn,hz=>by
  rw[gD] at hz ⊢
  by_cases hf:aP M st.1 c=0
  · rw[if_pos hf] at hz ⊢
    exact Kv h0 l _ (h.step h0 (hn c List.mem_cons_self) hf) (fun x hx=>hn x (List.mem_cons_of_mem _ hx)) hz
  · rw[if_neg hf] at hz
    exact absurd hz hf
theorem Dp {M:Nat}:∀(l:List ChD) (st:List (List UInt8)×List TcD),(∀t∈st.2,t.g=false→aB t.h=true∧t.v.length≤M)→(aD M st l).2=0→∀t∈(aD M st l).1.2,t.g=false→aB t.h=true∧t.v.length≤M
 | [],st,h,_=>by rw[aD];exact h
 |c::l,st,h,hz=>by
  rw[gD] at hz ⊢
  by_cases hf:aP M st.1 c=0
  · rw[if_pos hf] at hz ⊢
    refine Dp l _ (fun t ht hg=> ?_) hz
    rcases List.mem_append.1 ht with ht|ht
    · exact h t ht hg
    · rw[List.mem_singleton.1 ht] at hg ⊢
      unfold oz at hg ⊢
      by_cases q:c.g=true
      · rw[if_pos q] at hg;cases hg
      · rw[if_neg q]
        unfold aP at hf
        split at hf
        · omega
        next h1=>
        refine⟨?_,?_⟩
        · cases z:aB c.n with
          |true=>rfl
          |false=>exact absurd (.inl z) h1
        · show c.v.length≤M
          by_cases z:c.v.length≤M
          · exact z
          · exact absurd (.inr ⟨by simpa using q,Xf⟩) h1
  · rw[if_neg hf] at hz
    exact absurd hz hf
section
variable {a d l:Int} {LV:Nat} {cs:Nat→Option (List UInt8×List UInt8)} {T:List TcV} {C:List ChD} {s:List UInt8}
theorem mM {k:Nat} (h:k<(aF LV cs).length):(aF LV cs)[k]=hdL (cs k):=by simp only[aF,List.getElem_map,List.getElem_range]
def kJ (a d l:Int) (LV:Nat) (cs:Nat→Option (List UInt8×List UInt8)) (s:List UInt8):Option (List UInt8):=vZ a d l cs (bW (aF LV cs) s)
theorem UO (hL:ay a d l=(LV:Int)) (hs:s∈aF LV cs) (h0:s≠[]):∃v,kJ a d l LV cs s=some v:=by
 obtain⟨i,hi,hl,he,_⟩:=rR (vT hs h0)
 rw[iA] at hl
 rw[mM] at he
 unfold kJ vZ
 rw[hi,if_pos ⟨Xf,Xf⟩,Int.toNat_natCast]
 cases hc:cs i with
 |none=>rw[hc] at he;exact absurd he.symm h0
 |some x=>exact⟨x.2,rfl⟩
theorem Oi (hz:(aD 350 (aF LV cs,[]) C).2=0) (hT:T.map TcV.d=iN (aD 350 (aF LV cs,[]) C).1.2) (hL:ay a d l=(LV:Int)) (h0:s≠[]) (hn:∀c∈C,c.n≠s) (hs:s∈aF LV cs):kJ a d l LV (iX cs T) s=kJ a d l LV cs s:=by
 have kp:=Kv h0 C (aF LV cs,[]) ⟨rfl,fun i h h'=>Iff.rfl,fun t ht=>by cases ht⟩ hn hz
 have hmem:∀t∈T,t.d∈(aD 350 (aF LV cs,[]) C).1.2:=fun t ht=>(nK (AY (by rw[←hT];exact List.mem_map_of_mem ht))).2
 have hk:∀k,k<LV→hdL (cs k)=s→iX cs T k=cs k:=fun k hk e=>by
  unfold iX
  cases hl:dB T k with
  |none=>rfl
  |some t=>
   obtain⟨h1,h2⟩:=iB hl
   have h3:t.d.s<(aF LV cs).length:=by rw[iA];omega
   have :=(kp.no t.d (hmem t h1)).2 h3
   rw[mM,h2] at this
   exact absurd e this
 have hk2:∀k,k<LV→hdL (iX cs T k)=s→hdL (cs k)=s:=fun k hk e=>by
  unfold iX at e
  cases hl:dB T k with
  |none=>rwa[hl] at e
  |some t=>
   rw[hl] at e
   replace e:hdL (if t.d.g=true then none else some (t.d.h,t.d.v))=s:=e
   obtain⟨h1,_⟩:=iB hl
   have h3:=(kp.no t.d (hmem t h1)).1
   cases hg:t.d.g with
   |true=>rw[hg] at e;exact absurd e.symm h0
   |false=>rw[hg] at e;exact absurd e h3
 have e:bW (aF LV (iX cs T)) s=bW (aF LV cs) s:=by
  unfold bW
  rw[if_neg h0,if_neg h0,Fg (s:=s) (A:=aF LV (iX cs T)) (B:=aF LV cs) (by rw[iA,iA]) (fun i h1 h2=>by
   rw[mM,mM]
   rw[iA] at h2
   exact⟨hk2 i h2,fun q=>by rw[hk i h2 q];exact q⟩)]
 obtain⟨i,hi,hl,he,_⟩:=rR (vT hs h0)
 rw[iA] at hl
 rw[mM] at he
 unfold kJ vZ
 rw[e,hi,Int.toNat_natCast,hk i hl he]
end
end
end Go.Proofs.YtipdlnejmcmbbaaGreatDoor
