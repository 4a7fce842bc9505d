/- Own texts, one behind the other. No condition. -/
import Derived.Test.YtipdlnejmcmbbaaGreatDoorObPkBC
set_option linter.unusedVariables false
set_option maxRecDepth 100000
set_option maxHeartbeats 8000000
set_option linter.unusedSimpArgs false
namespace Go.Proofs.YtipdlnejmcmbbaaGreatDoor
section
open Go.RowKit
theorem KX.new {S S':Nat→Prop} {kb:Nat} {w w1 w':World} (k:KX S kb w w1) (k':KX S' kb w1 w') (h:∀z,S' z→S z∨w.heap.size≤z):KX S kb w w':=⟨Nat.le_trans k.size k'.size,fun b a t m e h1 h2 h3=>k'.keep b a t m (k.keep b a t m e h1 h2 h3) h1 h2 (fun s=>(h b s).elim h3 (fun q=>by have :=fV e;omega))⟩
def Mc.commit (m:Mc) (a d l:Int) (x:Spr) (first gen:Nat) (Q:List (List UInt8)) (P:List (Nat×List UInt8)):Mc×Spr×Nat:=
 if (first:Int)+(P.length:Int)+1≤l then (m.eU l x.life x.base first gen P,⟨x.life,x.base,gen⟩,first+P.length+1)
 else ((m.begin a d l ⟨x.life+1,(x.base+first) % l.toNat,x.gen⟩ Q).eU l (x.life+1) ((x.base+first) % l.toNat) 0 gen P,⟨x.life+1,(x.base+first) % l.toNat,gen⟩,0+P.length+1)
section
variable {w0 w w':World} {L:Pl} {m:Mc} {n:Nat} {a d l:Int} {ps pl b c N:Nat} {x:Spr} {next:Nat}
theorem yE {vp:Value} {B0 B1 B2:Nat} (h:MSt w0 L m w) (f:Fit m a d l) (hlv:m.Live) (ho:m.Ok n) (hl:x.life<18446744073709551616) (hbs:x.base≤1073741824) (first gen:Nat) (hg:gen<18446744073709551616)
 (hs:Blk w ps 150 (aI L a d l x (.pointer (some ⟨pl,0,none⟩)) next vp false false)) (hlog:Blk w pl 294 (cB L a d l x.life x.base first)) (hpl:w0.heap.size≤pl)
 (A:Option Addr) (c' KN:Nat) (R':List aU) (hP:Pgw w0 L.kb w A c' KN R') (hk:∀y∈R',(y.k:Int)<au a d l) (hsm:∀y∈R',y.r.n≤473) (hKN:(first:Int)+(KN:Int)+1≤l) (hn:n+2*KN+4≤90000)
 (v0:Blk w B0 90 [.pointer (some ⟨ps,0,none⟩)]) (p0:Blk w B1 116 [.slice A KN c']) (n0:Blk w B2 95 [.int .u64 (gen:Int)]):
 Calls Tryz.prog 199 #[.pointer (some ⟨B0,0,none⟩),.pointer (some ⟨B1,0,none⟩),.pointer (some ⟨B2,0,none⟩)] w fun e w'=>e= .returned (.int .i64 0)∧MSt w0 L (m.eU l x.life x.base first gen (R'.map fun y=>(y.k,y.r.l))) w'∧Blk w' pl 294 (cB L a d l x.life x.base (first+KN+1))∧KX (fun z=>z=pl) L.kb w w':=by
 have HAP:=Xh (fun wq (g:Gr w wq)=>tV (h.mono g) f hlv ho pl x.life x.base first gen hl hbs hg (hlog.mono g) hpl A KN c' R' (hP.mono g).pgw hk hsm hKN hn)
 obtain⟨m2,hm2⟩:∃m2,m2=m.eU l x.life x.base first gen (R'.map fun y=>(y.k,y.r.l)):=⟨_,rfl⟩
 rw[←hm2] at HAP ⊢
 have V0:=Xh v0;have P0:=Xh p0;have N0:=Xh n0;have HS:=Xh hs;have HLG:=Xh hlog
 clear h f hlv ho hs hlog hP hk hsm hm2 v0 p0 n0
 go_in
 go_upto_region 1 with fail
 refine wrU RtS 143 (fun w w' h=>h.1) (fun w w' b cs h hb=>h.2 b cs hb) Xe [0,1,3,7,0,0,63,127] [.q 0,.p 1,.p 2,.q 3,.q 4,.q 5,.t 6,.p 7] Xe (trivial) ?_
 refine gQ (fun _ hq=>(V0.out.mono (Xk hq)).cell 0) ?_
 refine gP ?_
 refine gP ?_
 refine gQ (fun _ hq=>(HS.out.mono (Xk hq)).cell 8) ?_
 refine gQ (fun _ hq=>(P0.out.mono (Xk hq)).cell 0) ?_
 refine gQ (fun _ hq=>(N0.out.mono (Xk hq)).cell 0) ?_
 refine gT ?_
 intro w3 g3 K hK
 refine (HAP.out w3 ((Gr.drew _).trans g3)).mono ?_
 rintro e wn ⟨rfl,i1,i2,i3⟩
 refine hK _ _ (i3.rts (fun z e=>⟨294,cB L a d l x.life x.base first,by rw[e];exact HLG.out.mono ((Gr.drew _).trans g3),Xg⟩)) ?_;have GW3:=Xh ((Gr.drew w).trans g3);have I1:=Xh i1;have I2:=Xh i2;have I3:=Xh i3;clear g3 i1 i2 i3 hK
 go_simp
 refine gP ?_
 refine wNi fun w5 g5=> ?_
 have X5:Hid (KX (fun z=>z=pl) L.kb w w5):=((KX.gr GW3.out).trans I3.out).trans (KX.gr g5)
 have M5:=Xh (I1.out.mono g5)
 have L5:=Xh (I2.out.mono g5)
 clear g5 I1 I2 I3 GW3
 go_wp2_with fail
 go_ret
 exact⟨rfl,M5.out,L5.out,X5.out⟩
def SX (w0:World) (L:Pl) (a d l:Int) (ps pl next:Nat) (vp:Value) (r:Mc×Spr×Nat) (g0:Nat) (w w':World):Prop:=∃pl',(pl'=pl∨w.heap.size≤pl')∧MSt w0 L r.1 w'∧Blk w' ps 150 (aI L a d l ⟨r.2.1.life,r.2.1.base,g0⟩ (.pointer (some ⟨pl',0,none⟩)) next vp false false)∧Blk w' pl' 294 (cB L a d l r.2.1.life r.2.1.base r.2.2)∧KX (fun z=>z=ps∨z=pl) L.kb w w'
theorem yF (h:MSt w0 L m w) (f:Fit m a d l) (hlv:m.Live) (ho:m.Ok n) (hl:x.life<1000000) (hbs:x.base≤1000) (first gen:Nat) (hg:gen<18446744073709551616) (hxg:x.gen<18446744073709551616) (hfi:(first:Int)≤l)
 (hs:Blk w ps 150 (aI L a d l x (.pointer (some ⟨pl,0,none⟩)) next (.slice (some ⟨b,0,none⟩) N c) false false)) (hlog:Blk w pl 294 (cB L a d l x.life x.base first)) (hps:w0.heap.size≤ps) (hpl:w0.heap.size≤pl)
 (R:List aj) (hp:Pgo w0 L.kb w b c N R) (hlen:(N:Int)=au a d l) (hsmR:∀r∈R,r.n≤479) (hcN:c≤9223372036854775807) (hNc:N≤c)
 (A:Option Addr) (c' KN:Nat) (R':List aU) (hP:Pgw w0 L.kb w A c' KN R') (hk:∀y∈R',y.k<N) (hsm:∀y∈R',y.r.n≤473) (hKN:(KN:Int)<l) (hn:n+2*N+2*KN+8≤90000) (r:Mc×Spr×Nat) (hr:r=m.commit a d l x first gen (R.map aj.l) (R'.map fun y=>(y.k,y.r.l))):
 Calls Tryz.prog 118 #[.pointer (some ⟨ps,0,none⟩),.slice A KN c',.int .u64 (gen:Int)] w fun e w'=>e= .returned (.int .i64 0)∧∃pl',(pl'=pl∨w.heap.size≤pl')∧MSt w0 L r.1 w'∧Blk w' ps 150 (aI L a d l r.2.1 (.pointer (some ⟨pl',0,none⟩)) next (.slice (some ⟨b,0,none⟩) N c) false false)∧Blk w' pl' 294 (cB L a d l r.2.1.life r.2.1.base r.2.2)∧
  (∃R2,Pgo w0 L.kb w' b c N R2∧R2.map aj.l=gY (R.map aj.l) (R'.map fun y=>(y.k,y.r.l)))∧KX (fun z=>z=ps∨z=pl∨z=b) L.kb w w':=by
 obtain⟨h3,h4⟩:=f.g.l
 have hpg:=(pgE a d l).2
 obtain⟨cb,zb⟩:=hp.o.aA (b:=b) rfl
 obtain⟨W,hW⟩:∃W,W=((w.alloc (.cells #[.pointer (some ⟨ps,0,none⟩)] 90)).alloc (.cells #[.slice A KN c'] 116)).alloc (.cells #[.int .u64 (gen:Int)] 95):=⟨_,rfl⟩
 have g0:Gr w W:=by rw[hW];exact ((Gr.alloc _ _).trans (Gr.alloc _ _)).trans (Gr.alloc _ _)
 have v0:Blk W w.heap.size 90 [.pointer (some ⟨ps,0,none⟩)]:=by rw[hW];exact ((Blk.new w _ _).alloc _).alloc _
 have p0:Blk W (w.heap.size+1) 116 [.slice A KN c']:=by rw[hW];exact (show Blk ((w.alloc (.cells #[.pointer (some ⟨ps,0,none⟩)] 90)).alloc (.cells #[.slice A KN c'] 116)) (w.heap.size+1) 116 [.slice A KN c'] from heap_alloc2_new w _ _).alloc _
 have n0:Blk W (w.heap.size+1+1) 95 [.int .u64 (gen:Int)]:=by
  rw[hW]
  have :=Blk.new ((w.alloc (.cells #[.pointer (some ⟨ps,0,none⟩)] 90)).alloc (.cells #[.slice A KN c'] 116)) 95 #[.int .u64 (gen:Int)]
  rwa[World.size_alloc,World.size_alloc] at this
 have HRD:=Xh (rH (hs.mono g0))
 have hk':∀y∈R',(y.k:Int)<au a d l:=fun y hy=>by have :=hk y hy;omega
 have hRl:R'.length=KN:=hP.pgw.s.1
 have hRN:R.length=N:=hp.len
 obtain⟨P,hPd⟩:∃P,P=R'.map fun y=>(y.k,y.r.l):=⟨_,rfl⟩
 have hPl:P.length=KN:=by rw[hPd,List.length_map];exact hRl
 rw[←hPd] at hr ⊢
 have hrc:=hr
 unfold Mc.commit at hrc
 rw[hPl] at hrc
 obtain⟨nb,hnb⟩:∃nb,nb=(x.base+first) % l.toNat:=⟨_,rfl⟩
 have hnl:nb<l.toNat:=by rw[hnb];exact Nat.mod_lt _ Xf
 rw[←hnb] at hrc
 obtain⟨Post,hPost⟩:∃Post:Int→World→Prop,Post=fun q wx=>((first:Int)+(KN:Int)+1≤l∧q=0∧MSt w0 L (m.eU l x.life x.base first gen P) wx∧Blk wx pl 294 (cB L a d l x.life x.base (first+KN+1)))∨(¬(first:Int)+(KN:Int)+1≤l∧q=5∧MSt w0 L m wx∧Blk wx pl 294 (cB L a d l x.life x.base first)):=⟨_,rfl⟩
 have HAP:Hid (∀wq,Gr W wq→Calls Tryz.prog 198 #[.pointer (some ⟨pl,0,none⟩),.slice A KN c',.int .u64 (gen:Int)] wq fun e w'=>∃q,e= .returned (.int .i64 q)∧KX (fun z=>z=pl) L.kb wq w'∧Post q w'):=fun wq g=>by
  by_cases hroom:(first:Int)+(KN:Int)+1≤l
  · refine (tV (h.mono (g0.trans g)) f hlv ho pl x.life x.base first gen Xf Xf hg (hlog.mono (g0.trans g)) hpl A KN c' R' (hP.mono (g0.trans g)).pgw hk' hsm hroom Xf).mono ?_
    rintro e w' ⟨rfl,i1,i2,i3⟩
    refine⟨0,rfl,i3,?_⟩
    rw[hPost,hPd]
    exact .inl ⟨hroom,rfl,i1,i2⟩
  · refine (Ir f.g pl x.life x.base first gen (hlog.mono (g0.trans g)) A KN c' R' (hP.mono (g0.trans g)).pgw hk' hsm hKN hfi Xf).mono ?_
    rintro e w' ⟨rfl,g'⟩
    refine⟨5,rfl,KX.gr g',?_⟩
    rw[hPost]
    exact .inr ⟨hroom,rfl,h.mono ((g0.trans g).trans g'),hlog.mono ((g0.trans g).trans g')⟩
 have HPP:Hid (∀q wx wy,Gr wx wy→Post q wx→Post q wy):=fun q wx wy g hq=>by
  rw[hPost] at hq ⊢
  exact hq.imp (fun⟨q1,q2,q3,q4⟩=>⟨q1,q2,q3.mono g,q4.mono g⟩) (fun⟨q1,q2,q3,q4⟩=>⟨q1,q2,q3.mono g,q4.mono g⟩)
 have G0:=Xh g0;have V0:=Xh v0;have P0:=Xh p0;have N0:=Xh n0;have HW:=Xh hW
 have HS:=Xh hs;have HLG:=Xh hlog;have HPO:=Xh hp;have HPW:=Xh hP;have HKK:=Xh hk;have HSM:=Xh hsm
 have HZB:=Xh zb;have HPD:=Xh hPd;have HRC:=Xh hrc;have HPOST:=Xh hPost
 have HF:=Xh f;have HLV:=Xh hlv;have HOK:=Xh ho;have HSR:=Xh hsmR;have HKI:=Xh hk';have HNB:=Xh hnb;have HRN:=Xh hRN
 have hH:w0.heap.size≤w.heap.size:=h.below.size
 clear h f hlv ho hs hlog hp hP hk hsm g0 v0 p0 n0 hW zb hPd hr hrc hPost hsmR hk' hnb hRN hRl hPl
 have ne1:pl≠ps:=fun e=>by have :=HLG.out;rw[e] at this;exact absurd (bTy this HS.out) Xg
 have ne2:b≠ps:=fun e=>by have :=HZB.out;rw[e] at this;exact absurd (bTy this HS.out) Xg
 have ne3:b≠pl:=fun e=>by have :=HZB.out;rw[e] at this;exact absurd (bTy this HLG.out) Xg
 go_in
 go_upto_region 1 with fail
 rw[←HW.out]
 have k0:=V0.out.cell 0
 go_wp2_with fail
 refine HRD.out.mono ?_
 rintro e wd ⟨rfl,hwd⟩
 subst hwd
 have s11:=(HS.out.mono G0.out).cell 11
 go_upto_region 6 with fail
 clear s11 k0
 refine wrU RtS 143 (fun w w' h=>h.1) (fun w w' b cs h hb=>h.2 b cs hb) Xe [0,1,3,7,0,0,63,127] [.q 0,.p 1,.p 2,.q 3,.q 4,.q 5,.t 6,.p 7] Xe (trivial) ?_
 refine gQ (fun _ hq=>(V0.out.mono (Xk hq)).cell 0) ?_
 refine gP ?_
 refine gP ?_
 refine gQ (fun _ hq=>(HS.out.mono (G0.out.trans (Xk hq))).cell 8) ?_
 refine gQ (fun _ hq=>(P0.out.mono (Xk hq)).cell 0) ?_
 refine gQ (fun _ hq=>(N0.out.mono (Xk hq)).cell 0) ?_
 refine gT ?_
 intro w3 g3 K hK
 refine (HAP.out w3 ((Gr.drew _).trans g3)).mono ?_
 rintro e wn ⟨q,rfl,i3,i1⟩
 refine hK _ _ (i3.rts (fun z e=>⟨294,cB L a d l x.life x.base first,by rw[e];exact HLG.out.mono (G0.out.trans ((Gr.drew _).trans g3)),Xg⟩)) ?_;have GW3:=Xh ((Gr.drew W).trans g3);have I1:=Xh i1;have I3:=Xh i3;clear g3 i1 i3 hK
 go_simp
 refine gP ?_
 refine wNi fun w5 g5=> ?_
 have X5:Hid (KX (fun z=>z=pl) L.kb W w5):=((KX.gr GW3.out).trans I3.out).trans (KX.gr g5)
 have I5:=Xh (HPP.out q _ _ g5 I1.out)
 have S5:Hid (Blk w5 ps 150 (aI L a d l x (.pointer (some ⟨pl,0,none⟩)) next (.slice (some ⟨b,0,none⟩) N c) false false)):=X5.out.blk (HS.out.mono G0.out) Xi Xd (fun e=>ne1 e.symm)
 have V5:Hid (Blk w5 w.heap.size 90 [.pointer (some ⟨ps,0,none⟩)]):=X5.out.blk V0.out Xi Xd (fun e=>by have :=HLG.out.lt;omega)
 have P5:Hid (Blk w5 (w.heap.size+1) 116 [.slice A KN c']):=X5.out.blk P0.out Xi Xd (fun e=>by have :=HLG.out.lt;omega)
 have N5:Hid (Blk w5 (w.heap.size+1+1) 95 [.int .u64 (gen:Int)]):=X5.out.blk N0.out Xi Xd (fun e=>by have :=HLG.out.lt;omega)
 clear g5 I1 I3 GW3 HAP HPP HRD
 go_upto_if 26 with fail
 go_cut [8] (fun v wx=>v= .int .i64 0∧SX w0 L a d l ps pl next (.slice (some ⟨b,0,none⟩) N c) r x.gen W wx)
 case first=>
  have hI:=I5.out
  rw[HPOST.out] at hI
  rcases hI with⟨hroom,rfl,m5,l5⟩| ⟨hroom,rfl,m5,l5⟩
  · have hr:=HRC.out
    rw[if_pos hroom] at hr
    have HR:=Xh hr;have M5:=Xh m5;have L5:=Xh l5
    clear hr m5 l5 hroom
    go_wp2_with fail
    go_meet
    rw[HR.out]
    exact⟨rfl,pl,.inl rfl,M5.out,S5.out,L5.out,X5.out.wide (fun z _ e=> .inr e)⟩
  · have hr:=HRC.out
    rw[if_neg Xf] at hr
    have HR:=Xh hr;have M5:=Xh m5;have L5:=Xh l5
    clear hr m5 l5 hroom
    have k0:=V5.out.cell 0
    have O5:Hid (Pgo w0 L.kb w5 b c N R):=(HPO.out.mono G0.out).kx X5.out M5.out.below (fun z e=>⟨by rw[e];exact fun q=>ne3 q.symm,294,cB L a d l x.life x.base first,by rw[e];exact HLG.out.mono G0.out,by unfold tyB;decide⟩)
    have Q5:Hid (Pgw w0 L.kb w5 A c' KN R'):=(HPW.out.mono G0.out).kx X5.out M5.out.below (fun z e=>⟨294,cB L a d l x.life x.base first,by rw[e];exact HLG.out.mono G0.out,by unfold tyB;decide,Xg⟩)
    obtain⟨F,hF⟩:∃F:List Value,F=[.func (.func 83) #[.pointer (some ⟨ps,0,none⟩)] #[],.func (.func 199) #[] #[.pointer (some ⟨w.heap.size,0,none⟩),.pointer (some ⟨w.heap.size+1,0,none⟩),.pointer (some ⟨w.heap.size+1+1,0,none⟩)]]:=⟨_,rfl⟩
    obtain⟨w6,hw6⟩:∃w6,w6=w5.alloc (.cells F.toArray 211):=⟨_,rfl⟩
    have g6:Gr w5 w6:=by rw[hw6];exact Gr.alloc _ _
    have s6:Blk w6 w5.heap.size 211 F:=by rw[hw6];exact Blk.new w5 _ F.toArray
    have ho6:=HOK.out.begin a d l ⟨x.life+1,nb,x.gen⟩ (R.map aj.l)
    rw[List.length_map,HRN.out] at ho6
    have f6:Fit (m.begin a d l ⟨x.life+1,nb,x.gen⟩ (R.map aj.l)) a d l:=⟨HF.out.g,by rw[sS];exact HF.out.s⟩
    have hsz:W.heap.size≤w6.heap.size:=Nat.le_trans X5.out.size g6.size
    have hwW:w.heap.size≤W.heap.size:=G0.out.size
    have ST:Calls Tryz.prog 98 #[.slice (some ⟨w5.heap.size,0,none⟩) 2 2] w6 (iq (SX w0 L a d l ps pl next (.slice (some ⟨b,0,none⟩) N c) r x.gen W) (fun _ _=>False)):=by
     refine JC _ _ _ _ _ _ (enters_of Tryz.func83 Xe rfl) (enters_of Tryz.func199 Xe rfl) w5.heap.size w6 (fun w'=>∃pl',w6.heap.size≤pl'∧Blk w' pl' 294 (cB L a d l (x.life+1) nb 0)∧MSt w0 L (m.begin a d l ⟨x.life+1,nb,x.gen⟩ (R.map aj.l)) w'∧Blk w' ps 150 (aI L a d l ⟨x.life+1,nb,x.gen⟩ (.pointer (some ⟨pl',0,none⟩)) next (.slice (some ⟨b,0,none⟩) N c) false false)∧KX (fun b=>b=ps) L.kb w6 w') _ _ (by rw[←hF];exact s6) ?_ ?_
     · refine (qj (M5.out.mono g6) HF.out HLV.out HOK.out hl nb Xf (.inr ⟨rfl,pl,first,rfl,L5.out.mono g6,Xf,Xf,HNB.out⟩) hxg hps R (O5.out.mono g6) hlen HSR.out Xf (S5.out.mono g6)).mono ?_
       rintro e w7 ⟨rfl,q⟩
       exact⟨0,rfl,fun _=>q,fun q=>absurd rfl q⟩
     · rintro w7 ⟨pl',hpl7,l7,m7,s7,k7⟩
       have nz:∀{z t cs},Blk w6 z t cs→t≠150→¬z=ps:=fun hz ht e=>by
        rw[e] at hz
        exact ht (bTy hz (S5.out.mono g6))
       have key:∀{z t cs},Blk w6 z t cs→¬tyM t→t≠302→t≠150→Blk w7 z t cs:=fun hz h1 h2 h3=>k7.blk hz h1 (fun e=>absurd e h2) (nz hz h3)
       refine⟨by rw[←hF];exact key s6 Xi Xg Xg,(yE (x:=⟨x.life+1,nb,x.gen⟩) (ps:=ps) m7 f6 (HLV.out.begin _ _ _ _ _) ho6 (by show x.life+1<_;omega) (by show nb≤_;omega) 0 gen hg s7 l7 Xf A c' KN R' ((Q5.out.mono g6).kx k7 m7.below (fun z e=>by subst e;exact⟨_,_,S5.out.mono g6,by unfold tyB;decide,Xg⟩)) HKI.out HSM.out Xf Xf (key (V5.out.mono g6) Xi Xg Xg) (key (P5.out.mono g6) Xi Xg Xg) (key (N5.out.mono g6) Xi Xg Xg)).mono ?_⟩
       rintro e w8 ⟨rfl,m8,l8,k8⟩
       refine⟨0,rfl,fun _=> ?_,fun q=>absurd rfl q⟩
       have hPl:P.length=KN:=by rw[HPD.out,List.length_map];exact HPW.out.pgw.s.1
       rw[←HPD.out] at m8
       rw[HR.out]
       refine⟨pl',.inr Xf,m8,k8.blk s7 Xi Xd (fun e=>by rw[e] at s7;exact absurd (bTy s7 l7) Xg),l8,?_⟩
       exact (((X5.out.wide (fun z _ e=> .inr e)).trans (KX.gr g6)).trans ((k7.wide (fun z _ e=> .inl e)).trans (KX.gr (Gr.refl _)))).new k8 (fun z e=> .inr (by subst e;omega))
    rw[hw6,hF] at ST
    have HST:=Xh ST
    clear ST hw6 g6 s6 ho6 f6 hsz hwW O5 Q5 hF
    go_wp2_with fail
    refine HST.out.mono ?_
    rintro e w7 ⟨q,rfl,h7,e7⟩
    by_cases hq0:q=0
    · subst hq0
      have H7:=Xh (h7 rfl)
      clear h7 e7
      go_wp2_with fail
      go_meet
      exact⟨rfl,H7.out⟩
    · exact (e7 hq0).elim
 case rest=>
 obtain⟨rfl,pl',hpl',m6,s6,l6,x6⟩:=hcut
 have M6:=Xh m6;have S6:=Xh s6;have L6:=Xh l6;have X6:=Xh x6;have HPL:=Xh hpl'
 clear m6 s6 l6 x6 hpl' I5 X5 S5 V5 P5 N5
 have nz:∀{z t cs},Blk W z t cs→t≠150→t≠294→¬(z=ps∨z=pl):=fun hz h1 h2 e=>by
  rcases e with e|e
  · rw[e] at hz;exact h1 (bTy hz (HS.out.mono G0.out))
  · rw[e] at hz;exact h2 (bTy hz (HLG.out.mono G0.out))
 have V6:=Xh (X6.out.blk V0.out Xi Xd (nz V0.out Xg Xg))
 have P6:=Xh (X6.out.blk P0.out Xi Xd (nz P0.out Xg Xg))
 have N6:=Xh (X6.out.blk N0.out Xi Xd (nz N0.out Xg Xg))
 have hSx:∀z,(z=ps∨z=pl)→∃t cs,Blk W z t cs∧(t=150∨t=294):=fun z e=>by
  rcases e with e|e
  · exact⟨_,_,e▸HS.out.mono G0.out,.inl rfl⟩
  · exact⟨_,_,e▸HLG.out.mono G0.out,.inr rfl⟩
 have O6:Hid (Pgo w0 L.kb wc b c N R):=(HPO.out.mono G0.out).kx X6.out M6.out.below (fun z e=>⟨fun q=>by rcases e with e|e<;>omega,by obtain⟨t,cs,z2,ht⟩:=hSx z e;exact⟨t,cs,z2,by rcases ht with e|e<;>subst e<;>unfold tyB<;>decide⟩⟩)
 have Q6:Hid (Pgw w0 L.kb wc A c' KN R'):=(HPW.out.mono G0.out).kx X6.out M6.out.below (fun z e=>by obtain⟨t,cs,z2,ht⟩:=hSx z e;exact⟨t,cs,z2,by rcases ht with e|e<;>subst e<;>unfold tyB<;>decide,by rcases ht with e|e<;>subst e<;>decide⟩)
 clear nz hSx
 have HPT:=Xh (vY M6.out S6.out R O6.out hcN hNc A KN c' R' Q6.out.pgw HKK.out (fun y hy=>Nat.le_trans (HSM.out y hy) Xg) Xf Xf (fun b' e=>by
  cases A with
  |none=>cases e
  |some z=>
   injection e with e
   have e:z.block=b':=e
   intro q
   obtain⟨cs,zz⟩:=Q6.out.o.aA (b:=z.block) rfl
   obtain⟨cs2,z2⟩:=O6.out.o.aA (b:=b) rfl
   rw[e,q] at zz
   exact absurd (bTy zz z2) Xg))
 have k0:=V6.out.cell 0
 have k1:=P6.out.cell 0
 go_wp2_with fail
 refine HPT.out.mono ?_
 rintro e w7 ⟨⟨vv,rfl⟩,m7,⟨R2,p7,hb7⟩,t7⟩
 clear k0 k1
 have M7:=Xh m7;have O7:=Xh p7;have HB7:=Xh hb7;have T7:=Xh t7
 have nb':∀{z t cs},Blk wc z t cs→t≠43→¬z=b:=fun hz h1 e=>by
  obtain⟨cs2,z2⟩:=O6.out.o.aA (b:=b) rfl
  rw[e] at hz
  exact h1 (bTy hz z2)
 have S7:=Xh (S6.out.tch t7 (nb' S6.out Xg))
 have V7:=Xh (V6.out.tch t7 (nb' V6.out Xg))
 have N7:=Xh (N6.out.tch t7 (nb' N6.out Xg))
 have L7:=Xh (L6.out.tch t7 (nb' L6.out Xg))
 clear m7 p7 hb7 t7 nb'
 have k0:=V7.out.cell 0
 have k2:=N7.out.cell 0
 have s7:=S7.out.cell 7
 have f7:=Blk.free S7.out 7
 go_wp2_with fail
 go_ret
 have T8:Tch (fun z=>z=ps) w7 (w7.setCell ⟨ps,7,none⟩ (.int .u64 (gen:Int))):=Tch.set ⟨ps,7,none⟩ _ rfl
 have M8:MSt w0 L r.1 (w7.setCell ⟨ps,7,none⟩ (.int .u64 (gen:Int))):=M7.out.off T8 (fun z e=>by rw[e];exact hps) (fun z e=>by subst e;exact⟨_,_,S7.out,gI⟩)
 have hrg:r.2.1=⟨r.2.1.life,r.2.1.base,gen⟩:=by rw[HRC.out];split<;>rfl
 refine⟨rfl,pl',HPL.out.imp id (fun q=>Nat.le_trans G0.out.size q),M8,by rw[hrg];exact S7.out.set 7 _,L7.out.tch T8 (fun e=>by have :=L7.out;rw[e] at this;exact absurd (bTy this S7.out) Xg),⟨R2,O7.out.kx (KX.tch T8) M8.below (fun z e=>by subst e;exact⟨fun q=>ne2 q.symm,_,_,S7.out,by unfold tyB;decide⟩),by rw[HPD.out];exact HB7.out⟩,?_⟩
 exact (((KX.gr G0.out).trans (X6.out.wide (fun z _ e=>e.elim .inl (fun e=> .inr (.inl e))))).trans ((KX.tch T7.out).wide (fun z _ e=> .inr (.inr e)))).trans ((KX.tch T8).wide (fun z _ e=> .inl e))
end
end
section
open Go.RowKit
def aJ (l:List UInt8):List UInt8:=be l.length 2++l
def dw (L:List (List UInt8)):List UInt8:=L.flatMap aJ
def rdNum (size:Nat) (b:List UInt8):Option (Nat×List UInt8):=if 1≤size∧size≤8∧size≤b.length then some (cu (b.take size),b.drop size) else none
def Az (limit:Nat) (b:List UInt8):Option (List UInt8×List UInt8):=match rdNum 2 b with
 |none=>none
 |some (n,r)=>if limit<n∨r.length<n then none else some (r.take n,r.drop n)
abbrev Rd:=Option (List UInt8)
def Rd.bytes (limit:Nat) (st:Rd):List UInt8×Rd:=match st with
 |none=>([],none)
 |some b=>match Az limit b with
  |none=>([],none)
  |some (x,r)=>(x,some r)
theorem nM (n:Nat):(be n 2).length=2:=aQ 2 n
theorem Em {l r:List UInt8} {limit:Nat} (h:l.length≤limit) (h2:l.length≤65535):Az limit (aJ l++r)=some (l,r):=by
 have e:aJ l++r=be l.length 2++(l++r):=by unfold aJ;rw[List.append_assoc]
 have hn:rdNum 2 (aJ l++r)=some (l.length,l++r):=by
  unfold rdNum
  rw[e,if_pos ⟨Xf,Xf,by rw[List.length_append,nM];omega⟩,List.take_left' (nM _),List.drop_left' (nM _)]
  rw[rO 2 _ (by have :(256:Nat) ^ 2=65536:=by decide
                omega)]
 unfold Az
 rw[hn]
 show (if _ then _ else _)=_
 rw[if_neg (by rw[List.length_append];omega),List.take_left,List.drop_left]
theorem IW {l r:List UInt8} {limit:Nat} (h:l.length≤limit) (h2:l.length≤65535):Rd.bytes limit (some (aJ l++r))=(l,some r):=by
 unfold Rd.bytes
 simp only[Em h h2]
end
section
open Go.RowKit
def ng (limit:Nat):Nat→Rd→List (List UInt8)×Rd
 |0,st=>([],st)
 |k+1,st=>let (x,st1):=Rd.bytes limit st
          let (l,st2):=ng limit k st1
          (x::l,st2)
theorem zq (limit:Nat) (hl:limit≤65535):∀(L:List (List UInt8)) (r:List UInt8),(∀l∈L,l.length≤limit)→ng limit L.length (some (dw L++r))=(L,some r)
 | [],r,_=>rfl
 |x::L,r,h=>by
  have hx:=h x List.mem_cons_self
  have e:dw (x::L)++r=aJ x++(dw L++r):=by unfold dw;rw[List.flatMap_cons,List.append_assoc]
  have ih:=zq limit hl L r (fun l q=>h l (List.mem_cons_of_mem _ q))
  show ng limit (L.length+1) (some (dw (x::L)++r))=_
  unfold ng
  rw[e,IW hx Xf]
  simp only[ih]
def rowOk (b:List UInt8):Bool:=decide (b.length=0) || decide (b.length=80)
def dI (L:List (List UInt8)):List UInt8:=if L.any (fun l=>decide (0<l.length)) then dw L else []
def EI (arity:Nat) (b:List UInt8):Option (List (List UInt8)):=
 if b.length=0 then some (List.replicate arity [])
 else if (ng 80 arity (some b)).1.all rowOk && (decide ((ng 80 arity (some b)).2=some []) && (ng 80 arity (some b)).1.any (fun l=>decide (0<l.length))) then some (ng 80 arity (some b)).1 else none
theorem fLn (l:List UInt8):(aJ l).length=l.length+2:=by unfold aJ;rw[List.length_append,nM];omega
theorem Cu {L:List (List UInt8)} (h:L≠[]):0<(dw L).length:=by
 cases L with
 |nil=>exact absurd rfl h
 |cons x L=>
  unfold dw
  rw[List.flatMap_cons,List.length_append,fLn]
  omega
theorem Ca {L:List (List UInt8)} (h:∀l∈L,rowOk l=true):EI L.length (dI L)=some L:=by
 unfold dI
 by_cases ha:L.any (fun l=>decide (0<l.length))=true
 · rw[if_pos ha]
   have hne:L≠[]:=by rintro rfl;simp at ha
   have hd:ng 80 L.length (some (dw L))=(L,some []):=by
    have :=zq 80 Xf L [] (fun l q=>by
     have :=h l q
     unfold rowOk at this
     simp only[Bool.or_eq_true,decide_eq_true_eq] at this
     omega)
    rwa[List.append_nil] at this
   have hp:=Cu hne
   unfold EI
   rw[if_neg Xf,hd]
   have hall:L.all rowOk=true:=List.all_eq_true.2 h
   simp only[hall,ha,decide_true,Bool.and_self,if_true]
 · rw[if_neg ha]
   have e:L=List.replicate L.length []:=by
    refine List.eq_replicate_iff.2 ⟨rfl,fun l q=> ?_⟩
    have h1:¬0<l.length:=fun q2=>ha (List.any_eq_true.2 ⟨l,q,decide_eq_true q2⟩)
    exact List.length_eq_zero_iff.1 Xf
   show some (List.replicate L.length [])=some L
   rw[←e]
end
section
open Go.RowKit
structure Wtr (w0 w:World) (pw:Nat) (v:Value) (l:List UInt8):Prop where
 ge:w0.heap.size≤pw
 b:Blk w pw 231 [v]
 o:Own w0 w 5 1 v l.length (l.map u8c)
structure WtF (w0 w w':World) (pw:Nat) (v v':Value) (l:List UInt8):Prop where
 wt:Wtr w0 w' pw v' l
 t:Tch (fun z=>z=pw∨v.ownBlock=some z) w w'
 v:v'.ownBlock=v.ownBlock∨∀z,v'.ownBlock=some z→w.heap.size≤z
def WtX (pw:Nat) (v:Value) (A:Option Addr) (n:Nat):Prop:=∀b o,0<n→A=some ⟨b,o,none⟩→b≠pw∧v.ownBlock≠some b
section
variable {w0 w w' w'':World} {pw:Nat} {v v' v'':Value} {l l':List UInt8}
theorem Wtr.mono (h:Wtr w0 w pw v l) (g:Gr w w'):Wtr w0 w' pw v l:=⟨h.ge,h.b.mono g,h.o.mono g⟩
theorem WtF.pre {w1:World} (g:Gr w w1) (h:WtF w0 w1 w' pw v v' l):WtF w0 w w' pw v v' l:=⟨h.wt,(Tch.gr g).trans h.t,h.v.imp id (fun q z e=>Nat.le_trans g.size (q z e))⟩
theorem WtF.trans (h:WtF w0 w w' pw v v' l) (k:WtF w0 w' w'' pw v' v'' l'):WtF w0 w w'' pw v v'' l':=by
 refine⟨k.wt,h.t.trans' k.t (fun z hz q=> ?_),?_⟩
 · rcases q with e|e
   · exact .inl e
   · rcases h.v with q|q
     · exact .inr (by rw[←q];exact e)
     · have :=q z e;omega
 · rcases k.v with q|q
   · rcases h.v with q2|q2
     · exact .inl (q.trans q2)
     · exact .inr (fun z e=>q2 z (by rw[←q];exact e))
   · exact .inr (fun z e=>Nat.le_trans h.t.size (q z e))
theorem WtX.nx {A:Option Addr} {n c:Nat} {x:List UInt8} (h:WtX pw v A n) (hx:Bs w A n c x) (k:WtF w0 w w' pw v v' l):Bs w' A n c x∧WtX pw v' A n:=by
 have hl:∀b o,0<n→A=some ⟨b,o,none⟩→b<w.heap.size:=fun b o h0 e=>Bs.lt (r:=⟨A,n,c,x⟩) hx h0 b o e
 refine⟨⟨hx.1,hx.2.1,hx.2.2.1,fun h0=> ?_⟩,fun b o h0 e=>⟨(h b o h0 e).1,fun q=> ?_⟩⟩
 · obtain⟨b,o,e,hc⟩:=hx.2.2.2 h0
   exact⟨b,o,e,fun j u hu=>(World.cell?_of_block (w:=w) (a:=⟨b,o+j,none⟩) (k.t.keep b (hl b o h0 e) (fun q=>by
    rcases q with q|q
    · exact (h b o h0 e).1 q
    · exact (h b o h0 e).2 q))).trans (hc j u hu)⟩
 · rcases k.v with q2|q2
   · exact (h b o h0 e).2 (by rw[←q2];exact q)
   · have :=q2 b q;have :=hl b o h0 e;omega
theorem WtX.old {A:Option Addr} {n c:Nat} {x:List UInt8} (h:Wtr w0 w pw v l) (hx:Bs w0 A n c x):WtX pw v A n:=fun b o h0 e=>by
 have h1:=Bs.lt (r:=⟨A,n,c,x⟩) hx h0 b o e
 have h2:=h.ge
 exact⟨Xf,fun q=>by have :=h.o.ge q;omega⟩
theorem Dl (h:Wtr w0 w pw v l) (A:Option Addr) (n c:Nat) (x:List UInt8) (hx:Bs w A n c x) (hl:l.length≤100000) (hn:n≤100000):
 Calls Tryz.prog 273 #[.pointer (some ⟨pw,0,none⟩),.slice A n c] w fun e w'=>(∃u,e= .returned u)∧∃v',WtF w0 w w' pw v v' (l++x):=by
 have hge:=h.ge
 have HB:=Xh h.b;have HO:=Xh h.o;have HX:=Xh hx
 have hxl:x.length=n:=by have :=hx.len;simpa using this
 have HL:Hid ((l++x).length=l.length+n):=by show _=_;rw[List.length_append,hxl]
 have k0:=h.b.cell 0
 clear h hx hxl
 obtain⟨N,hN⟩:∃N,N=l.length:=⟨_,rfl⟩
 rw[←hN] at hl HO HL
 clear hN
 go_in
 go_wp2_with (at_builtin;refine qx rfl (.tmp 10) (.tmp 11) 43 rfl bC rfl HO.out rfl HX.out (eT _) Xf ?_;intro v1 w1 o1 kp;obtain⟨A1,c1,rfl,_⟩:=o1.slice;have T1:=Xh (kp.tch (gJ HO.out.below o1.below kp.2.1));have B1:=Xh (HB.out.tch T1.out (fun q=>by obtain⟨cs,z⟩:=HO.out.aA q;exact absurd (bTy z HB.out) Xg));have O1:=Xh o1;have KP:=Xh kp.2.2;clear o1 kp;have k1:=B1.out.cell 0;have f1:=Blk.free B1.out 0)
 go_end0
 have T2:Tch (fun z=>z=pw) w1 (w1.setCell ⟨pw,0,none⟩ (.slice A1 (N+n) c1)):=Tch.set ⟨pw,0,none⟩ _ rfl
 have nv:∀z,z=pw→∀b,(Value.slice A1 (N+n) c1).ownBlock=some b→¬b=z:=fun z e b q e2=>by
  obtain⟨cs,z2⟩:=O1.out.aA q
  rw[e2,e] at z2
  exact absurd (bTy z2 B1.out) Xg
 refine⟨⟨_,rfl⟩,_,⟨hge,B1.out.set 0 _,?_⟩,(T1.out.mono (fun z _ e=> .inr e)).trans (T2.mono (fun z _ e=> .inl e)),?_⟩
 · rw[HL.out,List.map_append]
   exact O1.out.tch T2 (fun z e=>by rw[e];exact hge) (fun b q e=>nv b e b q rfl)
 · rcases KP.out with q|q
   · exact .inl q
   · exact .inr (fun z e=>by rw[q] at e;injection e with e;omega)
theorem Ia (h:Wtr w0 w pw v l) (k:Nat) (hk:k≤65535) (hl:l.length≤100000):
 Calls Tryz.prog 272 #[.pointer (some ⟨pw,0,none⟩),.int .u64 (k:Int),.int .i64 2] w fun e w'=>(∃u,e= .returned u)∧∃v',WtF w0 w w' pw v v' (l++be k 2):=by
 have HP:=Xh (wG k 2 w Xf Xg Xg)
 have H:=Xh h
 clear h
 go_in
 go_wp2_with fail
 refine HP.out.mono ?_
 rintro e w1 ⟨v1,rfl,o1⟩
 rw[aQ] at o1
 obtain⟨A1,c1,rfl,s1⟩:=o1.slice
 have G1:=Xh (show Gr w w1 from o1.below)
 have HPU:=Xh (Dl (H.out.mono o1.below) A1 2 c1 (be k 2) s1 hl Xg)
 clear o1 s1
 go_wp2_with fail
 refine HPU.out.mono ?_
 rintro e w2 ⟨⟨u,rfl⟩,v',f2⟩
 have F2:=Xh (WtF.pre G1.out f2)
 clear f2
 go_wp2_with fail
 go_end0
 exact⟨⟨_,rfl⟩,v',F2.out⟩
theorem qI (h:Wtr w0 w pw v l) (A:Option Addr) (n c:Nat) (x:List UInt8) (hx:Bs w A n c x) (hap:WtX pw v A n) (hl:l.length≤90000) (hn:n≤65535):
 Calls Tryz.prog 196 #[.pointer (some ⟨pw,0,none⟩),.slice A n c] w fun e w'=>(∃u,e= .returned u)∧∃v',WtF w0 w w' pw v v' (l++aJ x):=by
 have hxl:x.length=n:=by have :=hx.len;simpa using this
 have HNU:=Xh (Ia h n hn Xf)
 have H:=Xh h;have HX:=Xh hx;have HAP:=Xh hap
 have hcap:=hx.cap;have hmax:=hx.max
 have hr1:=oM bC A n c n hcap
 have hmn:min (n:Int) 65535=(n:Int):=by omega
 have wn:IntKind.u64.wrap (n:Int)=(n:Int):=IntWalk.u64_in (n:Int) Xf
 have HF:Hid (l++aJ x=(l++be n 2)++x):=by show _=_;unfold aJ;rw[hxl,List.append_assoc]
 clear h hx hap hxl
 go_in
 go_wp2_with fail
 refine HNU.out.mono ?_
 rintro e w1 ⟨⟨u,rfl⟩,v1,f1⟩
 obtain⟨x1,ap1⟩:=HAP.out.nx HX.out f1
 have HPU:=Xh (Dl f1.wt A n c x x1 (by rw[List.length_append,aQ];omega) Xf)
 have F1:=Xh f1
 clear f1 x1 ap1
 go_wp2_with fail
 refine HPU.out.mono ?_
 rintro e w2 ⟨⟨u,rfl⟩,v2,f2⟩
 have F2:=Xh (F1.out.trans f2)
 clear f2
 go_wp2_with fail
 go_end0
 exact⟨⟨_,rfl⟩,v2,by rw[HF.out];exact F2.out⟩
theorem Dm (h:Wtr w0 w pw v l) (hl:l.length≤100000):
 Calls Tryz.prog 197 #[.pointer (some ⟨pw,0,none⟩)] w (fK w l):=by
 obtain⟨A,c,hv,s⟩:=h.o.slice
 have HCL:=Xh (jd A l.length c l w s Xf)
 have k0:=h.b.cell 0
 rw[hv] at k0
 clear h hv s
 go_in
 go_wp2_with fail
 refine HCL.out.mono ?_
 rintro e w1 ⟨v1,rfl,o1⟩
 have O1:=Xh o1
 clear o1
 go_wp2_with fail
 go_ret
 exact⟨v1,rfl,O1.out⟩
theorem MX (h:Wtr w0 w pw v l) (x:List UInt8) (hl:l.length≤90000) (hn:x.length≤65535):
 Calls Tryz.prog 313 #[.pointer (some ⟨pw,0,none⟩),.string ⟨x.toArray⟩] w fun e w'=>(∃u,e= .returned u)∧∃v',WtF w0 w w' pw v v' (l++aJ x):=by
 obtain⟨cf,wf,hcv0⟩:=Fh (P:=Tryz.prog) ⟨x.toArray⟩ 43 Tryz.underlying9 Tryz.underlying43 Tryz.underlying5 (by show x.toArray.size≤maxLen;rw[List.size_toArray];simp only[maxLen];omega)
 obtain⟨hcv,b1,g1,_⟩:=hcv0 w
 have hsz:(⟨x.toArray⟩:ByteArray).size=x.length:=by show x.toArray.size=_;rw[List.size_toArray]
 rw[hsz] at hcv b1
 have HBY:=Xh (qI (h.mono g1) (some ⟨w.heap.size,0,none⟩) x.length (cf w) x b1 (fun b o h0 e=>by
  injection e with e
  injection e with e1 _
  subst e1
  exact⟨by have :=h.b.lt;omega,fun q=>by have :=(h.o.1.lt _ q).2;omega⟩) hl hn)
 have G1:=Xh g1
 clear h g1 hcv0 b1 hsz
 go_in
 go_wp2_with fail
 refine HBY.out.mono ?_
 rintro e w2 ⟨⟨u,rfl⟩,v2,f2⟩
 have F2:=Xh (WtF.pre G1.out f2)
 clear f2
 go_wp2_with fail
 go_end0
 exact⟨⟨_,rfl⟩,v2,F2.out⟩
end
end
end Go.Proofs.YtipdlnejmcmbbaaGreatDoor
