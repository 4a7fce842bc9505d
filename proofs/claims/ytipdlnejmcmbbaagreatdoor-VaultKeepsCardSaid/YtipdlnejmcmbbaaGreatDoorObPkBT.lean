/- Own texts, one behind the other. No condition. -/
import Derived.Test.YtipdlnejmcmbbaaGreatDoorObPkBS
set_option linter.unusedVariables false
set_option maxRecDepth 100000
set_option maxHeartbeats 8000000
set_option linter.unusedSimpArgs false
namespace Go.Proofs.YtipdlnejmcmbbaaGreatDoor
section
open Go.RowKit Go.Maps
def WR (w w':World):Prop:=w.heap.size≤w'.heap.size∧∀b cs,Blk w b 29 cs→Blk w' b 29 cs
theorem tX {m:Mc} {n:Nat} {l:Int} {life base first gen:Nat} (P:List (Nat×List UInt8)) (hl:m.Live) (ho:m.Ok n):(m.eU l life base first gen P).Live∧(m.eU l life base first gen P).Ok (n+2*P.length+4)∧(m.eU l life base first gen P).d.kept.length=m.d.kept.length:=by
 obtain⟨h1,h2,h3⟩:=qG (l:=l) (life:=life) (base:=base) (first:=first) (gen:=gen) P m 0 n hl ho
 exact⟨(h1.flush.2.bY _ _ _ _ _ _ _ _ _).2.flush.2,((h2.flush.bY _ _ _ _ _ _ _ _ _).flush).le Xf,(iG _).trans ((xq _ _ _ _ _ _ _ _ _ _).trans ((iG _).trans h3))⟩
theorem Aq {m:Mc} {n:Nat} {a d l:Int} {x:Spr} {first gen:Nat} {Q:List (List UInt8)} {P:List (Nat×List UInt8)} (hl:m.Live) (ho:m.Ok n) (h3:3≤l) (h4:l≤64) (hb:x.base≤1000) (hP:(P.length:Int)<l):
 (m.commit a d l x first gen Q P).1.Live∧(m.commit a d l x first gen Q P).1.Ok (n+2*Q.length+2*P.length+8)∧(m.commit a d l x first gen Q P).1.d.kept.length=m.d.kept.length∧(m.commit a d l x first gen Q P).2.1.life≤x.life+1∧(m.commit a d l x first gen Q P).2.1.base≤1000∧(m.commit a d l x first gen Q P).2.1.gen=gen∧((m.commit a d l x first gen Q P).2.2:Int)≤l:=by
 unfold Mc.commit
 split
 · rename_i h
   obtain⟨h1,h2,h3⟩:=tX (l:=l) (life:=x.life) (base:=x.base) (first:=first) (gen:=gen) P hl ho
   exact⟨h1,h2.le Xf,h3,Nat.le_succ _,hb,rfl,by show ((first+P.length+1:Nat):Int)≤l;omega⟩
 · have hm:(x.base+first) % l.toNat<l.toNat:=Nat.mod_lt _ Xf
   obtain⟨h1,h2,h3⟩:=tX (l:=l) (life:=x.life+1) (base:=(x.base+first) % l.toNat) (first:=0) (gen:=gen) P (hl.begin a d l ⟨x.life+1,(x.base+first) % l.toNat,x.gen⟩ Q) (ho.begin a d l ⟨x.life+1,(x.base+first) % l.toNat,x.gen⟩ Q)
   exact⟨h1,h2.le Xf,h3.trans (sS _ _ _ _ _ _),Nat.le_refl _,by show (x.base+first) % l.toNat≤1000;omega,rfl,by show ((0+P.length+1:Nat):Int)≤l;omega⟩
section
variable {w0 w w':World} {L:Pl} {a d l:Int} {N:Nat} {m m':Mc} {n n':Nat} {x:Spr} {vl vk:Value} {next:Nat} {due:Bool} {pt ps b c:Nat} {R:List aj}
theorem Gm {vx vk:Value} {a d l:Int} (ht:Blk w pt 92 (jm L a d l vx vk false)):Calls Tryz.prog 58 #[.pointer (some ⟨pt,0,none⟩),.int .i64 0] w fun e w'=>e= .returned (.int .i64 0)∧Blk w' pt 92 (jm L a d l vx vk false)∧Tch (fun z=>z=pt) w w':=by
 have k7:=ht.cell 7
 have f7:=Blk.free ht 7
 have HT:=Xh ht
 clear ht
 go_in
 go_wp2_with fail
 go_ret
 exact⟨rfl,HT.out.set 7 _,Tch.set ⟨pt,7,none⟩ _ rfl⟩
theorem uN (h:TrG w0 L a d l N m n x vl next due vk pt ps b c R w):Calls Tryz.prog 54 #[.pointer (some ⟨pt,0,none⟩)] w fun e w'=>e= .returned (.int .u64 (x.gen:Int))∧w=w':=by
 have HG:=Xh (uL h.fx)
 obtain⟨s1,s2,s3,s4,s5,s6⟩:=h.cells
 clear h
 go_in
 go_wp2_with fail
 refine HG.out.mono ?_
 rintro e wd ⟨rfl,hwd⟩
 subst hwd
 go_wp2_with fail
 go_ret
 exact⟨rfl,rfl⟩
theorem uf (h:TrG w0 L a d l N m n x vl next due vk pt ps b c R w):Calls Tryz.prog 35 #[.pointer (some ⟨pt,0,none⟩)] w fun e w'=>e= .returned (.bool false)∧w=w':=by
 have HG:=Xh (DJ h.fx)
 obtain⟨s1,s2,s3,s4,s5,s6⟩:=h.cells
 have s7:=h.ft.cell 7
 clear h
 go_in
 go_wp2_with fail
 refine HG.out.mono ?_
 rintro e wd ⟨rfl,hwd⟩
 subst hwd
 go_wp2_with fail
 go_ret
 exact⟨rfl,rfl⟩
theorem Bh (h:TrG w0 L a d l N m n x vl next due vk pt ps b c R w):Calls Tryz.prog 52 #[.pointer (some ⟨pt,0,none⟩)] w fun e w'=>e= .returned (.int .i64 0)∧w=w':=by
 have HG:=Xh (uf h)
 clear h
 go_in
 go_wp2_with fail
 refine HG.out.mono ?_
 rintro e wd ⟨rfl,hwd⟩
 subst hwd
 go_wp2_with fail
 go_ret
 exact⟨rfl,rfl⟩
def Mc.lT (m:Mc) (a d l:Int) (x:Spr) (first:Nat) (nxt:List UInt8) (Q:List (List UInt8)) (P:List (Nat×List UInt8)):Mc×Spr×Nat:=(((((m.aT (x.gen+1) nxt).1.commit a d l x first (x.gen+1) Q P).1).aL x.gen).1,((m.aT (x.gen+1) nxt).1.commit a d l x first (x.gen+1) Q P).2)
theorem Ic {z:List UInt8}:∀{P:List (Nat×List UInt8)} {Q:List (List UInt8)},z∈gY Q P→z∈Q∨∃p∈P,z=p.2
 | [],Q,h=> .inl h
 |p::P,Q,h=>by
  rcases Ic (P:=P) h with h| ⟨q,hq,e⟩
  · rcases List.mem_or_eq_of_mem_set h with h|h
    · exact .inl h
    · exact .inr ⟨p,List.mem_cons_self,h⟩
  · exact .inr ⟨q,List.mem_cons_of_mem _ hq,e⟩
def TnF (w0:World) (L:Pl) (a d l:Int) (N n next pt ps b c pl:Nat) (r:Mc×Spr×Nat) (NA:Option Addr) (nc:Nat) (nxt:List UInt8) (Q:List (List UInt8)) (w w':World):Prop:=
 ∃pl' R2,(pl'=pl∨w.heap.size≤pl')∧TrG w0 L a d l N r.1 n r.2.1 (.pointer (some ⟨pl',0,none⟩)) next false (.slice NA 32 nc) pt ps b c R2 w'∧Blk w' pl' 294 (cB L a d l r.2.1.life r.2.1.base r.2.2)∧QB L.kb w' NA 32 nc nxt∧R2.map aj.l=Q∧KX (fun z=>z=pt∨z=ps∨z=pl∨z=b) L.kb w w'
theorem FZ {pl first c' KN kc:Nat} {A0 NA A':Option Addr} {nc:Nat} {nxt:List UInt8} {P:List aU} (h:TrG w0 L a d l N m n x (.pointer (some ⟨pl,0,none⟩)) next false (.slice A0 32 kc) pt ps b c R w) (hf:Fit m a d l) (hlv:m.Live) (hn:n+2*N+2*KN+20≤90000) (hptg:w0.heap.size≤pt) (hpsg:w0.heap.size≤ps) (hplg:w0.heap.size≤pl)
 (hlg:Blk w pl 294 (cB L a d l x.life x.base first)) (hN:QB L.kb w NA 32 nc nxt) (hP:Pgw w0 L.kb w A' c' KN P) (hk:∀y∈P,y.k<N) (hsm:∀y∈P,y.r.n≤473) (hKN:(KN:Int)<l) (hfi:(first:Int)≤l) (hxl:x.life<100000) (hxb:x.base≤1000) (hxg:x.gen<1000000) (r:Mc×Spr×Nat) (hr:r=m.lT a d l x first nxt (R.map aj.l) (P.map fun y=>(y.k,y.r.l))):
 Calls Tryz.prog 59 #[.pointer (some ⟨pt,0,none⟩),.slice NA 32 nc,.slice A' KN c'] w fun e w'=>e= .returned (.int .i64 0)∧TnF w0 L a d l N (n+2*N+2*KN+20) next pt ps b c pl r NA nc nxt (gY (R.map aj.l) (P.map fun y=>(y.k,y.r.l))) w w':=by
 obtain⟨h3,h4⟩:=h.g.l
 have hk2:2≤m.d.kept.length:=by
  have :=hf.s
  obtain⟨_,_,_,_,_,_,_,_,e1,_⟩:=h.g.nn
  unfold dS at this
  omega
 have hw0:=h.ms.below.size
 obtain⟨m1,hm1⟩:∃m1,m1=(m.aT (x.gen+1) nxt).1:=⟨_,rfl⟩
 have hlv1:m1.Live:=by rw[hm1];exact (hlv.aT _ _).2
 have hok1:m1.Ok (n+3):=by rw[hm1];exact h.ok.aT _ _
 have hf1:Fit m1 a d l:=⟨hf.g,by rw[hm1,iP];exact hf.s⟩
 have hPl:P.length=KN:=hP.pgw.s.1
 have hRN:R.length=N:=h.len
 obtain⟨k,hkd⟩:∃k,k=m1.commit a d l x first (x.gen+1) (R.map aj.l) (P.map fun y=>(y.k,y.r.l)):=⟨_,rfl⟩
 obtain⟨q1,q2,q3,q4,q5,q6,q7⟩:=Aq (d:=d) (a:=a) (first:=first) (gen:=x.gen+1) (Q:=R.map aj.l) (P:=P.map fun y=>(y.k,y.r.l)) hlv1 hok1 h3 h4 hxb (by rw[List.length_map,hPl];exact hKN)
 rw[←hkd] at q1 q2 q3 q4 q5 q6 q7
 rw[List.length_map,List.length_map,hPl,hRN] at q2
 obtain⟨m3,hm3⟩:∃m3,m3=(k.1.aL x.gen).1:=⟨_,rfl⟩
 have hre:r=(m3,k.2):=by rw[hr,hm3,hkd,hm1];rfl
 clear hr
 subst hre
 obtain⟨W,hW⟩:∃W,W=w.alloc (.cells #[.pointer (some ⟨pt,0,none⟩)] 68):=⟨_,rfl⟩
 have G0:Hid (Gr w W):=by show Gr _ _;rw[hW];exact Gr.alloc _ _
 have B0:Hid (Blk W w.heap.size 68 [.pointer (some ⟨pt,0,none⟩)]):=by show Blk _ _ _ _;rw[hW];exact Blk.new w _ _
 have HW:=Xh hW
 have HGN:=Xh (uN (h.gr G0.out))
 have hz1:(m.aT (x.gen+1) nxt).2=0:=(hlv.aT _ _).1
 have HRP:=Xh (fun wr (g:Gr w wr)=>xC (h.ms.mono g) h.ok Xf hk2 (x.gen+1) Xf NA nc nxt (hN.mono g).b)
 unfold jX at HRP
 rw[←hm1,hz1] at HRP
 have wg:IntKind.u64.wrap ((x.gen:Int)+1)=(x.gen:Int)+1:=IntWalk.u64_in ((x.gen:Int)+1) Xf
 have hcast:((x.gen+1:Nat):Int)=(x.gen:Int)+1:=by omega
 simp only[hcast] at HRP
 have HCO:=Xh (fun (wr:World) (t:TrG w0 L a d l N m1 (n+3) x (.pointer (some ⟨pl,0,none⟩)) next false (.slice A0 32 kc) pt ps b c R wr) (hlg:Blk wr pl 294 (cB L a d l x.life x.base first)) (hP:Pgw w0 L.kb wr A' c' KN P)=>
  yF t.ms hf1 hlv1 hok1 Xf hxb first (x.gen+1) Xf Xf hfi t.fx hlg hpsg hplg R t.fp t.hN (fun r hr=>Nat.le_trans (t.sm r hr) Xg) t.c2 t.c1 A' c' KN P hP hk hsm hKN Xf k hkd)
 simp only[hcast] at HCO
 have hz3:(k.1.aL x.gen).2=0:=(q1.aL _).1
 have HER:=Xh (fun (wr:World) (hms:MSt w0 L k.1 wr)=>mW hms q2 Xf (by rw[q3,hm1,iP];exact hk2) x.gen Xf)
 unfold jX at HER
 rw[←hm3,hz3] at HER
 have hok3:m3.Ok (n+2*N+2*KN+20):=by rw[hm3];exact (q2.aL x.gen).le Xf
 have HH:=Xh h;have HLG:=Xh hlg;have HN:=Xh hN;have HP:=Xh hP
 have HOK1:=Xh hok1;have HOK3:=Xh hok3;have HSM:=Xh hsm
 clear hcast h hf hlv hlg hN hP hk hsm hlv1 hok1 hf1 hm1 hm3 hz1 hz3 q1 q2 q3 hW hk2 hPl hok3 hkd q4 q5 q6 q7
 go_in
 go_upto_region 1 with fail
 rw[←HW.out]
 have v0:=B0.out.cell 0
 go_wp2_with fail
 refine HGN.out.mono ?_
 rintro e wz ⟨rfl,hwz⟩
 subst hwz
 go_upto_region 2 with fail
 obtain⟨W1,hW1⟩:∃W1,W1=W.alloc (.cells #[.int .u64 (x.gen:Int)] 95):=⟨_,rfl⟩
 rw[←hW1]
 have G1:Hid (Gr w W1):=G0.out.trans (by rw[hW1];exact Gr.alloc _ _)
 have B1:Hid (Blk W1 w.heap.size 68 [.pointer (some ⟨pt,0,none⟩)]):=by show Blk _ _ _ _;rw[hW1];exact B0.out.alloc _
 have U1:Hid (Blk W1 W.heap.size 95 [.int .u64 (x.gen:Int)]):=by show Blk _ _ _ _;rw[hW1];exact Blk.new W _ _
 clear hW1 v0
 generalize W.heap.size=pu at *
 refine wrU (KQ L.kb) 143 (fun w w' h=>h.1) (fun w w' b cs h hb=>h.sec hb) Xe [0,1,3,7,0,16,48,112,0,256,0,2047,4095] [.p 10,.q 0,.p 1,.p 2,.q 3,.q 4,.p 5,.p 6,.q 7,.q 8,.p 9,.t 11,.p 12] Xe (trivial) ?_
 refine gP ?_
 refine gQ (fun _ hq=>(B1.out.mono (Xk hq)).cell 0) ?_
 refine gP ?_
 refine gP ?_
 refine gQ (fun _ hq=>(HH.out.gr (G1.out.trans (Xk hq))).ft.cell 0) ?_
 refine gQ (fun _ hq=>(B1.out.mono (Xk hq)).cell 0) ?_
 refine gP ?_
 refine gP ?_
 refine gQ (fun _ hq=>(HH.out.gr (G1.out.trans (Xk hq))).cells) ?_
 refine gQ (fun _ hq=>(U1.out.mono (Xk hq)).cell 0) ?_
 refine gP ?_
 refine gT ?_
 intro w3 g3 K hK
 refine (HRP.out w3 (G1.out.trans ((Gr.drew _).trans g3))).mono ?_
 rintro e wn ⟨rfl,h4,k4⟩
 refine hK _ _ k4 ?_;have H4:=Xh h4;have K4:Hid (KQ L.kb W1 wn):=(KQ.gr ((Gr.drew W1).trans g3)).trans k4;clear g3 h4 k4 hK
 go_simp
 refine gP ?_
 refine wNi fun w5 g5=> ?_
 have K5:Hid (KQ L.kb W1 w5):=K4.out.trans (KQ.gr g5)
 have M5:=Xh (H4.out.mono g5)
 clear g5
 have T5:=Xh ((HH.out.gr G1.out).kq K5.out M5.out HOK1.out Xf)
 have B5:=Xh (K5.out.blk B1.out Xi Xd)
 have U5:=Xh (K5.out.blk U1.out Xi Xd)
 have L5:=Xh (K5.out.blk (HLG.out.mono G1.out) Xi Xd)
 have P5:=Xh ((HP.out.mono G1.out).kx (KX.kq (S:=fun _=>False) K5.out) M5.out.below (fun z s=>s.elim))
 have N5:=Xh ((HN.out.mono G1.out).kq K5.out)
 go_upto_region 5 with fail
 refine wrU WR 29 (fun w w' h=>h.1) (fun w w' b cs h hb=>h.2 b cs hb) Xe [0,1,3,7,0,0,32,127,0,511] [.p 4,.q 0,.p 1,.p 2,.q 3,.q 5,.p 6,.t 7,.m 8 29 #[.int .i64 0],.s 9] Xe (⟨⟨fun o ho ρ w=>by cases ho;kernel_rfl,rfl⟩,trivial⟩) ?_
 refine gP ?_
 refine gQ (fun _ hq=>(B5.out.mono (Xk hq)).cell 0) ?_
 refine gP ?_
 refine gP ?_
 refine gQ (fun _ hq=>(T5.out.gr (Xk hq)).cells) ?_
 refine gQ (fun _ hq=>(U5.out.mono (Xk hq)).cell 0) ?_
 refine gP ?_
 refine gT ?_
 intro w6 g6 K hK
 refine (HCO.out w6 (T5.out.gr ((Gr.drew _).trans g6)) (L5.out.mono ((Gr.drew _).trans g6)) (P5.out.mono ((Gr.drew _).trans g6))).mono ?_
 rintro e wn ⟨rfl,pl',hpl',h7,s7,l7,⟨R2,p7,hb7⟩,k7⟩
 have T6:=Xh (T5.out.gr ((Gr.drew w5).trans g6));have L6:=Xh (L5.out.mono ((Gr.drew w5).trans g6));have hS6:Hid (∀z,(z=ps∨z=pl∨z=b)→∃t cs,Blk w6 z t cs∧t≠29∧t≠68∧t≠95∧t≠92∧¬tyB t):=(fun z e=>by {rcases e with e|e|e;{subst e;exact⟨_,_,T6.out.fx,Xg,Xg,Xg,Xg,by unfold tyB;decide⟩};{subst e;exact⟨_,_,L6.out,Xg,Xg,Xg,Xg,by unfold tyB;decide⟩};{subst e;obtain⟨cs,z2⟩:=T6.out.fp.o.aA (b:=z) rfl;exact⟨_,_,z2,Xg,Xg,Xg,Xg,by unfold tyB;decide⟩}});refine hK _ _ ⟨k7.size,fun b' cs hb=>k7.blk hb Xi Xd (fun e=>by {obtain⟨t,cs',z2,h1,_⟩:=hS6.out _ e;exact h1 (bTy hb z2).symm})⟩ ?_;have H7:=Xh h7;have S7:=Xh s7;have L7:=Xh l7;have O7:=Xh p7;have HB7:=Xh hb7;have K7:=Xh k7;have HPL:Hid (pl'=pl∨W1.heap.size≤pl'):=hpl'.imp id (fun q=>Nat.le_trans K5.out.1 (Nat.le_trans ((Gr.drew w5).trans g6).size q));have B6:=Xh (B5.out.mono ((Gr.drew w5).trans g6));have U6:=Xh (U5.out.mono ((Gr.drew w5).trans g6));have N6:=Xh (N5.out.mono ((Gr.drew w5).trans g6));have K6:Hid (KX (fun z=>z=ps∨z=pl∨z=b) L.kb w w6):=(KX.gr G1.out).trans ((KX.kq K5.out).trans (KX.gr ((Gr.drew w5).trans g6)));clear g6 h7 s7 l7 k7 p7 hb7 hpl' hK
 go_simp
 refine EG rfl rfl ?_
 intro w8 pf g8 hpf hblk hI
 have F8:=Xh hblk
 have G8:=Xh g8
 have hpfw:w5.heap.size≤pf:=hpf
 clear hI hblk g8 hpf
 go_simp
 refine dV rfl rfl ?_
 intro w9 g9 K hK
 have F9:=Xh (F8.out.mono g9)
 have G9:=Xh (G8.out.trans g9)
 have f0:=Blk.free F9.out 0
 have x0:=F9.out.cell 0
 clear g9
 go_simp
 refine hK _ _ ?_
 clear hK f0 x0
 go_simp
 refine wNi fun wa ga=> ?_
 have nS:∀{g:Nat} {t:TypeId} {cs:List Value},Blk w6 g t cs→(t=68∨t=95∨t=92)→¬(g=ps∨g=pl∨g=b):=fun hg ht q=>by
  obtain⟨t',cs',z2,_,h2,h3,h4,_⟩:=hS6.out _ q
  have :=bTy hg z2
  subst this
  rcases ht with e|e|e
  · exact h2 e
  · exact h3 e
  · exact h4 e
 have B9:=(K7.out.blk B6.out Xi Xd (nS B6.out (.inl rfl))).mono G9.out
 have U9:=(K7.out.blk U6.out Xi Xd (nS U6.out (.inr (.inl rfl)))).mono G9.out
 have T9:=(K7.out.blk T6.out.ft Xi Xd (nS T6.out.ft (.inr (.inr rfl)))).mono G9.out
 have N9:=(N6.out.kx K7.out (fun z e=>by obtain⟨t,cs,z2,_,_,_,_,h5⟩:=hS6.out z e;exact⟨t,cs,z2,h5⟩)).mono G9.out
 have S9:=S7.out.mono G9.out;have L9:=L7.out.mono G9.out;have O9:=O7.out.mono G9.out;have H9:=H7.out.mono G9.out
 have Ta:Tch (fun z=>z=pf) w9 wa:=(Tch.set (S:=fun z=>z=pf) ⟨pf,0,none⟩ _ rfl).trans (Tch.gr ga)
 have nf:∀{g:Nat} {t:TypeId} {cs:List Value},Blk w9 g t cs→t≠29→¬g=pf:=fun hg hne e=>by
  rw[e] at hg
  exact hne (bTy hg F9.out)
 have Fa:Hid (Blk wa pf 29 [.int .i64 0]):=Blk.mono (w:=w9.setCell ⟨pf,0,none⟩ (.int .i64 0)) (F9.out.set 0 (.int .i64 0)) ga
 have tyf:∀z,z=pf→∃t cs,Blk w9 z t cs∧¬tyB t:=fun z e=>by subst e;exact⟨_,_,F9.out,by unfold tyB;decide⟩
 have Ba:=Xh (B9.tch Ta (nf B9 Xg))
 have Ua:=Xh (U9.tch Ta (nf U9 Xg))
 have FTa:=Xh (T9.tch Ta (nf T9 Xg))
 have Sa:=Xh (S9.tch Ta (nf S9 Xg))
 have La:=Xh (L9.tch Ta (nf L9 Xg))
 have Na:=Xh (N9.gK Ta tyf)
 have Ha:Hid (MSt w0 L k.1 wa):=H9.off Ta (fun z e=>by have :=M5.out.below.size;omega) (fun z e=>e▸⟨_,_,F9.out,by unfold tyA tyM;decide⟩)
 have Oa:Hid (Pgo w0 L.kb wa b c N R2):=O9.kx (KX.tch Ta) Ha.out.below (fun z e=>⟨fun q=>by
  obtain⟨cs,z2⟩:=O9.o.aA (b:=b) rfl
  exact nf z2 Xg (q▸e),tyf z e⟩)
 have Xa:Hid (KX (fun z=>z=ps∨z=pl∨z=b) L.kb w wa):=((K6.out.trans K7.out).trans (KX.gr G9.out)).new (KX.tch Ta) (fun z e=> .inr (by have :=K5.out.1;have :=G1.out.size;subst e;omega))
 clear B9 U9 T9 N9 S9 L9 O9 H9 Ta nf tyf nS ga
 have f0:=Fa.out.cell 0
 have v0:=Ba.out.cell 0
 have t6:=FTa.out.cell 6
 have fz6:=Blk.free FTa.out 6
 go_upto_region 11 with fail
 obtain⟨wb,hwb⟩:∃wb,wb=wa.setCell ⟨pt,6,none⟩ (.slice NA 32 nc):=⟨_,rfl⟩
 rw[←hwb]
 have Tb:Tch (fun z=>z=pt) wa wb:=by rw[hwb];exact Tch.set ⟨pt,6,none⟩ _ rfl
 have FTb:Hid (Blk wb pt 92 (jm L a d l (.pointer (some ⟨ps,0,none⟩)) (.slice NA 32 nc) false)):=by show Blk _ _ _ _;rw[hwb];exact FTa.out.set 6 _
 have np:∀{g:Nat} {t:TypeId} {cs:List Value},Blk wa g t cs→t≠92→¬g=pt:=fun hg hne e=>by
  rw[e] at hg
  exact hne (bTy hg FTa.out)
 have typ:∀z,z=pt→∃t cs,Blk wa z t cs∧¬tyB t:=fun z e=>by subst e;exact⟨_,_,FTa.out,by unfold tyB;decide⟩
 have Bb:=Xh (Ba.out.tch Tb (np Ba.out Xg))
 have Ub:=Xh (Ua.out.tch Tb (np Ua.out Xg))
 have Sb:=Xh (Sa.out.tch Tb (np Sa.out Xg))
 have Lb:=Xh (La.out.tch Tb (np La.out Xg))
 have Nb:=Xh (Na.out.gK Tb typ)
 have Hb:Hid (MSt w0 L k.1 wb):=Ha.out.off Tb (fun z e=>e▸hptg) (fun z e=>e▸⟨_,_,FTa.out,oQ⟩)
 have Ob:Hid (Pgo w0 L.kb wb b c N R2):=Oa.out.kx (KX.tch Tb) Hb.out.below (fun z e=>⟨fun q=>by
  obtain⟨cs,z2⟩:=Oa.out.o.aA (b:=b) rfl
  exact np z2 Xg (q▸e),typ z e⟩)
 have Xb:Hid (KX (fun z=>z=pt∨z=ps∨z=pl∨z=b) L.kb w wb):=(Xa.out.wide (fun z _ e=> .inr e)).trans ((KX.tch Tb).wide (fun z _ e=> .inl e))
 clear hwb Tb np typ f0 v0 t6 fz6
 refine wrU (KQ L.kb) 143 (fun w w' h=>h.1) (fun w w' b cs h hb=>h.sec hb) Xe [0,1,3,7,0,31,63] [.q 0,.p 1,.p 2,.q 3,.q 4,.t 5,.p 6] Xe (trivial) ?_
 refine gQ (fun _ hq=>(Bb.out.mono (Xk hq)).cell 0) ?_
 refine gP ?_
 refine gP ?_
 refine gQ (fun _ hq=>(FTb.out.mono (Xk hq)).cell 0) ?_
 refine gQ (fun _ hq=>(Ub.out.mono (Xk hq)).cell 0) ?_
 refine gT ?_
 intro wc gc K hK
 refine (HER.out wc (Hb.out.mono ((Gr.drew _).trans gc))).mono ?_
 rintro e wn ⟨rfl,h4,k4⟩
 refine hK _ _ k4 ?_;have H4:=Xh h4;have K4:Hid (KQ L.kb wb wn):=(KQ.gr ((Gr.drew wb).trans gc)).trans k4;clear gc h4 k4 hK
 go_simp
 refine gP ?_
 refine wNi fun wd gd=> ?_
 have Kd:Hid (KQ L.kb wb wd):=K4.out.trans (KQ.gr gd)
 have Hd:=Xh (H4.out.mono gd)
 clear gd
 go_wp2_with fail
 go_ret
 have Od:=Ob.out.kx (KX.kq (S:=fun _=>False) Kd.out) Hd.out.below (fun z s=>s.elim)
 refine⟨rfl,pl',R2,HPL.out.imp id (fun q=>Nat.le_trans G1.out.size q),⟨Hd.out,HOK3.out,Xf,HH.out.g,HH.out.hN,Kd.out.blk FTb.out Xi Xd,Kd.out.blk Sb.out Xi Xd,Od,HH.out.c1,HH.out.c2,fun r hr=> ?_⟩,Kd.out.blk Lb.out Xi Xd,Nb.out.kq Kd.out,HB7.out,Xb.out.trans (KX.kq Kd.out)⟩
 have e1:r.l.length=r.n:=by have :=(Od.q r hr).b.len;simpa using this
 have e2:r.l∈gY (R.map aj.l) (P.map fun y=>(y.k,y.r.l)):=by rw[←HB7.out];exact List.mem_map_of_mem hr
 rw[←e1]
 rcases Ic e2 with q| ⟨y,hy,q⟩
 · obtain⟨r',hr',e⟩:=List.mem_map.1 q
   have :=HH.out.sm r' hr'
   have e3:r'.l.length=r'.n:=by have :=(HH.out.fp.q r' hr').b.len;simpa using this
   rw[←e];omega
 · obtain⟨y',hy',e⟩:=List.mem_map.1 hy
   have :=HSM.out y' hy'
   have e3:y'.r.l.length=y'.r.n:=by have :=(HP.out.q y' hy').b.len;simpa using this
   rw[q,←e]
   show y'.r.l.length≤473
   omega
end
end
section
open Go.RowKit
def iX (cs:Nat→Option (List UInt8×List UInt8)) (T:List TcV) (s:Nat):Option (List UInt8×List UInt8):=match dB T s with
 |none=>cs s
 |some t=>if t.d.g then none else some (t.d.h,t.d.v)
section
variable {a d l:Int} {NN LV N:Nat} {T:List TcV}
theorem Ht {a:Nat} (ha:0<a) (q:Nat):Sub a 0 q:=by
 induction q using Nat.strongRecOn with
 |ind q ih=>
  rcases Nat.eq_zero_or_pos q with e|hq
  · subst e;exact dY a 0
  · exact (jw hq).2 (.inr (ih _ (qp ha hq)))
theorem yG {k:Nat}:(k:Int)∈iH T↔∃t,dB T k=some t:=by
 unfold iH dB
 rw[←Option.isSome_iff_exists,List.find?_isSome,List.mem_map]
 constructor
 · rintro⟨t,ht,e⟩
   exact⟨t,List.mem_reverse.2 ht,by rw[beq_iff_eq];omega⟩
 · rintro⟨t,ht,e⟩
   exact⟨t,List.mem_reverse.1 ht,by rw[beq_iff_eq] at e;omega⟩
theorem qY (hN:av a d l=(NN:Int)) (hL:ay a d l=(LV:Int)) (hT:∀t∈T,t.d.s<LV) (q:Nat):(gN a d l T).contains (q:Int)=true↔∃k t,dB T k=some t∧k<LV∧Sub a.toNat q (NN+k):=by
 have hp:∀k,k<LV→upI a d l (aW a d l (k:Int))=(upL a.toNat (NN+k)).map fun (n:Nat)=>(n:Int):=fun k hk=>by
  unfold aW
  rw[if_pos ⟨Xf,Xf⟩,Km (fB ⟨Xf,Xf⟩)]
  congr 2
  omega
 unfold gN
 rw[List.contains_iff_mem,←Qm,gG,List.mem_flatMap]
 constructor
 · rintro⟨s,hs,hq⟩
   obtain⟨t,ht,rfl⟩:=List.mem_map.1 hs
   have hk:=hT t ht
   obtain⟨t',ht'⟩:=yG.1 hs
   refine⟨t.d.s,t',ht',hk,?_⟩
   rw[hp _ hk,mem_cast] at hq
   unfold Sub
   have :=hq.2
   rwa[Int.toNat_natCast] at this
 · rintro⟨k,t,ht,hk,hs⟩
   refine⟨(k:Int),yG.2 ⟨t,ht⟩,?_⟩
   rw[hp k hk,mem_cast,Int.toNat_natCast]
   exact⟨Xf,hs⟩
theorem Vt (ha:0<a) (hN:av a d l=(NN:Int)) (hL:ay a d l=(LV:Int)) (hP:a.toNat*NN+1=NN+LV) (hT:∀t∈T,t.d.s<LV) (go:∀t∈T,t.d.g=false→0<t.d.h.length∧t.d.h.length≤60∧aB t.d.h=true∧t.d.v.length≤350) (cs:Nat→Option (List UInt8×List UInt8)):
 Chs a.toNat NN (fun k=>(dB T k).map cgT) (fun q=>(gN a d l T).contains (q:Int)) cs (iX cs T):=by
 refine⟨fun s hs=> ?_,fun s hs=> ?_,fun p q hpq hq=> ?_⟩
 · obtain⟨k,t,ht,hk,hsub⟩:=(qY hN hL hT _).1 hs
   have :=KE (NN:=NN) Xf (Nat.le_add_right NN s) (show In a.toNat NN (NN+s) (NN+k) from⟨hsub,Xf⟩)
   obtain rfl:k=s:=by omega
   refine⟨cgT t,by show (dB T k).map cgT=_;rw[ht];rfl,by unfold iX;rw[ht];rfl,fun hg=>go t (iB ht).1 hg⟩
 · unfold iX
   cases h:dB T s with
   |none=>rfl
   |some t=>
    have :=(qY hN hL hT (NN+s)).2 ⟨s,t,h,by have :=hT t (iB h).1;have :=(iB h).2;omega,dY _ _⟩
    exact absurd (hs.symm.trans this) Xg
 · obtain⟨k,t,ht,hk,hsub⟩:=(qY hN hL hT q).1 hq
   exact (qY hN hL hT p).2 ⟨k,t,ht,hk,vF hpq hsub⟩
theorem Hz (ha:0<a) (hN:av a d l=(NN:Int)) (hL:ay a d l=(LV:Int)) (hT:∀t∈T,t.d.s<LV) (h0:T≠[]):(gN a d l T).contains ((0:Nat):Int)=true:=by
 cases T with
 |nil=>exact absurd rfl h0
 |cons t T=>
  obtain⟨t',ht'⟩:=yG.1 (show (t.d.s:Int)∈iH (t::T) from List.mem_cons_self)
  exact (qY hN hL hT 0).2 ⟨t.d.s,t',ht',hT t List.mem_cons_self,Ht Xf _⟩
theorem VY (S:List Int) (k:Nat):(jl a d l S k).Pairwise (·≤·):=by
 unfold jl
 rw[List.pairwise_map]
 exact (List.pairwise_lt_range.filter _).imp (fun {x y} h=>by omega)
theorem Oy {P:List (Nat×List UInt8)} {L:List Int} (h1:∀x∈P,L.contains ((x.1:Nat):Int)=true∧(P.map Prod.fst).count x.1=1):P.length≤L.length:=by
 have hnd:(P.map Prod.fst).Nodup:=by
  rw[List.nodup_iff_count]
  intro q
  by_cases hq:q∈P.map Prod.fst
  · obtain⟨x,hx,rfl⟩:=List.mem_map.1 hq
    exact Nat.le_of_eq (h1 x hx).2
  · rw[List.count_eq_zero.2 hq];exact Nat.zero_le _
 have hnd2:((P.map Prod.fst).map fun (n:Nat)=>(n:Int)).Nodup:=by
  unfold List.Nodup at hnd ⊢
  rw[List.pairwise_map]
  exact hnd.imp (fun {x y} h e=>h Xf)
 have :=hnd2.length_le_of_subset (l₂:=L) (fun z hz=>by
  obtain⟨q,hq,rfl⟩:=List.mem_map.1 hz
  obtain⟨x,hx,rfl⟩:=List.mem_map.1 hq
  exact List.contains_iff_mem.1 (h1 x hx).1)
 rwa[List.length_map,List.length_map] at this
theorem CZ {q:Nat}:∀(P:List (Nat×List UInt8)) (Q:List (List UInt8)),q<Q.length→(gY Q P).getD q []=jZ (fun q=>Q.getD q []) P q
 | [],Q,_=>rfl
 |x::P,Q,hq=>by
  show (gY (Q.set x.1 x.2) P).getD q []=jZ (fun q'=>if q'=x.1 then x.2 else Q.getD q' []) P q
  rw[CZ P _ (by rw[List.length_set];exact hq)]
  refine uJ ?_
  show (Q.set x.1 x.2).getD q []=if q=x.1 then x.2 else Q.getD q []
  rw[List.getD_eq_getElem?_getD,List.getElem?_set]
  by_cases h:x.1=q
  · rw[if_pos h,if_pos Xf,if_pos h.symm];rfl
  · rw[if_neg h,if_neg (fun e=>h e.symm),List.getD_eq_getElem?_getD]
end
end
section
open Go.RowKit Go.Maps
structure TrV (w0:World) (L:Pl) (a d l:Int) (N:Nat) (m:Mc) (n:Nat) (x:Spr) (next pt ps b c pl:Nat) (A:Option Addr) (kc first:Nat) (R:List aj) (K:Nat→List UInt8) (cs:Nat→Option (List UInt8×List UInt8)) (w:World):Prop where
 tp:TrG w0 L a d l N m n x (.pointer (some ⟨pl,0,none⟩)) next false (.slice A 32 kc) pt ps b c R w
 lg:Blk w pl 294 (cB L a d l x.life x.base first)
 ke:QB L.kb w A 32 kc (K 0)
 ti:TrI a d l m.T (R.map aj.l) K cs
 lv:m.Live
 ft:Fit m a d l
 gt:w0.heap.size≤pt
 gs:w0.heap.size≤ps
 gl:w0.heap.size≤pl
 fi:(first:Int)≤l
 xb:x.base≤1000
section
variable {w0 w w':World} {L:Pl} {a d l:Int} {N:Nat} {m:Mc} {n:Nat} {x:Spr} {next pt ps b c pl kc first:Nat} {A:Option Addr} {R:List aj} {K:Nat→List UInt8} {cs:Nat→Option (List UInt8×List UInt8)}
theorem TrV.gr (h:TrV w0 L a d l N m n x next pt ps b c pl A kc first R K cs w) (g:Gr w w'):TrV w0 L a d l N m n x next pt ps b c pl A kc first R K cs w':=⟨h.tp.gr g,h.lg.mono g,h.ke.mono g,h.ti,h.lv,h.ft,h.gt,h.gs,h.gl,h.fi,h.xb⟩
theorem Vx:∀{d:Nat},d≤3→grM d≤600
 |0,_=>by decide
 |1,_=>by decide
 |2,_=>by decide
 |3,_=>by decide
 |d+4,h=>by omega
theorem Jy (g:Geo a d l) {NN LV:Nat} (hN:av a d l=(NN:Int)) (hL:ay a d l=(LV:Int)) (hNp:(N:Int)=au a d l) {T0:List Nd} {Q:List (List UInt8)} (hQ:Q.length=N) (hI:TrI a d l T0 Q K cs) (hT0:T0.length+1000≤90000) {T:List TcV} (hT:∀t∈T,t.d.s<LV) (go:∀t∈T,t.d.g=false→0<t.d.h.length∧t.d.h.length≤60∧aB t.d.h=true∧t.d.v.length≤350) (h0:T≠[]):
 ∃T' P K1,gU a.toNat NN (fun q=>Q.getD q []) (fun k=>(dB T k).map cgT) (fun q=>(gN a d l T).contains (q:Int)) d.toNat 0 (K 0) (aC (aG T0).2) ((aG T0).1,[])=some (T',P)∧T'.length≤T0.length+601∧(SzT T0→SzT T')∧(∀y∈P,y.1<N∧y.2.length≤473)∧P.length≤(gN a d l T).length∧TrI a d l T' (gY Q P) K1 (iX cs T)∧K1 0=aC (aG T0).2:=by
 obtain⟨X,y,rfl,rfl,h1,h2,h3,h4,e1,e2,e3,e4,e5⟩:=g.nn
 have hNN:ndN X y=NN:=by omega
 rw[hNN] at e3 e4 e5
 have hpp:(au (X:Int) (y:Int) l).toNat=X*NN+1:=by omega
 have hNX:N=X*NN+1:=by omega
 have hPL:(X:Int).toNat*NN+1=NN+LV:=by
  have hp2:au (X:Int) (y:Int) l=av (X:Int) (y:Int) l+ay (X:Int) (y:Int) l:=rfl
  rw[Int.toNat_natCast]
  omega
 have hc:=Vt (a:=(X:Int)) (d:=(y:Int)) (l:=l) Xf hN hL hPL hT go cs
 have hat:(aG T0).1.length=T0.length+1:=by unfold aG;simp
 have hok:=hI.ok
 rw[hpp,hN,Int.toNat_natCast NN] at hok
 rw[Int.toNat_natCast] at hc hok ⊢
 rw[Int.toNat_natCast]
 have hgm:=Vx h4
 obtain⟨T',P,K1,e,hk,Rs⟩:=JZ (Q:=fun q=>Q.getD q []) (K:=K) Xf h2 hc y 0 Xf (Hz Xf hN hL hT h0) (fun q _ hq=>by
  have :=JM g (q:=q) (by rw[hN];omega)
  rwa[Int.toNat_natCast,Int.toNat_natCast] at this) (aC (aG T0).2) (aG T0).1 [] (cO _) Xf (fun q hq=>(hok q hq.2).to (kS T0) rfl rfl (fun _ _ _=>rfl) (fun _=>rfl))
 have hin:∀q,q<X*NN+1→In X NN 0 q:=fun q hq=>⟨Ht Xf q,hq⟩
 have hln:=Rs.ln
 refine⟨T',P,K1,by rw[e];rfl,Xf,fun z=>Rs.sz z.atom,fun y hy=>⟨by rw[hNX];exact (Rs.pg y hy).1.2,(Rs.pg y hy).2.2⟩,Oy (fun z hz=>⟨(Rs.pg z hz).2.1,Rs.ct z.1 (Rs.pg z hz).1 (Rs.pg z hz).2.1⟩),⟨by rw[hk];exact cO _,fun q hq=> ?_⟩,hk⟩
 rw[hpp] at hq
 rw[Int.toNat_natCast]
 rw[hN,Int.toNat_natCast]
 exact (Rs.ok q (hin q hq)).to (Onto.refl _) (CZ P Q Xf) rfl (fun _ _ _=>rfl) (fun _=>rfl)
end
end
end Go.Proofs.YtipdlnejmcmbbaaGreatDoor
