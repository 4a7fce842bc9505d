/- Own texts, one behind the other. No condition. -/
import Derived.Test.YtipdlnejmcmbbaaGreatDoorObPkBR
set_option linter.unusedVariables false
set_option maxRecDepth 100000
set_option maxHeartbeats 8000000
set_option linter.unusedSimpArgs false
namespace Go.Proofs.YtipdlnejmcmbbaaGreatDoor
section
open Go.RowKit Go.Maps
def mH (W:Wk) (p:Nat):List UInt8:=(W.R.map aj.l).getD p []
structure NdS (W:Wk) (w:World) (KA NA:Option Addr) (kn kc nc:Nat) (key nxt:List UInt8) (bo:Nat) (RR:List aj) (s:TS) (w':World):Prop where
 s:WkS W s w'
 ke:QB W.L.kb w' KA kn kc key
 nx:QB W.L.kb w' NA 32 nc nxt
 pr:Pgo W.w0 W.L.kb w' bo RR.length RR.length RR
 y:KY W.L.kb w w'
section
variable {W:Wk} {s s':TS} {w w' w'':World} {NN bo kn kc nc:Nat} {KA NA:Option Addr} {key nxt:List UInt8} {RR:List aj}
theorem NdS.gr (h:NdS W w KA NA kn kc nc key nxt bo RR s w') (g:Gr w' w''):NdS W w KA NA kn kc nc key nxt bo RR s w'':=⟨h.s.gr g,h.ke.mono g,h.nx.mono g,h.pr.mono g,h.y.trans (KY.gr g)⟩
theorem NdS.ky (h:NdS W w KA NA kn kc nc key nxt bo RR s w') (k:KY W.L.kb w' w'') (h':WkS W s' w''):NdS W w KA NA kn kc nc key nxt bo RR s' w'':=⟨h',h.ke.ky k,h.nx.ky k,h.pr.ky k h'.tp.ms.below,h.y.trans k⟩
theorem NdS.set (h:NdS W w KA NA kn kc nc key nxt bo RR s w') (hb:bo≠W.b) (hw:w.heap.size≤bo) (j:Nat) (r:aj) (hr:QB W.L.kb w' r.a r.n r.c r.l):NdS W w KA NA kn kc nc key nxt bo (RR.set j r) s (w'.setCell ⟨bo,j,none⟩ r.v):=by
 obtain⟨cs,zb⟩:=h.pr.o.aA (b:=bo) rfl
 have T:Tch (fun z=>z=bo) w' (w'.setCell ⟨bo,j,none⟩ r.v):=Tch.set ⟨bo,j,none⟩ _ rfl
 have hty:∀z,z=bo→∃t cs,Blk w' z t cs∧¬tyB t:=fun z e=>by subst e;exact⟨_,_,zb,by unfold tyB;decide⟩
 exact⟨h.s.set h.pr hb _,h.ke.gK T hty,h.nx.gK T hty,by rw[List.length_set];exact h.pr.set j r hr,h.y.new T (fun b e=>e▸hw)⟩
theorem D9 (hC:WkC W NN) (hS:W.S.length≤1000) {f:Nat} (hR:∀p,p<NN→∃rows,(rows.length:Int)=W.a∧mH W p=dI rows∧∀x∈rows,rowOk x=true) (ih:∀q,q<NN→EH W (gU W.a.toNat NN (mH W) (chW W) (jY W) f) q) {p:Nat} (hp:p<NN):EH W (gU W.a.toNat NN (mH W) (chW W) (jY W) (f+1)) p:=by
 intro s s' w KA NA kn kc nc key nxt h hk hx e hn hP
 obtain⟨rows,hX,hQ,hro⟩:=hR p hp
 obtain⟨X,hXe⟩:∃X,X=rows.length:=⟨_,rfl⟩
 have haX:W.a=(X:Int):=by rw[hXe];exact hX.symm
 have hXN:W.a.toNat=X:=by rw[haX];rfl
 unfold gU at e
 rw[hXN] at e ih
 rw[hQ,hXe,Ca hro,←hXe,Option.bind_some] at e
 obtain⟨y,hf,e⟩:=Option.map_eq_some_iff.1 e
 have hX4:X≤4:=by obtain⟨_,_,e,_,_,e4,_⟩:=h.tp.g.nn;omega
 have hpn:au W.a W.d W.l=((X*NN+1:Nat):Int):=by
  obtain⟨x,y,e1,e2,_,_,_,_,e3,_,e4,_⟩:=h.tp.g.nn
  rw[e4]
  have h1:=hC.nn
  rw[e3] at h1
  have :ndN x y=NN:=by omega
  rw[this,show x=X by omega]
 have hpN:p<W.N:=by
  have h1:=h.tp.hN
  rw[hpn] at h1
  have :=oN (a:=X) (k:=0) (p:=p) (NN:=NN) (q:=0) hp
  have h2:1*NN≤X*NN∨X=0:=by rcases Nat.eq_zero_or_pos X with h|h;exact .inr h;exact .inl (Nat.mul_le_mul_right NN h)
  obtain⟨x,y,e1,_,h2',_⟩:=h.tp.g.nn
  omega
 have HPG:=Xh (fun wr (g:Gr w wr)=>(h.gr g).tp.page p hpN)
 rw[show (W.R.map aj.l).getD p []=dI rows from hQ] at HPG
 have HDC:=Xh (fun wr A m c (q:Bs wr A m c _)=>qM (kb:=W.L.kb) h.tp.g X haX.symm A m c rows hXe.symm hro q)
 have HCH:=Xh (fun k (hk:(k:Nat)<X) wr=>Df W.a W.d W.l p k wr)
 have hce:∀k,k<X→lN W.a W.d W.l p k=((X*p+1+k:Nat):Int):=fun k hk=>by
  have :=zJ (k:=k) h.tp.g (p:=p) (by rw[hC.nn];omega) Xf
  rwa[haX] at this ⊢
 have HCE:=Xh hce
 have HCK:=Xh (fun k (hk:k<X) (sk:TS) (r:List UInt8×TS) (RA:Option Addr) (rn rc:Nat) (row:List UInt8) (RR:List aj) bo wr (hN:NdS W w KA NA kn kc nc key nxt bo RR sk wr) (hr:QB W.L.kb wr RA rn rc row) (hrn:rn≤60000) hcm h1 h2=>DY (nd:=gU X NN (mH W) (chW W) (jY W) f) (q:=X*p+1+k) hN.s hC (by
  have h1:=h.tp.hN
  rw[hpn] at h1
  have :=oN (a:=X) (k:=k) (p:=p) (NN:=NN) (q:=0) hp hk
  omega) hS (fun k x s s' e=>sO f _ k x s s' e) (fun q _=>ih _ q) hN.ke hr hrn (r:=r) hcm h1 h2)
 have HEN:=Xh (fun wr A c R hs hr hok=>BQ (w:=wr) h.tp.g A X c R haX.symm hs hr hok)
 have HH:=Xh h;have HK:=Xh hk;have HX:=Xh hx;have HF:=Xh hf;have HRO:=Xh hro;have HXE:=Xh hXe
 have hy1:y.2.1.length≤W.n:=by rw[←e] at hn;exact hn
 have hy2:y.2.2.length+1≤900:=by rw[←e] at hP;simp at hP;omega
 have HE:=Xh e
 have hb0:W.b<w.heap.size:=by
  obtain⟨cs,z⟩:=h.tp.fp.o.aA (b:=W.b) rfl
  exact z.lt
 clear h hk hx hf hro hXe hX hQ e hC hR ih hce hpn hpN hXN haX hn hP
 go_in
 go_upto_region 1 with fail
 refine wrG Xe [0,1,3,7,15,31,63,0,128,384,896,1920,3968,8064,0,32640,65535,131071,262143,262143,524287,2097151] [.p 0,.p 1,.p 2,.p 7,.p 8,.p 9,.p 14,.q 3,.p 4,.p 5,.q 6,.q 10,.p 11,.p 12,.q 13,.c 15,.c 16,.p 17,.p 18,.p 19,.p 20,.p 21] Xe (trivial) ?_
 iterate 7 refine gP ?_
 refine gQ (fun wq hq=>(HH.out.gr (Xk hq)).cells) ?_
 iterate 2 refine gP ?_
 iterate 2 refine gQ (fun wq hq=>(HH.out.gr (Xk hq)).cells) ?_
 iterate 2 refine gP ?_
 refine gQ (fun wq hq=>(HH.out.gr (Xk hq)).cells) ?_
 refine gC ?_
 intro w2 g2 K hK
 refine (HPG.out w2 ((Gr.drew _).trans g2)).mono ?_
 rintro e wn ⟨v3,rfl,o3⟩
 refine hK _ _ o3.below ?_;obtain⟨A3,c3,rfl,b3⟩:=o3.slice;have G3:=Xh (((Gr.drew w).trans g2).trans (show Gr w2 wn from o3.below));have B3:=Xh (show Bs wn A3 _ c3 _ from b3);clear g2 o3 b3 hK
 go_simp
 refine gC ?_
 intro w4 g4 K hK
 refine (HDC.out w4 A3 _ c3 (B3.out.mono g4)).mono ?_
 rintro e wn ⟨bo,RR,rfl,g5,hbo5,p5,m5⟩
 refine hK _ _ g5 ?_;have G5:=Xh (G3.out.trans (g4.trans g5));have P5:Hid (Pgo W.w0 W.L.kb wn bo X X RR):=⟨p5.o.base (HH.out.gr (G3.out.trans g4)).tp.ms.below,p5.q⟩;have M5:=Xh m5;have hbo:w.heap.size≤bo:=Nat.le_trans (G3.out.trans g4).size hbo5;clear g4 g5 p5 m5 hK hbo5
 go_simp
 iterate 5 refine gP ?_
 refine wNi fun w6 g6=> ?_
 have hRX:RR.length=X:=P5.out.len
 have N6:Hid (NdS W w KA NA kn kc nc key nxt bo RR s w6):=⟨HH.out.gr (G5.out.trans g6),HK.out.mono (G5.out.trans g6),HX.out.mono (G5.out.trans g6),by rw[hRX];exact P5.out.mono g6,KY.gr (G5.out.trans g6)⟩
 have hbb:bo≠W.b:=by omega
 clear G3 B3 P5 G5 g6
 go_wp2_with fail
 go_loopw [40] (fun i wr=>∃(k:Nat) (R2:List aj) (done rest:List (List UInt8)) (sk:TS),k≤X∧i= .int .i64 (k:Int)∧R2.length=X∧R2.map aj.l=done++rows.drop k∧done.length=k∧(∀x∈done,rowOk x=true)∧jF (fun k=>jq NN (chW W) (jY W) (gU X NN (mH W) (chW W) (jY W) f) key (X*p+1+k)) nxt k (rows.drop k) sk=some (rest,y.2)∧y.1=done++rest∧NdS W w KA NA kn kc nc key nxt bo R2 sk wr) (fun i _=>X - (Go.RowKit.intOf i).toNat)
 case atStart=>exact⟨0,RR,[],y.1,s,Nat.zero_le _,rfl,hRX,by rw[M5.out];rfl,rfl,fun x h=>(by cases h),HF.out,rfl,N6.out⟩
 case round=>
  obtain⟨k,R2,done,rest,sk,hk,rfl,hR2,hm2,hdl,hdo,hfo,hyd,n2⟩:=hrel
  have N2:=Xh n2
  have HM2:=Xh hm2;have HDO:=Xh hdo;have HFO:=Xh hfo;have HYD:=Xh hyd
  clear n2 hm2 hdo hfo hyd
  by_cases hlt:k<X
  · have t:decide ((k:Int)<(X:Int))=true:=decide_eq_true Xf
    have wk:IntKind.i64.wrap ((k:Int)+1)=(k:Int)+1:=IntWalk.i64_in _ Xf
    obtain⟨r,hr⟩:∃r,R2[k]?=some r:=⟨_,List.getElem?_eq_getElem Xf⟩
    have hkr:k<rows.length:=by have :=HXE.out;omega
    have hdr:rows.drop k=r.l::rows.drop (k+1):=by
     have h1:(done++rows.drop k)[k]?=some r.l:=by rw[←HM2.out,List.getElem?_map,hr];rfl
     rw[List.getElem?_append_right Xf,hdl,Nat.sub_self,List.drop_eq_getElem_cons hkr,List.getElem?_cons_zero] at h1
     rw[List.drop_eq_getElem_cons hkr,Option.some.inj h1]
    have hro:=HRO.out r.l (List.mem_of_mem_drop (by rw[hdr];exact List.mem_cons_self))
    have HQB:=Xh (N2.out.pr.q r (List.mem_of_getElem? hr))
    have hf:=HFO.out
    rw[hdr] at hf
    obtain⟨x,y',hx,hcas⟩:=zD hf
    have hle:LeT x.2 y.2:=by
     have key:∀{s1:TS} {z:List (List UInt8)×TS},jF (fun k=>jq NN (chW W) (jY W) (gU X NN (mH W) (chW W) (jY W) f) key (X*p+1+k)) nxt (k+1) (rows.drop (k+1)) s1=some z→LeT s1 z.2:=fun h=>nT (fun k r s x e=>uM (fun k x s s' e=>sO f _ k x s s' e) e) h
     rcases hcas with⟨_,h,hy⟩| ⟨_,h,hy⟩
     · have :=key h
       rwa[←(Prod.mk.inj hy).2] at this
     · have :=key h
       rw[←(Prod.mk.inj hy).2] at this
       exact LeT.trans (b:=((bI x.2.1 nxt x.1).1,x.2.2)) ⟨(lF _ _ _).len,Nat.le_refl _⟩ this
    have hc:=N2.out.pr.cell hr
    have HRS:=Xh hr
    obtain⟨ra,rn,rc,rl⟩:=r
    have hrl:rl.length=rn:=by have :=HQB.out.b.len;simpa using this
    have hrn:rn≤60000:=by
     unfold rowOk at hro
     rw[Bool.or_eq_true,decide_eq_true_eq,decide_eq_true_eq] at hro
     have h1:rl.length=0∨rl.length=80:=hro
     omega
    have c1:wr.cell? ⟨bo,k,none⟩=some (.slice ra rn rc):=hc
    obtain⟨⟨k0,k1,k2⟩,s1,s2,s3,s4,s5,s6⟩:=N2.out.s.cells
    have HK2:=Xh (fun wx (g:Gr wr wx)=>HCK.out k hlt sk x ra rn rc rl R2 bo wx (N2.out.gr g) (HQB.out.mono g) hrn hx (Nat.le_trans hle.1 hy1) (Nat.le_trans hle.2 Xf))
    have HC2:=Xh (HCH.out k hlt)
    rw[HCE.out k hlt] at HC2
    have HCS:=Xh hcas;have HDR:=Xh hdr
    clear hc hr hro hf hx hle hdr hcas hkr hrl hrn HCK HFO
    go_wp2_with fail
    refine (HC2.out _).mono ?_
    rintro e w7 ⟨rfl,g7⟩
    have N7:=Xh (N2.out.gr (show Gr wr w7 from g7))
    have HK7:=Xh (HK2.out w7 g7)
    clear g7 c1 k0 k1 k2 s1 s2 s3 s4 s5 s6
    go_wp2_with fail
    refine HK7.out.mono ?_
    rintro e w8 ⟨A8,n8,c8,rfl,q8,s8,y8⟩
    have Q8:=Xh q8;have N8:=Xh (N7.out.ky y8 s8)
    clear q8 s8 y8 N7 HK7 HK2 HC2
    obtain⟨R,hr8⟩:∃r,R2[k]?=some r:=⟨_,HRS.out⟩
    have c0:=N8.out.pr.cell hr8
    have f0:=N8.out.pr.o.1.frozenAt k
    have hn8:x.1.length=n8:=by have :=Q8.out.b.len;simpa using this
    have hcp:=Q8.out.b.cap;have hmx:=Q8.out.b.max
    go_upto_region 11 with fail
    obtain⟨w9,hw9⟩:∃w9,w9=w8.setCell ⟨bo,k,none⟩ (.slice none 0 0):=⟨_,rfl⟩
    rw[←hw9]
    have N9:Hid (NdS W w KA NA kn kc nc key nxt bo (R2.set k ⟨none,0,0,[]⟩) x.2 w9):=by show NdS _ _ _ _ _ _ _ _ _ _ _ _ _;rw[hw9];exact N8.out.set hbb hbo k ⟨none,0,0,[]⟩ (QB.nil _ _)
    have Q9:Hid (QB W.L.kb w9 A8 n8 c8 x.1):=by
     obtain⟨cs,zb⟩:=N8.out.pr.o.aA (b:=bo) rfl
     show QB _ _ _ _ _ _
     rw[hw9]
     exact Q8.out.gK (S:=fun z=>z=bo) (Tch.set ⟨bo,k,none⟩ _ rfl) (fun z e=>by subst e;exact⟨_,_,zb,by unfold tyB;decide⟩)
    clear c0 f0 hw9 N8 Q8
    have hdk:∀z:List UInt8,(done++rows.drop k).set k z=(done++ [z])++rows.drop (k+1):=fun z=>by
     rw[HDR.out,List.set_append_right _ _ Xf,hdl,Nat.sub_self,List.set_cons_zero,List.append_assoc]
     rfl
    have HDK:=Xh hdk
    clear hdk
    rcases HCS.out with⟨h0,hf,hy⟩| ⟨h32,hf,hy⟩
    · obtain rfl:n8=0:=by rw[←hn8,h0];rfl
      have FIN:Hid (∃(k':Nat) (R3:List aj) (done' rest':List (List UInt8)) (sk':TS),k'=k+1∧R3.length=X∧R3.map aj.l=done'++rows.drop k'∧done'.length=k'∧(∀x∈done',rowOk x=true)∧jF (fun k=>jq NN (chW W) (jY W) (gU X NN (mH W) (chW W) (jY W) f) key (X*p+1+k)) nxt k' (rows.drop k') sk'=some (rest',y.2)∧y.1=done'++rest'∧NdS W w KA NA kn kc nc key nxt bo R3 sk' w9):=by
       refine⟨k+1,R2.set k ⟨none,0,0,[]⟩,done++ [[]],y'.1,x.2,rfl,by rw[List.length_set];exact hR2,?_,by rw[List.length_append,hdl];rfl,fun z hz=> ?_,?_,?_,N9.out⟩
       · rw[List.map_set,HM2.out];exact HDK.out []
       · rcases List.mem_append.1 hz with hz|hz
         · exact HDO.out z hz
         · rw[List.mem_singleton.1 hz];rfl
       · rw[hf,(Prod.mk.inj hy).2]
       · rw[HYD.out,(Prod.mk.inj hy).1,List.append_assoc];rfl
      clear h0 hf hy HCS HDK HDR HDO HYD HM2 HRS Q9 N9
      go_wp2_with fail
      go_roundw
      case rel=>
       obtain⟨k',R3,d3,r3,s3,rfl,q1,q2,q3,q4,q5,q6,q7⟩:=FIN.out
       exact⟨k+1,R3,d3,r3,s3,Xf,by go_num,q1,q2,q3,q4,q5,q6,q7⟩
      case measure=>simp[Go.RowKit.intOf];omega
    · obtain rfl:n8=32:=by rw[←hn8,h32]
      have t1:decide (0<((32:Nat):Int))=true:=by decide
      obtain⟨⟨k0,k1,k2⟩,s1,s2,s3,s4,s5,s6⟩:=N9.out.s.cells
      have hle:(bI x.2.1 nxt x.1).1.length≤W.n:=by
       have h1:LeT ((bI x.2.1 nxt x.1).1,x.2.2) y'.2:=nT (fun k r s x e=>uM (fun k x s s' e=>sO f _ k x s s' e) e) hf
       have h2:=h1.1
       rw[←(Prod.mk.inj hy).2] at h2
       exact Nat.le_trans h2 hy1
      have HSE:=Xh (N9.out.s.seal N9.out.nx.b Q9.out Xg hle)
      have HF2:=Xh hf;have HY2:=Xh hy
      clear hf hy hle HCS
      go_wp2_with fail
      refine HSE.out.mono ?_
      rintro e wa ⟨SA,sc,rfl,qa,sa,ka⟩
      have Qa:=Xh qa;have Na:=Xh (N9.out.ky (KY.kq ka) sa)
      clear qa sa ka k0 k1 k2 s1 s2 s3 s4 s5 s6 HSE N9 Q9
      obtain⟨z,hz⟩:∃z,z=gX x.2.1 nxt x.1:=⟨_,rfl⟩
      rw[←hz] at Qa HY2
      clear hz
      have hz80:z.length=80:=by have :=Qa.out.b.len;simpa using this
      have c0:=Na.out.pr.cell (k:=k) (r:=⟨none,0,0,[]⟩) (by rw[List.getElem?_set_self Xf])
      have f0:=Na.out.pr.o.1.frozenAt k
      have FIN:Hid (∃(k':Nat) (R3:List aj) (done' rest':List (List UInt8)) (sk':TS),k'=k+1∧R3.length=X∧R3.map aj.l=done'++rows.drop k'∧done'.length=k'∧(∀x∈done',rowOk x=true)∧jF (fun k=>jq NN (chW W) (jY W) (gU X NN (mH W) (chW W) (jY W) f) key (X*p+1+k)) nxt k' (rows.drop k') sk'=some (rest',y.2)∧y.1=done'++rest'∧NdS W w KA NA kn kc nc key nxt bo R3 sk' (wa.setCell ⟨bo,k,none⟩ (.slice SA 80 sc))):=by
       refine⟨k+1,(R2.set k ⟨none,0,0,[]⟩).set k ⟨SA,80,sc,z⟩,done++ [z],y'.1,((bI x.2.1 nxt x.1).1,x.2.2),rfl,by rw[List.length_set,List.length_set];exact hR2,?_,by rw[List.length_append,hdl];rfl,fun z' hz=> ?_,?_,?_,Na.out.set hbb hbo k ⟨SA,80,sc,z⟩ Qa.out⟩
       · rw[List.map_set,List.map_set,List.set_set,HM2.out];exact HDK.out z
       · rcases List.mem_append.1 hz with hz|hz
         · exact HDO.out z' hz
         · rw[List.mem_singleton.1 hz];unfold rowOk;rw[hz80];rfl
       · rw[HF2.out,(Prod.mk.inj HY2.out).2]
       · rw[HYD.out,(Prod.mk.inj HY2.out).1,List.append_assoc];rfl
      clear HF2 HY2 HDK HDR HDO HYD HM2 HRS Qa Na
      go_wp2_with fail
      go_roundw
      case rel=>
       obtain⟨k',R3,d3,r3,s3,rfl,q1,q2,q3,q4,q5,q6,q7⟩:=FIN.out
       exact⟨k+1,R3,d3,r3,s3,Xf,by go_num,q1,q2,q3,q4,q5,q6,q7⟩
      case measure=>simp[Go.RowKit.intOf];omega
  · obtain rfl:X=k:=by omega
    have t:decide ((X:Int)<(X:Int))=false:=decide_eq_false Xf
    have hd0:rows.drop X=[]:=List.drop_eq_nil_of_le (by have :=HXE.out;omega)
    have hf:=HFO.out
    rw[hd0] at hf
    have hm:=HM2.out
    rw[hd0,List.append_nil] at hm
    obtain⟨h1,h2⟩:=Prod.mk.inj (Option.some.inj hf)
    have hyd:=HYD.out
    rw[←h1,List.append_nil] at hyd
    subst h2
    have HSL:=Xh (show Sl wr (some ⟨bo,0,none⟩) X X 1 (R2.map aj.v) by
     obtain⟨_,_,hv,sl⟩:=N2.out.pr.o.slice
     injection hv with e1 _ e2
     subst e1 e2
     rw[hR2] at sl
     exact sl)
    have hok:∀r∈R2,(decide (r.n=0) || decide (r.n=80))=true:=fun r hr=>by
     have h3:=HDO.out r.l (by rw[←hm];exact List.mem_map_of_mem hr)
     have h4:r.l.length=r.n:=by have :=(N2.out.pr.q r hr).b.len;simpa using this
     unfold rowOk at h3
     rwa[h4] at h3
    have HE2:=Xh (HEN.out wr (some ⟨bo,0,none⟩) X R2 HSL.out (fun r hr=>(N2.out.pr.q r hr).b) hok)
    rw[hm,←hyd] at HE2
    have HEQ:=Xh HE.out
    clear hf hm hyd h1 hd0 HSL hok HFO HYD HDO HM2 HF HE HCK HCH HCE HPG HDC
    obtain⟨⟨k0,k1,k2⟩,s1,s2,s3,s4,s5,s6⟩:=N2.out.s.cells
    generalize dI y.1=bl at *
    go_wp2_with fail
    refine HE2.out.mono ?_
    rintro e w3 ⟨v3,rfl,o3⟩
    obtain⟨DA,dc,rfl,_⟩:=o3.slice
    have HPU:=Xh (qz (N2.out.s.gr o3.below) Xf p DA bl.length dc bl (QB.own o3))
    have Y3:=Xh (N2.out.y.trans (KY.gr o3.below))
    clear o3 k0 k1 k2 s1 s2 s3 s4 s5 s6
    go_wp2_with fail
    refine HPU.out.mono ?_
    rintro e w4 ⟨rfl,s4,y4⟩
    have S4:=Xh s4;have Y4:=Xh (Y3.out.trans y4)
    clear s4 y4
    go_wp2_with fail
    go_ret
    rw[←HEQ.out]
    exact⟨rfl,S4.out,Y4.out⟩
theorem vN (hC:WkC W NN) (hS:W.S.length≤1000) (hR:∀p,p<NN→∃rows,(rows.length:Int)=W.a∧mH W p=dI rows∧∀x∈rows,rowOk x=true):∀f p,p<NN→EH W (gU W.a.toNat NN (mH W) (chW W) (jY W) f) p
 |0,_,_=>fun _ _ _ _ _ _ _ _ _ _ _ _ _ e=>by cases e
 |f+1,p,hp=>D9 hC hS hR (fun q hq=>vN hC hS hR f q hq) hp
end
end
section
open Go.RowKit
def KXc (S:Nat→Prop) (kb:Nat) (p:Addr) (v:Value) (w w':World):Prop:=KX S kb w w'∧(w.cell? p=some v→w'.cell? p=some v)
instance (S:Nat→Prop) (kb:Nat) (b o:Nat) (v:Value):LtO (KXc S kb ⟨b,o,none⟩ v):=
 ⟨fun w=>⟨KX.gr (Gr.refl w),id⟩,fun h k=>⟨h.1.trans k.1,fun c=>k.2 (h.2 c)⟩,fun h=>h.1.size,fun g=>⟨KX.gr g,fun c=>(g.cell (p:=⟨b,o,none⟩) (World.block_lt_of_cell? _ _ c)).trans c⟩⟩
section
variable {w0 w w':World} {L:Pl} {m:Mc} {n:Nat} {a d l:Int} {vx vk:Value} {dead:Bool} {pt pv pd pS pg:Nat}
theorem Ev (h:MSt w0 L m w) (f:Fit m a d l) (ho:m.Ok n) (hn:n≤90000) (hd:m.d.down=false) (hp:m.d.pend=[]) (N:Nat) (hN0:0<N) (hN:(N:Int)=au a d l) (X:Spr) (hX:fP m.S a d l m.d.kept=some X) (hl:X.life<18446744073709551616) (hbs:X.base≤1073741824) (hall:∀k,k<N→jW m a d l X.life k=true) (G:Nat) (hG:G<18446744073709551616) (P:List (Nat×List UInt8)) (hP:wO m a d l X.life X.base G P) (hge:w0.heap.size≤pt) (b:TrB L a d l vx vk dead pt pv pd pS pg w) (kx:∃z,vx= .pointer z):
 Calls Tryz.prog 76 #[.pointer (some ⟨pd,0,none⟩),.pointer (some ⟨pS,0,none⟩),.pointer (some ⟨pg,0,none⟩),.pointer (some ⟨pv,0,none⟩)] w fun e w'=>e= .returned (.int .i64 0)∧∃ps bb c R,MSt w0 L m w'∧TrB L a d l (.pointer (some ⟨ps,0,none⟩)) vk dead pt pv pd pS pg w'∧Blk w' ps 150 (aI L a d l ⟨X.life,X.base,G⟩ (.pointer none) ((X.base+(P.length+1)) % l.toNat) (.slice (some ⟨bb,0,none⟩) N c) true false)∧Pgo w0 L.kb w' bb c N R∧R.map aj.l=gY ((List.range N).map (fun i=>(pgR m a d l X.life i).1.body)) P∧N≤c∧c≤9223372036854775807∧w.heap.size≤ps∧Tch (fun z=>z=pt) w w':=by
 have HC:=Xh (fun wr (g:Gr w wr)=>(b.gr g).cells)
 have HB:=Xh b;have HH:=Xh h
 have HR:=Xh (fun wr (g:Gr w wr)=>Et (h.mono g) f ho hn hd hp N hN0 hN X hX hl hbs hall G hG P hP)
 obtain⟨z,rfl⟩:=kx
 obtain⟨QR,hQR⟩:∃QR,QR=(X.base+(P.length+1)) % l.toNat:=⟨_,rfl⟩
 obtain⟨PP,hPP⟩:∃PP,PP=gY ((List.range N).map (fun i=>(pgR m a d l X.life i).1.body)) P:=⟨_,rfl⟩
 rw[←hQR,←hPP] at HR ⊢
 clear h f ho hd hp hX b hall hP hQR hPP hN
 go_in
 go_upto_region 1 with fail
 refine wrG Xe [0,0,0,0,14,30,62,62,127,383,895,2047] [.q 0,.q 1,.q 2,.q 3,.c 4,.p 5,.p 6,.p 7,.p 8,.p 9,.s 10,.p 11] Xe (trivial) ?_
 refine gQ (fun wq hq=>HC.out wq (Xk hq)) ?_
 refine gQ (fun wq hq=>HC.out wq (Xk hq)) ?_
 refine gQ (fun wq hq=>HC.out wq (Xk hq)) ?_
 refine gQ (fun wq hq=>HC.out wq (Xk hq)) ?_
 refine gC ?_
 intro w3 g3 K hK
 refine (HR.out w3 ((Gr.drew _).trans g3)).mono ?_
 rintro e wn ⟨ps,bb,c,R,rfl,h4,s4,p4,e4,n1,n2,n3,n4,g4⟩
 refine hK _ _ g4 ?_;have G4:=Xh (((Gr.drew w).trans g3).trans g4);have hps:w.heap.size≤ps:=Nat.le_trans ((Gr.drew w).trans g3).size n3;have H4:=Xh h4;have S4:=Xh s4;have P4:=Xh p4;have E4:=Xh e4;clear g3 h4 g4 s4 p4 e4 n3 n4 hK
 go_simp
 refine gP ?_
 refine gP ?_
 refine gP ?_
 refine gP ?_
 refine gP ?_
 refine dV rfl rfl ?_
 intro w5 g5 K hK
 have G5:=Xh (G4.out.trans g5)
 have B5:=Xh (HB.out.gr G5.out)
 have H5:=Xh (H4.out.mono g5);have S5:=Xh (S4.out.mono g5);have P5:=Xh (P4.out.mono g5)
 have x5:=B5.out.ft.cell 5
 have f5:=Blk.free B5.out.ft 5
 clear g5
 go_simp
 refine hK _ _ ?_
 clear hK x5 f5
 go_simp
 obtain⟨w6,hw6⟩:∃w6,w6=w5.setCell ⟨pt,5,none⟩ (.pointer (some ⟨ps,0,none⟩)):=⟨_,rfl⟩
 have T6:Tch (fun z=>z=pt) w5 w6:=by rw[hw6];exact Tch.set ⟨pt,5,none⟩ _ rfl
 have F6:Blk w6 pt 92 (jm L a d l (.pointer (some ⟨ps,0,none⟩)) vk dead):=by rw[hw6];exact B5.out.ft.set 5 _
 rw[←hw6]
 clear hw6
 refine gP ?_
 refine wNi fun w7 g7=> ?_
 have T7:Hid (Tch (fun z=>z=pt) w5 w7):=T6.trans (Tch.gr g7)
 have F7:=Xh (F6.mono g7)
 clear T6 F6 g7
 go_wp2_with fail
 go_ret
 have np:∀{g:Nat} {t:TypeId} {cs:List Value},Blk w5 g t cs→t≠92→¬g=pt:=fun hg hne e=>by
  rw[e] at hg
  exact hne (bTy hg B5.out.ft)
 have M7:MSt w0 L m w7:=H5.out.off T7.out (fun z e=>e▸hge) (fun z e=>e▸⟨_,_,B5.out.ft,oQ⟩)
 refine⟨rfl,ps,bb,c,R,M7,B5.out.to (KX.tch (kb:=L.kb) T7.out) (fun z e=>by subst e;exact⟨_,_,B5.out.ft,Xg,Xg,Xg,Xg⟩) F7.out,S5.out.tch T7.out (np S5.out Xg),P5.out.kx (KX.tch T7.out) M7.below (fun z e=> ?_),E4.out,n1,n2,hps,(Tch.gr G5.out).trans T7.out⟩
 obtain⟨cs,z2⟩:=P5.out.o.aA (b:=bb) rfl
 exact⟨fun q=>np z2 Xg (q.symm.trans e),_,_,e▸B5.out.ft,by unfold tyB;decide⟩
theorem Dx (h:MSt w0 L m w) (ho:m.Ok n) (hn:n+2≤90000) (hd:m.d.down=false) (hp:m.d.pend=[]) (hk:2≤m.d.kept.length) (x:Spr) (hg:x.gen<18446744073709551616) (key:List UInt8) (hkey:(m.settle x.gen).2=key) (hkl:key.length=32) (hz:(m.settle x.gen).1.2=0) (ps:Nat) (vl vp:Value) (next:Nat) (due sd:Bool) (hs:Blk w ps 150 (aI L a d l x vl next vp due sd)) (hge:w0.heap.size≤pt) (b:TrB L a d l (.pointer (some ⟨ps,0,none⟩)) vk dead pt pv pd pS pg w) (kk:∃A n c,vk= .slice A n c):
 Calls Tryz.prog 78 #[.pointer (some ⟨pd,0,none⟩),.pointer (some ⟨pS,0,none⟩),.pointer (some ⟨pv,0,none⟩)] w fun e w'=>e= .returned (.int .i64 0)∧∃A c,MSt w0 L (m.settle x.gen).1.1 w'∧TrB L a d l (.pointer (some ⟨ps,0,none⟩)) (.slice A 32 c) dead pt pv pd pS pg w'∧QB L.kb w' A 32 c key∧KX (fun z=>z=pt) L.kb w w':=by
 have HC:=Xh (fun wr (k:KXc (fun z=>z=pt) L.kb ⟨pt,5,none⟩ (.pointer (some ⟨ps,0,none⟩)) w wr)=>And.intro (b.kx4 (fun z e=>e) k.1) (k.2 (b.ft.cell 5)))
 have HB:=Xh b
 have hptlt:pt<w.heap.size:=b.ft.lt
 have HG:=Xh (fun wr (g:Gr w wr)=>uL (hs.mono g))
 have HR:=Xh (fun wr (g:Gr w wr)=>AU (h.mono g) ho hn hd hp hk x.gen hg)
 obtain⟨A0,n0,c0,rfl⟩:=kk
 obtain⟨r,hr⟩:∃r,r=m.settle x.gen:=⟨_,rfl⟩
 rw[←hr] at HR hkey hz ⊢
 obtain⟨⟨m2,q2⟩,key2⟩:=r
 simp only at hkey hz
 subst hkey hz
 unfold SQ at HR
 simp only[hkl] at HR
 clear h ho hd hp hk hs b hr hkl
 go_in
 go_upto_region 1 with fail
 refine wrV (KXc (fun z=>z=pt) L.kb ⟨pt,5,none⟩ (.pointer (some ⟨ps,0,none⟩))) (KQ L.kb) 143 ?hlb (fun w w' h=>h.1) (fun w w' b cs h hb=>h.sec hb) Xe [0,0,0,0,8,24,56,120,254,510,1022,1022,2047,6143,14335,32767] [.q 0,.q 1,.q 2,.q 3,.p 4,.p 5,.q 6,.c 7,.c 8,.p 9,.p 10,.p 11,.p 12,.p 13,.c 14,.p 15] Xe (trivial) ?_
 case hlb=>exact fun v w' b cs k hb z=>k.1.blk z Xi Xd Xf
 refine gQ (fun wq hq=>HC.out wq (LtO.trans (LtO.gr (Gr.drew _)) hq)) ?_
 refine gQ (fun wq hq=>HC.out wq (LtO.trans (LtO.gr (Gr.drew _)) hq)) ?_
 refine gQ (fun wq hq=>HC.out wq (LtO.trans (LtO.gr (Gr.drew _)) hq)) ?_
 refine gQ (fun wq hq=>HC.out wq (LtO.trans (LtO.gr (Gr.drew _)) hq)) ?_
 refine gP ?_
 refine gP ?_
 refine gQ (fun wq hq=>HC.out wq (LtO.trans (LtO.gr (Gr.drew _)) hq)) ?_
 refine gC ?_
 intro w3 g3 K hK
 refine (HG.out w3 ((Gr.drew _).trans g3)).mono ?_
 rintro e wn ⟨rfl,e4⟩
 subst e4;refine hK _ _ (LtO.refl _) ?_;have G3:=Xh ((Gr.drew w).trans g3);clear g3 hK
 go_simp
 refine gC ?_
 intro w4 g4 K hK
 refine (HR.out w4 (G3.out.trans g4)).mono ?_
 rintro e wn ⟨A,c,rfl,i1,i2,i3⟩
 have b4:=HB.out.gr (G3.out.trans g4);refine hK _ _ ⟨KX.kq i3,fun _=>(b4.kq i3).ft.cell 5⟩ ?_;have I1:=Xh i1;have I2:=Xh i2;have K4:Hid (KQ L.kb w wn):=(KQ.gr (G3.out.trans g4)).trans i3;clear g4 i1 i2 i3 b4 hK
 go_simp
 refine gP ?_
 refine gP ?_
 refine gP ?_
 refine gP ?_
 refine gP ?_
 refine jh rfl rfl ?_
 intro w5 g5 K hK
 have K5:Hid (KQ L.kb w w5):=K4.out.trans (KQ.gr g5)
 have B5:=Xh (HB.out.kq K5.out)
 have M5:=Xh (I2.out.mono g5);have Q5:=Xh (I1.out.mono g5)
 have x6:=B5.out.ft.cell 6
 have f6:=Blk.free B5.out.ft 6
 clear g5
 go_simp
 have x5:(w5.setCell ⟨pt,6,none⟩ (.slice A 32 c)).cell? ⟨pt,5,none⟩=some (.pointer (some ⟨ps,0,none⟩)):=(B5.out.ft.set 6 (.slice A 32 c)).cell 5
 refine hK _ _ ⟨KX.tch (Tch.set ⟨pt,6,none⟩ _ rfl),fun _=>x5⟩ ?_
 clear hK x6 f6 x5
 go_simp
 obtain⟨w6,hw6⟩:∃w6,w6=w5.setCell ⟨pt,6,none⟩ (.slice A 32 c):=⟨_,rfl⟩
 have T6:Tch (fun z=>z=pt) w5 w6:=by rw[hw6];exact Tch.set ⟨pt,6,none⟩ _ rfl
 have F6:Blk w6 pt 92 (jm L a d l (.pointer (some ⟨ps,0,none⟩)) (.slice A 32 c) dead):=by rw[hw6];exact B5.out.ft.set 6 _
 rw[←hw6]
 clear hw6
 refine gP ?_
 refine wNi fun w7 g7=> ?_
 have T7:Hid (Tch (fun z=>z=pt) w5 w7):=T6.trans (Tch.gr g7)
 have F7:=Xh (F6.mono g7)
 clear T6 F6 g7
 go_wp2_with fail
 go_ret
 exact⟨rfl,A,c,M5.out.off T7.out (fun z e=>e▸hge) (fun z e=>e▸⟨_,_,B5.out.ft,oQ⟩),B5.out.to (KX.tch (kb:=L.kb) T7.out) (fun z e=>by subst e;exact⟨_,_,B5.out.ft,Xg,Xg,Xg,Xg⟩) F7.out,Q5.out.gK T7.out (fun z e=>e▸⟨_,_,B5.out.ft,by unfold tyB;decide⟩),(KX.kq K5.out).trans (KX.tch T7.out)⟩
end
end
end Go.Proofs.YtipdlnejmcmbbaaGreatDoor
