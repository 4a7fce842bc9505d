/- Own texts, one behind the other. No condition. -/
import Derived.Test.YtipdlnejmcmbbaaGreatDoorObPkBQ
set_option linter.unusedVariables false
set_option maxRecDepth 100000
set_option maxHeartbeats 8000000
set_option linter.unusedSimpArgs false
namespace Go.Proofs.YtipdlnejmcmbbaaGreatDoor
section
open Go.RowKit Go.Maps
section
variable {W:Wk} {s:TS} {w w':World}
def Fb (W:Wk) (w:World) (r:List UInt8×TS) (e:Ending) (w':World):Prop:=∃A n c,e= .returned (.tuple #[.slice A n c,.int .i64 0])∧QB W.L.kb w' A n c r.1∧WkS W r.2 w'∧KY W.L.kb w w'
theorem Fb.pre {w1:World} {r:List UInt8×TS} {e:Ending} (g:KY W.L.kb w w1) (h:Fb W w1 r e w'):Fb W w r e w':=by
 obtain⟨A,n,c,h1,h2,h3,h4⟩:=h
 exact⟨A,n,c,h1,h2,h3,g.trans h4⟩
theorem WkS.cells (h:WkS W s w):(w.cell? ⟨W.pw,0,none⟩=some (.pointer (some ⟨W.pt,0,none⟩))∧w.cell? ⟨W.pw,1,none⟩=some (.map (some W.mb))∧w.cell? ⟨W.pw,2,none⟩=some (.slice (some ⟨W.q,0,none⟩) W.tn W.tc))∧Tk w W.L W.a W.d W.l W.pt W.ps W.vk:=by
 obtain⟨A0,c0,P,hp,h1,h2⟩:=h.wk
 exact⟨⟨h1.cell 0,h1.cell 1,h1.cell 2⟩,h.tp.cells⟩
theorem WkS.draw (h:WkS W s w) (hn:(aG s.1).1.length≤W.n):Calls Tryz.prog 41 #[.pointer (some ⟨W.L.p,0,none⟩)] w fun e w'=>∃A c,e= .returned (.slice A 32 c)∧QB W.L.kb w' A 32 c (aC (aG s.1).2)∧WkS W ((aG s.1).1,s.2) w'∧KQ W.L.kb w w':=by
 refine (h.tp.ms.draw h.tp.ok h.tp.n9).mono ?_
 rintro e w' ⟨A,c,rfl,o,ms,kq,kz⟩
 exact⟨A,c,rfl,QB.own o,h.kz ms hn h.tp.ok.z.atom kq kz,kq⟩
theorem WkS.seal (h:WkS W s w) {A B:Option Addr} {c k d:Nat} {key text:List UInt8} (ha:Bs w A 32 c key) (hb:QB W.L.kb w B k d text) (hk:k≤20000) (hn:(bI s.1 key text).1.length≤W.n):Calls Tryz.prog 115 #[.pointer (some ⟨W.L.p,0,none⟩),.slice A 32 c,.slice B k d] w fun e w'=>∃A' c',e= .returned (.slice A' (k+48) c')∧QB W.L.kb w' A' (k+48) c' (gX s.1 key text)∧WkS W ((bI s.1 key text).1,s.2) w'∧KQ W.L.kb w w':=by
 refine (h.tp.ms.seal h.tp.ok h.tp.n9 A B c k d key text ha hb hk).mono ?_
 rintro e w' ⟨A,c,rfl,o,ms,kq,kz⟩
 have h1:key.length=32:=by have :=ha.len;simpa using this
 have h2:text.length=k:=by have :=hb.b.len;simpa using this
 exact⟨A,c,rfl,QB.own o,h.kz ms hn (h.tp.ok.z.seal Xf Xf) kq kz,kq⟩
def cgT (t:TcV):Cg:=⟨t.d.h,t.d.v,t.d.g⟩
theorem GU (h:WkS W s w) (hU:U8 W.w0) {q k:Nat} (hq:jG W.a W.d W.l (q:Int)=(k:Int)) (hk:k≤1000) {t:TcV} (hl:dB W.T k=some t) (hgo:t.d.g=false→0<t.d.h.length∧t.d.h.length≤60∧aB t.d.h=true∧t.d.v.length≤350) (hn:(pI (cgT t) q s).2.1.length≤W.n) (hP:s.2.length≤900):
 Calls Tryz.prog 188 #[.pointer (some ⟨W.pw,0,none⟩),.int .i64 (q:Int)] w (Fb W w (pI (cgT t) q s)):=by
 have HSL:=Xh (fun wr=>rX W.a W.d W.l q wr)
 rw[hq] at HSL
 have HH:=Xh h
 have HU:=Xh hU
 have HLK:=Xh (fun wr (g:Gr w wr)=>(h.ch.mono g).look hk hl)
 have HVA:=Xh (h.va t (iB hl).1)
 have HGO:=Xh hgo
 obtain⟨r,hr⟩:∃r,r=pI (cgT t) q s:=⟨_,rfl⟩
 rw[←hr] at hn ⊢
 have HR:=Xh hr
 unfold TcV.v at HLK
 clear h hU hl hgo hr hq
 go_in
 go_upto_region 1 with fail
 refine wrG Xe [0,1,3,7,0,16,48,112,240,496,1008,0,4080,8191,0,32767] [.p 0,.p 1,.p 2,.p 4,.p 5,.p 6,.p 11,.q 3,.q 7,.p 8,.p 9,.q 10,.c 12,.q 13,.m 14 110 tcZ,.s 15] Xe (⟨fun o ho ρ w=>by cases ho;kernel_rfl,trivial⟩) ?_
 iterate 7 refine gP ?_
 iterate 2 refine gQ (fun wq hq=>(HH.out.gr (Xk hq)).cells) ?_
 iterate 2 refine gP ?_
 refine gQ (fun wq hq=>(HH.out.gr (Xk hq)).cells) ?_
 refine gC ?_
 intro w2 g2 K hK
 refine (HSL.out w2).mono ?_
 rintro e wn ⟨rfl,g3⟩
 refine hK _ _ (show Gr w2 wn from g3) ?_;have G3:=Xh (((Gr.drew w).trans g2).trans (show Gr w2 wn from g3));clear g2 g3 hK
 go_simp
 refine gQ (fun wq hq=>HLK.out wq (G3.out.trans hq)) ?_
 refine EG rfl rfl ?_
 intro w4 pc g4 hpc hblk hI
 have G4:=Xh (G3.out.trans g4)
 have C4:=Xh hblk
 have hpc1:w.heap.size≤pc:=hpc
 clear hI hblk g4 hpc
 go_simp
 refine dV rfl rfl ?_
 intro w5 g5 K hK
 have G5:=Xh (G4.out.trans g5)
 have C5:=Xh (C4.out.mono g5)
 refine wp_store_row 110 (.tmp 6) (.tmp 23) rfl pc (tcC t) rfl rfl 110 tcZ C5.out Hy rfl (Tf t) ?_
 refine hK _ _ ?_
 clear hK
 obtain⟨w6,hw6⟩:∃w6,w6=w5.setRow pc (tcC t):=⟨_,rfl⟩
 have C6:Blk w6 pc 110 (tcC t).toList:=by rw[hw6];exact setRow_heap _ pc _ (tcC t) _ _ C5.out
 have T6:Tch (fun z=>z=pc) w5 w6:=by rw[hw6];exact Tch.row (S:=fun z=>z=pc) (w:=w5) (g:=pc) rfl (tcC t)
 rw[←hw6]
 clear hw6 g5
 go_simp
 refine wNi fun w7 g7=> ?_
 have G7:Hid (Gr w w7):=Gr.trans (show Gr w w6 from Tch.below G5.out T6 G5.out.size (fun z e=>e▸hpc1)) g7
 have C7:Hid (Blk w7 pc 110 [.int .i64 (t.d.s:Int),ak t.d.h,.slice t.a t.m t.c,.bool t.d.g]):=C6.mono g7
 clear C6 T6 g7
 have H7:=Xh (HH.out.gr G7.out)
 have l3:=C7.out.cell 3
 cases hg:t.d.g with
 |true=>
  rw[hg] at l3
  have hr:r=([],(s.1,s.2++ [(q,[])])):=by rw[HR.out];exact if_pos hg
  subst hr
  have HPU:=Xh (qz H7.out hP q none 0 0 [] (QB.nil _ _))
  go_wp2_with fail
  refine HPU.out.mono ?_
  rintro e w8 ⟨rfl,s8,k8⟩
  have S8:=Xh s8;have K8:=Xh k8
  clear s8 k8 l3
  go_wp2_with fail
  go_ret2
  exact⟨none,0,0,rfl,QB.nil _ _,S8.out,(KY.gr G7.out).trans K8.out⟩
 |false=>
  rw[hg] at l3
  obtain⟨hh0,hh6,hhr,hhv⟩:=HGO.out hg
  have hr:r=(aC (aG s.1).2,((bI (aG s.1).1 (aC (aG s.1).2) t.d.v).1,s.2++ [(q,aJ t.d.h++aJ (gX (aG s.1).1 (aC (aG s.1).2) t.d.v))])):=by rw[HR.out];exact if_neg (by show ¬t.d.g=true;rw[hg];decide)
  have hva:=HVA.out hg
  have hvl:t.d.v.length=t.m:=by have :=hva.b.len;simpa using this
  have hn2:(bI (aG s.1).1 (aC (aG s.1).2) t.d.v).1.length≤W.n:=by rw[hr] at hn;exact hn
  have hn1:(aG s.1).1.length≤W.n:=Nat.le_trans (lF (aG s.1).1 (aC (aG s.1).2) t.d.v).len hn2
  have V7:=Xh (hva.mono G7.out)
  have HDR:=Xh (H7.out.draw hn1)
  have HN2:=Xh hn2
  have HRR:=Xh hr
  obtain⟨⟨k0,k1,k2⟩,s1,s2,s3,s4,s5,s6⟩:=H7.out.cells
  clear hr hva hn1 hn2 hn HR HVA HGO
  go_wp2_with fail
  refine HDR.out.mono ?_
  rintro e w8 ⟨KA,kc,rfl,q8,m8,k8⟩
  have Q8:=Xh q8;have S8:=Xh m8
  have C8:=Xh (k8.blk C7.out Xi Xd)
  have V8:=Xh (V7.out.kq k8)
  have K8:Hid (KQ W.L.kb w w8):=(KQ.gr G7.out).trans k8
  clear q8 m8 k8 l3 k0 k1 k2 s1 s2 s3 s4 s5 s6 HDR
  have HSE:=Xh (fun wr (g:Gr w8 wr)=>(S8.out.gr g).seal (Q8.out.mono g).b (V8.out.mono g) Xf HN2.out)
  generalize hz:gX (aG s.1).1 (aC (aG s.1).2) t.d.v=z at *
  have HEL:=Xh (fun wr SA sc (hq:Bs wr SA (t.m+48) sc z) (hu:U8 wr)=>vD t.d.h z SA (t.m+48) sc hq hh0 Xf hhr Xf Xf hu)
  obtain⟨BL,hBL⟩:∃BL,BL=aJ t.d.h++aJ z:=⟨_,rfl⟩
  rw[←hBL] at HEL HRR
  clear hBL hz
  have HC:Hid (∀wr,KX (fun _=>False) W.L.kb w8 wr→(wr.cell? ⟨pc,1,none⟩=some (.string ⟨t.d.h.toArray⟩)∧wr.cell? ⟨pc,2,none⟩=some (.slice t.a t.m t.c))∧wr.cell? ⟨W.pw,0,none⟩=some (.pointer (some ⟨W.pt,0,none⟩))∧wr.cell? ⟨W.pt,1,none⟩=some (.pointer (some ⟨W.L.p,0,none⟩))):=fun wr k=>by
   obtain⟨A0,c0,P,hp,h1,h2⟩:=S8.out.wk
   have b1:=k.blk C8.out Xi Xd (fun s=>s)
   have b2:=k.blk h1 Xi Xd (fun s=>s)
   have b3:=k.blk S8.out.tp.ft Xi Xd (fun s=>s)
   exact⟨⟨b1.cell 1,b1.cell 2⟩,b2.cell 0,b3.cell 1⟩
  go_upto_region 5 with fail
  refine wrV (KX (fun _=>False) W.L.kb) (KQ W.L.kb) 143 ?hlb (fun w w' h=>h.1) (fun w w' b cs h hb=>h.sec hb) Xe [0,1,0,4,12,28,60,124,252,0,0,1024,4092,8191,16383,32767,32767,65535,262143] [.p 0,.p 2,.p 3,.p 4,.p 9,.p 10,.q 1,.q 5,.p 6,.p 7,.q 8,.q 11,.c 12,.c 13,.p 14,.p 15,.p 16,.p 17,.p 18] Xe (trivial) ?_
  case hlb=>exact fun v w' b cs k hb z=>k.blk z Xi Xd (fun s=>s)
  refine gP ?_
  refine gP ?_
  refine gP ?_
  refine gP ?_
  refine gP ?_
  refine gP ?_
  refine gQ (fun wq hq=>HC.out wq ((KX.gr (Gr.drew _)).trans hq)) ?_
  refine gQ (fun wq hq=>HC.out wq ((KX.gr (Gr.drew _)).trans hq)) ?_
  refine gP ?_
  refine gP ?_
  refine gQ (fun wq hq=>HC.out wq ((KX.gr (Gr.drew _)).trans hq)) ?_
  refine gQ (fun wq hq=>HC.out wq ((KX.gr (Gr.drew _)).trans hq)) ?_
  refine gC ?_
  intro w9 g9 K hK
  refine (HSE.out w9 ((Gr.drew _).trans g9)).mono ?_
  rintro e wn ⟨SA,sc,rfl,q9,m9,k9⟩
  refine hK _ _ (KX.kq k9) ?_;have S9:=Xh m9;have K9:Hid (KQ W.L.kb w8 wn):=(KQ.gr ((Gr.drew w8).trans g9)).trans k9;have Q9:=Xh q9;clear g9 q9 m9 k9 hK
  go_simp
  refine gC ?_
  intro wa ga K hK
  refine (HEL.out wa SA sc ((Q9.out.mono ga).b) (HU.out.mono (S9.out.gr ga).tp.ms.below)).mono ?_
  rintro e wn ⟨vb,rfl,ob⟩
  refine hK _ _ (KX.gr ob.below) ?_;obtain⟨BA,bc,rfl,_⟩:=ob.slice;have Gb:=Xh (ga.trans (show Gr wa wn from ob.below));have Qb:=Xh (QB.own (kb:=W.L.kb) ob);clear ga ob hK
  go_simp
  refine gP ?_
  refine gP ?_
  refine gP ?_
  refine gP ?_
  refine gP ?_
  refine wNi fun wd gd=> ?_
  have Kd:Hid (KQ W.L.kb w8 wd):=K9.out.trans (KQ.gr (Gb.out.trans gd))
  have Sd:=Xh (S9.out.gr (Gb.out.trans gd))
  have Qd:=Xh (Qb.out.mono gd)
  have KK:=Xh (Q8.out.kq Kd.out)
  clear gd
  have HPU:=Xh (qz Sd.out hP q BA BL.length bc BL Qd.out)
  go_wp2_with fail
  refine HPU.out.mono ?_
  rintro e we ⟨rfl,se,ke⟩
  have Se:=Xh se;have Ke:=Xh ke
  clear se ke
  go_wp2_with fail
  go_ret2
  rw[HRR.out]
  exact⟨KA,32,kc,rfl,KK.out.ky Ke.out,Se.out,(KY.kq (K8.out.trans Kd.out)).trans Ke.out⟩
end
end
section
open Go.RowKit Go.Maps
def jY (W:Wk) (q:Nat):Bool:=W.S.contains (q:Int)
def chW (W:Wk) (k:Nat):Option Cg:=(dB W.T k).map cgT
structure WkC (W:Wk) (NN:Nat):Prop where
 u:U8 W.w0
 nn:av W.a W.d W.l=(NN:Int)
 srt:W.S.Pairwise (·≤·)
 go:∀t∈W.T,t.d.g=false→0<t.d.h.length∧t.d.h.length≤60∧aB t.d.h=true∧t.d.v.length≤350
def EH (W:Wk) (nd:Nat→List UInt8→List UInt8→TS→Option TS) (q:Nat):Prop:=∀(s s':TS) (w:World) (KA NA:Option Addr) (kn kc nc:Nat) (key nxt:List UInt8),WkS W s w→QB W.L.kb w KA kn kc key→QB W.L.kb w NA 32 nc nxt→nd q key nxt s=some s'→s'.1.length≤W.n→s'.2.length≤900→
 Calls Tryz.prog 57 #[.pointer (some ⟨W.pw,0,none⟩),.int .i64 (q:Int),.slice KA kn kc,.slice NA 32 nc] w fun e w'=>e= .returned (.int .i64 0)∧WkS W s' w'∧KY W.L.kb w w'
section
variable {W:Wk} {s:TS} {w w':World} {NN:Nat}
theorem Wti.search (h:Wti W w) (hs:W.S.Pairwise (·≤·)) (hb:W.S.length≤1000) (k:Int):Calls Tryz.prog 186 #[.slice (some ⟨W.q,0,none⟩) W.tn W.tc,.int .i64 k] w fun e w'=>∃j:Nat,e= .returned (.tuple #[.int .i64 (j:Int),.bool (W.S.contains k)])∧Gr w w':=by
 have hl:W.S.length=W.tn:=by have :=h.is.len;simpa using this
 have ht:W.S.take W.tn=W.S:=List.take_of_length_le Xf
 refine (Tryz.slices_BinarySearch_int W.q 0 W.tn W.tc W.S k w Xf Xf (fun j hj=> ?_) (by rw[ht];exact hs)).mono ?_
 · obtain⟨b,o,e,hc⟩:=Sl.addr h.is Xf
   cases e
   have :=hc j (eD (W.S.getD j 0)) (by rw[List.getElem?_map,List.getElem?_eq_getElem hj,List.getD_eq_getElem?_getD,List.getElem?_eq_getElem hj];rfl)
   exact this
 · rintro e w' ⟨rfl,q,rfl⟩
   rw[ht]
   exact⟨_,rfl,dG (Gr.refl w) q⟩
theorem KH {a d l:Int} (g:Geo a d l) (hN:av a d l=(NN:Int)) {N q:Nat} (hp:(N:Int)=au a d l) (hq:q<N):jG a d l (q:Int)=if NN≤q then ((q - NN:Nat):Int) else -1:=by
 have hp2:au a d l=av a d l+ay a d l:=rfl
 unfold jG
 rw[hN]
 by_cases h:NN≤q
 · rw[if_pos ⟨Xf,Xf,Xf⟩,if_pos h];omega
 · rw[if_neg Xf,if_neg h]
theorem DY (h:WkS W s w) (hC:WkC W NN) {nd:Nat→List UInt8→List UInt8→TS→Option TS} {q:Nat} (hq:q<W.N) (hS:W.S.length≤1000) (hm:∀k x s s',nd q k x s=some s'→s.1.length≤s'.1.length∧s.2.length≤s'.2.length) (hN:q<NN→jY W q=true→EH W nd q) {KA RA:Option Addr} {kn kc rn rc:Nat} {key row:List UInt8} (hk:QB W.L.kb w KA kn kc key) (hr:QB W.L.kb w RA rn rc row) (hrn:rn≤60000) {r:List UInt8×TS} (e:jq NN (chW W) (jY W) nd key q row s=some r) (hn:r.2.1.length≤W.n) (hP:r.2.2.length≤900):
 Calls Tryz.prog 113 #[.pointer (some ⟨W.pw,0,none⟩),.int .i64 (q:Int),.slice KA kn kc,.slice RA rn rc] w (Fb W w r):=by
 have hsl:=KH h.tp.g hC.nn h.tp.hN hq
 have h85:W.N≤1000:=by
  obtain⟨x,y,_,_,_,_,_,_,_,_,h1,_,h2⟩:=h.tp.g.nn
  have :=h.tp.hN
  omega
 have HSL:=Xh (fun wr=>rX W.a W.d W.l q wr)
 rw[hsl] at HSL
 have HBS:=Xh (fun wr (g:Gr w wr)=>(h.gr g).ti.search hC.srt hS (q:Int))
 have hrl:row.length=rn:=by have :=hr.b.len;simpa using this
 unfold jq at e
 obtain⟨was,hw,e⟩:=Option.bind_eq_some_iff.1 e
 have HH:=Xh h;have HR:=Xh hr
 have HO:=Xh (h.tp.ms.WI h.tp.ok h.tp.n9 KA RA kn kc rn rc key row hk.b hr.b hrn)
 have HW:Hid (if rn=0 then was=[] else eP (W.m.tb s.1).T key row=some was):=by
  show if rn=0 then was=[] else eP s.1 key row=some was
  by_cases h0:row=[]
  · rw[if_pos h0] at hw
    rw[if_pos (by rw[←hrl,h0];rfl)]
    exact (Option.some.inj hw).symm
  · rw[if_neg h0] at hw
    rw[if_neg (by rw[←hrl];exact fun e=>h0 (List.length_eq_zero_iff.1 e))]
    exact hw
 have HE:=Xh e
 have HN:=Xh hN;have HC:=Xh hC;have HM:=Xh hm
 have hcap:=hr.b.cap;have hmax:=hr.b.max
 have hcap2:=hk.b.cap;have hmax2:=hk.b.max
 have hqq:W.S.contains (q:Int)=jY W q:=rfl
 rw[hqq] at HBS
 clear h hC hN hk hr hw e hsl hm hrl hqq
 generalize eP (W.m.tb s.1).T key row=ow at *
 obtain⟨⟨k0,k1,k2⟩,s1,s2,s3,s4,s5,s6⟩:=HH.out.cells
 go_in
 go_upto_if 18 with fail
 go_cut [10] (fun v wx=>∃A n c,v= .slice A n c∧QB W.L.kb wx A n c was∧Gr w wx)
 case first=>
  have HWW:=HW.out
  by_cases h0:rn=0
  · subst h0
    obtain rfl:was=[]:=HWW
    go_wp2_with fail
    go_meet
    exact⟨none,0,0,rfl,QB.nil _ _,Gr.refl _⟩
  · rw[if_neg h0] at HWW
    subst HWW
    have t0:decide (0<(rn:Int))=true:=decide_eq_true Xf
    have t1:decide (0<rn)=true:=decide_eq_true Xf
    go_wp2_with fail
    refine HO.out.mono ?_
    rintro e w1 ⟨A1,n1,c1,rfl,b1,g1⟩
    have B1:=Xh b1;have G1:=Xh g1
    clear b1 g1
    go_wp2_with fail
    go_meet
    exact⟨A1,n1,c1,rfl,B1.out,G1.out⟩
 case rest=>
 obtain⟨A1,n1,c1,rfl,b1,g1⟩:=hcut
 have B1:=Xh b1;have G1:=Xh g1
 have S1:=Xh (HH.out.gr g1)
 clear b1 g1 k0 k1 k2 s1 s2 s3 s4 s5 s6 HO HW HR
 obtain⟨⟨k0,k1,k2⟩,s1,s2,s3,s4,s5,s6⟩:=S1.out.cells
 go_wp2_with fail
 refine (HBS.out wc G1.out).mono ?_
 rintro e w2 ⟨j,rfl,g2⟩
 have B2:=Xh (B1.out.mono g2);have S2:=Xh (S1.out.gr g2);have G2:=Xh (G1.out.trans g2)
 clear g2 k0 k1 k2 s1 s2 s3 s4 s5 s6 HBS B1 S1
 have hE:=HE.out
 cases ht:jY W q with
 |false=>
  rw[ht,if_pos rfl] at hE
  have HR:=Xh (Option.some.inj hE)
  clear hE HE
  go_wp2_with fail
  go_ret2
  rw[←HR.out]
  exact⟨A1,n1,c1,rfl,B2.out,S2.out,KY.gr G2.out⟩
 |true=>
  rw[ht,if_neg Xg] at hE
  obtain⟨⟨k0,k1,k2⟩,s1,s2,s3,s4,s5,s6⟩:=S2.out.cells
  by_cases hl:NN≤q
  · rw[if_pos hl] at hE HSL
    obtain⟨c0,hc0,e0⟩:=Option.map_eq_some_iff.1 hE
    obtain⟨t,hlt,ec⟩:=Option.map_eq_some_iff.1 hc0
    subst ec e0
    have t2:decide (0≤((q - NN:Nat):Int))=true:=decide_eq_true Xf
    have HLF:=Xh (fun wr (g:Gr w2 wr)=>GU (q:=q) (k:=q - NN) (S2.out.gr g) HC.out.u (by rw[KH S2.out.tp.g HC.out.nn S2.out.tp.hN hq,if_pos hl]) Xf hlt (HC.out.go t (iB hlt).1) hn (Nat.le_trans (by
     unfold pI
     split<;>simp) hP))
    clear hE HE hc0 hlt
    go_wp2_with fail
    refine (HSL.out w2).mono ?_
    rintro e w3 ⟨rfl,g3⟩
    have HL3:=Xh (HLF.out w3 (show Gr w2 w3 from g3))
    have G3:=Xh (G2.out.trans (show Gr w2 w3 from g3))
    clear g3 k0 k1 k2 s1 s2 s3 s4 s5 s6
    go_wp2_with fail
    refine HL3.out.mono ?_
    rintro e w4 h4
    obtain⟨A4,n4,c4,rfl,q4,z4,y4⟩:=h4.pre (KY.gr G3.out)
    have Q4:=Xh q4;have Z4:=Xh z4;have Y4:=Xh y4
    clear q4 z4 y4 h4
    go_wp2_with fail
    go_ret2
    exact⟨A4,n4,c4,rfl,Q4.out,Z4.out,Y4.out⟩
  · rw[if_neg hl] at hE HSL
    obtain⟨s',he,e0⟩:=Option.map_eq_some_iff.1 hE
    subst e0
    have hmm:=HM.out _ _ _ _ he
    have hna:(aG s.1).1.length≤W.n:=Nat.le_trans hmm.1 hn
    have HND:=Xh (HN.out Xf ht)
    have HEE:=Xh he;have HNA:=Xh hna
    clear hE HE he hmm hna HN
    go_wp2_with fail
    refine (HSL.out w2).mono ?_
    rintro e w3 ⟨rfl,g3⟩
    have B3:=Xh (B2.out.mono (show Gr w2 w3 from g3));have S3:=Xh (S2.out.gr (show Gr w2 w3 from g3));have G3:=Xh (G2.out.trans (show Gr w2 w3 from g3))
    clear g3 k0 k1 k2 s1 s2 s3 s4 s5 s6
    obtain⟨⟨k0,k1,k2⟩,s1,s2,s3,s4,s5,s6⟩:=S3.out.cells
    have HDR:=Xh (S3.out.draw HNA.out)
    go_wp2_with fail
    refine HDR.out.mono ?_
    rintro e w4 ⟨KA4,kc4,rfl,q4,z4,y4⟩
    have Q4:=Xh q4;have K4:=Xh ((KY.gr G3.out).trans (KY.kq y4))
    have HN4:=Xh (HND.out _ _ w4 A1 KA4 n1 c1 kc4 was _ z4 (B3.out.kq y4) q4 HEE.out hn hP)
    clear q4 z4 y4 k0 k1 k2 s1 s2 s3 s4 s5 s6 HDR
    go_wp2_with fail
    refine HN4.out.mono ?_
    rintro e w5 ⟨rfl,z5,y5⟩
    have Z5:=Xh z5;have Y5:=Xh y5
    clear z5 y5
    go_wp2_with fail
    go_ret2
    exact⟨KA4,32,kc4,rfl,Q4.out.ky Y5.out,Z5.out,K4.out.trans Y5.out⟩
end
end
section
open Go.RowKit Go.Maps
abbrev LeT (s s':TS):Prop:=s.1.length≤s'.1.length∧s.2.length≤s'.2.length
theorem LeT.trans {a b c:TS} (h:LeT a b) (k:LeT b c):LeT a c:=⟨Nat.le_trans h.1 k.1,Nat.le_trans h.2 k.2⟩
theorem QF (c:Cg) (q:Nat) (s:TS):LeT s (pI c q s).2:=by
 unfold pI
 split
 · exact⟨Nat.le_refl _,by simp⟩
 · exact⟨((kS s.1).trans (lF _ _ _)).len,by simp⟩
section
variable {NN q:Nat} {M:Nat→Option Cg} {tou:Nat→Bool} {nd:Nat→List UInt8→List UInt8→TS→Option TS}
theorem uM (hm:∀k x s s',nd q k x s=some s'→LeT s s') {key row:List UInt8} {s:TS} {r:List UInt8×TS} (e:jq NN M tou nd key q row s=some r):LeT s r.2:=by
 unfold jq at e
 obtain⟨was,_,e⟩:=Option.bind_eq_some_iff.1 e
 split at e
 · cases e;exact⟨Nat.le_refl _,Nat.le_refl _⟩
 · split at e
   · obtain⟨c,_,e⟩:=Option.map_eq_some_iff.1 e
     subst e
     exact QF _ _ _
   · obtain⟨s',h,e⟩:=Option.map_eq_some_iff.1 e
     subst e
     exact LeT.trans (b:=((aG s.1).1,s.2)) ⟨(kS s.1).len,Nat.le_refl _⟩ (hm _ _ _ _ h)
theorem zD {ch:Nat→List UInt8→TS→Option (List UInt8×TS)} {nxt:List UInt8} {k:Nat} {r:List UInt8} {rs:List (List UInt8)} {s:TS} {y:List (List UInt8)×TS} (e:jF ch nxt k (r::rs) s=some y):
 ∃x y',ch k r s=some x∧((x.1=[]∧jF ch nxt (k+1) rs x.2=some y'∧y=([]::y'.1,y'.2))∨(x.1.length=32∧jF ch nxt (k+1) rs ((bI x.2.1 nxt x.1).1,x.2.2)=some y'∧y=(gX x.2.1 nxt x.1::y'.1,y'.2))):=by
 rw[jF] at e
 obtain⟨x,h,e⟩:=Option.bind_eq_some_iff.1 e
 split at e
 · rename_i h0
   obtain⟨y',h2,e⟩:=Option.map_eq_some_iff.1 e
   exact⟨x,y',h,.inl ⟨h0,h2,e.symm⟩⟩
 · split at e
   · rename_i h0
     obtain⟨y',h2,e⟩:=Option.map_eq_some_iff.1 e
     exact⟨x,y',h,.inr ⟨h0,h2,e.symm⟩⟩
   · cases e
theorem nT {ch:Nat→List UInt8→TS→Option (List UInt8×TS)} (hc:∀k r s x,ch k r s=some x→LeT s x.2) {nxt:List UInt8}:∀{rs:List (List UInt8)} {k:Nat} {s:TS} {y:List (List UInt8)×TS},jF ch nxt k rs s=some y→LeT s y.2
 | [],k,s,y,e=>by cases e;exact⟨Nat.le_refl _,Nat.le_refl _⟩
 |r::rs,k,s,y,e=>by
  obtain⟨x,y',h,⟨_,h2,rfl⟩| ⟨_,h2,rfl⟩⟩:=zD e
  · exact (hc _ _ _ _ h).trans (show LeT _ y'.2 from nT hc h2)
  · exact (hc _ _ _ _ h).trans (LeT.trans (b:=((bI x.2.1 nxt x.1).1,x.2.2)) ⟨(lF _ _ _).len,Nat.le_refl _⟩ (show LeT _ y'.2 from nT hc h2))
theorem sO {a:Nat} {Q:Nat→List UInt8}:∀(f p:Nat) (k x:List UInt8) (s s':TS),gU a NN Q M tou f p k x s=some s'→LeT s s'
 |0,_,_,_,_,_,e=>by cases e
 |f+1,p,k,x,s,s',e=>by
  unfold gU at e
  obtain⟨rows,_,e⟩:=Option.bind_eq_some_iff.1 e
  obtain⟨y,h,e⟩:=Option.map_eq_some_iff.1 e
  have :=nT (fun k r s x e=>uM (fun k x s s' e=>sO f _ k x s s' e) e) h
  subst e
  exact⟨this.1,by simp;omega⟩
end
section
variable {kb:Nat} {w w1 w':World}
theorem KY.new {S:Nat→Prop} (k:KY kb w w1) (T:Tch S w1 w') (hS:∀b,S b→w.heap.size≤b):KY kb w w':=⟨Nat.le_trans k.1 T.size,fun b a t m e h1 h2 h3=>(T.keep b (fV (k.2 b a t m e h1 h2 h3)) (fun q=>by have :=hS b q;have :=fV e;omega)).trans (k.2 b a t m e h1 h2 h3)⟩
end
end
end Go.Proofs.YtipdlnejmcmbbaaGreatDoor
