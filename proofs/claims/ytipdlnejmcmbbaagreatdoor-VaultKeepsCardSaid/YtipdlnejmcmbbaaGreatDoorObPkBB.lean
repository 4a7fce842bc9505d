/- Own texts, one behind the other. No condition. -/
import Derived.Test.YtipdlnejmcmbbaaGreatDoorObPkBA
set_option linter.unusedVariables false
set_option maxRecDepth 100000
set_option maxHeartbeats 8000000
set_option linter.unusedSimpArgs false
namespace Go.Proofs.YtipdlnejmcmbbaaGreatDoor
section
open Go.RowKit
theorem uh {a d l:Int} {life:Nat}:∀(P:List (List UInt8)) (m:Mc) (k:Nat),m.Live→(m.aN a d l life k P).2=0∧(m.aN a d l life k P).1.Live
 | [],m,k,h=>⟨rfl,h⟩
 |b::bs,m,k,h=>by
  obtain⟨h1,h2⟩:=(h.enc (dP a d l life k) (iW life k b)).write (dP a d l life k) (encS m.S (dP a d l life k) (iW life k b))
  have e:m.aN a d l life k (b::bs)=if (m.aO a d l life k b).2=0 then (m.aO a d l life k b).1.aN a d l life (k+1) bs else m.aO a d l life k b:=rfl
  have h1':(m.aO a d l life k b).2=0:=h1
  rw[e,if_pos h1']
  exact uh bs _ (k+1) h2
theorem jP {r:Mc×Int} {f:Mc→Mc×Int} (h:r.2=0∧r.1.Live) (hf:∀m:Mc,m.Live→(f m).2=0∧(f m).1.Live):(dU r f).2=0∧(dU r f).1.Live:=by
 unfold dU
 rw[if_pos h.1]
 exact hf _ h.2
theorem Mc.Live.bJ {m:Mc} (h:m.Live) (a d l:Int) (life:Nat) (P:List (List UInt8)):(m.bJ a d l life P).2=0∧(m.bJ a d l life P).1.Live:=jP (uh P m 0 h) (fun m h=>h.flush)
theorem Mc.Live.bL {m:Mc} (h:m.Live) (a d l:Int) (x:Spr):(m.bL a d l x).2=0∧(m.bL a d l x).1.Live:=jP ((h.enc _ _).write _ _) (fun m h=>h.flush)
theorem Mc.Live.clear {m:Mc} (h:m.Live):m.clear.2=0∧m.clear.1.Live:=jP (jP (h.write _ _) (fun m h=>h.write _ _)) (fun m h=>h.flush)
section
variable {w0 w w':World} {L:Pl} {m:Mc} {n:Nat} {a d l:Int} {x y:Spr} {vl vp:Value} {next:Nat} {due dead:Bool} {ps pv py:Nat}
structure BgI (L:Pl) (a d l:Int) (x y:Spr) (vl:Value) (next:Nat) (vp:Value) (due dead:Bool) (ps pv py:Nat) (w:World):Prop where
 s:Blk w ps 150 (aI L a d l x vl next vp due dead)
 v:Blk w pv 90 [.pointer (some ⟨ps,0,none⟩)]
 y:Blk w py 147 (aH y).toList
theorem BgI.gr (h:BgI L a d l x y vl next vp due dead ps pv py w) (g:Gr w w'):BgI L a d l x y vl next vp due dead ps pv py w':=⟨g.blk h.s,g.blk h.v,g.blk h.y⟩
theorem BgI.kq (h:BgI L a d l x y vl next vp due dead ps pv py w) (k:KQ L.kb w w'):BgI L a d l x y vl next vp due dead ps pv py w':=⟨nE k h.s,k.blk h.v Xi Xd,k.blk h.y Xi Xd⟩
theorem BgI.cells (h:BgI L a d l x y vl next vp due dead ps pv py w):w.cell? ⟨pv,0,none⟩=some (.pointer (some ⟨ps,0,none⟩))∧w.cell? ⟨ps,0,none⟩=some (.pointer (some ⟨L.dp,0,none⟩))∧w.cell? ⟨ps,1,none⟩=some (.pointer (some ⟨L.p,0,none⟩))∧w.cell? ⟨ps,2,none⟩=some (.int .i64 a)∧w.cell? ⟨ps,3,none⟩=some (.int .i64 d)∧w.cell? ⟨ps,4,none⟩=some (.int .i64 l)∧w.cell? ⟨ps,10,none⟩=some vp∧
 w.cell? ⟨py,0,none⟩=some (.int .u64 (y.life:Int))∧w.cell? ⟨py,1,none⟩=some (.int .i64 (y.base:Int))∧w.cell? ⟨py,2,none⟩=some (.int .u64 (y.gen:Int)):=
 ⟨h.v.cell 0,h.s.cell 0,h.s.cell 1,h.s.cell 2,h.s.cell 3,h.s.cell 4,h.s.cell 10,h.y.cell 0,h.y.cell 1,h.y.cell 2⟩
theorem LH (A:Option Addr) (N c:Nat) (R:List aj) (h:MSt w0 L m w) (f:Fit m a d l) (hlv:m.Live) (ho:m.Ok n) (hl:y.life<18446744073709551616) (hP:Pgs L.kb w A N c R) (hlen:(N:Int)=au a d l) (hsm:∀r∈R,r.n≤479) (hn:n+2*N+1≤90000) (hb:BgI L a d l x y vl next (.slice A N c) due dead ps pv py w):
 Calls Tryz.prog 175 #[.pointer (some ⟨pv,0,none⟩),.pointer (some ⟨py,0,none⟩)] w fun e w'=>e= .returned (.int .i64 0)∧MSt w0 L (m.bJ a d l y.life (R.map aj.l)).1 w'∧KQ L.kb w w':=by
 have hRN:=hP.len
 have HCL:Hid (∀wr,Gr w wr→Calls Tryz.prog 176 #[.pointer (some ⟨L.dp,0,none⟩),.pointer (some ⟨L.p,0,none⟩),.agg #[.int .i64 a,.int .i64 d,.int .i64 l],.int .u64 (y.life:Int),.slice A N c] wr (jX w0 wr L (m.bJ a d l y.life (R.map aj.l)))):=fun wr g=>by
  have :=El (h.mono g) f ho y.life hl A c R (by rw[hRN];exact hP.mono g) (by rw[hRN];exact hlen) hsm (by rw[hRN];exact hn)
  rwa[hRN] at this
 have HC:=Xh (fun wr (g:Gr w wr)=>(hb.gr g).cells)
 obtain⟨r,hr⟩:∃r,r=m.bJ a d l y.life (R.map aj.l):=⟨_,rfl⟩
 have hz:r.2=0:=by rw[hr];exact (hlv.bJ _ _ _ _ _).1
 rw[←hr] at HCL ⊢
 clear h f hlv ho hP hsm hb hr hRN hlen
 go_in
 go_upto_region 1 with fail
 refine wrU (KQ L.kb) 143 (fun w w' h=>h.1) (fun w w' b cs h hb=>h.sec hb) Xe [0,1,3,7,0,16,48,112,0,256,768,1792,0,4096,0,16384,49152,114688,262143,524287] [.p 12,.q 0,.p 1,.p 2,.q 3,.q 4,.p 5,.p 6,.q 7,.q 8,.p 9,.p 10,.q 11,.q 13,.q 14,.p 15,.p 16,.q 17,.t 18,.p 19] Xe (trivial) ?_
 refine gP ?_
 refine gQ (fun wq hq=>HC.out wq (Xk hq)) ?_
 refine gP ?_
 refine gP ?_
 refine gQ (fun wq hq=>HC.out wq (Xk hq)) ?_
 refine gQ (fun wq hq=>HC.out wq (Xk hq)) ?_
 refine gP ?_
 refine gP ?_
 refine gQ (fun wq hq=>HC.out wq (Xk hq)) ?_
 refine gQ (fun wq hq=>HC.out wq (Xk hq)) ?_
 refine gP ?_
 refine gP ?_
 refine gQ (fun wq hq=>HC.out wq (Xk hq)) ?_
 refine gQ (fun wq hq=>HC.out wq (Xk hq)) ?_
 refine gQ (fun wq hq=>HC.out wq (Xk hq)) ?_
 refine gP ?_
 refine gP ?_
 refine gQ (fun wq hq=>HC.out wq (Xk hq)) ?_
 refine gT ?_
 intro w7 g7 K hK
 refine (HCL.out w7 ((Gr.drew _).trans g7)).mono ?_
 rintro e wn ⟨rfl,h8,k8⟩
 refine hK _ _ k8 ?_;have K8:=Xh ((KQ.gr (kb:=L.kb) ((Gr.drew _).trans g7)).trans k8);have H8:=Xh h8;clear g7 h8 k8 hK;rw[hz]
 go_simp
 refine gP ?_
 refine wNi fun w9 g9=> ?_
 have K9:=Xh (K8.out.trans (KQ.gr g9));have H9:=Xh (H8.out.mono g9)
 clear g9 hz
 go_wp2_with fail
 go_ret
 exact⟨rfl,H9.out,K9.out⟩
theorem Ng (h:MSt w0 L m w) (f:Fit m a d l) (hlv:m.Live) (ho:m.Ok n) (hl:y.life<18446744073709551616) (hbs:y.base≤1073741824) (hg:y.gen<18446744073709551616) (hn:n+3≤90000) (hb:BgI L a d l x y vl next vp due dead ps pv py w):
 Calls Tryz.prog 177 #[.pointer (some ⟨pv,0,none⟩),.pointer (some ⟨py,0,none⟩)] w fun e w'=>e= .returned (.int .i64 0)∧MSt w0 L (m.bL a d l y).1 w'∧KQ L.kb w w':=by
 have HCL:=Xh (fun wr (g:Gr w wr)=>Bd (h.mono g) f ho hn y hl hbs hg)
 unfold aH at HCL
 have HC:=Xh (fun wr (g:Gr w wr)=>(hb.gr g).cells)
 obtain⟨r,hr⟩:∃r,r=m.bL a d l y:=⟨_,rfl⟩
 have hz:r.2=0:=by rw[hr];exact (hlv.bL _ _ _ _).1
 rw[←hr] at HCL ⊢
 clear h f hlv ho hb hr
 go_in
 go_upto_region 1 with fail
 refine wrU (KQ L.kb) 143 (fun w w' h=>h.1) (fun w w' b cs h hb=>h.sec hb) Xe [0,1,3,7,0,16,48,112,0,256,768,1792,0,8191,16383] [.q 0,.p 1,.p 2,.q 3,.q 4,.p 5,.p 6,.q 7,.q 8,.p 9,.p 10,.q 11,.q 12,.t 13,.p 14] Xe (trivial) ?_
 refine gQ (fun wq hq=>HC.out wq (Xk hq)) ?_
 refine gP ?_
 refine gP ?_
 refine gQ (fun wq hq=>HC.out wq (Xk hq)) ?_
 refine gQ (fun wq hq=>HC.out wq (Xk hq)) ?_
 refine gP ?_
 refine gP ?_
 refine gQ (fun wq hq=>HC.out wq (Xk hq)) ?_
 refine gQ (fun wq hq=>HC.out wq (Xk hq)) ?_
 refine gP ?_
 refine gP ?_
 refine gQ (fun wq hq=>HC.out wq (Xk hq)) ?_
 refine gQ (fun wq hq=>HC.out wq (Xk hq)) ?_
 refine gT ?_
 intro w7 g7 K hK
 refine (HCL.out w7 ((Gr.drew _).trans g7)).mono ?_
 rintro e wn ⟨rfl,h8,k8⟩
 refine hK _ _ k8 ?_;have K8:=Xh ((KQ.gr (kb:=L.kb) ((Gr.drew _).trans g7)).trans k8);have H8:=Xh h8;clear g7 h8 k8 hK;rw[hz]
 go_simp
 refine gP ?_
 refine wNi fun w9 g9=> ?_
 have K9:=Xh (K8.out.trans (KQ.gr g9));have H9:=Xh (H8.out.mono g9)
 clear g9 hz
 go_wp2_with fail
 go_ret
 exact⟨rfl,H9.out,K9.out⟩
end
end
section
open Go.RowKit
theorem gI:¬tyA 150:=by unfold tyA tyM;decide
section
variable {w0 w w':World} {L:Pl} {m:Mc} {n:Nat} {a d l:Int} {x y:Spr} {vl vp:Value} {next:Nat} {due dead:Bool} {ps pv py:Nat}
theorem MC (h:MSt w0 L m w) (f:Fit m a d l) (hbs:y.base≤1073741824) (hge:w0.heap.size≤ps) (hb:BgI L a d l x y vl next vp due dead ps pv py w):
 Calls Tryz.prog 179 #[.pointer (some ⟨py,0,none⟩),.pointer (some ⟨pv,0,none⟩)] w fun e w'=>e= .returned (.int .i64 0)∧∃pl,MSt w0 L m w'∧Blk w' ps 150 (aI L a d l y (.pointer (some ⟨pl,0,none⟩)) next vp false dead)∧Blk w' pl 294 (cB L a d l y.life y.base 0)∧w.heap.size≤pl∧Tch (fun b=>b=ps) w w':=by
 have HC:=Xh (fun wr (g:Gr w wr)=>(hb.gr g).cells)
 have HB:=Xh hb;have HH:=Xh h
 have HN:=Xh (fun wr (s:MSt w0 L m wr)=>LY s f y.life y.base hbs)
 clear h f hb
 go_in
 go_upto_region 1 with fail
 have ne1:¬(pv=ps):=fun e=>by have :=HB.out.v;rw[e] at this;exact absurd (bTy this HB.out.s) Xg
 have ne2:¬(py=ps):=fun e=>by have :=HB.out.y;rw[e] at this;exact absurd (bTy this HB.out.s) Xg
 have HT:=Xh (fun wr (t:Tch (fun b=>b=ps) w.drew wr)=>And.intro (((HB.out.v.mono (Gr.drew w)).tch t ne1).cell 0) (jc ((HB.out.y.mono (Gr.drew w)).tch t ne2)))
 have hlt:ps<w.heap.size:=HB.out.s.lt
 clear ne1 ne2
 refine wrV (Tch (fun b=>b=ps)) (KQ L.kb) 143 ?hlb (fun w w' h=>h.1) (fun w w' b cs h hb=>h.sec hb) Xe [0,0,0,5,13,29,63,127,255] [.q 0,.q 1,.q 2,.p 3,.p 4,.c 5,.p 6,.p 7,.c 8] Xe (trivial) ?_
 case hlb=>exact fun v w' b cs T hb k=>k.tch T Xf
 refine gQ (fun wq hq=>HT.out wq hq) ?_
 refine gQ (fun wq hq=>HT.out wq hq) ?_
 refine gQ (fun wq hq=>HT.out wq hq) ?_
 refine gP ?_
 refine gP ?_
 refine jh rfl rfl ?_
 intro w3 g3 K hK
 have B3:=Xh (HB.out.gr ((Gr.drew w).trans g3))
 have TH:w3.there ps 5 3:=fun j hj=>by
  rcases (show j=0∨j=1∨j=2 by omega) with e|e|e<;>subst e
  · exact⟨by rw[show w3.cell? ⟨ps,5+0,none⟩=_ from B3.out.s.cell 5];rfl,Blk.free B3.out.s 5⟩
  · exact⟨by rw[show w3.cell? ⟨ps,5+1,none⟩=_ from B3.out.s.cell 6];rfl,Blk.free B3.out.s 6⟩
  · exact⟨by rw[show w3.cell? ⟨ps,5+2,none⟩=_ from B3.out.s.cell 7];rfl,Blk.free B3.out.s 7⟩
 refine wp_store_mid 147 (.tmp 7) (.tmp 5) rfl ps 5 (aH y) rfl rfl TH iw (kC y) ?_
 refine hK _ _ (Tch.puts (S:=fun b=>b=ps) rfl _ _ _) ?_
 clear hK TH
 go_simp
 obtain⟨w4,hw4⟩:∃w4,w4=w3.setCells ps 5 (aH y).toList:=⟨_,rfl⟩
 have S4:Hid (Blk w4 ps 150 (aI L a d l y vl next vp due dead)):=by show Blk _ _ _ _;rw[hw4];exact ((B3.out.s.set 5 (.int .u64 (y.life:Int))).set 6 (.int .i64 (y.base:Int))).set 7 (.int .u64 (y.gen:Int))
 have T4:Hid (Tch (fun b=>b=ps) w3 w4):=by show Tch _ _ _;rw[hw4];exact Tch.puts (S:=fun b=>b=ps) rfl _ _ _
 have G3:Hid (Gr w w3):=(Gr.drew w).trans g3
 rw[←hw4]
 clear hw4 g3
 refine gP ?_
 refine gP ?_
 refine jh rfl rfl ?_
 intro w5 g5 K hK
 have S5:=Xh (S4.out.mono g5)
 have G5:=Xh g5
 have f11:=Blk.free S5.out 11
 have x11:=S5.out.cell 11
 clear g5
 go_simp
 refine hK _ _ (Tch.set ⟨ps,11,none⟩ _ rfl) ?_
 clear hK f11 x11
 go_simp
 refine wNi fun w7 g7=> ?_
 obtain⟨w6,hw6⟩:∃w6,w6=w5.setCell ⟨ps,11,none⟩ (.bool false):=⟨_,rfl⟩
 have S6:Blk w6 ps 150 (aI L a d l y vl next vp false dead):=by rw[hw6];exact S5.out.set 11 _
 have T6:Tch (fun b=>b=ps) w5 w6:=by rw[hw6];exact Tch.set ⟨ps,11,none⟩ _ rfl
 rw[←hw6] at g7
 clear hw6
 have S7:=Xh (S6.mono g7)
 have T7:Hid (Tch (fun b=>b=ps) w w7):=((((Tch.gr G3.out).trans T4.out).trans (Tch.gr G5.out)).trans T6).trans (Tch.gr g7)
 have ne1:¬(pv=ps):=fun e=>by have :=HB.out.v;rw[e] at this;exact absurd (bTy this HB.out.s) Xg
 have ne2:¬(py=ps):=fun e=>by have :=HB.out.y;rw[e] at this;exact absurd (bTy this HB.out.s) Xg
 have B7:Hid (BgI L a d l y y vl next vp false dead ps pv py w7):=⟨S7.out,HB.out.v.tch T7.out ne1,HB.out.y.tch T7.out ne2⟩
 have H7:Hid (MSt w0 L m w7):=HH.out.off T7.out (fun b e=>e▸hge) (fun b e=>e▸⟨_,_,HB.out.s,gI⟩)
 have HC2:=Xh (fun wr (g:Gr w7 wr)=>(B7.out.gr g).cells)
 clear S6 T6 g7 ne1 ne2
 go_upto_region 2 with fail
 refine wrG Xe [0,0,2,6,14,0,32,96,224,0,512,1536,3584,0,8192,0,32768,131070,262142,524286,524286,1048575,3145727,7340031,16777215] [.p 13,.p 15,.q 0,.q 1,.p 2,.p 3,.q 4,.q 5,.p 6,.p 7,.q 8,.q 9,.p 10,.p 11,.q 12,.q 14,.q 16,.c 17,.p 18,.p 19,.p 20,.p 21,.p 22,.s 23,.p 24] Xe (trivial) ?_
 refine gP ?_
 refine gP ?_
 refine gQ (fun wq hq=>HC2.out wq (Xk hq)) ?_
 refine gQ (fun wq hq=>HC2.out wq (Xk hq)) ?_
 refine gP ?_
 refine gP ?_
 refine gQ (fun wq hq=>HC2.out wq (Xk hq)) ?_
 refine gQ (fun wq hq=>HC2.out wq (Xk hq)) ?_
 refine gP ?_
 refine gP ?_
 refine gQ (fun wq hq=>HC2.out wq (Xk hq)) ?_
 refine gQ (fun wq hq=>HC2.out wq (Xk hq)) ?_
 refine gP ?_
 refine gP ?_
 refine gQ (fun wq hq=>HC2.out wq (Xk hq)) ?_
 refine gQ (fun wq hq=>HC2.out wq (Xk hq)) ?_
 refine gQ (fun wq hq=>HC2.out wq (Xk hq)) ?_
 refine gC ?_
 intro w8 g8 K hK
 refine (HN.out w8 (H7.out.mono ((Gr.drew _).trans g8))).mono ?_
 rintro e wn ⟨pl,rfl,g9,hpl,hlg⟩
 refine hK _ _ g9 ?_;have G9:=Xh (((Gr.drew w7).trans g8).trans g9);have LG:=Xh hlg;have hpl2:w7.heap.size≤pl:=Nat.le_trans ((Gr.drew w7).trans g8).size hpl;clear g8 g9 hlg hK
 go_simp
 refine gP ?_
 refine gP ?_
 refine gP ?_
 refine gP ?_
 refine gP ?_
 refine dV rfl rfl ?_
 intro wa ga K hK
 have Ga:=Xh (G9.out.trans ga)
 have Sa:=Xh (S7.out.mono Ga.out)
 have La:=Xh (LG.out.mono ga)
 have f8:=Blk.free Sa.out 8
 have x8:=Sa.out.cell 8
 clear ga
 go_simp
 refine hK _ _ ?_
 clear hK f8 x8
 go_simp
 refine gP ?_
 refine wNi fun wc gc=> ?_
 obtain⟨wb,hwb⟩:∃wb,wb=wa.setCell ⟨ps,8,none⟩ (.pointer (some ⟨pl,0,none⟩)):=⟨_,rfl⟩
 have Sb:Blk wb ps 150 (aI L a d l y (.pointer (some ⟨pl,0,none⟩)) next vp false dead):=by rw[hwb];exact Sa.out.set 8 _
 have Tb:Tch (fun b=>b=ps) wa wb:=by rw[hwb];exact Tch.set ⟨ps,8,none⟩ _ rfl
 rw[←hwb] at gc
 clear hwb
 have hne:¬(pl=ps):=fun e=>by have :=S7.out.lt;omega
 have Lc:=Xh ((La.out.tch Tb hne).mono gc)
 have Sc:=Xh (Sb.mono gc)
 have T7c:Hid (Tch (fun b=>b=ps) w7 wc):=((Tch.gr Ga.out).trans Tb).trans (Tch.gr gc)
 have Hc:Hid (MSt w0 L m wc):=H7.out.off T7c.out (fun b e=>e▸hge) (fun b e=>e▸⟨_,_,S7.out,gI⟩)
 clear Sb Tb gc hne
 go_wp2_with fail
 go_ret
 exact⟨rfl,pl,Hc.out,Sc.out,Lc.out,Nat.le_trans T7.out.size hpl2,T7.out.trans T7c.out⟩
end
end
section
open Go.RowKit
def Mc.begin (m:Mc) (a d l:Int) (y:Spr) (P:List (List UInt8)):Mc:=((m.bJ a d l y.life P).1.bL a d l y).1
theorem tQ {a d l:Int} {life:Nat}:∀(P:List (List UInt8)) (m:Mc) (k:Nat),(m.aN a d l life k P).1.d.kept.length=m.d.kept.length
 | [],m,k=>rfl
 |b::bs,m,k=>by
  have e:m.aN a d l life k (b::bs)=if (m.aO a d l life k b).2=0 then (m.aO a d l life k b).1.aN a d l life (k+1) bs else m.aO a d l life k b:=rfl
  rw[e]
  split
  · exact (tQ bs _ _).trans (oJ _ _ _ _ _ _ _)
  · exact oJ _ _ _ _ _ _ _
theorem rC (m:Mc) (a d l:Int) (life:Nat) (P:List (List UInt8)):(m.bJ a d l life P).1.d.kept.length=m.d.kept.length:=lK (tQ P m 0) (fun m h=>(iG m).trans h)
theorem pW (m:Mc) (a d l:Int) (x:Spr):(m.bL a d l x).1.d.kept.length=m.d.kept.length:=lK (gu _ _ _) (fun m h=>(iG m).trans h)
theorem Mc.Live.begin {m:Mc} (h:m.Live) (a d l:Int) (y:Spr) (P:List (List UInt8)):(m.begin a d l y P).Live:=((h.bJ a d l y.life P).2.bL a d l y).2
theorem Mc.Ok.begin {m:Mc} {n:Nat} (h:m.Ok n) (a d l:Int) (y:Spr) (P:List (List UInt8)):(m.begin a d l y P).Ok (n+2*P.length+4):=((h.bJ a d l y.life P).bL a d l y).le Xf
theorem sS (m:Mc) (a d l:Int) (y:Spr) (P:List (List UInt8)):(m.begin a d l y P).d.kept.length=m.d.kept.length:=(pW _ _ _ _ _).trans (rC _ _ _ _ _ _)
section
variable {w0 w w':World} {L:Pl} {m:Mc} {n:Nat} {a d l:Int} {x y:Spr} {vl:Value} {next:Nat} {due dead:Bool} {ps:Nat}
theorem pY {kb g:Nat} {cs:List Value} (k:KQ kb w w') (h:Blk w g 211 cs):Blk w' g 211 cs:=k.blk h Xi Xd
theorem qV (A:Option Addr) (N c:Nat) (R:List aj) (h:MSt w0 L m w) (f:Fit m a d l) (hlv:m.Live) (ho:m.Ok n) (hl:y.life<18446744073709551616) (hbs:y.base≤1073741824) (hg:y.gen<18446744073709551616) (hge:w0.heap.size≤ps) (hP:Pgs L.kb w A N c R) (hlen:(N:Int)=au a d l) (hsm:∀r∈R,r.n≤479) (hn:n+2*N+4≤90000) (hs:Blk w ps 150 (aI L a d l x vl next (.slice A N c) due dead)):
 Calls Tryz.prog 103 #[.pointer (some ⟨ps,0,none⟩),.agg (aH y)] w fun e w'=>e= .returned (.int .i64 0)∧∃pl,MSt w0 L (m.begin a d l y (R.map aj.l)) w'∧Blk w' ps 150 (aI L a d l y (.pointer (some ⟨pl,0,none⟩)) next (.slice A N c) false dead)∧Blk w' pl 294 (cB L a d l y.life y.base 0)∧w.heap.size≤pl∧KX (fun b=>b=ps) L.kb w w':=by
 have hRN:R.length=N:=hP.len
 obtain⟨F,hF⟩:∃F:List Value,F=[.func (.func 175) #[] #[.pointer (some ⟨w.heap.size,0,none⟩),.pointer (some ⟨w.heap.size+1,0,none⟩)],.func (.func 177) #[] #[.pointer (some ⟨w.heap.size,0,none⟩),.pointer (some ⟨w.heap.size+1,0,none⟩)],.func (.func 179) #[] #[.pointer (some ⟨w.heap.size+1,0,none⟩),.pointer (some ⟨w.heap.size,0,none⟩)]]:=⟨_,rfl⟩
 obtain⟨w1,hw1⟩:∃w1,w1=(w.alloc (.cells #[.pointer (some ⟨ps,0,none⟩)] 90)).alloc (.cells (aH y) 147):=⟨_,rfl⟩
 have g1:Gr w w1:=by rw[hw1];exact (Gr.alloc _ _).trans (Gr.alloc _ _)
 have b1:Blk w1 w.heap.size 90 [.pointer (some ⟨ps,0,none⟩)]:=by rw[hw1];exact (Blk.new w _ _).alloc _
 have y1:Blk w1 (w.heap.size+1) 147 (aH y).toList:=by rw[hw1];exact heap_alloc2_new w _ _
 have e1:w1.heap.size=w.heap.size+1+1:=by rw[hw1,World.size_alloc,World.size_alloc]
 obtain⟨w2,hw2⟩:∃w2,w2=w1.alloc (.cells F.toArray 211):=⟨_,rfl⟩
 have g2:Gr w w2:=by rw[hw2];exact g1.trans (Gr.alloc _ _)
 have s2:Blk w2 w1.heap.size 211 F:=by rw[hw2];exact Blk.new w1 _ F.toArray
 have B2:BgI L a d l x y vl next (.slice A N c) due dead ps w.heap.size (w.heap.size+1) w2:=⟨g2.blk hs,by rw[hw2];exact b1.alloc _,by rw[hw2];exact y1.alloc _⟩
 obtain⟨m1,hm1⟩:∃m1,m1=(m.bJ a d l y.life (R.map aj.l)).1:=⟨_,rfl⟩
 have ho1:m1.Ok (n+2*N+1):=by rw[hm1];have :=ho.bJ a d l y.life (R.map aj.l);rwa[List.length_map,hRN] at this
 have hlv1:m1.Live:=by rw[hm1];exact (hlv.bJ _ _ _ _ _).2
 have f1:Fit m1 a d l:=⟨f.g,by rw[hm1,rC];exact f.s⟩
 obtain⟨m2,hm2⟩:∃m2,m2=(m1.bL a d l y).1:=⟨_,rfl⟩
 have f2:Fit m2 a d l:=⟨f.g,by rw[hm2,pW];exact f1.s⟩
 have hmm:m.begin a d l y (R.map aj.l)=m2:=by rw[hm2,hm1];rfl
 have ST:Calls Tryz.prog 98 #[.slice (some ⟨w1.heap.size,0,none⟩) 3 3] w2 (iq (fun w'=>∃pl,MSt w0 L m2 w'∧Blk w' ps 150 (aI L a d l y (.pointer (some ⟨pl,0,none⟩)) next (.slice A N c) false dead)∧Blk w' pl 294 (cB L a d l y.life y.base 0)∧w.heap.size≤pl∧KX (fun b=>b=ps) L.kb w w') (fun _ _=>False)):=by
  rw[hF] at s2
  refine qJ _ _ _ _ _ _ _ _ _ (enters_of Tryz.func175 Xe rfl) (enters_of Tryz.func177 Xe rfl) (enters_of Tryz.func179 Xe rfl) w1.heap.size w2 (fun w'=>MSt w0 L m1 w'∧KQ L.kb w2 w') (fun w'=>MSt w0 L m2 w'∧KQ L.kb w2 w') _ _ s2 ?_ ?_ ?_
  · refine (LH A N c R (h.mono g2) f hlv ho hl (hP.mono g2) hlen hsm Xf B2).mono ?_
    rintro e w3 ⟨rfl,h3,k3⟩
    exact⟨0,rfl,fun _=>⟨by rw[hm1];exact h3,k3⟩,fun q=>absurd rfl q⟩
  · rintro w3 ⟨h3,k3⟩
    refine⟨pY k3 s2,(Ng h3 f1 hlv1 ho1 hl hbs hg Xf (B2.kq k3)).mono ?_⟩
    rintro e w4 ⟨rfl,h4,k4⟩
    exact⟨0,rfl,fun _=>⟨by rw[hm2];exact h4,k3.trans k4⟩,fun q=>absurd rfl q⟩
  · rintro w4 ⟨h4,k4⟩
    refine⟨pY k4 s2,(MC h4 f2 hbs hge (B2.kq k4)).mono ?_⟩
    rintro e w5 ⟨rfl,pl,h5,s5,l5,hpl,T5⟩
    exact⟨0,rfl,fun _=>⟨pl,h5,s5,l5,by have :=k4.1;have :=g2.size;omega,(KX.gr g2).trans ((KX.kq k4).trans (KX.tch T5))⟩,fun q=>absurd rfl q⟩
 rw[e1,hw2,hw1,hF] at ST
 have HST:=Xh ST;have HMM:=Xh hmm
 clear h f hlv ho hP hsm hs g1 b1 y1 g2 s2 B2 hm1 ho1 hlv1 f1 hm2 f2 hmm ST hw1 hw2 hF hRN hlen e1
 unfold aH at HST ⊢
 go_in
 go_wp2_with fail
 refine HST.out.mono ?_
 rintro e w5 ⟨q,rfl,hi,he⟩
 have hq:q=0:=by
  rcases (show q=0∨q≠0 by omega) with z|z
  · exact z
  · exact (he z).elim
 have HI:=Xh (hi hq)
 subst hq
 clear hi he
 go_wp2_with fail
 go_ret
 obtain⟨pl,i1,i2,i3,i4,i5⟩:=HI.out
 exact⟨rfl,pl,by rw[HMM.out];exact i1,i2,i3,i4,i5⟩
end
end
section
open Go.RowKit
section
variable {w0 w w':World} {L:Pl} {m:Mc} {n:Nat} {a d l:Int} {x y:Spr} {vl:Value} {next:Nat} {due dead:Bool} {ps pv pd pg:Nat}
theorem Pgs.empty {kb b N:Nat} (hN:N≤264) (hb:Blk w b 43 (List.replicate N (.slice none 0 0))):Pgs kb w (some ⟨b,0,none⟩) N N (List.replicate N ⟨none,0,0,[]⟩):=by
 refine⟨⟨by simp,Nat.le_refl _,by simp only[maxLen];omega,fun h0=>⟨b,0,rfl,fun j u hu=> ?_⟩⟩,fun b' o' h0 e=> ?_,fun r hr=> ?_⟩
 · rw[List.map_replicate] at hu
   rw[Nat.zero_add]
   exact (hb.cell j).trans hu
 · injection e with e
   injection e with e1 _
   subst e1
   exact⟨_,_,_,hb,by unfold tyM;decide,fun e=>absurd e Xg⟩
 · rw[List.eq_of_mem_replicate hr]
   exact QB.nil _ _
theorem Ja (h:MSt w0 L m w) (f:Fit m a d l) (hlv:m.Live) (ho:m.Ok n) (hn:n+3≤90000) (hd:Blk w pd 28 [.pointer (some ⟨L.dp,0,none⟩)]) (hg:Blk w pg 23 [.int .i64 a,.int .i64 d,.int .i64 l]):
 Calls Tryz.prog 99 #[.pointer (some ⟨pd,0,none⟩),.pointer (some ⟨pg,0,none⟩)] w fun e w'=>e= .returned (.int .i64 0)∧MSt w0 L m.clear.1 w'∧KQ L.kb w w':=by
 have HCL:=Xh (BD h f ho hn)
 obtain⟨r,hr⟩:∃r,r=m.clear:=⟨_,rfl⟩
 have hz:r.2=0:=by rw[hr];exact hlv.clear.1
 rw[←hr] at HCL ⊢
 have d0:=hd.cell 0
 have k0:=hg.cell 0
 have k1:=hg.cell 1
 have k2:=hg.cell 2
 clear h f hlv ho hd hg hr
 go_in
 go_wp2_with fail
 refine HCL.out.mono ?_
 rintro e w1 ⟨rfl,h1,k1'⟩
 rw[hz]
 have H1:=Xh h1;have K1:=Xh k1'
 clear h1 k1' hz d0 k0 k1 k2
 go_wp2_with fail
 go_ret
 exact⟨rfl,H1.out,K1.out⟩
theorem Jd (A:Option Addr) (N c:Nat) (R:List aj) (h:MSt w0 L m w) (f:Fit m a d l) (hlv:m.Live) (ho:m.Ok n) (hge:w0.heap.size≤ps) (hP:Pgs L.kb w A N c R) (hlen:(N:Int)=au a d l) (hsm:∀r∈R,r.n≤479) (hn:n+2*N+4≤90000) (hs:Blk w ps 150 (aI L a d l x vl next (.slice A N c) due dead)) (hv:Blk w pv 90 [.pointer (some ⟨ps,0,none⟩)]):
 Calls Tryz.prog 102 #[.pointer (some ⟨pv,0,none⟩)] w fun e w'=>e= .returned (.int .i64 0)∧∃pl,MSt w0 L (m.begin a d l ⟨1,0,0⟩ (R.map aj.l)) w'∧Blk w' ps 150 (aI L a d l ⟨1,0,0⟩ (.pointer (some ⟨pl,0,none⟩)) next (.slice A N c) false dead)∧Blk w' pl 294 (cB L a d l 1 0 0)∧w.heap.size≤pl∧KX (fun b=>b=ps) L.kb w w':=by
 have HCL:=Xh (qV (y:=⟨1,0,0⟩) A N c R h f hlv ho Xg Xg Xg hge hP hlen hsm hn hs)
 have v0:=hv.cell 0
 unfold aH at HCL
 clear h f hlv ho hP hlen hsm hs hv
 go_in
 go_wp2_with fail
 refine HCL.out.mono ?_
 rintro e w1 ⟨rfl,pl,i1,i2,i3,i4,i5⟩
 have I1:=Xh i1;have I2:=Xh i2;have I3:=Xh i3;have I5:=Xh i5;have I4:=Xh i4
 clear i1 i2 i3 i5 i4 v0
 go_wp2_with fail
 go_ret
 exact⟨rfl,pl,I1.out,I2.out,I3.out,I4.out,I5.out⟩
end
end
section
open Go.RowKit
def Mc.format (m:Mc) (a d l:Int) (N:Nat):Mc:=(m.clear.1.jV l).begin a d l ⟨1,0,0⟩ (List.replicate N [])
theorem zy (m:Mc):m.clear.1.d.kept.length=m.d.kept.length:=lK (lK (gu _ _ _) (fun m h=>(gu _ _ _).trans h)) (fun m h=>(iG m).trans h)
theorem zf (m:Mc) (l:Int):∀k,(m.jD l k).d.kept.length=m.d.kept.length
 |0=>rfl
 |k+1=>(gu _ _ _).trans (zf m l k)
theorem Dn (m:Mc) (l:Int):(m.jV l).d.kept.length=m.d.kept.length:=(iG _).trans (zf m l _)
theorem Mc.Live.jV {m:Mc} {n:Nat} (h:m.Live) (ho:m.Ok n) (l:Int):(m.jV l).Live:=(p8 l h ho _).1.flush.2
theorem Mc.Ok.jV {m:Mc} {n:Nat} (h:m.Live) (ho:m.Ok n) (l:Int):(m.jV l).Ok (n+l.toNat+1):=(p8 l h ho _).2.1.flush
theorem IE (m:Mc) (a d l:Int) (N:Nat):(m.format a d l N).d.kept.length=m.d.kept.length:=(sS _ _ _ _ _ _).trans ((Dn _ _).trans (zy m))
theorem Mc.Live.format {m:Mc} {n:Nat} (h:m.Live) (ho:m.Ok n) (a d l:Int) (N:Nat):(m.format a d l N).Live:=(h.clear.2.jV ho.clear l).begin _ _ _ _ _
section
variable {w0 w w':World} {L:Pl} {m:Mc} {n:Nat} {a d l:Int} {ps pv pd pg b:Nat}
theorem zo (N bs:Nat) (w2:World) (h:MSt w0 L m w2) (f:Fit m a d l) (hlv:m.Live) (ho:m.Ok n) (hge:w0.heap.size≤ps) (hlen:(N:Int)=au a d l) (hn:n+2*N+80≤90000)
 (hd:Blk w2 pd 28 [.pointer (some ⟨L.dp,0,none⟩)]) (hg:Blk w2 pg 23 [.int .i64 a,.int .i64 d,.int .i64 l]) (hv:Blk w2 pv 90 [.pointer (some ⟨ps,0,none⟩)])
 (hs:Blk w2 ps 150 (aI L a d l bO (.pointer none) 0 (.slice (some ⟨b,0,none⟩) N N) false false)) (hb:Blk w2 b 43 (List.replicate N (.slice none 0 0)))
 (hst:Blk w2 bs 211 [.func (.func 99) #[] #[.pointer (some ⟨pd,0,none⟩),.pointer (some ⟨pg,0,none⟩)],.func (.func 101) #[.pointer (some ⟨ps,0,none⟩)] #[],.func (.func 102) #[] #[.pointer (some ⟨pv,0,none⟩)]]):
 Calls Tryz.prog 98 #[.slice (some ⟨bs,0,none⟩) 3 3] w2 (iq (fun w'=>∃pl,MSt w0 L (m.format a d l N) w'∧Blk w' ps 150 (aI L a d l ⟨1,0,0⟩ (.pointer (some ⟨pl,0,none⟩)) 0 (.slice (some ⟨b,0,none⟩) N N) false false)∧Blk w' pl 294 (cB L a d l 1 0 0)∧w2.heap.size≤pl∧KX (fun x=>x=ps) L.kb w2 w') (fun _ _=>False)):=by
 obtain⟨h3,h4⟩:=f.g.l
 have hN:N≤264:=by have :=(pgE a d l).2;omega
 have f1:Fit m.clear.1 a d l:=⟨f.g,by rw[zy];exact f.s⟩
 have f2:Fit (m.clear.1.jV l) a d l:=⟨f.g,by rw[Dn];exact f1.s⟩
 have ho2:(m.clear.1.jV l).Ok (n+70):=(Mc.Ok.jV hlv.clear.2 ho.clear l).le Xf
 refine qJ _ _ _ _ _ _ _ _ _ (enters_of Tryz.func99 Xe rfl) (enters_of Tryz.func101 Xe rfl) (enters_of Tryz.func102 Xe rfl) bs w2 (fun w'=>MSt w0 L m.clear.1 w'∧KQ L.kb w2 w') (fun w'=>MSt w0 L (m.clear.1.jV l) w'∧KQ L.kb w2 w') _ _ hst ?_ ?_ ?_
 · refine (Ja h f hlv ho Xf hd hg).mono ?_
   rintro e w3 ⟨rfl,h3,k3⟩
   exact⟨0,rfl,fun _=>⟨h3,k3⟩,fun q=>absurd rfl q⟩
 · rintro w3 ⟨h3,k3⟩
   refine⟨pY k3 hst,(Dy h3 f1 hlv.clear.2 ho.clear Xf ps _ _ _ _ _ _ (nE k3 hs)).mono ?_⟩
   rintro e w4 ⟨rfl,h4,k4⟩
   exact⟨0,rfl,fun _=>⟨h4,k3.trans k4⟩,fun q=>absurd rfl q⟩
 · rintro w4 ⟨h4,k4⟩
   refine⟨pY k4 hst,(Jd (some ⟨b,0,none⟩) N N (List.replicate N ⟨none,0,0,[]⟩) h4 f2 (hlv.clear.2.jV ho.clear l) ho2 hge ((Pgs.empty hN hb).kq k4) hlen (fun r hr=>by rw[List.eq_of_mem_replicate hr];decide) Xf (nE k4 hs) (k4.blk hv Xi Xd)).mono ?_⟩
   rintro e w5 ⟨rfl,pl,i1,i2,i3,i4,i5⟩
   rw[List.map_replicate] at i1
   exact⟨0,rfl,fun _=>⟨pl,i1,i2,i3,Nat.le_trans k4.1 i4,(KX.kq k4).trans i5⟩,fun q=>absurd rfl q⟩
end
end
section
open Go.RowKit
section
variable {w0 w w':World} {L:Pl} {m:Mc} {n:Nat} {a d l:Int}
theorem Ak (N:Nat) (h:MSt w0 L m w) (f:Fit m a d l) (hlv:m.Live) (ho:m.Ok n) (hlen:(N:Int)=au a d l) (hn:n+2*N+80≤90000):
 Calls Tryz.prog 48 #[.pointer (some ⟨L.dp,0,none⟩),.pointer (some ⟨L.p,0,none⟩),.agg #[.int .i64 a,.int .i64 d,.int .i64 l]] w fun e w'=>∃ps pl b,e= .returned (.tuple #[.pointer (some ⟨ps,0,none⟩),.int .i64 0])∧MSt w0 L (m.format a d l N) w'∧Blk w' ps 150 (aI L a d l ⟨1,0,0⟩ (.pointer (some ⟨pl,0,none⟩)) 0 (.slice (some ⟨b,0,none⟩) N N) false false)∧Blk w' pl 294 (cB L a d l 1 0 0)∧Blk w' b 43 (List.replicate N (.slice none 0 0))∧w.heap.size≤ps∧w.heap.size≤pl∧w.heap.size≤b∧KQ L.kb w w':=by
 obtain⟨W,hW⟩:∃W,W=(w.alloc (.cells #[.pointer (some ⟨L.dp,0,none⟩)] 28)).alloc (.cells #[.int .i64 a,.int .i64 d,.int .i64 l] 23):=⟨_,rfl⟩
 have g0:Gr w W:=by rw[hW];exact (Gr.alloc _ _).trans (Gr.alloc _ _)
 have d0:Blk W w.heap.size 28 [.pointer (some ⟨L.dp,0,none⟩)]:=by rw[hW];exact (Blk.new w _ _).alloc _
 have q0:Blk W (w.heap.size+1) 23 [.int .i64 a,.int .i64 d,.int .i64 l]:=by rw[hW];exact heap_alloc2_new w _ _
 have G0:=Xh g0;have D0:=Xh d0;have Q0:=Xh q0;have HW:=Xh hW
 have HRI:=Xh (rE (h.mono g0) f)
 have HEM:=Xh (fun wr=>Ed f.g N hlen wr)
 have HST:=Xh (fun (w2:World) (g:Gr w w2) (ps pv pd pg b bs:Nat) (hge:w.heap.size≤ps)=>zo (ps:=ps) (pv:=pv) (pd:=pd) (pg:=pg) (b:=b) N bs w2 (h.mono g) f hlv ho (Nat.le_trans h.below.size hge) hlen hn)
 clear hW g0 d0 q0 h f hlv ho hlen
 go_in
 go_upto_region 1 with fail
 rw[←HW.out]
 have k0:=D0.out.cell 0
 have y0:=Q0.out.cell 0
 have y1:=Q0.out.cell 1
 have y2:=Q0.out.cell 2
 go_wp2_with fail
 refine HRI.out.mono ?_
 rintro e w1 ⟨rfl,g1⟩
 have G1:=Xh (G0.out.trans g1)
 have D1:=Xh (D0.out.mono g1)
 have Q1:=Xh (Q0.out.mono g1)
 clear g1 k0 y0 y1 y2
 go_upto_region 4 with fail
 refine wrG Xe [0,0,0,0,8,31,63,0,255] [.p 1,.q 0,.q 2,.q 3,.c 4,.p 5,.c 6,.m 7 90 #[.pointer none],.s 8] Xe (⟨fun o ho ρ w=>by cases ho;kernel_rfl,trivial⟩) ?_
 refine gP ?_
 refine gQ (fun _ hq=>(D1.out.mono (Xk hq)).cell 0) ?_
 refine gQ (fun _ hq=>And.intro ((Q1.out.mono (Xk hq)).cell 0) (And.intro ((Q1.out.mono (Xk hq)).cell 1) ((Q1.out.mono (Xk hq)).cell 2))) ?_
 refine gQ (fun _ hq=>And.intro ((Q1.out.mono (Xk hq)).cell 0) (And.intro ((Q1.out.mono (Xk hq)).cell 1) ((Q1.out.mono (Xk hq)).cell 2))) ?_
 refine gC ?_
 intro w3 g3 K hK
 refine (HEM.out w3).mono ?_
 rintro e wn ⟨b,rfl,g4,hb4,b4⟩
 refine hK _ _ g4 ?_;have G4:=Xh (((Gr.drew w1).trans g3).trans g4);have B4:=Xh b4;have hb5:w.heap.size≤b:=Nat.le_trans (G1.out.trans ((Gr.drew w1).trans g3)).size hb4;clear g3 g4 b4 hb4 hK
 go_simp
 refine gP ?_
 refine jh rfl rfl ?_
 intro w5 g5 K hK
 go_simp
 refine hK _ _ (Gr.alloc _ _) ?_
 obtain⟨w6,hw6⟩:∃w6,w6=w5.alloc (.cells #[.pointer (some ⟨L.dp,0,none⟩),.pointer (some ⟨L.p,0,none⟩),.int .i64 a,.int .i64 d,.int .i64 l,.int .u64 0,.int .i64 0,.int .u64 0,.pointer none,.int .i64 0,.slice (some ⟨b,0,none⟩) N N,.bool false,.bool false] 150):=⟨_,rfl⟩
 rw[←hw6]
 have g56:Gr w5 w6:=by rw[hw6];exact Gr.alloc _ _
 have s6:Blk w6 w5.heap.size 150 (aI L a d l bO (.pointer none) 0 (.slice (some ⟨b,0,none⟩) N N) false false):=by rw[hw6];exact Blk.new w5 _ #[.pointer (some ⟨L.dp,0,none⟩),.pointer (some ⟨L.p,0,none⟩),.int .i64 a,.int .i64 d,.int .i64 l,.int .u64 0,.int .i64 0,.int .u64 0,.pointer none,.int .i64 0,.slice (some ⟨b,0,none⟩) N N,.bool false,.bool false]
 have G6:Hid (Gr w1 w6):=(G4.out.trans g5).trans g56
 have S6:=Xh s6
 have B6:=Xh (B4.out.mono (g5.trans g56))
 have hps:w.heap.size≤w5.heap.size:=(G1.out.trans (G4.out.trans g5)).size
 clear hK g5 g56 s6 hw6
 generalize w5.heap.size=ps at *
 go_simp
 refine EG rfl rfl ?_
 intro w7 pv g7 hpv hblk hI
 have G7:=Xh (G6.out.trans g7)
 have S7:=Xh (S6.out.mono g7);have B7:=Xh (B6.out.mono g7)
 have V7:Hid (Blk w7 pv 90 [.pointer none]):=hblk
 have hpv1:w1.heap.size≤pv:=hpv
 clear hI hblk g7 hpv
 go_simp
 refine dV rfl rfl ?_
 intro w8 g8 K hK
 have G8:=Xh (G7.out.trans g8)
 have S8:=Xh (S7.out.mono g8);have B8:=Xh (B7.out.mono g8);have V8:=Xh (V7.out.mono g8)
 have f0:=Blk.free V8.out 0
 have x0:=V8.out.cell 0
 clear g8
 go_simp
 refine hK _ _ ?_
 clear hK f0 x0
 go_simp
 refine wNi fun wa ga=> ?_
 obtain⟨w9,hw9⟩:∃w9,w9=w8.setCell ⟨pv,0,none⟩ (.pointer (some ⟨ps,0,none⟩)):=⟨_,rfl⟩
 have V9:Blk w9 pv 90 [.pointer (some ⟨ps,0,none⟩)]:=by rw[hw9];exact V8.out.set 0 _
 have T9:Tch (fun x=>x=pv) w8 w9:=by rw[hw9];exact Tch.set ⟨pv,0,none⟩ _ rfl
 rw[←hw9] at ga
 clear hw9
 have G19:Hid (Gr w1 wa):=Gr.trans (Tch.below G8.out T9 G8.out.size (fun x e=>e▸hpv1)) ga
 have Sa:=Xh ((S8.out.tch T9 (fun e=>by have :=V8.out;rw[←e] at this;exact absurd (bTy this S8.out) Xg)).mono ga)
 have Ba:=Xh ((B8.out.tch T9 (fun e=>by have :=V8.out;rw[←e] at this;exact absurd (bTy this B8.out) Xg)).mono ga)
 have Va:=Xh (V9.mono ga)
 have Da:=Xh (D1.out.mono G19.out);have Qa:=Xh (Q1.out.mono G19.out)
 have Ga:=Xh (G1.out.trans G19.out)
 clear V9 T9 ga
 have v0:=Va.out.cell 0
 go_wp2_with fail
 obtain⟨F,hF⟩:∃F:Array Value,F=#[.func (.func 99) #[] #[.pointer (some ⟨w.heap.size,0,none⟩),.pointer (some ⟨w.heap.size+1,0,none⟩)],.func (.func 101) #[.pointer (some ⟨ps,0,none⟩)] #[],.func (.func 102) #[] #[.pointer (some ⟨pv,0,none⟩)]]:=⟨_,rfl⟩
 rw[←hF]
 have gb:Gr wa (wa.alloc (.cells F 211)):=Gr.alloc _ _
 have bst:=Blk.new wa 211 F
 have Gb:=Xh (Ga.out.trans gb)
 have Sb:=Xh (Sa.out.mono gb)
 have Bb:=Xh (Ba.out.mono gb)
 rw[hF] at bst
 have HS2:=HST.out _ Gb.out ps pv w.heap.size (w.heap.size+1) b wa.heap.size hps (Da.out.mono gb) (Qa.out.mono gb) (Va.out.mono gb) Sb.out Bb.out (by rw[hF];exact bst)
 have HS3:=Xh HS2
 clear HS2 bst gb v0
 refine HS3.out.mono ?_
 rintro e wc ⟨q,rfl,hi,he⟩
 have hq:q=0:=by
  rcases (show q=0∨q≠0 by omega) with z|z
  · exact z
  · exact (he z).elim
 have HI:=Xh (hi hq)
 subst hq
 obtain⟨pl,i1,i2,i3,i4,i5⟩:=hi rfl
 have kv:Blk wc pv 90 [.pointer (some ⟨ps,0,none⟩)]:=i5.blk (Va.out.mono (Gr.alloc wa _)) Xi Xd (fun e=>by have :=Va.out;rw[e] at this;exact absurd (bTy this Sa.out) Xg)
 have v0:=kv.cell 0
 clear hi he i1 i2 i3 i4 i5 hF kv
 go_wp2_with fail
 go_ret2
 obtain⟨pl,i1,i2,i3,i4,i5⟩:=HI.out
 refine⟨ps,pl,b,rfl,i1,i2,i3,i5.blk Bb.out Xi Xd (fun e=>by have :=Bb.out;rw[e] at this;exact absurd (bTy this Sb.out) Xg),hps,Nat.le_trans Gb.out.size i4,hb5,((KX.gr Gb.out).trans i5).WG (fun x hx e=>by omega)⟩
end
end
end Go.Proofs.YtipdlnejmcmbbaaGreatDoor
