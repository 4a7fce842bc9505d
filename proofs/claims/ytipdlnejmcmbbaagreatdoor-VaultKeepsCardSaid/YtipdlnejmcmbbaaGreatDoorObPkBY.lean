/- Own texts, one behind the other. No condition. -/
import Derived.Test.YtipdlnejmcmbbaaGreatDoorObPkBX
import Derived.Stop.Joined
import Derived.Handed
import Derived.Test.YtipdlnejmcmbbaaGreatDoorRows
import Derived.Lay
import Derived.LaidMore
import Derived.LaidOnce
import Derived.PinnedBridge
import Derived.Lib.LaidU8
import Derived.Stop.LaidErr
set_option linter.unusedVariables false
set_option maxRecDepth 100000
set_option maxHeartbeats 8000000
set_option linter.unusedSimpArgs false
namespace Go.Proofs.YtipdlnejmcmbbaaGreatDoor
section
open Go.RowKit
theorem Ud {w0 w1 w:World} {p g bm bs:Nat} {T:List Nd} (h:bF w1 w p g bm bs T) (hb:Gr w0 w1):bF w0 w p g bm bs T:=by
 obtain⟨vl,vs,ht⟩:=h.t
 exact⟨h.blk,⟨vl,vs,⟨⟨ht.x.blk,ht.x.l.base hb,ht.x.s.base hb,Nat.le_trans hb.size ht.x.ge,Nat.le_trans hb.size ht.x.gm⟩,ht.m⟩⟩,h.i⟩
theorem KO {w0 w1 w:World} {dp kb p g bm bs n:Nat} {vP vA:Value} (hd:DkM w0 w1 dp kb vP vA (Dk.new n)) (hs:bF w1 w p g bm bs []) (hge:w1.heap.size≤bs) (hne:bs≠bm) (hm:w.heap[bs]?=some (.map #[] 0)):
 MSt w0 ⟨p,g,bm,bs,dp,kb⟩ ⟨[],[],Dk.new n⟩ w:=
 ⟨Ud hs hd.below,eZ.nil hm,hne,Nat.le_trans hd.below.size hge,vP,vA,hd.mono hs.below⟩
def awG (t:TcV):Nat→Option (List UInt8×List UInt8):=iX (fun _=>none) [t]
theorem GL {t:TcV} (h:t.d=⟨0,[97],[7],false⟩) (k:Nat):awG t k=if k=0 then some ([97],[7]) else none:=by
 have e:dB [t] k=if 0=k then some t else none:=by
  have :=nG [] t k
  rw[List.nil_append,h] at this
  rw[this]
  rfl
 unfold awG iX
 rw[e]
 by_cases hk:k=0
 · subst hk
   rw[if_pos rfl,if_pos rfl]
   show (if t.d.g=true then none else some (t.d.h,t.d.v))=_
   rw[h]
   rfl
 · rw[if_neg (fun e=>hk e.symm),if_neg hk]
theorem Ce {t:TcV} (h:t.d=⟨0,[97],[7],false⟩):aF 2 (awG t)=[[97],[]]:=by
 unfold aF
 rw[show List.range 2=[0,1] by decide,List.map_cons,List.map_cons,List.map_nil,GL h,GL h]
 rfl
theorem Nu:(kE [[97],[]]).length=fA [[97],[]]:=by decide +kernel
theorem Vd {t:TcV} (h:t.d=⟨0,[97],[7],false⟩):kJ 2 1 3 2 (awG t) [97]=some [7]:=by
 unfold kJ
 rw[Ce h]
 show vZ 2 1 3 (awG t) 0=_
 unfold vZ
 rw[if_pos Xg]
 show (awG t 0).map Prod.snd=_
 rw[GL h]
 rfl
theorem TR {w0 w w':World} {L:Pl} {n next pt ps b c pl:Nat} {e:Ending} (h:SN w0 L 2 1 3 3 n next pt ps b c pl aw1 ⟨1,0,0⟩ 0 awQ aw0.key 2 (fun _=>none) awC w e w'):
 e= .returned (.int .i64 0)∧∃x' pl' A' kc' first' R' K' t,t.d=⟨0,[97],[7],false⟩∧TrV w0 L 2 1 3 3 awM (n+2000) x' next pt ps b c pl' A' kc' first' R' K' (awG t) w'∧R'.map aj.l=gY awQ awP∧K' 0=awN:=by
 rcases h with⟨q,h0,hq,_⟩| ⟨_,T,w1,hT,_,h⟩
 · exact absurd (hq.trans KG.1) h0
 · obtain⟨t,rfl,ht⟩:=WS hT
   rcases h with⟨hf,_⟩| ⟨h0,_⟩| ⟨_,he,m',x',pl',A',kc',first',R',K',h1,_,_,_,h2⟩
   · rw[Um ht] at hf;cases hf
   · cases h0
   · obtain⟨e1,e2,e3⟩:=Tv ht h2
     have e1:m'=awM:=e1
     subst e1
     exact⟨he,x',pl',A',kc',first',R',K',t,ht,h1,e2,e3⟩
abbrev chA (q:Option Addr):Array Value:=#[.string ⟨#[97]⟩,.slice q 1 1,.bool false]
theorem VG:(Tryz.prog.info? 45).map (·.size)=some 3:=by kernel_rfl
theorem Iu (w:World) (hT:U8 w) (hM:gL w):Calls Tryz.prog 6 #[] w fun e w'=>e= .returned (.bool true)∧Gr w w':=by
 obtain⟨W,hW⟩:∃W,W=w.alloc (.cells #[.int .i64 2,.int .i64 1,.int .i64 3] 23):=⟨_,rfl⟩
 have HG:Hid (Gr w W):=by show Gr _ _;rw[hW];exact Gr.alloc _ _
 have HU:Hid (U8 W):=Xh (hT.mono HG.out)
 have HM:Hid (gL W):=Xh (hM.mono HG.out)
 have B0:Hid (Blk W w.heap.size 23 [.int .i64 2,.int .i64 1,.int .i64 3]):=by show Blk _ _ _ _;rw[hW];exact Blk.new w _ _
 have HC:Hid (∀wr,Gr W wr→wr.cell? ⟨w.heap.size,0,none⟩=some (.int .i64 2)∧wr.cell? ⟨w.heap.size,1,none⟩=some (.int .i64 1)∧wr.cell? ⟨w.heap.size,2,none⟩=some (.int .i64 3)):=fun wr g=>⟨(B0.out.mono g).cell 0,(B0.out.mono g).cell 1,(B0.out.mono g).cell 2⟩
 have HW:=Xh hW
 clear hW hT hM B0
 go_in
 go_wp2_with fail
 rw[←HW.out]
 refine (xQ W W (Gr.refl _) 13 Xg Xg).mono ?_
 rintro e w1 ⟨dp,kb,vP,vA,rfl,d1,g1,gd,gk⟩
 have D1:=Xh d1
 clear d1 g1 gd gk
 go_wp2_with fail
 refine (tN w1).mono ?_
 rintro e w2 ⟨p,g,bm,bs,rfl,s2,hp2,hne,hm2,hb2⟩
 obtain⟨L,hL⟩:∃L:Pl,L=⟨p,g,bm,bs,dp,kb⟩:=⟨_,rfl⟩
 have M2:Hid (MSt W L aw0 w2):=by show MSt _ _ _ _;rw[hL];exact KO D1.out s2 hb2 hne hm2
 have hp:p=L.p:=by rw[hL]
 have hd:dp=L.dp:=by rw[hL]
 rw[hp,hd]
 clear D1 s2 hp2 hne hm2 hb2 hL hp hd
 have HF:=Xh (pG 3 M2.out UE QU Vy Xg Xg)
 obtain⟨c0,c1,c2⟩:=HC.out w2 M2.out.below
 go_wp2_with fail
 refine HF.out.mono ?_
 rintro e w3 ⟨pv,pt,ps,bb,pl,A,kc,rfl,v3,hpv,t3⟩
 have T3:Hid (TrV W L 2 1 3 3 aw1 (0+2*3+100) ⟨1,0,0⟩ 0 pt ps bb 3 pl A kc 0 (List.replicate 3 ⟨none,0,0,[]⟩) (fun q=>if q=0 then aw0.key else []) (fun _=>none) w3):=t3
 obtain⟨w4,hw4⟩:∃w4,w4=w3.alloc (.cells #[.int .u8 7] 5):=⟨_,rfl⟩
 obtain⟨w5,hw5⟩:∃w5,w5=w4.alloc (.cells (chA (some ⟨w3.heap.size,0,none⟩)) 45):=⟨_,rfl⟩
 have hsz4:w4.heap.size=w3.heap.size+1:=by rw[hw4];exact World.size_alloc _ _
 have g4:Gr w3 w4:=by rw[hw4];exact Gr.alloc _ _
 have g5:Gr w4 w5:=by rw[hw5];exact Gr.alloc _ _
 have bv:Blk w5 w3.heap.size 5 (([7]:List UInt8).map u8c):=(show Blk w4 w3.heap.size 5 (([7]:List UInt8).map u8c) by rw[hw4];exact Blk.new w3 5 #[.int .u8 7]).mono g5
 have bc:Blk w5 w4.heap.size 45 (chA (some ⟨w3.heap.size,0,none⟩)).toList:=by rw[hw5];exact Blk.new w4 _ _
 have hCH:Chg w5 (some ⟨w4.heap.size,0,none⟩) 1 1 [⟨⟨[97],[7],false⟩,some ⟨w3.heap.size,0,none⟩,1,1⟩]:=by
  refine⟨rfl,⟨rfl,Nat.le_refl _,Xg,fun _=>⟨_,0,rfl,fun j u hu=>by rw[Nat.zero_add,bc.cell];exact hu⟩⟩,fun x hx=> ?_⟩
  rw[List.mem_singleton.1 hx]
  exact⟨⟨rfl,Nat.le_refl _,by show 1≤maxLen;decide,fun _=>⟨_,0,rfl,fun j u hu=>by rw[Nat.zero_add,bv.cell];exact hu⟩⟩,by show ([97]:List UInt8).length≤_;decide⟩
 have HA:=Xh (rW (T3.out.gr (g4.trans g5)) HU.out (v3.mono (g4.trans g5)) Xg Xg Xg (LV:=2) Xg hCH Xg (fun y hy=>by rw[List.mem_singleton.1 hy];show ([97]:List UInt8).length≤100000;decide))
 have HAD:=Xh (fun e w'=>TR (w0:=W) (L:=L) (n:=0+2*3+100) (next:=0) (pt:=pt) (ps:=ps) (b:=bb) (c:=3) (pl:=pl) (w:=w5) (w':=w') (e:=e))
 have V5:=Xh (v3.mono (g4.trans g5))
 have HS:=Xh ((T3.out.gr (g4.trans g5)).types)
 rw[hsz4] at HA
 have HW4:=Xh hw4;have HW5:=Xh hw5;have HS4:=Xh hsz4
 clear c0 c1 c2 HF t3 v3 hpv bv bc hCH g4 g5 hw4 hw5 hsz4
 go_wp2_with (refine wpList_plain rfl (fun _ hK=>kZ 41 45 (.tmp 28) rfl (chA (some ⟨w3.heap.size,0,none⟩)) rfl Tryz.underlying41 VG Xe (show 0<3 by decide) (show 3≤2 ^ 24 by decide) (hK _ _ ?_)))
 rw[←HW4.out,←HW5.out]
 refine HA.out.mono ?_
 rintro e w6 h6
 obtain⟨rfl,x',pl',A',kc',first',R',K',t,ht,t6,hQ,hK⟩:=HAD.out _ _ h6
 have HMC:=Xh (VT t6 hQ hK Xg)
 have HO:=Xh (Eh (LV:=2) t6.tp.ms HMC.out HU.out HM.out Xg (by rw[Ce ht];exact Nu))
 obtain⟨c0,c1,c2⟩:=HC.out w6 t6.tp.ms.below
 have HTD:=Xh ht
 clear h6 HA HAD HW4 HW5 HS4 T3 V5 HS t6 hQ hK HMC ht
 go_wp2_with fail
 refine HO.out.mono ?_
 rintro e w7 ⟨pv7,pt7,m7,n7,x7,rfl,⟨ps7,vl7,b7,c7,R7,A7,k7,nx7,t7,i7,q7⟩,v7⟩
 have HGT:=Xh (vR (LV:=2) t7 i7 (HU.out.mono t7.ms.below) Xg v7 q7 [97])
 rw[Vd HTD.out] at HGT
 have G7:Hid (Gr w w7):=HG.out.trans t7.ms.below
 clear c0 c1 c2 HO t7 i7 q7 v7
 go_wp2_with fail
 refine HGT.out.mono ?_
 rintro e w8 ⟨A8,n8,c8,rfl,b8,g8,_⟩
 have hn8:n8=1:=by have :=b8.len;simpa using this.symm
 subst hn8
 obtain⟨b9,o9,rfl,hc9⟩:=Sl.addr b8 Xg
 have e9:w8.cell? ⟨b9,o9,none⟩=some (.int .u8 7):=hc9 0 _ rfl
 have hcx:=b8.cap;have hmx:=b8.max
 have G8:Hid (Gr w w8):=G7.out.trans g8
 clear hc9 b8 g8 HGT
 go_wp2_with fail
 go_ret
 exact⟨rfl,G8.out⟩
end
section
open Go.RowKit Go.Maps
theorem IU (a d l:Int) (h:Geo a d l) (w:World):Calls Tryz.prog 8 #[.agg #[.int .i64 a,.int .i64 d,.int .i64 l]] w (lV w (dS a d l)):=by
 have hpl:=pgE a d l
 obtain⟨h3,h4⟩:=h.l
 obtain⟨wl,HWL,HB,HCELL⟩:=iO w a d l
 have HR:=Xh (fun wr=>fM a d l wr)
 rw[h.r] at HR
 have HPG:=Xh (fun wr=>uY a d l wr)
 unfold dS
 generalize au a d l=p at *
 have w1:IntKind.i64.wrap (2*p)=2*p:=IntWalk.i64_in _ Xf
 have w2:IntKind.i64.wrap (4+l)=4+l:=IntWalk.i64_in _ Xf
 have w3:IntKind.i64.wrap (4+l+2*p)=4+l+2*p:=IntWalk.i64_in _ Xf
 have HW3:=Xh (show IntKind.i64.wrap (IntKind.i64.wrap (4+l)+IntKind.i64.wrap (2*p))=4+l+2*p by rw[w1,w2,w3])
 clear h
 go_in
 go_upto_region 1 with fail
 rw[←HWL.out]
 obtain⟨c0,c1,c2⟩:=HCELL.out wl (Below.refl _ _)
 go_wp2_with fail
 refine (HR.out wl).mono ?_
 rintro e w1 ⟨rfl,b1⟩
 have B1:=Xh b1;clear b1 c0 c1 c2
 go_upto_region 4 with fail
 refine wp_region_quiet (C:=fun w'=>Below (w1).heap.size (w1) w') Xe Xe (Below.refl _ _).drew ?_
 simp only
 repeat (first
  |go_big_quiet_skip
  |(go_big_quiet_want
    apply Exists.intro
    refine⟨fun wq hq=> ?_,?_⟩
    · (have c0:=HCELL.out wq (bBo B1.out hq)
       go_simp
       first
        |done
        |exact rfl
        |(with_reducible exact⟨rfl,rfl⟩)
        |(go_at_call 20;exact (HPG.out wq).mono fun e w2 ⟨he,hb⟩=>⟨he,bBo hq hb⟩))
    go_simp
    go_big_quiet_on))
 refine wpQuiet_nil ?_
 intro wq hq
 have HQ:=Xh hq;clear hq
 go_wp2
 go_ret
 exact⟨by first|rfl|rw[w3],bBo HB.out (bBo B1.out HQ.out)⟩
theorem MI (hs:List (List UInt8)):(kE hs).length≤hs.length:=by
 have h:=pO hs
 have hnd:(kE hs).Nodup:=h.1.imp (fun {a b} h=>zC h)
 exact hnd.length_le_of_subset (fun x hx=>((h.2 x).1 hx).1)
section
variable {w0 w w':World} {L:Pl} {a d l:Int} {N LV j pv:Nat} {cs:Nat→Option (List UInt8×List UInt8)}
theorem VtV.get (h:VtV w0 L a d l N j pv cs w) (hU:U8 w0) (hLV:ay a d l=(LV:Int)) (s:List UInt8):Calls Tryz.prog 14 #[.pointer (some ⟨pv,0,none⟩),ak s] w (mQ w (kJ a d l LV cs s)):=by
 obtain⟨m,n,x,next,pt,ps,b,c,pl,A,kc,first,R,K,h1,h2,_⟩:=h
 exact vR h1.tp h1.ti (hU.mono h1.tp.ms.below) hLV h2 h1.ke.b s
def Mj (a d l:Int) (LV:Nat) (cs:Nat→Option (List UInt8×List UInt8)):List (List UInt8×List UInt8):=(kE (aF LV cs)).map fun s=>(s,(kJ a d l LV cs s).getD [])
theorem VtV.all (h:VtV w0 L a d l N j pv cs w) (hU:U8 w0) (hM:gL w0) (hLV:ay a d l=(LV:Int)):Calls Tryz.prog 11 #[.pointer (some ⟨pv,0,none⟩)] w fun e w'=>∃v E,e= .returned v∧Was w0 L.kb v E w'∧E.map EnV.p=Mj a d l LV cs∧Gr w w':=by
 have hl64:LV≤64:=by have :=bM a d l;omega
 have hb:=h.below
 refine (uZ (kb:=L.kb) ⟨_,rfl⟩ (kE (aF LV cs)) (fun s=>(kJ a d l LV cs s).getD []) (by have :=MI (aF LV cs);rw[iA] at this;omega) (fun wr g=> ?_) (fun s hs wr g=> ?_)).mono ?_
 · obtain⟨m,n,x,next,pt,ps,b,c,pl,A,kc,first,R,K,h1,h2,_⟩:=h.gr g
   exact Bt h1.tp h1.ti (hU.mono h1.tp.ms.below) (hM.mono h1.tp.ms.below) hLV h2
 · refine ((h.gr g).get hU hLV s).mono ?_
   rintro e w' ⟨A,n,c,rfl,b1,g1,u1⟩
   exact⟨A,n,c,_,rfl,⟨b1,fun b o _ e=>by
    obtain⟨a,m,z⟩:=u1 b o e
    exact⟨a,_,m,z,.inl rfl,fun e=>absurd e Xg⟩⟩,g1⟩
 · rintro e w' ⟨v,E,rfl,hw,hE⟩
   exact⟨v,E,rfl,hw.base hb,hE,hw.o.below⟩
theorem Ki {E:List EnV} (h:E.map EnV.p=Mj a d l LV cs) (hLV:ay a d l=(LV:Int)) {k:Nat} (hk:k<E.length):E[k].n∈aF LV cs∧E[k].n≠[]∧kJ a d l LV cs E[k].n=some E[k].v:=by
 have hm:E[k].p∈Mj a d l LV cs:=by rw[←h];exact List.mem_map_of_mem (List.getElem_mem hk)
 obtain⟨s,hs,e⟩:=List.mem_map.1 hm
 obtain⟨h1,h2⟩:=((pO _).2 s).1 hs
 unfold EnV.p at e
 injection e with e1 e2
 rw[←e1,←e2]
 obtain⟨v,hv⟩:=UO (a:=a) (d:=d) (l:=l) hLV h1 h2
 exact⟨h1,h2,by rw[hv];rfl⟩
theorem Oz {E:List EnV} {C:List ChV} {T:List TcV} (h:E.map EnV.p=Mj a d l LV cs) (hz:(aD 350 (aF LV cs,[]) (C.map ChV.d)).2=0) (hT:T.map TcV.d=iN (aD 350 (aF LV cs,[]) (C.map ChV.d)).1.2) (hLV:ay a d l=(LV:Int)) {k:Nat} (hk:k<E.length) (hn:(C.any fun c=>c.d.n==E[k].n)=false):kJ a d l LV (iX cs T) E[k].n=some E[k].v:=by
 obtain⟨h1,h2,h3⟩:=Ki h hLV hk
 rw[Oi hz hT hLV h2 (fun c hc e=> ?_) h1,h3]
 obtain⟨y,hy,rfl⟩:=List.mem_map.1 hc
 have :=List.any_eq_false.1 hn y hy
 exact this (beq_iff_eq.2 e)
theorem NZ {α:Type} (q:α→Bool) {L:List α} {k:Nat} (hk:k<L.length):(L.take (k+1)).any q=((L.take k).any q || q L[k]):=by
 rw[List.take_succ_eq_append_getElem hk,List.any_append,List.any_cons,List.any_nil,Bool.or_false]
end
theorem SV (a d l:Int) (A:Option Addr) (n c:Nat) (Ls:List ChR) (w:World) (h:qK w A n c Ls) (hT:U8 w) (hM:gL w):
 Calls Tryz.prog 3 #[.agg #[.int .i64 a,.int .i64 d,.int .i64 l],.slice A n c] w fun e w'=>e= .returned (.bool true)∧Below w.heap.size w w':=by
 show Calls _ _ _ _ fun e w'=>e= .returned (.bool true)∧Gr w w'
 obtain⟨wl,HWL,HB,HCELL⟩:=iO w a d l
 have HB2:Hid (Gr w wl):=HB.out
 have HLT:=Xh (fun wr (g:Gr w wr)=>IY a d l A n c Ls wr (h.mono g))
 have HR:=Xh (fun wr=>fM a d l wr)
 have HAL:=Xh (fun wr (g:Gr w wr)=>Iu wr (hT.mono g) (hM.mono g))
 have HT:=Xh hT;have HM:=Xh hM;have HH:=Xh h
 have hmm:=h.s.max;have hcc:=h.s.cap
 have HLN:=Xh h.len
 clear h hT hM
 go_in
 go_upto_region 1 with fail
 rw[←HWL.out]
 obtain⟨c0,c1,c2⟩:=HCELL.out wl (Below.refl _ _)
 go_wp2_with fail
 refine (HLT.out wl HB2.out).mono ?_
 rintro e w1 ⟨q,rfl,hq,g1⟩
 have B1:Hid (Gr wl w1):=g1
 have G1:Hid (Gr w w1):=HB2.out.trans g1
 have HQ:=Xh hq
 clear g1 hq c0 c1 c2 HLT
 cases q
 · go_wp2_with fail
   refine (HAL.out w1 G1.out).mono ?_
   rintro e wz ⟨rfl,gz⟩
   have GZ:=Xh ((G1.out).trans gz)
   clear gz
   go_wp2_with fail
   go_ret
   exact⟨rfl,GZ.out⟩
 have hlight:=HQ.out rfl
 have HQ3:=Xh hlight.2.2
 have hp40:=hlight.1
 have hn10:=hlight.2.1
 clear hlight HQ
 obtain⟨c0,c1,c2⟩:=HCELL.out w1 B1.out
 cases hr:bH a d l
 · rw[hr] at HR
   go_wp2_with fail
   refine (HR.out w1).mono ?_
   rintro e w2 ⟨rfl,b2⟩
   have G2:Hid (Gr w w2):=G1.out.trans (show Gr w1 w2 from b2)
   clear b2 c0 c1 c2
   go_wp2_with fail
   refine (HAL.out w2 G2.out).mono ?_
   rintro e wz ⟨rfl,gz⟩
   have GZ:=Xh ((G2.out).trans gz)
   clear gz
   go_wp2_with fail
   go_ret
   exact⟨rfl,GZ.out⟩
 rw[hr] at HR
 have HG:=Xh (show Geo a d l from⟨hr⟩)
 clear hr
 obtain⟨LV,hLV⟩:∃LV:Nat,ay a d l=(LV:Int):=by obtain⟨_,_,_,_,_,_,_,_,_,e2,_⟩:=HG.out.nn;exact⟨_,e2⟩
 obtain⟨N,hN⟩:∃N:Nat,(N:Int)=au a d l:=by obtain⟨_,_,_,_,_,_,_,_,_,_,e3,_⟩:=HG.out.nn;exact⟨_,e3.symm⟩
 have hpl:=pgE a d l
 obtain⟨h3,h4⟩:=HG.out.l
 obtain⟨sz,hsz⟩:∃sz:Nat,(sz:Int)=dS a d l:=⟨(dS a d l).toNat,by unfold dS at *;omega⟩
 have hs1:4≤sz∧sz≤1024:=by unfold dS at hsz;omega
 have HSZ:=Xh (fun wr=>IU a d l HG.out wr)
 rw[←hsz] at HSZ
 have HS1:=Xh hs1;have HSE:=Xh hsz;have HLV:=Xh hLV;have HNP:=Xh hN
 have hN40:N≤40:=by omega
 clear hpl h3 h4 hs1 hsz hLV hN hp40
 go_wp2_with fail
 refine (HR.out w1).mono ?_
 rintro e w2 ⟨rfl,b2⟩
 have B2:Hid (Gr wl w2):=B1.out.trans (show Gr w1 w2 from b2)
 clear b2 c0 c1 c2
 obtain⟨c0,c1,c2⟩:=HCELL.out w2 B2.out
 go_wp2_with fail
 refine (HSZ.out w2).mono ?_
 rintro e w3 ⟨rfl,b3⟩
 have B3:Hid (Gr wl w3):=B2.out.trans (show Gr w2 w3 from b3)
 clear b3 c0 c1 c2
 go_wp2_with fail
 refine (xQ w3 w3 (Gr.refl _) sz (by have :=HS1.out;omega) HS1.out.2).mono ?_
 rintro e w4 ⟨dp,kb,vP,vA,rfl,d4,g4,gd,gk⟩
 have D4:=Xh d4
 clear d4 g4 gd gk
 go_wp2_with fail
 refine (tN w4).mono ?_
 rintro e w5 ⟨p,g,bm,bs,rfl,s5,hp5,hne,hm5,hb5⟩
 obtain⟨L,hL⟩:∃L:Pl,L=⟨p,g,bm,bs,dp,kb⟩:=⟨_,rfl⟩
 have M5:Hid (MSt w3 L ⟨[],[],Dk.new sz⟩ w5):=by show MSt _ _ _ _;rw[hL];exact KO D4.out s5 hb5 hne hm5
 have hp:p=L.p:=by rw[hL]
 have hd:dp=L.dp:=by rw[hL]
 rw[hp,hd]
 have B5:Hid (Gr wl w5):=B3.out.trans M5.out.below
 have G3:Hid (Gr w w3):=HB2.out.trans B3.out
 have U3:=Xh (HT.out.mono G3.out);have L3:=Xh (HM.out.mono G3.out);have H3:=Xh (HH.out.mono G3.out)
 clear D4 s5 hp5 hne hm5 hb5 hL hp hd
 have hlen:(List.replicate sz aK).length=sz:=List.length_replicate
 have HF:=Xh (pG (m:=⟨[],[],Dk.new sz⟩) (n:=0) N M5.out ⟨HG.out,by show ((List.replicate sz aK).length:Int)=_;rw[hlen];exact HSE.out⟩ ⟨rfl,rfl⟩ ⟨Nat.le_refl _,Nat.le_refl _,Nat.le_refl _,Nat.le_refl _,by show (List.replicate sz aK).length≤1024;rw[hlen];exact HS1.out.2,by show (-1:Int)≤ -1;decide,by show (-1:Int)≤9223372036854775807;decide,fun x h=>absurd h (by simp)⟩ HNP.out Xf)
 obtain⟨c0,c1,c2⟩:=HCELL.out w5 B5.out
 clear hlen
 go_wp2_with fail
 refine HF.out.mono ?_
 rintro e w6 ⟨pv,pt,ps,bb,pl,A6,k6,rfl,v6,hpv,t6⟩
 have V6:Hid (VtV w3 L a d l N 0 pv (fun _=>none) w6):=⟨_,_,_,_,_,_,_,_,_,_,_,_,_,_,t6,v6,Xf,by show (1:Nat)≤0+1;omega,Nat.le_refl _⟩
 clear v6 hpv t6 c0 c1 c2 HF M5 HSZ HR
 go_wp2_with fail
 go_loopw [10] (fun i wr=>∃(k:Nat) (cs:Nat→Option (List UInt8×List UInt8)),k≤n∧i= .int .i64 (k:Int)∧VtV w3 L a d l N k pv cs wr) (fun i _=>n - (Go.RowKit.intOf i).toNat)
 case atStart=>exact⟨0,_,Nat.zero_le _,rfl,V6.out⟩
 case round=>
  obtain⟨k,cs,hk,rfl,hv⟩:=hrel
  have HV:=Xh hv
  clear hv
  by_cases hlt:k<n
  · have t:decide ((k:Int)<(n:Int))=true:=decide_eq_true Xf
    have wk:IntKind.i64.wrap ((k:Int)+1)=(k:Int)+1:=IntWalk.i64_in _ Xf
    have hkl:k<Ls.length:=by have :=HLN.out;omega
    have HALL:=Xh (HV.out.all U3.out L3.out HLV.out)
    obtain⟨wo,rfl⟩:∃wo:World,wo=wr:=⟨_,rfl⟩
    go_wp2_with fail
    refine HALL.out.mono ?_
    rintro e w7 ⟨v7,E,rfl,q7,hE,g7⟩
    obtain⟨A7,c7,rfl,s7⟩:=q7.o.slice
    have W7:=Xh q7;have HE:=Xh hE
    have hm7:=s7.max;have hc7:=s7.cap
    have V7:=Xh (HV.out.gr g7)
    clear q7 hE s7 g7 HALL
    obtain⟨b0,o0,hA0,c9,hch⟩:=(H3.out.mono V7.out.below).row hkl
    subst hA0
    have hLi:=HQ3.out Ls[k] (List.getElem_mem hkl)
    have HCE:=Xh (fun wq (gq:Gr w3 wq)=>(H3.out.mono gq).row hkl)
    have hmk:Ls[k].n≤40:=by have :=hch.1;have :=hLi.l;omega
    have HST:=Xh (Ec V7.out U3.out Xf HLV.out hch hmk (fun y hy=>by have :=(hLi.hl y hy).1;omega))
    have HCH:=Xh hch
    clear hch hLi
    generalize Ls[k]=x at *
    obtain⟨xa,xn,xc,xl⟩:=x
    simp only at c9 HST HCE hmk HCH
    go_wp2_with fail
    refine HST.out.mono ?_
    rintro e w8 ⟨q,cs',rfl,v8,hw8,hne,hok⟩
    have V8:=Xh v8;have W8:=Xh (hw8 _ _ W7.out)
    have HOK:=Xh hok;have HNE:=Xh hne
    clear v8 hw8 hok hne c9 HST
    by_cases h0:q=0
    · obtain⟨hz,T,hT,hcs⟩:=HOK.out h0
      subst h0
      subst hcs
      have HZ:=Xh hz;have HTT:=Xh hT
      clear hz hT HOK HNE
      go_wp2_with fail
      obtain⟨m7,hm7'⟩:∃m7,m7=E.length:=⟨_,rfl⟩
      have HML:=Xh hm7'
      rw[←hm7'] at hc7 ⊢
      clear hm7'
      go_loopw [12] (fun i wq=>∃j:Nat,j≤m7∧i= .int .i64 (j:Int)∧VtV w3 L a d l N (k+1) pv (iX cs T) wq∧Gr w8 wq) (fun i _=>m7 - (Go.RowKit.intOf i).toNat)
      case atStart=>exact⟨0,Nat.zero_le _,rfl,V8.out,Gr.refl _⟩
      case round=>
       obtain⟨j,hj,rfl,hvj,gj⟩:=hrel
       have HVJ:=Xh hvj;have GJ:=Xh gj
       clear hvj gj
       by_cases hjl:j<m7
       · have tj:decide ((j:Int)<(m7:Int))=true:=decide_eq_true Xf
         have wj:IntKind.i64.wrap ((j:Int)+1)=(j:Int)+1:=IntWalk.i64_in _ Xf
         have hjE:j<E.length:=by have :=HML.out;omega
         have HAT:=Xh (Ki HE.out HLV.out hjE)
         have HKP:=Xh (fun hn=>Oz (C:=xl) HE.out HZ.out HTT.out HLV.out hjE hn)
         have HRW:=Xh (fun wq (gq:Gr w8 wq)=>(W8.out.gr gq).row hjE)
         generalize E[j]=y at *
         obtain⟨yn,yv,ya,ym,yc⟩:=y
         simp only at HAT HKP HRW
         obtain⟨sx,hsx⟩:∃sx:ByteArray,sx=⟨yn.toArray⟩:=⟨_,rfl⟩
         have hsl:sx.toList=yn:=by rw[hsx,ByteArray.toList_eq]
         have e1:ak yn= .string sx:=by rw[hsx];rfl
         have HSL:=Xh hsl
         rw[e1] at HRW
         have HGE:=Xh (fun wq (v:VtV w3 L a d l N (k+1) pv (iX cs T) wq)=>v.get U3.out HLV.out yn)
         rw[e1] at HGE
         clear hsx hsl e1
         obtain⟨wo2,rfl⟩:∃wo2:World,wo2=wr:=⟨_,rfl⟩
         obtain⟨b7,o7,c7',hv7,_,_,_⟩:=HRW.out wo2 GJ.out
         injection hv7 with hA7 _ q3
         subst hA7
         subst q3
         go_wp2_with fail
         go_loopw [13,14] (fun nv i wq=>∃(i':Nat) (nb:Bool),i'≤xn∧nv= .bool nb∧i= .int .i64 (i':Int)∧nb=(xl.take i').any (fun c=>c.d.n==yn)∧Gr wo2 wq) (fun _ i _=>xn - (Go.RowKit.intOf i).toNat)
         case atStart=>exact⟨0,false,Nat.zero_le _,rfl,rfl,by simp,Gr.refl _⟩
         case round=>
          obtain⟨i',nb,hi',rfl,rfl,hnb,gq⟩:=hrel
          have HNB:=Xh hnb;have GQ:=Xh gq
          clear hnb gq
          obtain⟨b0',o0',hh,c9,hch⟩:=HCE.out wr (HVJ.out.below.trans GQ.out)
          injection hh with hh
          injection hh with q1 q2
          subst q1 q2
          obtain⟨b7',o7',c7'',hv7,d1,d2,d3⟩:=HRW.out wr (GJ.out.trans GQ.out)
          injection hv7 with hv7 _ q3
          injection hv7 with hv7
          injection hv7 with q1 q2
          subst q1 q2
          subst q3
          have D3:=Xh d3
          clear d3
          have hcm:=hch.max
          by_cases hil:i'<xn
          · have ti:decide ((i':Int)<(xn:Int))=true:=decide_eq_true Xf
            have wi:IntKind.i64.wrap ((i':Int)+1)=(i':Int)+1:=IntWalk.i64_in _ Xf
            have hil2:i'<xl.length:=by have :=hch.1;omega
            obtain⟨b1,o1,hx1,f1,_,_,_,_⟩:=hch.row hil2
            have HAN:=Xh (NZ (fun c:ChV=>c.d.n==yn) hil2)
            clear hch
            generalize xl[i']=z at *
            obtain⟨⟨zn,zv,zg⟩,za,zm,zc⟩:=z
            simp only at f1 HAN
            obtain⟨sz',hsz'⟩:∃sz':ByteArray,sz'=⟨zn.toArray⟩:=⟨_,rfl⟩
            have hzl:sz'.toList=zn:=by rw[hsz',ByteArray.toList_eq]
            have e1:ak zn= .string sz':=by rw[hsz'];rfl
            rw[e1] at f1
            rw[hx1] at c9
            clear hsz' e1 hx1
            cases nb with
            |true=>
             have HN2:Hid (true=(xl.take (i'+1)).any (fun c=>c.d.n==yn)):=by show _=_;rw[HAN.out,←HNB.out];rfl
             clear hzl HAN
             go_wp2_with fail
             go_quiet (fail)
             go_wp2_with fail
             refine⟨⟨i'+1,true,Xf,by first|trivial|rfl,by first|trivial|go_num,HN2.out,dG GQ.out _⟩,?_⟩
             show xn - ((i':Int)+1).toNat<xn - (i':Int).toNat
             omega
            |false=>
             cases hzy:(zn==yn) with
             |true=>
              have t1:(sz'.toList==sx.toList)=true:=by rw[hzl,HSL.out];exact hzy
              have HN2:Hid (true=(xl.take (i'+1)).any (fun c=>c.d.n==yn)):=by show _=_;rw[HAN.out,hzy,Bool.or_true]
              clear hzl HAN hzy
              go_wp2_with fail
              go_quiet (fail)
              go_wp2_with fail
              refine⟨⟨i'+1,true,Xf,by first|trivial|rfl,by first|trivial|go_num,HN2.out,dG GQ.out _⟩,?_⟩
              show xn - ((i':Int)+1).toNat<xn - (i':Int).toNat
              omega
             |false=>
              have t1:(sz'.toList==sx.toList)=false:=by rw[hzl,HSL.out];exact hzy
              have HN2:Hid (false=(xl.take (i'+1)).any (fun c=>c.d.n==yn)):=by show _=_;rw[HAN.out,hzy,←HNB.out];rfl
              clear hzl HAN hzy
              go_wp2_with fail
              go_quiet (fail)
              go_wp2_with fail
              refine⟨⟨i'+1,false,Xf,by first|trivial|rfl,by first|trivial|go_num,HN2.out,dG GQ.out _⟩,?_⟩
              show xn - ((i':Int)+1).toNat<xn - (i':Int).toNat
              omega
          · obtain rfl:i'=xn:=by omega
            have ti:decide ((i':Int)<(i':Int))=false:=decide_eq_false Xf
            have HN2:Hid (nb=xl.any (fun c=>c.d.n==yn)):=by have :=HNB.out;rwa[List.take_of_length_le (by have :=hch.1;omega)] at this
            have HVW:=Xh (HVJ.out.gr GQ.out);have GW:=Xh (GJ.out.trans GQ.out)
            have HGW:=Xh (HGE.out wr HVW.out)
            clear hch HNB
            cases nb with
            |true=>
             clear HKP HN2
             generalize kJ a d l LV (iX cs T) yn=gv at *
             go_wp2_with fail
             refine HGW.out.mono ?_
             rintro e w9 ⟨A9,n9,c9',rfl,b9,g9,_⟩
             have G9:=Xh g9
             clear b9 g9 HGW c9 d1 d2
             go_wp2_with fail
             go_roundw
             case rel=>exact⟨j+1,Xf,by go_num,HVW.out.gr G9.out,GW.out.trans G9.out⟩
             case measure=>simp[Go.RowKit.intOf];omega
            |false=>
             rw[HKP.out HN2.out.symm] at HGW
             clear HKP HN2
             go_wp2_with fail
             refine HGW.out.mono ?_
             rintro e w9 ⟨A9,n9,c9',rfl,b9,g9,_⟩
             have G9:=Xh g9
             have d4:=(g9.cell (World.block_lt_of_cell? _ _ d2)).trans d2
             have HSM:=Xh (C9 A9 ya n9 ym c9' yc yv yv w9 b9 (D3.out.mono g9).b)
             have tb:(yv==yv)=true:=by simp
             rw[tb] at HSM
             clear b9 g9 HGW c9 d1 d2 tb
             go_wp2_with fail
             refine HSM.out.mono ?_
             rintro e wa ⟨rfl,ga⟩
             have Ga:=Xh (G9.out.trans (show Gr w9 wa from ga))
             clear ga d4 HSM
             go_wp2_with fail
             go_roundw
             case rel=>exact⟨j+1,Xf,by go_num,HVW.out.gr Ga.out,GW.out.trans Ga.out⟩
             case measure=>simp[Go.RowKit.intOf];omega
       · obtain rfl:j=m7:=by omega
         have tj:decide ((j:Int)<(j:Int))=false:=decide_eq_false Xf
         go_wp2_with fail
         go_roundw
         case rel=>exact⟨k+1,_,Xf,by go_num,HVJ.out⟩
         case measure=>simp[Go.RowKit.intOf];omega
    · have hcs:=HNE.out h0
      subst hcs
      have t1:((q:Int) !=0)=true:=by rw[bne_iff_ne];omega
      have HA8:=Xh (V8.out.all U3.out L3.out HLV.out)
      clear HOK HNE h0
      go_wp2_with fail
      refine HA8.out.mono ?_
      rintro e w9 ⟨v9,E9,rfl,q9,hE9,g9⟩
      have HSM:=Xh (Lf q9 (W8.out.gr g9) (hE9.trans HE.out.symm))
      have V9:=Xh (V8.out.gr g9)
      clear q9 hE9 g9 HA8
      go_wp2_with fail
      refine HSM.out.mono ?_
      rintro e wa ⟨rfl,ga⟩
      have Va:=Xh (V9.out.gr ga)
      clear ga HSM
      go_wp2_with fail
      go_roundw
      case rel=>exact⟨k+1,_,Xf,by go_num,Va.out⟩
      case measure=>simp[Go.RowKit.intOf];omega
  · obtain rfl:k=n:=by omega
    have t:decide ((k:Int)<(k:Int))=false:=decide_eq_false Xf
    have GR:Hid (Gr w wr):=G3.out.trans HV.out.below
    clear HV
    go_wp2_with fail
    refine (Gy _ ⟨_,rfl⟩).mono ?_
    rintro e wd ⟨rfl,hwd⟩
    subst hwd
    go_wp2_with fail
    refine Bq.mono ?_
    rintro e wd ⟨rfl,hwd⟩
    subst hwd
    go_wp2_with fail
    refine FD.mono ?_
    rintro e wd ⟨rfl,hwd⟩
    subst hwd
    go_wp2_with fail
    refine (rJ (HT.out.mono GR.out) (HM.out.mono GR.out)).mono ?_
    rintro e wn ⟨An,nn,cn,rfl,sn,gn⟩
    obtain rfl:nn=0:=sn.len.symm
    have GN:=Xh (GR.out.trans gn)
    clear sn gn
    go_wp2_with fail
    refine (Gs (HT.out.mono GN.out) (HM.out.mono GN.out)).mono ?_
    rintro e wo ⟨Ao,co,rfl,gz⟩
    have GO:=Xh (GN.out.trans gz)
    clear gz
    go_wp2_with fail
    refine rF.mono ?_
    rintro e wd ⟨rfl,hwd⟩
    subst hwd
    go_wp2_with fail
    refine Dw.mono ?_
    rintro e wd ⟨rfl,hwd⟩
    subst hwd
    go_wp2_with fail
    refine (HAL.out wo GO.out).mono ?_
    rintro e wz ⟨rfl,gz⟩
    have GZ:=Xh ((GO.out).trans gz)
    clear gz
    go_wp2_with fail
    go_ret
    exact⟨rfl,GZ.out⟩
end
section
open Go.RowKit
section
variable {H:Type} {enc:TypeId×Value→H}
theorem Vi {a:Assume} {C:Checked} {os:Os} {f:FuncId} {fn:Func} {s:ChangeSpec} {conds:List PathCond} {apart fresh handsOn again:Bool} {X:World→Array Value→Prop}
 (hX:∀(w w':World) (args:Array Value),w.heap=w'.heap→X w args→X w' args)
 (own:ownKnob C.prog.godebug=none) (started:os.Started) (noInit:C.prog.inits.idxOf? f=none) (hfn:C.prog.funcs[f]?=some fn)
 (witness:∃(w:World) (tape:Tape) (i:Input),w.os=os∧(w.forCall tape i).Shaped C.prog∧i.vars=[]∧Input.okWide C.prog (w.forCall tape i) .any w.heap.size f i∧
  ((s.pre enc C.prog fn conds apart (w.forCall tape i).memory i.args∧X (w.forCall tape i).memory i.args)∧sizedMet enc C.prog fn (OpenSpec.ofChange s) apart (w.forCall tape i).memory i.args)∧a.holds C.prog (lone (Frame.enter C.prog f i.args .normal) [] (w.forCall tape i)))
 (contract:∀(W:World) (base:Nat) (args:Array Value) (ds gs:List (DataW H)) (before:List MemPlace),
  (∀(j:Nat) t v,fn.params[j]?=some t→args[j]?=some v→Value.okWide C.prog W .any base t v)→
  DataW.Whole enc C.prog fn.params.toList s.vars apart W args.toList ds gs before→X W args→W.ShapedOpen C.prog→
  Calls C.prog f args W fun e W'=>∃v,e= .returned v∧s.post enc C.prog fn apart fresh handsOn again W args v W'):
 ReturnsInHanded a C os f .any (fun w args=>(s.pre enc C.prog fn conds apart w args∧X w args)∧sizedMet enc C.prog fn (OpenSpec.ofChange s) apart w args) (s.post enc C.prog fn apart fresh handsOn again):=by
 refine returnsInHanded_of_calls own started noInit witness fun w tape i _ hshape _ hok hpre _=> ?_
 obtain⟨_,_,_,fn',hfn',_,_,_,_,hval⟩:=hok
 obtain rfl:fn'=fn:=Option.some.inj (hfn'.symm.trans hfn)
 obtain⟨⟨⟨ds,gs,before,hw,_⟩,hx⟩,_⟩:=hpre
 refine (contract (w.forCall tape i) w.heap.size i.args ds gs before hval (DataW.Whole.of_heap (w':=w.forCall tape i) (by rfl) hw) (hX _ _ _ (by rfl) hx) hshape).mono fun e W' ⟨v,he,hp⟩=> ?_
 subst he
 exact ChangeSpec.post_blind hp
end
section
variable {H:Type} {enc:TypeId×Value→H} {P:Program} {W:World}
end
end
section
open Go.RowKit Go.Shelf Go.Lib
abbrev LM:List (String×DataW Unit):=[("math/bits.deBruijn32tab",Rows.laid_math_bits_deBruijn32tab),("math/bits.deBruijn64tab",Rows.laid_math_bits_deBruijn64tab),("internal/strconv.uint64pow10",Rows.laid_internal_strconv_uint64pow10),("unicode/utf8.acceptRanges",Rows.laid_unicode_utf8_acceptRanges),("oubliette/sha.k",Rows.laid_oubliette_sha_k),("unicode/utf8.first",Rows.laid_unicode_utf8_first)]
theorem NV:(Rows.laid_unicode_utf8_acceptRanges:DataW Unit)=acceptData:=by kernel_rfl
theorem u8x:U8Extra Tryz.prog Tryz.wU:=⟨by kernel_rfl,by kernel_rfl,by kernel_rfl,by kernel_rfl,by kernel_rfl,by kernel_rfl,by kernel_rfl⟩
theorem WL {W:World} (h:laidMetH Tryz.prog LM W):U8 W:=by
 rw[MakeChecks.laidMetH_plain _ _ _ Xe] at h
 exact utf8Tabs_of_reads Tryz.UY u8x (Pinned.utf8First_eq▸laidMet.reads h (.tail _ (.tail _ (.tail _ (.tail _ (.tail _ (.head _))))))) (NV▸laidMet.reads h (.tail _ (.tail _ (.tail _ (.head _)))))
theorem WU (os:Os) (args:Array Value):laidMetH Tryz.prog LM ((World.laidAll Tryz.prog os LM).forCall (fun _ _=>0) ⟨#[],args,[]⟩).memory:=by
 rw[MakeChecks.laidMetH_plain _ _ _ Xe]
 exact laidMet_laidAll _ Xe Xe
end
section
open Go.RowKit
theorem WY {W:World} (h:W.ShapedOpen Tryz.prog):gL W:=Tryz.QM.s1_3 W h
end
end Go.Proofs.YtipdlnejmcmbbaaGreatDoor
