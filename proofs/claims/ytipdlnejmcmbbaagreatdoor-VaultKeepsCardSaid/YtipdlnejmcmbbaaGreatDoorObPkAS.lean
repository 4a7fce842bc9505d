/- Own texts, one behind the other. No condition. -/
import Derived.Test.YtipdlnejmcmbbaaGreatDoorObPkAR
set_option linter.unusedVariables false
set_option maxRecDepth 100000
set_option maxHeartbeats 8000000
set_option linter.unusedSimpArgs false
namespace Go.Proofs.YtipdlnejmcmbbaaGreatDoor
section
open Go.RowKit
structure Fit (m:Mc) (a d l:Int):Prop where
 g:Geo a d l
 s:(m.d.kept.length:Int)=dS a d l
section
variable {w0 w w':World} {L:Pl} {m:Mc} {n:Nat} {a d l:Int}
theorem qX (h:MSt w0 L m w) (f:Fit m a d l):Calls Tryz.prog 172 #[.pointer (some ⟨L.dp,0,none⟩),.agg #[.int .i64 a,.int .i64 d,.int .i64 l]] w fun e w'=>e= .returned (.int .i64 0)∧Gr w w':=by
 have G0:Hid (Gr w (w.alloc (.cells #[.int .i64 a,.int .i64 d,.int .i64 l] 23))):=Gr.alloc _ _
 have B0:Hid (Blk (w.alloc (.cells #[.int .i64 a,.int .i64 d,.int .i64 l] 23)) w.heap.size 23 [.int .i64 a,.int .i64 d,.int .i64 l]):=Blk.new w _ _
 obtain⟨W,hW⟩:∃W,W=w.alloc (.cells #[.int .i64 a,.int .i64 d,.int .i64 l] 23):=⟨_,rfl⟩
 rw[←hW] at G0 B0
 have HW:=Xh hW;clear hW
 have HR:=Xh (fun wr=>gRa a d l wr)
 rw[f.g.r] at HR
 have HS:=Xh (fun wr=>kX a d l wr f.g)
 have HD:=Xh (fun wr (g:Gr w wr)=>(h.mono g).size)
 rw[f.s] at HD
 generalize dS a d l=q at *
 have t1:(q !=q)=false:=by simp
 clear h f
 go_in
 go_upto_region 3 with fail
 rw[←HW.out]
 refine wp_region_quiet (C:=fun w'=>Below (W).heap.size (W) w') Xe Xe (Below.refl _ _).drew ?_
 simp only
 repeat (first
  |go_big_quiet_skip
  |(go_big_quiet_want
    apply Exists.intro
    refine⟨fun wq hq=> ?_,?_⟩
    · (have k0:=(B0.out.mono hq).cell 0;have k1:=(B0.out.mono hq).cell 1;have k2:=(B0.out.mono hq).cell 2
       go_simp
       first
        |done
        |exact rfl
        |(with_reducible exact⟨rfl,rfl⟩)
        |(first|(go_at_call 84;exact (HR.out wq).mono fun e w2 ⟨he,hb⟩=>⟨he,bBo hq hb⟩)|(go_at_call 86;exact (HS.out wq).mono fun e w2 ⟨he,hb⟩=>⟨he,bBo hq hb⟩)|(go_at_call 85;exact (HD.out wq (G0.out.trans hq)).mono fun e w2 ⟨he,hb⟩=>⟨he,hb▸hq⟩)))
    go_simp
    go_big_quiet_on))
 refine wpQuiet_nil ?_
 intro wq hq
 go_wp2_with fail
 go_ret
 exact⟨rfl,G0.out.trans hq⟩
theorem mU (h:MSt w0 L m w) (f:Fit m a d l):Calls Tryz.prog 228 #[.pointer (some ⟨L.dp,0,none⟩),.pointer (some ⟨L.p,0,none⟩),.agg #[.int .i64 a,.int .i64 d,.int .i64 l]] w fun e w'=>e= .returned (.int .i64 0)∧Gr w w':=by
 have HR:=Xh (qX (h.mono (Gr.alloc w (.cells #[.int .i64 a,.int .i64 d,.int .i64 l] 23))) f)
 have G0:Hid (Gr w (w.alloc (.cells #[.int .i64 a,.int .i64 d,.int .i64 l] 23))):=Gr.alloc _ _
 clear h f
 go_in
 go_wp2_with fail
 refine HR.out.mono ?_
 rintro e w1 ⟨rfl,g1⟩
 have G1:Hid (Gr w w1):=G0.out.trans g1
 clear g1
 go_wp2_with fail
 go_ret
 exact⟨rfl,G1.out⟩
theorem ql (w:World):Calls Tryz.prog 173 #[] w fun e w'=>e= .returned (.agg #[.int .i64 2,.int .i64 3])∧Gr w w':=by
 have H0:=Xh (fun wr=>nA 0 wr Xf)
 have H1:=Xh (fun wr=>nA 1 wr Xf)
 go_in
 go_wp2_with fail
 refine (H0.out _).mono ?_
 rintro e w1 ⟨rfl,h1⟩
 subst h1
 go_wp2_with fail
 refine (H1.out _).mono ?_
 rintro e w1 ⟨rfl,h1⟩
 subst h1
 go_wp2_with fail
 exact bodyPost_ret (results_cell_row Tryz.results173 _ _ w.heap.size 212 #[.int .i64 2,.int .i64 3] (0,0) _ rfl (Blk.new w _ _) Tryz.underlying212 rfl Xe) rfl ⟨rfl,Gr.alloc _ _⟩
def lH (a d l:Int):List UInt8:=[UInt8.ofNat a.toNat,UInt8.ofNat d.toNat,UInt8.ofNat l.toNat]
theorem tF (w:World) (g:Geo a d l):Calls Tryz.prog 252 #[.agg #[.int .i64 a,.int .i64 d,.int .i64 l]] w fun e w'=>∃A c,e= .returned (.slice A 3 c)∧Own w w' 5 1 (.slice A 3 c) 3 ((lH a d l).map u8c):=by
 have G0:Hid (Gr w (w.alloc (.cells #[.int .i64 a,.int .i64 d,.int .i64 l] 23))):=Gr.alloc _ _
 have B0:Hid (Blk (w.alloc (.cells #[.int .i64 a,.int .i64 d,.int .i64 l] 23)) w.heap.size 23 [.int .i64 a,.int .i64 d,.int .i64 l]):=Blk.new w _ _
 have HR:=Xh (fun wr=>gRa a d l wr)
 rw[g.r] at HR
 obtain⟨x,y,e1,e2,x1,x2,y1,y2⟩:=dz g.r
 obtain⟨l1,l2⟩:=g.l
 have w1:IntKind.u8.wrap a=a:=wrap_u8 Xf Xf
 have w2:IntKind.u8.wrap d=d:=wrap_u8 Xf Xf
 have w3:IntKind.u8.wrap l=l:=wrap_u8 Xf Xf
 have HM:Hid ([Value.int .u8 a,.int .u8 d,.int .u8 l]=(lH a d l).map u8c):=by
  show _=_
  unfold lH
  simp only[List.map_cons,List.map_nil]
  rw[EA a Xf Xf,EA d Xf Xf,EA l Xf Xf]
 clear g e1 e2
 go_in
 go_wp2_with fail
 refine (HR.out _).mono ?_
 rintro e w1 ⟨rfl,g1⟩
 have k0:=(B0.out.mono g1).cell 0
 have k1:=(B0.out.mono g1).cell 1
 have k2:=(B0.out.mono g1).cell 2
 have G1:Hid (Gr w w1):=G0.out.trans g1
 clear g1
 go_wp2_with fail
 go_ret
 have B2:Blk (w1.alloc (.cells #[.int .u8 a,.int .u8 d,.int .u8 l] 5)) w1.heap.size 5 [.int .u8 a,.int .u8 d,.int .u8 l]:=Blk.new w1 _ _
 refine⟨_,_,rfl,?_⟩
 rw[←HM.out]
 exact B2.own (size:=1) (n:=3) G1.out.size (G1.out.trans (Gr.alloc _ _)) rfl Xg
end
end
section
open Go.RowKit
structure Spr where
 life:Nat
 base:Nat
 gen:Nat
def bO:Spr:=⟨0,0,0⟩
def aH (x:Spr):Array Value:=#[.int .u64 (x.life:Int),.int .i64 (x.base:Int),.int .u64 (x.gen:Int)]
theorem kC (x:Spr):(aH x).all (·.oneCell')=true:=by
 rw[Array.all_eq_true']
 intro v hv
 have :v∈(aH x).toList:=Array.mem_toList_iff.2 hv
 simp only[aH,List.mem_cons,List.not_mem_nil,or_false] at this
 rcases this with h|h|h<;>subst h<;>rfl
theorem iw:(Tryz.prog.info? 147).map (·.size)=some 3:=by kernel_rfl
theorem jH {fn:Func} {p u v:Tmp} (h:fn.results=#[.cell p 147,.tmp u,.tmp v]) (tmps:Array Value) (w:World) (g:Nat) (t:TypeId) (cs:Array Value)
 (hp:tmps.getD p undef= .pointer (some ⟨g,0,none⟩)) (hg:w.heap[g]?=some (.cells cs t (0,0))) (hc:cs.size=3):
 (results fn tmps).run Tryz.prog w= .ok (.tuple #[.agg cs,tmps.getD u undef,tmps.getD v undef]) w:=by
 have h1:=run_loadVar_row w g t 147 cs (0,0) _ hg Tryz.underlying147 rfl (by rw[iw,hc])
 have hp':tmps[p]?.getD undef= .pointer (some ⟨g,0,none⟩):=by simpa using hp
 simp only[results,h]
 simp[Sem.run_bind,Result.andThen,hp',asAddr,h1]
theorem uH {fn:Func} {p u:Tmp} (h:fn.results=#[.cell p 147,.tmp u]) (tmps:Array Value) (w:World) (g:Nat) (t:TypeId) (cs:Array Value)
 (hp:tmps.getD p undef= .pointer (some ⟨g,0,none⟩)) (hg:w.heap[g]?=some (.cells cs t (0,0))) (hc:cs.size=3):
 (results fn tmps).run Tryz.prog w= .ok (.tuple #[.agg cs,tmps.getD u undef]) w:=by
 have h1:=run_loadVar_row w g t 147 cs (0,0) _ hg Tryz.underlying147 rfl (by rw[iw,hc])
 have hp':tmps[p]?.getD undef= .pointer (some ⟨g,0,none⟩):=by simpa using hp
 simp only[results,h]
 simp[Sem.run_bind,Result.andThen,hp',asAddr,h1]
def lQ (S:List (List UInt8)) (a d l:Int) (place:Nat) (b:List UInt8):Option Spr:=
 if (dA S place b).2=0∧(dA S place b).1.kind=2∧2+(dA S place b).1.life % 2=place∧(dA S place b).1.body=lH a d l then some ⟨(dA S place b).1.life,(dA S place b).1.seq,(dA S place b).1.gen⟩ else none
theorem Ug (S:List (List UInt8)) (place:Nat) (b:List UInt8) (hb:b.length=512):(dA S place b).1.life<18446744073709551616∧(dA S place b).1.gen<18446744073709551616∧(dA S place b).1.body.length≤479∧(dA S place b).1.seq≤1073741824∧(dA S place b).1.kind≤5:=by
 unfold dA AV
 split
 · next k h=>exact⟨show (0:Nat)<_ by decide,show (0:Nat)<_ by decide,show (0:Nat)≤_ by decide,show (0:Nat)≤_ by decide,show (0:Nat)≤_ by decide⟩
 · next x h=>
   split at h
   · cases h
   · split at h
     · cases h
     · next y hy=>
       split at h
       · next hc=>
         injection h with h
         subst h
         obtain⟨h1,h2,h3⟩:=CY hb hy
         have hr:=hc.1
         unfold Sec.right at hr
         simp only[Bool.and_eq_true,decide_eq_true_eq] at hr
         exact⟨h1,h2,h3,hr.1.2,hr.1.1.1.2⟩
       · cases h
section
variable {w0 w w':World} {L:Pl} {m:Mc} {n:Nat} {a d l:Int}
theorem Iz (h:MSt w0 L m w) (f:Fit m a d l) (ho:m.Ok n) (hn:n≤90000) (hd:m.d.down=false) (hp:m.d.pend=[]) (p:Nat) (hp2:p<2) (b:List UInt8) (hb:m.d.kept[2+p]?=some b):
 Calls Tryz.prog 230 #[.pointer (some ⟨L.dp,0,none⟩),.pointer (some ⟨L.p,0,none⟩),.agg #[.int .i64 a,.int .i64 d,.int .i64 l],.int .i64 ((2+p:Nat):Int)] w fun e w'=>e= .returned (.tuple #[.agg (aH ((lQ m.S a d l (2+p) b).getD bO)),.bool (lQ m.S a d l (2+p) b).isSome,.int .i64 0])∧Gr w w':=by
 have hbl:b.length=512:=h.len (List.mem_of_getElem? hb)
 obtain⟨x1,x2,x3,x4,x5⟩:=Ug m.S (2+p) b hbl
 obtain⟨R,hR⟩:∃R,R=lQ m.S a d l (2+p) b:=⟨_,rfl⟩
 rw[←hR]
 unfold lQ at hR
 obtain⟨D,hD⟩:∃D,D=dA m.S (2+p) b:=⟨_,rfl⟩
 rw[←hD] at hR x1 x2 x3 x4 x5
 have g0:Gr w ((w.alloc (.cells #[.int .i64 a,.int .i64 d,.int .i64 l] 23)).alloc (.cells (aH bO) 147)):=(Gr.alloc _ _).trans (Gr.alloc _ _)
 have gb:Blk ((w.alloc (.cells #[.int .i64 a,.int .i64 d,.int .i64 l] 23)).alloc (.cells (aH bO) 147)) w.heap.size 23 [.int .i64 a,.int .i64 d,.int .i64 l]:=(Blk.new w _ _).alloc _
 have rb:Blk ((w.alloc (.cells #[.int .i64 a,.int .i64 d,.int .i64 l] 23)).alloc (.cells (aH bO) 147)) (w.heap.size+1) 147 (aH bO).toList:=heap_alloc2_new w _ _
 have HBO:=Xh (fun wr (g:Gr w wr)=>mU (h.mono g) f)
 have HWH:=Xh (fun wr=>E8 a d l wr f.g p hp2)
 have HRE:=Xh (fun wr (g:Gr w wr)=>(h.mono g).read ho Xf hd hp (2+p) b hb)
 have HDE:=Xh (fun wr (g:Gr w wr) A c (s:Bs wr A 512 c b)=>(h.mono g).decode ho hn (2+p) A c b s)
 rw[←hD] at HDE
 have HSP:=Xh (fun wr=>nA D.1.life wr x1)
 have HMK:=Xh (fun wr=>tF (a:=a) (d:=d) (l:=l) wr f.g)
 obtain⟨v,hv⟩:∃v,v=2+p:=⟨_,rfl⟩
 rw[←hv] at hR HWH HRE HDE ⊢
 have HV:=Xh hv;clear hv
 obtain⟨u,hu⟩:∃u,u=2+D.1.life % 2:=⟨_,rfl⟩
 rw[←hu] at HSP hR
 have HU:=Xh hu;clear hu
 have HR:=Xh hR
 obtain⟨X,k⟩:=D
 simp only at HR HSP HDE x1 x2 x3 x4 x5
 clear h f ho hd hp hb hD hR
 go_in
 go_upto_region 1 with fail
 change Code.wp _ _ _ _ ((w.alloc (.cells #[.int .i64 a,.int .i64 d,.int .i64 l] 23)).alloc (.cells (aH bO) 147))
 obtain⟨W,hW⟩:∃W,W=(w.alloc (.cells #[.int .i64 a,.int .i64 d,.int .i64 l] 23)).alloc (.cells (aH bO) 147):=⟨_,rfl⟩
 rw[←hW] at g0 gb rb ⊢
 have G0:=Xh g0;have GB:=Xh gb;have RB:=Xh rb
 have k0:=gb.cell 0
 have k1:=gb.cell 1
 have k2:=gb.cell 2
 clear hW g0 gb rb
 go_wp2_with fail
 refine (HBO.out _ G0.out).mono ?_
 rintro e w1 ⟨rfl,g1⟩
 have G1:=Xh g1
 have k0:=(GB.out.mono g1).cell 0
 have k1:=(GB.out.mono g1).cell 1
 have k2:=(GB.out.mono g1).cell 2
 clear g1
 go_wp2_with fail
 refine (HWH.out _).mono ?_
 rintro e w2 ⟨rfl,g2⟩
 have G2:=Xh (G1.out.trans g2)
 clear g2
 go_wp2_with fail
 refine (HRE.out _ (G0.out.trans G2.out)).mono ?_
 rintro e w2b ⟨A2,c2,rfl,q2,g2⟩
 have G2b:=Xh (G2.out.trans g2)
 have Q2:=Xh q2.b
 clear g2 q2
 go_wp2_with fail
 refine (HDE.out _ (G0.out.trans G2b.out) A2 c2 Q2.out).mono ?_
 rintro e w2c ⟨A3,c3,rfl,o3⟩
 have G2c:=Xh (G2b.out.trans o3.below)
 have O3:=Xh o3
 clear o3
 unfold eH
 go_upto_region 11 with fail
 obtain⟨w3,hw3⟩:∃w3,w3=w2c.alloc (.cells #[.int .i64 (X.kind:Int),.int .u64 (X.life:Int),.int .i64 (X.seq:Int),.int .u64 (X.gen:Int),.slice A3 X.body.length c3] 143):=⟨_,rfl⟩
 have K3:Hid (Blk w3 w2c.heap.size 143 [.int .i64 (X.kind:Int),.int .u64 (X.life:Int),.int .i64 (X.seq:Int),.int .u64 (X.gen:Int),.slice A3 X.body.length c3]):=by rw[hw3];exact Blk.new w2c 143 _
 have G33:Hid (Gr w2c w3):=by rw[hw3];exact Gr.alloc _ _
 have G3:Hid (Gr W w3):=G2c.out.trans G33.out
 have G03:Hid (Gr w w3):=G0.out.trans G3.out
 have O4:=Xh (O3.out.mono G33.out)
 rw[←hw3]
 clear hw3 k0 k1 k2
 by_cases h1:k=0
 case neg=>
  have t1:((k:Int)==0)=false:=by rw[beq_eq_false_iff_ne];omega
  have HRW:Hid (R=none):=by show _=_;rw[HR.out,if_neg (fun q=>h1 q.1)]
  have GX:Hid (Gr w3 w3.drew):=Gr.drew _
  clear h1
  refine wrG Xe [0,1,3,7,15,31,63,127,255,511,1023,255,4095,8191,16383,32767,65535,32767,163839,524287,1048575,2097151] [.p 0,.p 1,.p 2,.p 3,.q 4,.p 5,.p 6,.p 7,.p 8,.p 11,.q 9,.c 10,.p 12,.p 13,.p 14,.p 15,.q 16,.q 17,.c 18,.c 19,.p 20,.p 21] Xe (trivial) ?_
  refine gP ?_
  refine gP ?_
  refine gP ?_
  refine gS ?_
  refine gS ?_
  refine gS ?_
  refine gP ?_
  refine gP ?_
  refine gS ?_
  refine gS ?_
  refine gS ?_
  refine gS ?_
  refine gS ?_
  refine gP ?_
  refine gP ?_
  refine gS ?_
  refine gS ?_
  refine gS ?_
  refine gS ?_
  refine gS ?_
  refine gP ?_
  refine gP ?_
  refine wNi fun w12 g12=> ?_
  have K12:=Xh (RB.out.mono (G3.out.trans ((GX).out.trans g12)))
  have G12:=Xh (G03.out.trans ((GX).out.trans g12))
  have hr:R=none:=HRW.out
  subst hr
  clear g12
  go_wp2_with (refine wpList_store_row rfl 147 (.tmp 8) (.tmp 76) rfl (w.heap.size+1) (aH bO) rfl rfl 147 (aH bO) K12.out iw rfl (kC _) ?_)
  have HN:=setRow_heap w12 (w.heap.size+1) _ (aH bO) _ _ K12.out
  exact bodyPost_ret (jH Tryz.results230 _ _ (w.heap.size+1) _ _ rfl HN rfl) rfl ⟨rfl,bRb G12.out Xf _⟩
 have t1:((k:Int)==0)=true:=by rw[beq_iff_eq];omega
 by_cases h2:X.kind=2
 case neg=>
  have t2:((X.kind:Int)==2)=false:=by rw[beq_eq_false_iff_ne];omega
  have HRW:Hid (R=none):=by show _=_;rw[HR.out,if_neg (fun q=>h2 q.2.1)]
  have GX:Hid (Gr w3 w3.drew):=Gr.drew _
  clear h1 h2
  refine wrG Xe [0,1,3,7,15,31,63,127,255,511,1023,255,4095,8191,16383,32767,65535,32767,163839,524287,1048575,2097151] [.p 0,.p 1,.p 2,.p 3,.q 4,.p 5,.p 6,.p 7,.p 8,.p 11,.q 9,.c 10,.p 12,.p 13,.p 14,.p 15,.q 16,.q 17,.c 18,.c 19,.p 20,.p 21] Xe (trivial) ?_
  refine gP ?_
  refine gP ?_
  refine gP ?_
  refine gP ?_
  refine gQ (fun _ hq=>(K3.out.mono (Xk hq)).cell 0) ?_
  refine gP ?_
  refine gP ?_
  refine gP ?_
  refine gS ?_
  refine gS ?_
  refine gS ?_
  refine gS ?_
  refine gS ?_
  refine gP ?_
  refine gP ?_
  refine gS ?_
  refine gS ?_
  refine gS ?_
  refine gS ?_
  refine gS ?_
  refine gP ?_
  refine gP ?_
  refine wNi fun w12 g12=> ?_
  have K12:=Xh (RB.out.mono (G3.out.trans ((GX).out.trans g12)))
  have G12:=Xh (G03.out.trans ((GX).out.trans g12))
  have hr:R=none:=HRW.out
  subst hr
  clear g12
  go_wp2_with (refine wpList_store_row rfl 147 (.tmp 8) (.tmp 76) rfl (w.heap.size+1) (aH bO) rfl rfl 147 (aH bO) K12.out iw rfl (kC _) ?_)
  have HN:=setRow_heap w12 (w.heap.size+1) _ (aH bO) _ _ K12.out
  exact bodyPost_ret (jH Tryz.results230 _ _ (w.heap.size+1) _ _ rfl HN rfl) rfl ⟨rfl,bRb G12.out Xf _⟩
 have t2:((X.kind:Int)==2)=true:=by rw[beq_iff_eq];omega
 by_cases h3:u=v
 case neg=>
  have t3:((u:Int)==(v:Int))=false:=by rw[beq_eq_false_iff_ne];omega
  have HRW:Hid (R=none):=by show _=_;rw[HR.out,if_neg (fun q=>h3 q.2.2.1)]
  clear h1 h2 h3
  refine wrG Xe [0,1,3,7,15,31,63,127,255,511,1023,255,4095,8191,16383,32767,65535,32767,163839,524287,1048575,2097151] [.p 0,.p 1,.p 2,.p 3,.q 4,.p 5,.p 6,.p 7,.p 8,.p 11,.q 9,.c 10,.p 12,.p 13,.p 14,.p 15,.q 16,.q 17,.c 18,.c 19,.p 20,.p 21] Xe (trivial) ?_
  refine gP ?_
  refine gP ?_
  refine gP ?_
  refine gP ?_
  refine gQ (fun _ hq=>(K3.out.mono (Xk hq)).cell 0) ?_
  refine gP ?_
  refine gP ?_
  refine gP ?_
  refine gP ?_
  refine gP ?_
  refine gQ (fun _ hq=>(K3.out.mono (Xk hq)).cell 1) ?_
  refine gC ?_
  intro w4 g4 K hK
  refine (HSP.out w4).mono ?_
  rintro e wn ⟨rfl,h5⟩
  subst h5;refine hK _ _ (Gr.refl _) ?_;have G5:=Xh ((Gr.drew w3).trans g4);clear g4 hK
  go_simp
  refine gP ?_
  refine gP ?_
  refine gP ?_
  refine gS ?_
  refine gS ?_
  refine gS ?_
  refine gS ?_
  refine gS ?_
  refine gP ?_
  refine gP ?_
  refine wNi fun w12 g12=> ?_
  have K12:=Xh (RB.out.mono (G3.out.trans ((G5).out.trans g12)))
  have G12:=Xh (G03.out.trans ((G5).out.trans g12))
  have hr:R=none:=HRW.out
  subst hr
  clear g12
  go_wp2_with (refine wpList_store_row rfl 147 (.tmp 8) (.tmp 76) rfl (w.heap.size+1) (aH bO) rfl rfl 147 (aH bO) K12.out iw rfl (kC _) ?_)
  have HN:=setRow_heap w12 (w.heap.size+1) _ (aH bO) _ _ K12.out
  exact bodyPost_ret (jH Tryz.results230 _ _ (w.heap.size+1) _ _ rfl HN rfl) rfl ⟨rfl,bRb G12.out Xf _⟩
 subst h3
 have t3:((u:Int)==(u:Int))=true:=by simp
 obtain⟨y,hy⟩:∃y,y=(X.body==lH a d l):=⟨_,rfl⟩
 have HSA:Hid (∀(A7:Option Addr) (c7:Nat) (wr:World),Gr w3 wr→Bs wr A7 3 c7 (lH a d l)→Calls Tryz.prog 135 #[.slice A3 X.body.length c3,.slice A7 3 c7] wr fun e w'=>e= .returned (.bool y)∧wr=w'):=fun A7 c7 wr g s1=>by
  obtain⟨_,_,hv,s⟩:=(O4.out.mono g).slice
  injection hv with e1 _ e2
  subst e1 e2
  rw[hy]
  exact jM _ _ _ _ _ _ _ _ wr s s1
 have HY:=Xh hy
 clear hy
 cases y
 · have HRW:Hid (R=none):=by
    show _=_
    rw[HR.out,if_neg (fun q=>by have :=HY.out;rw[q.2.2.2] at this;simp at this)]
   clear h1 h2
   refine wrG Xe [0,1,3,7,15,31,63,127,255,511,1023,255,4095,8191,16383,32767,65535,32767,163839,524287,1048575,2097151] [.p 0,.p 1,.p 2,.p 3,.q 4,.p 5,.p 6,.p 7,.p 8,.p 11,.q 9,.c 10,.p 12,.p 13,.p 14,.p 15,.q 16,.q 17,.c 18,.c 19,.p 20,.p 21] Xe (trivial) ?_
   refine gP ?_
   refine gP ?_
   refine gP ?_
   refine gP ?_
   refine gQ (fun _ hq=>(K3.out.mono (Xk hq)).cell 0) ?_
   refine gP ?_
   refine gP ?_
   refine gP ?_
   refine gP ?_
   refine gP ?_
   refine gQ (fun _ hq=>(K3.out.mono (Xk hq)).cell 1) ?_
   refine gC ?_
   intro w4 g4 K hK
   refine (HSP.out w4).mono ?_
   rintro e wn ⟨rfl,h5⟩
   subst h5;refine hK _ _ (Gr.refl _) ?_;have G5:=Xh ((Gr.drew w3).trans g4);clear g4 hK
   go_simp
   refine gP ?_
   refine gP ?_
   refine gP ?_
   refine gP ?_
   refine gQ (fun _ hq=>(K3.out.mono (G5.out.trans hq)).cell 4) ?_
   refine gQ (fun _ hq=>And.intro ((GB.out.mono (G3.out.trans (G5.out.trans hq))).cell 0) (And.intro ((GB.out.mono (G3.out.trans (G5.out.trans hq))).cell 1) ((GB.out.mono (G3.out.trans (G5.out.trans hq))).cell 2))) ?_
   refine gC ?_
   intro w6 g6 K hK
   refine (HMK.out w6).mono ?_
   rintro e wn ⟨A7,c7,rfl,o7⟩
   refine hK _ _ o7.below ?_;obtain⟨_,_,hv7,s7⟩:=o7.slice;injection hv7 with e1 _ e2;subst e1 e2;have S7:Hid (Bs wn A7 3 c7 (lH a d l)):=s7;have G7:=Xh ((G5.out.trans g6).trans o7.below);clear g6 o7 s7 hK
   go_simp
   refine gC ?_
   intro w8 g8 K hK
   refine (HSA.out A7 c7 w8 (G7.out.trans g8) (S7.out.mono g8)).mono ?_
   rintro e wn ⟨rfl,h9⟩
   subst h9;refine hK _ _ (Gr.refl _) ?_;have G9:=Xh (G7.out.trans g8);clear g8 hK
   go_simp
   refine gP ?_
   refine gP ?_
   refine wNi fun w12 g12=> ?_
   have K12:=Xh (RB.out.mono (G3.out.trans ((G9).out.trans g12)))
   have G12:=Xh (G03.out.trans ((G9).out.trans g12))
   have hr:R=none:=HRW.out
   subst hr
   clear g12
   go_wp2_with (refine wpList_store_row rfl 147 (.tmp 8) (.tmp 76) rfl (w.heap.size+1) (aH bO) rfl rfl 147 (aH bO) K12.out iw rfl (kC _) ?_)
   have HN:=setRow_heap w12 (w.heap.size+1) _ (aH bO) _ _ K12.out
   exact bodyPost_ret (jH Tryz.results230 _ _ (w.heap.size+1) _ _ rfl HN rfl) rfl ⟨rfl,bRb G12.out Xf _⟩
 · have hr:R=some ⟨X.life,X.seq,X.gen⟩:=by
    rw[HR.out,if_pos ⟨h1,h2,rfl,beq_iff_eq.1 HY.out.symm⟩]
   subst hr
   clear h1 h2
   refine wrG Xe [0,1,3,7,15,31,63,127,255,511,1023,255,4095,8191,16383,32767,65535,32767,163839,524287,1048575,2097151] [.p 0,.p 1,.p 2,.p 3,.q 4,.p 5,.p 6,.p 7,.p 8,.p 11,.q 9,.c 10,.p 12,.p 13,.p 14,.p 15,.q 16,.q 17,.c 18,.c 19,.p 20,.p 21] Xe (trivial) ?_
   refine gP ?_
   refine gP ?_
   refine gP ?_
   refine gP ?_
   refine gQ (fun _ hq=>(K3.out.mono (Xk hq)).cell 0) ?_
   refine gP ?_
   refine gP ?_
   refine gP ?_
   refine gP ?_
   refine gP ?_
   refine gQ (fun _ hq=>(K3.out.mono (Xk hq)).cell 1) ?_
   refine gC ?_
   intro w4 g4 K hK
   refine (HSP.out w4).mono ?_
   rintro e wn ⟨rfl,h5⟩
   subst h5;refine hK _ _ (Gr.refl _) ?_;have G5:=Xh ((Gr.drew w3).trans g4);clear g4 hK
   go_simp
   refine gP ?_
   refine gP ?_
   refine gP ?_
   refine gP ?_
   refine gQ (fun _ hq=>(K3.out.mono (G5.out.trans hq)).cell 4) ?_
   refine gQ (fun _ hq=>And.intro ((GB.out.mono (G3.out.trans (G5.out.trans hq))).cell 0) (And.intro ((GB.out.mono (G3.out.trans (G5.out.trans hq))).cell 1) ((GB.out.mono (G3.out.trans (G5.out.trans hq))).cell 2))) ?_
   refine gC ?_
   intro w6 g6 K hK
   refine (HMK.out w6).mono ?_
   rintro e wn ⟨A7,c7,rfl,o7⟩
   refine hK _ _ o7.below ?_;obtain⟨_,_,hv7,s7⟩:=o7.slice;injection hv7 with e1 _ e2;subst e1 e2;have S7:Hid (Bs wn A7 3 c7 (lH a d l)):=s7;have G7:=Xh ((G5.out.trans g6).trans o7.below);clear g6 o7 s7 hK
   go_simp
   refine gC ?_
   intro w8 g8 K hK
   refine (HSA.out A7 c7 w8 (G7.out.trans g8) (S7.out.mono g8)).mono ?_
   rintro e wn ⟨rfl,h9⟩
   subst h9;refine hK _ _ (Gr.refl _) ?_;have G9:=Xh (G7.out.trans g8);clear g8 hK
   go_simp
   refine gP ?_
   refine gP ?_
   refine wNi fun w12 g12=> ?_
   have K12:=Xh (RB.out.mono (G3.out.trans (G9.out.trans g12)))
   have S12:=K3.out.mono (G9.out.trans g12)
   have G12:=Xh (G03.out.trans (G9.out.trans g12))
   have s1:=S12.cell 1
   have s2:=S12.cell 2
   have s3:=S12.cell 3
   clear g12 S12
   go_wp2_with (refine wpList_store_row rfl 147 (.tmp 8) (.tmp 83) rfl (w.heap.size+1) (aH ⟨X.life,X.seq,X.gen⟩) rfl rfl 147 (aH bO) K12.out iw rfl (kC _) ?_)
   have HN:=setRow_heap w12 (w.heap.size+1) _ (aH ⟨X.life,X.seq,X.gen⟩) _ _ K12.out
   exact bodyPost_ret (jH Tryz.results230 _ _ (w.heap.size+1) _ _ rfl HN rfl) rfl ⟨rfl,bRb G12.out Xf _⟩
end
end
section
open Go.RowKit
def Am:Option Spr→Option Spr→Option Spr
 |x,none=>x
 |none,some y=>some y
 |some x,some y=>if x.life<y.life then some y else some x
def yx (x:Spr):Option Spr→Bool
 |none=>true
 |some y=>decide (y.life<x.life)
def fP (S:List (List UInt8)) (a d l:Int) (K:List (List UInt8)):Option Spr:=Am (lQ S a d l 2 (K.getD 2 [])) (lQ S a d l 3 (K.getD 3 []))
theorem jc {w:World} {g:Nat} {t:TypeId} {x:Spr} (h:Blk w g t (aH x).toList):w.cell? ⟨g,0,none⟩=some (.int .u64 (x.life:Int))∧w.cell? ⟨g,1,none⟩=some (.int .i64 (x.base:Int))∧w.cell? ⟨g,2,none⟩=some (.int .u64 (x.gen:Int)):=⟨h.cell 0,h.cell 1,h.cell 2⟩
section
variable {w0 w w':World} {L:Pl} {m:Mc} {n:Nat} {a d l:Int}
theorem Jq (x:Spr) (st:Option Spr) (pf pb:Nat) (w:World) (hf:Blk w pf 4 [.bool st.isSome]) (hb:Blk w pb 147 (aH (st.getD bO)).toList):
 Calls Tryz.prog 229 #[.agg (aH x),.pointer (some ⟨pf,0,none⟩),.pointer (some ⟨pb,0,none⟩)] w fun e w'=>e= .returned (.bool (yx x st))∧Gr w w':=by
 have c0:=hf.cell 0
 have b0:=hb.cell 0
 have c0':=((hf.alloc (.cells (aH x) 147)).cell 0)
 have b0':=((hb.alloc (.cells (aH x) 147)).cell 0)
 clear hf hb
 unfold aH at *
 cases st with
 |none=>
  go_in
  go_wp2_with fail
  go_ret
  exact⟨rfl,Gr.alloc _ _⟩
 |some y=>
  have t:decide ((y.life:Int)<(x.life:Int))=decide (y.life<x.life):=decide_eq_decide.2 Xf
  go_in
  go_wp2_with fail
  go_ret
  exact⟨bV rfl,Gr.alloc _ _⟩
def nQ (S:List (List UInt8)) (a d l:Int) (K:List (List UInt8)):Nat→Option Spr
 |0=>none
 |k+1=>Am (nQ S a d l K k) (lQ S a d l (2+k) (K.getD (2+k) []))
theorem Jo (S:List (List UInt8)) (a d l:Int) (K:List (List UInt8)):nQ S a d l K 2=fP S a d l K:=by
 unfold nQ nQ nQ fP
 cases lQ S a d l 2 (K.getD 2 [])<;>rfl
theorem D7 (h:MSt w0 L m w) (f:Fit m a d l) (ho:m.Ok n) (hn:n≤90000) (hd:m.d.down=false) (hp:m.d.pend=[]):
 Calls Tryz.prog 147 #[.pointer (some ⟨L.dp,0,none⟩),.pointer (some ⟨L.p,0,none⟩),.agg #[.int .i64 a,.int .i64 d,.int .i64 l]] w fun e w'=>e= .returned (.tuple #[.agg (aH ((fP m.S a d l m.d.kept).getD bO)),.int .i64 (if (fP m.S a d l m.d.kept).isSome=true then 0 else 11)])∧Gr w w':=by
 have hk:4≤m.d.kept.length:=by have :=f.s;have :=f.g.l;have :=(pgE a d l).1;unfold dS at *;omega
 obtain⟨R,hR⟩:∃R,R=fP m.S a d l m.d.kept:=⟨_,rfl⟩
 rw[←hR]
 rw[←Jo] at hR
 obtain⟨F,hF⟩:∃F,F=nQ m.S a d l m.d.kept:=⟨_,rfl⟩
 rw[←hF] at hR
 obtain⟨B,hB⟩:∃B:Nat→Option Spr,B=fun k=>lQ m.S a d l (2+k) (m.d.kept.getD (2+k) []):=⟨_,rfl⟩
 have HF0:Hid (F 0=none):=by show _=_;rw[hF];rfl
 have HFS:Hid (∀k,F (k+1)=Am (F k) (B k)):=fun k=>by rw[hF,hB];rfl
 have HAT:Hid (∀k,k<2→∀wr,Gr w wr→Calls Tryz.prog 230 #[.pointer (some ⟨L.dp,0,none⟩),.pointer (some ⟨L.p,0,none⟩),.agg #[.int .i64 a,.int .i64 d,.int .i64 l],.int .i64 ((2+k:Nat):Int)] wr fun e w'=>e= .returned (.tuple #[.agg (aH ((B k).getD bO)),.bool (B k).isSome,.int .i64 0])∧Gr wr w'):=fun k hk2 wr g=>by
  have hkk:2+k<m.d.kept.length:=by omega
  have hb:m.d.kept[2+k]?=some (m.d.kept.getD (2+k) []):=by rw[List.getD_eq_getElem?_getD,List.getElem?_eq_getElem hkk];rfl
  rw[hB]
  exact Iz (h.mono g) f ho hn hd hp k hk2 _ hb
 have HBO:=Xh (fun wr (g:Gr w wr)=>mU (h.mono g) f)
 have HPL:=Xh (fun wr=>ql wr)
 have HRR:=Xh hR
 clear h f ho hd hp hk hR hF hB
 have g0:Gr w ((w.alloc (.cells #[.int .i64 a,.int .i64 d,.int .i64 l] 23)).alloc (.cells (aH bO) 147)):=(Gr.alloc _ _).trans (Gr.alloc _ _)
 have gb:Blk ((w.alloc (.cells #[.int .i64 a,.int .i64 d,.int .i64 l] 23)).alloc (.cells (aH bO) 147)) w.heap.size 23 [.int .i64 a,.int .i64 d,.int .i64 l]:=(Blk.new w _ _).alloc _
 have rb:Blk ((w.alloc (.cells #[.int .i64 a,.int .i64 d,.int .i64 l] 23)).alloc (.cells (aH bO) 147)) (w.heap.size+1) 147 (aH bO).toList:=heap_alloc2_new w _ _
 go_in
 go_upto_region 1 with fail
 change Code.wp _ _ _ _ ((w.alloc (.cells #[.int .i64 a,.int .i64 d,.int .i64 l] 23)).alloc (.cells (aH bO) 147))
 obtain⟨W,hW⟩:∃W,W=(w.alloc (.cells #[.int .i64 a,.int .i64 d,.int .i64 l] 23)).alloc (.cells (aH bO) 147):=⟨_,rfl⟩
 rw[←hW] at g0 gb rb ⊢
 have G0:=Xh g0;have GB:=Xh gb;have RB:=Xh rb
 have k0:=gb.cell 0
 have k1:=gb.cell 1
 have k2:=gb.cell 2
 clear hW g0 gb rb
 try go_step3
 go_wp2_with fail
 refine (HBO.out _ G0.out).mono ?_
 rintro e w1 ⟨rfl,g1⟩
 have G1:=Xh (G0.out.trans g1)
 have GB1:=Xh (GB.out.mono g1)
 have RB1:=Xh (RB.out.mono g1)
 clear g1 k0 k1 k2
 go_wp2_with fail
 have b2:Blk (w1.alloc (.cells #[.bool false] 4)) w1.heap.size 4 [.bool false]:=Blk.new w1 _ _
 have g2:Gr w1 (w1.alloc (.cells #[.bool false] 4)):=Gr.alloc _ _
 obtain⟨w2,hw2⟩:∃w2,w2=w1.alloc (.cells #[.bool false] 4):=⟨_,rfl⟩
 rw[←hw2] at b2 g2 ⊢
 obtain⟨pf,hpf⟩:∃pf,pf=w1.heap.size:=⟨_,rfl⟩
 have hpf1:w.heap.size+1<pf:=by rw[hpf];exact RB1.out.lt
 have hpf2:w.heap.size<pf:=by omega
 rw[←hpf] at b2 ⊢
 have B2:=Xh b2
 have G2:=Xh (G1.out.trans g2)
 have GB2:=Xh (GB1.out.mono g2)
 have RB2:=Xh (RB1.out.mono g2)
 clear hw2 hpf b2 g2
 go_step3
 go_wp2_with fail
 refine (HPL.out _).mono ?_
 rintro e w3 ⟨rfl,g3⟩
 have HX:Hid (∀k:Nat,k<2→∀W:World,(Instr.index 212 (.agg #[.int .i64 2,.int .i64 3]) (.int .i64 (k:Int))).run Tryz.prog W= .ok (.int .i64 ((2+k:Nat):Int)) W):=fun k hk W=>by
  rcases (show k=0∨k=1 by omega) with e|e<;>subst e<;>kernel_rfl
 have HI:Hid (Gr w w3∧Blk w3 w.heap.size 23 [.int .i64 a,.int .i64 d,.int .i64 l]∧Blk w3 (w.heap.size+1) 147 (aH ((F 0).getD bO)).toList∧Blk w3 pf 4 [.bool (F 0).isSome]):=
  ⟨G2.out.trans g3,GB2.out.mono g3,by rw[HF0.out];exact RB2.out.mono g3,by rw[HF0.out];exact B2.out.mono g3⟩
 clear g3
 go_wp2_with fail
 go_loopw [26] (fun i wr=>∃k:Nat,k≤2∧i= .int .i64 (k:Int)∧Gr w wr∧Blk wr w.heap.size 23 [.int .i64 a,.int .i64 d,.int .i64 l]∧Blk wr (w.heap.size+1) 147 (aH ((F k).getD bO)).toList∧Blk wr pf 4 [.bool (F k).isSome]) (fun i _=>2 - (Go.RowKit.intOf i).toNat)
 case atStart=>exact⟨0,Xf,rfl,HI.out⟩
 case round=>
  obtain⟨k,hk,rfl,hg,hgb,hrb,hfb⟩:=hrel
  have HG:=Xh hg;have HGB:=Xh hgb;have HRB:=Xh hrb;have HFB:=Xh hfb
  clear hg hrb hfb
  by_cases hlt:k<2
  · have t:decide ((k:Int)<2)=true:=decide_eq_true Xf
    have hx:=HX.out k hlt
    have HA:=Xh (HAT.out k hlt)
    obtain⟨v,hv⟩:∃v,v=2+k:=⟨_,rfl⟩
    rw[←hv] at hx HA
    have HV:=Xh hv;clear hv
    have k0:=hgb.cell 0
    have k1:=hgb.cell 1
    have k2:=hgb.cell 2
    clear hgb
    go_wp2_with fail
    refine (HA.out wr HG.out).mono ?_
    rintro e w4 ⟨rfl,g4⟩
    have HG4:=Xh (HG.out.trans g4);have HGB4:=Xh (HGB.out.mono g4);have HRB4:=Xh (HRB.out.mono g4);have HFB4:=Xh (HFB.out.mono g4)
    clear g4 k0 k1 k2
    have HSN:=Xh (HFS.out k)
    obtain⟨r,hr⟩:∃r,r=B k:=⟨_,rfl⟩
    rw[←hr] at HSN ⊢
    clear hr
    have wk:IntKind.i64.wrap ((k:Int)+1)=(k:Int)+1:=IntWalk.i64_in _ Xf
    cases r with
    |none=>
     simp only[Option.getD_none,Option.isSome_none]
     unfold aH
     go_wp2_with fail
     have gz:Gr w4 (w4.alloc (.cells (aH bO) 147)):=Gr.alloc _ _
     refine⟨⟨k+1,Xf,by go_num,HG4.out.trans gz,HGB4.out.mono gz,?_,?_⟩,by simp[Go.RowKit.intOf];omega⟩
     · rw[HSN.out];exact HRB4.out.mono gz
     · rw[HSN.out];exact HFB4.out.mono gz
    |some x=>
     simp only[Option.getD_some,Option.isSome_some]
     have gz:Gr w4 (w4.alloc (.cells (aH x) 147)):=Gr.alloc _ _
     have bz:Blk (w4.alloc (.cells (aH x) 147)) w4.heap.size 147 (aH x).toList:=Blk.new w4 _ _
     have HGT:=Xh (fun wr (g:Gr (w4.alloc (.cells (aH x) 147)) wr)=>Jq x (F k) pf (w.heap.size+1) wr ((HFB4.out.mono gz).mono g) ((HRB4.out.mono gz).mono g))
     unfold aH at HGT
     unfold aH
     go_wp2_with fail
     change Calls _ _ _ (w4.alloc (.cells (aH x) 147)) _
     refine (HGT.out _ (Gr.refl _)).mono ?_
     rintro e w5 ⟨rfl,g5⟩
     have BZ5:=Xh (bz.mono g5)
     have HG5:=Xh ((HG4.out.trans gz).trans g5);have HGB5:=Xh ((HGB4.out.mono gz).mono g5);have HRB5:=Xh ((HRB4.out.mono gz).mono g5);have HFB5:=Xh ((HFB4.out.mono gz).mono g5)
     clear bz gz g5
     have HMX:Hid (Am (F k) (some x)=if yx x (F k)=true then some x else F k):=by
      show _=_
      cases F k with
      |none=>rfl
      |some y=>
       show (if y.life<x.life then some x else some y)=(if decide (y.life<x.life)=true then some x else some y)
       by_cases h:y.life<x.life
       · rw[if_pos h,if_pos (decide_eq_true h)]
       · rw[if_neg h,if_neg (by simpa using h)]
     obtain⟨q,hq⟩:∃q,q=yx x (F k):=⟨_,rfl⟩
     rw[←hq] at HMX ⊢
     clear hq
     cases q
     · go_wp2_with fail
       have he:F (k+1)=F k:=by rw[HSN.out,HMX.out];rfl
       refine⟨⟨k+1,Xf,by go_num,HG5.out,HGB5.out,?_,?_⟩,by simp[Go.RowKit.intOf];omega⟩
       · rw[he];exact HRB5.out
       · rw[he];exact HFB5.out
     · obtain⟨z0,z1,z2⟩:=jc BZ5.out
       have he:Hid (F (k+1)=some x):=by show _=_;rw[HSN.out,HMX.out];rfl
       have HN6:Hid (Blk (w5.setRow (w.heap.size+1) (aH x)) (w.heap.size+1) 147 (aH x).toList):=setRow_heap w5 (w.heap.size+1) _ (aH x) _ _ HRB5.out
       have T6:Hid (Tch (fun b=>b=w.heap.size+1) w5 (w5.setRow (w.heap.size+1) (aH x))):=Tch.row (S:=fun b=>b=w.heap.size+1) rfl _
       obtain⟨w6,hw6⟩:∃w6,w6=w5.setRow (w.heap.size+1) (aH x):=⟨_,rfl⟩
       rw[←hw6] at HN6 T6
       have HW6:=Xh hw6;clear hw6
       have B6:=Xh (HFB5.out.tch T6.out Xf)
       have y9:=B6.out.cell 0
       have z9:=Blk.free B6.out 0
       go_wp2_with (refine wpList_store_row rfl 147 (.tmp 6) (.tmp 52) rfl (w.heap.size+1) (aH x) rfl rfl 147 (aH ((F k).getD bO)) HRB5.out iw rfl (kC _) ?_;rw[←HW6.out])
       have T7:Tch (fun b=>b=pf) w6 (w6.setCell ⟨pf,0,none⟩ (.bool true)):=Tch.set ⟨pf,0,none⟩ _ rfl
       refine⟨⟨k+1,Xf,by go_num,T7.below (T6.out.below HG5.out HG5.out.size (fun b e=>by omega)) (by have :=HG5.out.size;have :=T6.out.size;omega) (fun b e=>by omega),(HGB5.out.tch T6.out Xf).tch T7 Xf,?_,?_⟩,by simp[Go.RowKit.intOf];omega⟩
       · rw[he.out];exact HN6.out.tch T7 Xf
       · rw[he.out];exact B6.out.set 0 _
  · obtain rfl:k=2:=by omega
    rw[←HRR.out] at HRB HFB
    have b0:=HFB.out.cell 0
    have HRBC:=Xh HRB.out
    clear hgb
    cases R with
    |none=>
     go_wp2_with (refine wpList_store_row rfl 147 (.tmp 6) (.tmp 56) rfl (w.heap.size+1) (aH bO) rfl rfl 147 (aH bO) HRB.out iw rfl (kC _) ?_)
     try rw[Exit.noGoto_ret]
     have HN:=setRow_heap wr (w.heap.size+1) _ (aH bO) _ _ HRB.out
     exact bodyPost_ret (uH Tryz.results147 _ _ (w.heap.size+1) _ _ rfl HN rfl) rfl ⟨rfl,bRb HG.out Xf _⟩
    |some x=>
     obtain⟨z0,z1,z2⟩:=jc HRB.out
     go_wp2_with (refine wpList_store_row rfl 147 (.tmp 6) (.tmp 57) rfl (w.heap.size+1) (aH x) rfl rfl 147 (aH x) HRB.out iw rfl (kC _) ?_)
     try rw[Exit.noGoto_ret]
     have HN:=setRow_heap wr (w.heap.size+1) _ (aH x) _ _ HRB.out
     exact bodyPost_ret (uH Tryz.results147 _ _ (w.heap.size+1) _ _ rfl HN rfl) rfl ⟨rfl,bRb HG.out Xf _⟩
end
end
end Go.Proofs.YtipdlnejmcmbbaaGreatDoor
