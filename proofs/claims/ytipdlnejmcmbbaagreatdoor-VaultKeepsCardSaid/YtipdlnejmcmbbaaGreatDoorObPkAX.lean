/- Own texts, one behind the other. No condition. -/
import Derived.Test.YtipdlnejmcmbbaaGreatDoorObPkAW
set_option linter.unusedVariables false
set_option maxRecDepth 100000
set_option maxHeartbeats 8000000
set_option linter.unusedSimpArgs false
namespace Go.Proofs.YtipdlnejmcmbbaaGreatDoor
section
open Go.RowKit
abbrev EJ (L:Pl) (a d l:Int) (life base:Nat):List Value:=[.pointer (some ⟨L.dp,0,none⟩),.pointer (some ⟨L.p,0,none⟩),.int .i64 a,.int .i64 d,.int .i64 l,.int .u64 (life:Int),.int .i64 (base:Int)]
abbrev cB (L:Pl) (a d l:Int) (life base seq:Nat):List Value:=[.pointer (some ⟨L.dp,0,none⟩),.pointer (some ⟨L.p,0,none⟩),.int .i64 a,.int .i64 d,.int .i64 l,.int .u64 (life:Int),.int .i64 (base:Int),.int .i64 (seq:Int)]
def gZ (l:Int) (k:Nat):Nat:=4+k % l.toNat
theorem wH {a d l:Int} (g:Geo a d l) (k:Nat):((gZ l k:Nat):Int)<dS a d l∧gZ l k≤1023:=by
 obtain⟨h3,h4⟩:=g.l
 have hp:=(pgE a d l).1
 have :=Nat.mod_lt k (show 0<l.toNat by omega)
 unfold gZ dS
 omega
section
variable {w0 w w':World} {L:Pl} {m:Mc} {n:Nat} {a d l:Int}
theorem u6 (h:MSt w0 L m w) (f:Fit m a d l) (life base:Nat) (hb:base≤1073741824):Calls Tryz.prog 233 #[.agg #[.pointer (some ⟨L.dp,0,none⟩),.pointer (some ⟨L.p,0,none⟩),.int .i64 a,.int .i64 d,.int .i64 l,.int .u64 (life:Int),.int .i64 (base:Int)]] w fun e w'=>e= .returned (.int .i64 0)∧Gr w w':=by
 obtain⟨W,hW⟩:∃W,W=w.alloc (.cells #[.pointer (some ⟨L.dp,0,none⟩),.pointer (some ⟨L.p,0,none⟩),.int .i64 a,.int .i64 d,.int .i64 l,.int .u64 (life:Int),.int .i64 (base:Int)] 283):=⟨_,rfl⟩
 have G0:Hid (Gr w W):=by rw[hW];exact Gr.alloc _ _
 have B0:Hid (Blk W w.heap.size 283 (EJ L a d l life base)):=by rw[hW];exact Blk.new w _ _
 have HW:=Xh hW;clear hW
 have HR:=Xh (fun wr=>gRa a d l wr)
 rw[f.g.r] at HR
 have HS:=Xh (fun wr=>kX a d l wr f.g)
 have HD:=Xh (fun wr (g:Gr w wr)=>(h.mono g).size)
 rw[f.s] at HD
 generalize dS a d l=q at *
 have t1:(q !=q)=false:=by simp
 have t2:decide ((base:Int)<0)=false:=decide_eq_false Xf
 have t3:decide ((1073741824:Int)<(base:Int))=false:=decide_eq_false Xf
 clear h f
 go_in
 go_upto_region 3 with fail
 rw[←HW.out]
 refine wp_region_quiet (C:=fun w'=>Below (W).heap.size (W) w') Xe Xe (Below.refl _ _).drew ?_
 simp only
 repeat (first
  |go_big_quiet_skip
  |(go_big_quiet_want
    apply Exists.intro
    refine⟨fun wq hq=> ?_,?_⟩
    · (have k0:=(B0.out.mono hq).cell 0;have k2:=(B0.out.mono hq).cell 2;have k3:=(B0.out.mono hq).cell 3;have k4:=(B0.out.mono hq).cell 4;have k6:=(B0.out.mono hq).cell 6
       go_simp
       first
        |done
        |exact rfl
        |(with_reducible exact⟨rfl,rfl⟩)
        |(first|(go_at_call 84;exact (HR.out wq).mono fun e w2 ⟨he,hb⟩=>⟨he,bBo hq hb⟩)|(go_at_call 86;exact (HS.out wq).mono fun e w2 ⟨he,hb⟩=>⟨he,bBo hq hb⟩)|(go_at_call 85;exact (HD.out wq (G0.out.trans hq)).mono fun e w2 ⟨he,hb⟩=>⟨he,hb▸hq⟩)))
    go_simp
    go_big_quiet_on))
 refine wpQuiet_nil ?_
 intro wq hq
 go_wp2_with fail
 go_ret
 exact⟨rfl,G0.out.trans hq⟩
theorem vO (g:Geo a d l) (life base i:Nat) (hb:base+i≤1099511627776) (w:World):Calls Tryz.prog 295 #[.agg #[.pointer (some ⟨L.dp,0,none⟩),.pointer (some ⟨L.p,0,none⟩),.int .i64 a,.int .i64 d,.int .i64 l,.int .u64 (life:Int),.int .i64 (base:Int)],.int .i64 (i:Int)] w fun e w'=>e= .returned (.int .i64 ((gZ l (base+i):Nat):Int))∧Gr w w':=by
 have G0:Hid (Gr w (w.alloc (.cells #[.pointer (some ⟨L.dp,0,none⟩),.pointer (some ⟨L.p,0,none⟩),.int .i64 a,.int .i64 d,.int .i64 l,.int .u64 (life:Int),.int .i64 (base:Int)] 283))):=Gr.alloc _ _
 have HL:=Xh (fun wr=>FI a d l (base+i) wr g hb)
 obtain⟨v,hv⟩:∃v,v=gZ l (base+i):=⟨_,rfl⟩
 have hv':4+(base+i) % l.toNat=v:=by rw[hv];rfl
 rw[←hv]
 rw[hv',show (((base+i:Nat):Int))=(base:Int)+(i:Int) by omega] at HL
 have wi:IntKind.i64.wrap ((base:Int)+(i:Int))=(base:Int)+(i:Int):=IntWalk.i64_in _ Xf
 clear g hv hv'
 go_in
 go_wp2_with fail
 refine (HL.out _).mono ?_
 rintro e w1 ⟨rfl,g1⟩
 have G1:=Xh (G0.out.trans g1)
 clear g1
 go_wp2_with fail
 go_ret
 exact⟨rfl,G1.out⟩
theorem qB (g:Geo a d l) (k:Nat) (w:World):Calls Tryz.prog 109 #[.agg #[.int .i64 a,.int .i64 d,.int .i64 l],.int .i64 (k:Int)] w fun e w'=>e= .returned (.bool (decide ((k:Int)<l)))∧Gr w w':=by
 have HR:=Xh (gRa a d l (w.alloc (.cells #[.int .i64 a,.int .i64 d,.int .i64 l] 23)))
 rw[g.r] at HR
 have HC:Hid (Blk (w.alloc (.cells #[.int .i64 a,.int .i64 d,.int .i64 l] 23)) w.heap.size 23 [.int .i64 a,.int .i64 d,.int .i64 l]):=Blk.new w _ _
 have G0:Hid (Gr w (w.alloc (.cells #[.int .i64 a,.int .i64 d,.int .i64 l] 23))):=Gr.alloc _ _
 have t:decide ((0:Int)≤(k:Int))=true:=decide_eq_true Xf
 clear g
 go_in
 go_wp2_with fail
 refine HR.out.mono ?_
 rintro e w1 ⟨rfl,g1⟩
 have k2:=(HC.out.mono g1).cell 2
 have G1:Hid (Gr w w1):=G0.out.trans g1
 clear g1
 go_wp2_with fail
 go_ret
 exact⟨rfl,G1.out⟩
theorem LY (h:MSt w0 L m w) (f:Fit m a d l) (life base:Nat) (hb:base≤1073741824):Calls Tryz.prog 180 #[.pointer (some ⟨L.dp,0,none⟩),.pointer (some ⟨L.p,0,none⟩),.agg #[.int .i64 a,.int .i64 d,.int .i64 l],.int .u64 (life:Int),.int .i64 (base:Int)] w fun e w'=>∃pl,e= .returned (.tuple #[.pointer (some ⟨pl,0,none⟩),.int .i64 0])∧Gr w w'∧w.heap.size≤pl∧Blk w' pl 294 (cB L a d l life base 0):=by
 have g0:Gr w ((w.alloc (.cells #[.int .i64 a,.int .i64 d,.int .i64 l] 23)).alloc (.cells #[.pointer (some ⟨L.dp,0,none⟩),.pointer (some ⟨L.p,0,none⟩),.int .i64 a,.int .i64 d,.int .i64 l,.int .u64 (life:Int),.int .i64 (base:Int),.int .i64 0] 294)):=(Gr.alloc _ _).trans (Gr.alloc _ _)
 have ab:Blk ((w.alloc (.cells #[.int .i64 a,.int .i64 d,.int .i64 l] 23)).alloc (.cells #[.pointer (some ⟨L.dp,0,none⟩),.pointer (some ⟨L.p,0,none⟩),.int .i64 a,.int .i64 d,.int .i64 l,.int .u64 (life:Int),.int .i64 (base:Int),.int .i64 0] 294)) (w.heap.size+1) 294 (cB L a d l life base 0):=heap_alloc2_new w _ _
 obtain⟨W,hW⟩:∃W,W=(w.alloc (.cells #[.int .i64 a,.int .i64 d,.int .i64 l] 23)).alloc (.cells #[.pointer (some ⟨L.dp,0,none⟩),.pointer (some ⟨L.p,0,none⟩),.int .i64 a,.int .i64 d,.int .i64 l,.int .u64 (life:Int),.int .i64 (base:Int),.int .i64 0] 294):=⟨_,rfl⟩
 rw[←hW] at g0 ab
 have HRI:=Xh (u6 (h.mono g0) f life base hb)
 have G0:=Xh g0;have AB:=Xh ab;have HW:=Xh hW
 clear hW g0 ab h f
 go_in
 go_upto_region 2 with fail
 rw[←HW.out]
 have k0:=AB.out.cell 0
 have k1:=AB.out.cell 1
 have k2:=AB.out.cell 2
 have k3:=AB.out.cell 3
 have k4:=AB.out.cell 4
 have k5:=AB.out.cell 5
 have k6:=AB.out.cell 6
 go_wp2_with fail
 refine HRI.out.mono ?_
 rintro e w1 ⟨rfl,g1⟩
 have G1:=Xh (G0.out.trans g1)
 have AB1:=Xh (AB.out.mono g1)
 clear k0 k1 k2 k3 k4 k5 k6 g1
 go_wp2_with fail
 go_ret2
 exact⟨_,rfl,G1.out,Nat.le_succ _,AB1.out⟩
theorem xB (pl life base seq:Nat) (w:World) (g:Geo a d l) (hs:(seq:Int)≤l) (hl:Blk w pl 294 (cB L a d l life base seq)):Calls Tryz.prog 276 #[.pointer (some ⟨pl,0,none⟩)] w fun e w'=>e= .returned (.int .i64 (l - (seq:Int)))∧Gr w w':=by
 obtain⟨h3,h4⟩:=g.l
 have HL:=Xh hl
 have ws:IntKind.i64.wrap (l - (seq:Int))=l - (seq:Int):=IntWalk.i64_in _ Xf
 clear hl g
 go_in
 go_upto_region 3 with fail
 refine wp_region_quiet (C:=fun w'=>Below (w).heap.size (w) w') Xe Xe (Below.refl _ _).drew ?_
 simp only
 repeat (first
  |go_big_quiet_skip
  |(go_big_quiet_want
    apply Exists.intro
    refine⟨fun wq hq=> ?_,?_⟩
    · (have k4:=(HL.out.mono hq).cell 4;have k7:=(HL.out.mono hq).cell 7
       go_simp
       first
        |done
        |exact rfl
        |(with_reducible exact⟨rfl,rfl⟩)
        |fail)
    go_simp
    go_big_quiet_on))
 refine wpQuiet_nil ?_
 intro wq hq
 go_wp2_with fail
 go_ret
 exact⟨rfl,hq⟩
end
end
section
open Go.RowKit
def fQ (kind life first sq gen n:Nat) (b:List UInt8):Sec:=⟨kind,life,sq,gen,(be first 4++be n 2)++b⟩
def Mc.bY (m:Mc) (l:Int) (life base first i kind gen n:Nat) (b:List UInt8):Mc×Int:=
 (m.enc (gZ l (base+(first+i))) (fQ kind life first (first+i) gen n b)).write (gZ l (base+(first+i))) (encS m.S (gZ l (base+(first+i))) (fQ kind life first (first+i) gen n b))
theorem Mc.Ok.bY {m:Mc} {n:Nat} (h:m.Ok n) (l:Int) (life base first i kind gen k:Nat) (b:List UInt8):(m.bY l life base first i kind gen k b).1.Ok (n+2):=(h.enc _ _).write _ _
theorem xq (m:Mc) (l:Int) (life base first i kind gen k:Nat) (b:List UInt8):(m.bY l life base first i kind gen k b).1.d.kept.length=m.d.kept.length:=gu _ _ _
section
variable {w0 w w':World} {L:Pl} {m:Mc} {n:Nat} {a d l:Int}
theorem oI {kb g:Nat} {cs:List Value} (k:KQ kb w w') (h:Blk w g 294 cs):Blk w' g 294 cs:=k.blk h Xi Xd
theorem Mr (h:MSt w0 L m w) (f:Fit m a d l) (ho:m.Ok n) (hn:n+2≤90000) (pl life base first i kind gen k:Nat) (hl:life<18446744073709551616) (hb:base≤1073741824) (hf:(first:Int)≤l) (hi:i≤100) (hk1:1≤kind) (hk5:kind≤5) (hg:gen<18446744073709551616) (hk:k≤1000000) (r:aj) (hr:r.n≤473) (hq:QB L.kb w r.a r.n r.c r.l) (hlog:Blk w pl 294 (cB L a d l life base first)):
 Calls Tryz.prog 277 #[.pointer (some ⟨pl,0,none⟩),.int .i64 (i:Int),.int .i64 (kind:Int),.int .u64 (gen:Int),.int .i64 (k:Int),.slice r.a r.n r.c] w (jX w0 w L (m.bY l life base first i kind gen k r.l)):=by
 obtain⟨h3,h4⟩:=f.g.l
 have hlen:r.l.length=r.n:=hq.b.len
 obtain⟨sq,hsq⟩:∃sq,sq=first+i:=⟨_,rfl⟩
 obtain⟨v,hv⟩:∃v,v=gZ l (base+(first+i)):=⟨_,rfl⟩
 obtain⟨x,hx⟩:∃x,x=fQ kind life first (first+i) gen k r.l:=⟨_,rfl⟩
 have hbl:x.body.length=6+r.n:=by rw[hx];simp only[fQ,List.length_append,aQ,hlen]
 have hxr:x.right v=true:=by
  have h5:=(wH f.g (base+(first+i))).2
  unfold Sec.right
  simp only[Bool.and_eq_true,decide_eq_true_eq]
  refine⟨⟨⟨⟨?_,?_⟩,Xf⟩,?_⟩,Xf⟩
  · rw[hx];exact hk1
  · rw[hx];exact hk5
  · rw[hx];show first+i≤_;omega
 have hpl:v<m.d.kept.length:=by have :=(wH f.g (base+(first+i))).1;have :=f.s;omega
 have HP1:=Xh (fun wr=>wG first 4 wr Xf Xg Xg)
 have HP2:=Xh (fun wr=>wG k 2 wr Xf Xg Xg)
 have HPL:=Xh (fun wr=>vO (L:=L) (a:=a) (d:=d) f.g life base (first+i) Xf wr)
 rw[←hv,show (((first+i:Nat):Int))=(sq:Int) by rw[hsq]] at HPL
 have HEN:=Xh (fun wr (g:Gr w wr) A c (hs:Bs wr A (6+r.n) c x.body)=>(h.mono g).encode ho Xf v x A c hxr (by rw[hx];exact hl) (by rw[hx];exact hg) (by rw[hbl];exact hs))
 have hex:∀A c,eH x A c= .agg #[.int .i64 (kind:Int),.int .u64 (life:Int),.int .i64 (sq:Int),.int .u64 (gen:Int),.slice A (6+r.n) c]:=fun A c=>by unfold eH;rw[hbl,hx,hsq];rfl
 simp only[hex] at HEN
 have HXB:Hid (x.body=(be first 4++be k 2)++r.l):=by show _=_;rw[hx];rfl
 have wc1:IntKind.u64.wrap (first:Int)=(first:Int):=IntWalk.u64_in _ Xf
 have wc2:IntKind.u64.wrap (k:Int)=(k:Int):=IntWalk.u64_in _ Xf
 have wsq:IntKind.i64.wrap ((first:Int)+(i:Int))=(sq:Int):=by rw[IntWalk.i64_in _ Xf,hsq];omega
 obtain⟨R,hR⟩:∃R,R=m.bY l life base first i kind gen k r.l:=⟨_,rfl⟩
 rw[←hR]
 unfold Mc.bY at hR
 rw[←hv,←hx] at hR
 have HO1:=Xh (ho.enc v x)
 have HPK:Hid (v<(m.enc v x).d.kept.length):=hpl
 have HR:=Xh hR
 have HH:=Xh h;have HQ:=Xh hq;have HLOG:=Xh hlog;have HLN:=Xh hlen
 clear h f ho hq hlog hxr hpl hR hx hv hsq hex hbl hlen
 have k7:=HLOG.out.cell 7
 go_in
 go_wp2_with fail
 refine (HP1.out _).mono ?_
 rintro e w1 ⟨v1,rfl,o1⟩
 rw[aQ] at o1
 obtain⟨A1,c1,rfl,s1⟩:=o1.slice
 have O1:=Xh o1
 clear o1 s1 k7
 go_wp2_with fail
 refine (HP2.out _).mono ?_
 rintro e w2 ⟨v2,rfl,o2⟩
 rw[aQ] at o2
 obtain⟨A2,c2,rfl,s2⟩:=o2.slice
 have O2:Hid (Own w w2 5 1 (.slice A1 4 c1) 4 ((be first 4).map u8c)):=O1.out.mono o2.below
 have S2:=Xh s2
 clear o2 s2
 go_wp2_with (at_builtin;refine qx rfl (.tmp 22) (.tmp 25) 43 rfl bC rfl O2.out rfl S2.out (eT _) Xf ?_;intro v3 w3 o3 kp3;rw[←List.map_append] at o3;obtain⟨A3,c3,rfl,s3⟩:=o3.slice;have O3:=Xh o3;clear o3 kp3 s3)
 go_upto_region 2 with fail
 have LG3:=Xh (HLOG.out.mono O3.out.below)
 refine wp_region_quiet (C:=fun w'=>Below (w3).heap.size (w3) w') Xe Xe (Below.refl _ _).drew ?_
 simp only
 repeat (first
  |go_big_quiet_skip
  |(go_big_quiet_want
    apply Exists.intro
    refine⟨fun wq hq=> ?_,?_⟩
    · (have k0:=(LG3.out.mono hq).cell 0;have k1:=(LG3.out.mono hq).cell 1;have k2:=(LG3.out.mono hq).cell 2;have k3:=(LG3.out.mono hq).cell 3;have k4:=(LG3.out.mono hq).cell 4;have k5:=(LG3.out.mono hq).cell 5;have k6:=(LG3.out.mono hq).cell 6;have k7:=(LG3.out.mono hq).cell 7
       go_simp
       first
        |done
        |exact rfl
        |(with_reducible exact⟨rfl,rfl⟩)
        |(go_at_call 295;exact (HPL.out wq).mono fun e w2 ⟨he,hb⟩=>⟨he,bBo hq hb⟩))
    go_simp
    go_big_quiet_on))
 refine wpQuiet_nil ?_
 intro wq hq
 have O4:=Xh (O3.out.mono hq)
 have LG4:=Xh (LG3.out.mono hq)
 clear hq
 go_upto_region 3 with fail
 obtain⟨pp,oo,rfl⟩:∃pp oo,A3=some ⟨pp,oo,none⟩:=by
  obtain⟨_,_,hv3,s3⟩:=O4.out.slice
  injection hv3 with e1 _ e2
  subst e1 e2
  obtain⟨b,o,e,_⟩:=Sl.addr s3 Xg
  exact⟨b,o,e⟩
 have HPP:Hid (w.heap.size≤pp):=O4.out.ge rfl
 have TG:Hid (∀wa wb,Gr w wa→Tch (fun b=>b=pp) wa wb→Gr w wb):=fun wa wb ga t=>Tch.below ga t ga.size (fun b e=>e▸HPP.out)
 have LQ:Hid (∀wb,Tch (fun b=>b=pp) wq.drew wb→Blk wb pl 294 (cB L a d l life base first)):=fun wb t=>(TG.out _ _ (Gr.trans (show Gr w wq from O4.out.below) (Gr.drew _)) t).blk HLOG.out
 refine wrV (Tch (fun b=>b=pp)) (KQ L.kb) 143 ?hlb (fun w w' h=>h.1) (fun w w' b cs h hb=>h.sec hb) Xe [0,1,3,7,15,0,0,0,128,384,896,1920,0,4096,12288,28672,0,126976,0,0,0,1572864,4194240,8388607,16777215,33554431,33554431,67108863,268435455] [.p 0,.p 1,.p 2,.p 3,.p 5,.p 6,.p 7,.p 8,.p 9,.p 10,.p 12,.p 13,.p 14,.p 16,.p 18,.p 19,.p 20,.q 4,.q 11,.q 15,.p 17,.c 21,.p 22,.t 23,.p 24,.p 25,.p 26,.p 27,.p 28] Xe (trivial) ?_
 case hlb=>exact fun v w' b cs T hb k=>k.tch T (by have :=Blk.lt k;have h1:pp<wq.heap.size:=(O4.out.aA (b:=pp) rfl).choose_spec.lt;omega)
 refine gP ?_
 refine gP ?_
 refine gP ?_
 refine gP ?_
 refine gP ?_
 refine gP ?_
 refine gP ?_
 refine gP ?_
 refine gP ?_
 refine gP ?_
 refine gP ?_
 refine gP ?_
 refine gP ?_
 refine gP ?_
 refine gP ?_
 refine gP ?_
 refine gP ?_
 refine gQ (fun _ hq=>(LQ.out _ hq).cell 1) ?_
 refine gQ (fun _ hq=>(LQ.out _ hq).cell 5) ?_
 refine gQ (fun _ hq=>(LQ.out _ hq).cell 7) ?_
 refine gP ?_
 refine jh rfl rfl ?_
 intro w5 g5 K hK
 have O5:Hid (Own w w5 5 1 (.slice (some ⟨pp,oo,none⟩) 6 c3) 6 ((be first 4++be k 2).map u8c)):=O4.out.mono ((Gr.drew _).trans g5)
 have S5:Hid (Bs w5 r.a r.n r.c r.l):=HQ.out.b.mono O5.out.below
 refine Kc (.tmp 58) (.tmp 59) 43 rfl bC rfl O5.out rfl S5.out (eT _) (show (6+r.n)*1≤140737488355328 by omega) ?_
 intro v6 w6 o6 kp6
 rw[←List.map_append] at o6
 have T6:Tch (fun b=>b=pp) w5 w6:=(kp6.tch (gJ O5.out.below o6.below kp6.2.1)).mono (fun b _ q=>by
  have :some pp=some b:=q
  injection this with e
  exact e.symm)
 refine hK _ _ T6 ?_
 have O6:=Xh o6
 obtain⟨A6,c6,rfl,s6⟩:=o6.slice
 have S6:Hid (Bs w6 A6 (6+r.n) c6 ((be first 4++be k 2)++r.l)):=s6
 clear hK T6 kp6 o6 s6
 go_simp
 refine gP ?_
 refine gT ?_
 intro w7 g7 K hK
 refine (HEN.out w7 (Gr.trans (show Gr w w6 from O6.out.below) g7) A6 c6 (by rw[HXB.out];exact S6.out.mono g7)).mono ?_
 rintro e wn ⟨A8,c8,rfl,q8,h8,k8⟩
 refine hK _ _ k8 ?_;have K8:=Xh ((KQ.gr (kb:=L.kb) (Gr.trans (show Gr w w6 from O6.out.below) g7)).trans k8);have H8:=Xh h8;have Q8:=Xh q8;clear g7 q8 h8 k8 hK
 go_simp
 refine gP ?_
 refine gP ?_
 refine gP ?_
 refine gP ?_
 refine gP ?_
 refine wNi fun w9 g9=> ?_
 have K9:=Xh (K8.out.trans (KQ.gr g9));have H9:=Xh (H8.out.mono g9);have Q9:=Xh (Q8.out.mono g9)
 clear g9
 have k0:=(oI K9.out HLOG.out).cell 0
 have HWR:=Xh (H9.out.write HO1.out Xf v HPK.out A8 c8 _ Q9.out)
 rw[←HR.out] at HWR
 go_wp2_with fail
 refine HWR.out.mono ?_
 rintro e w10 ⟨rfl,h10,k10⟩
 have H10:=Xh h10;have K10:=Xh (K9.out.trans k10)
 clear h10 k10
 go_wp2_with fail
 go_ret
 exact⟨rfl,H10.out,K10.out⟩
end
end
section
open Go.RowKit
structure Mc.Live (m:Mc):Prop where
 d:m.d.down=false
 f:m.d.fuse= -1
theorem Ck {d:Dk} (hd:d.down=false) (hf:d.fuse= -1):d.bB.2=0∧d.bB.1.down=false∧d.bB.1.fuse= -1:=by
 unfold Dk.bB
 rw[if_neg Xf,if_neg Xf]
 exact⟨rfl,hd,hf⟩
theorem Mc.Live.enc {m:Mc} (h:m.Live) (v:Nat) (x:Sec):(m.enc v x).Live:=⟨h.d,h.f⟩
theorem Mc.Live.write {m:Mc} (h:m.Live) (v:Nat) (b:List UInt8):(m.write v b).2=0∧(m.write v b).1.Live:=by
 obtain⟨h1,h2,h3⟩:=Ck (d:=m.d.pushed v b) h.d h.f
 unfold Mc.write
 rw[if_neg (by rw[h.d];decide)]
 exact⟨h1,h2,h3⟩
theorem Mc.Live.flush {m:Mc} (h:m.Live):m.flush.2=0∧m.flush.1.Live:=by
 obtain⟨h1,h2,h3⟩:=Ck h.d h.f
 unfold Mc.flush
 rw[if_neg (by rw[h.d];decide)]
 unfold Dk.flush
 rw[if_pos h1]
 obtain⟨k1,k2,k3,k4,k5,k6⟩:=lC m.d.pend m.d.bB.1
 exact⟨rfl,⟨by show (m.d.bB.1.keeps m.d.pend).down=false;rw[k6];exact h2,by show (m.d.bB.1.keeps m.d.pend).fuse= -1;rw[k4];exact h3⟩⟩
theorem Mc.Live.bY {m:Mc} (h:m.Live) (l:Int) (life base first i kind gen k:Nat) (b:List UInt8):(m.bY l life base first i kind gen k b).2=0∧(m.bY l life base first i kind gen k b).1.Live:=(h.enc _ _).write _ _
structure aU where
 k:Nat
 r:aj
def aU.cells (x:aU):List Value:=[.int .i64 (x.k:Int),.slice x.r.a x.r.n x.r.c]
theorem aU.eX (x:aU):x.cells.length=2:=rfl
theorem aU.row {w:World} {A:Option Addr} {n c:Nat} {R:List aU} (h:Rs aU.cells 2 w A n c R) {k:Nat} (hk:k<n):
 ∃b o x,A=some ⟨b,o,none⟩∧R[k]?=some x∧w.cell? ⟨b,o+k*2,none⟩=some (.int .i64 (x.k:Int))∧w.cell? ⟨b,o+k*2+1,none⟩=some (.slice x.r.a x.r.n x.r.c):=by
 obtain⟨b,o,x,e,hx,hc⟩:=Rs.row h aU.eX hk
 exact⟨b,o,x,e,hx,hc 0 _ rfl,hc 1 _ rfl⟩
structure PgW (kb:Nat) (w:World) (A:Option Addr) (n c:Nat) (R:List aU):Prop where
 s:Rs aU.cells 2 w A n c R
 u:Safe kb w A n
 r:∀x∈R,QB kb w x.r.a x.r.n x.r.c x.r.l
theorem PgW.kq {kb:Nat} {w w':World} {A:Option Addr} {n c:Nat} {R:List aU} (h:PgW kb w A n c R) (k:KQ kb w w'):PgW kb w' A n c R:=⟨⟨h.s.1,h.s.2.kq h.u k⟩,h.u.kq k,fun r hr=>(h.r r hr).kq k⟩
def Mc.iy (m:Mc) (l:Int) (life base first gen:Nat):Nat→List (Nat×List UInt8)→Mc
 |_,[]=>m
 |i,p::P=>(m.bY l life base first i 4 gen p.1 p.2).1.iy l life base first gen (i+1) P
def Mc.eU (m:Mc) (l:Int) (life base first gen:Nat) (P:List (Nat×List UInt8)):Mc:=
 ((m.iy l life base first gen 0 P).flush.1.bY l life base first P.length 5 gen P.length []).1.flush.1
theorem uO {l:Int} {life base first gen:Nat}:∀(P:List (Nat×List UInt8)) (m:Mc) (i:Nat) (p:Nat×List UInt8),m.iy l life base first gen i (P++ [p])=((m.iy l life base first gen i P).bY l life base first (i+P.length) 4 gen p.1 p.2).1
 | [],m,i,p=>rfl
 |x::P,m,i,p=>by
  show (m.bY l life base first i 4 gen x.1 x.2).1.iy l life base first gen (i+1) (P++ [p])=_
  rw[uO P,show i+1+P.length=i+(P.length+1) by omega]
  rfl
theorem qG {l:Int} {life base first gen:Nat}:∀(P:List (Nat×List UInt8)) (m:Mc) (i n:Nat),m.Live→m.Ok n→(m.iy l life base first gen i P).Live∧(m.iy l life base first gen i P).Ok (n+2*P.length)∧(m.iy l life base first gen i P).d.kept.length=m.d.kept.length
 | [],m,i,n,hl,ho=>⟨hl,ho,rfl⟩
 |x::P,m,i,n,hl,ho=>by
  obtain⟨h1,h2,h3⟩:=qG P (m.bY l life base first i 4 gen x.1 x.2).1 (i+1) (n+2) (hl.bY _ _ _ _ _ _ _ _ _).2 (ho.bY _ _ _ _ _ _ _ _ _)
  exact⟨h1,h2.le (by rw[List.length_cons];omega),h3.trans (xq _ _ _ _ _ _ _ _ _ _)⟩
section
variable {w0 w w':World} {L:Pl} {m:Mc} {n:Nat} {a d l:Int}
theorem Pd (A:Option Addr) (n c:Nat) (R:List aU) (C:Value) (w:World) (h:Rs aU.cells 2 w A n c R) (hq:∀x∈R,∀w',Gr w w'→Calls Tryz.prog 274 #[.agg #[.int .i64 (x.k:Int),.slice x.r.a x.r.n x.r.c],C] w' fun e w''=>e= .returned (.bool false)∧Gr w' w''):
 Calls Tryz.prog 316 #[.slice A n c,.func (.func 274) #[] #[C]] w fun e w'=>e= .returned (.int .i64 (-1))∧Gr w w':=by
 have hmax:=h.max
 have hcap:=h.cap
 have HH:=Xh h;have HQ:=Xh hq;clear h hq
 go_in
 go_wp2
 go_loopw [8] (fun i wr=>∃k:Nat,k≤n∧i= .int .i64 k∧Gr w wr) (fun i _=>n - (Go.RowKit.intOf i).toNat)
 case atStart=>exact⟨0,Nat.zero_le _,rfl,Gr.refl _⟩
 case round=>
  obtain⟨k,hk,rfl,hbel⟩:=hrel
  have HB:=Xh hbel
  by_cases hlt:k<n
  · obtain⟨b,o,x,rfl,hx,c0,c1⟩:=aU.row (HH.out.mono hbel) hlt
    have HC:=Xh (HQ.out x (List.mem_of_getElem? hx) wr hbel)
    clear hbel hx
    go_wp2_with (go_at_call 274;refine HC.out.mono ?_;rintro e w1 ⟨rfl,b1⟩)
    go_roundw
    case rel=>exact⟨k+1,Xf,by go_num,HB.out.trans b1⟩
    case measure=>simp[Go.RowKit.intOf];omega
  · obtain rfl:n=k:=by omega
    clear hbel
    go_wp2
    go_ret
    exact⟨rfl,HB.out⟩
theorem uK (A:Option Addr) (n c:Nat) (R:List aU) (C:Value) (w:World) (h:Rs aU.cells 2 w A n c R) (hq:∀x∈R,∀w',Gr w w'→Calls Tryz.prog 274 #[.agg #[.int .i64 (x.k:Int),.slice x.r.a x.r.n x.r.c],C] w' fun e w''=>e= .returned (.bool false)∧Gr w' w''):
 Calls Tryz.prog 275 #[.slice A n c,.func (.func 274) #[] #[C]] w fun e w'=>e= .returned (.bool false)∧Gr w w':=by
 have HI:=Xh (Pd A n c R C w h hq)
 clear h hq
 go_in
 go_wp2_with fail
 refine HI.out.mono ?_
 rintro e w1 ⟨rfl,g1⟩
 have G1:=Xh g1;clear g1
 go_wp2_with fail
 go_ret
 exact⟨rfl,G1.out⟩
theorem Co (pv pl life base first:Nat) (x:aU) (w:World) (hv:Blk w pv 148 [.pointer (some ⟨pl,0,none⟩)]) (hl:Blk w pl 294 (cB L a d l life base first)) (hk:(x.k:Int)<au a d l) (hn:x.r.n≤473):
 Calls Tryz.prog 274 #[.agg #[.int .i64 (x.k:Int),.slice x.r.a x.r.n x.r.c],.pointer (some ⟨pv,0,none⟩)] w fun e w'=>e= .returned (.bool false)∧Gr w w':=by
 obtain⟨W,hW⟩:∃W,W=w.alloc (.cells #[.int .i64 (x.k:Int),.slice x.r.a x.r.n x.r.c] 234):=⟨_,rfl⟩
 have G0:Hid (Gr w W):=by rw[hW];exact Gr.alloc _ _
 have B0:Hid (Blk W w.heap.size 234 [.int .i64 (x.k:Int),.slice x.r.a x.r.n x.r.c]):=by rw[hW];exact Blk.new w _ _
 have HW:=Xh hW;clear hW
 have HV:=Xh (hv.mono G0.out);have HL:=Xh (hl.mono G0.out)
 have HPG:=Xh (fun wr=>jg a d l wr)
 have t1:decide ((x.k:Int)<0)=false:=decide_eq_false Xf
 have t2:decide (au a d l≤(x.k:Int))=false:=decide_eq_false Xf
 have t3:decide ((473:Int)<(x.r.n:Int))=false:=decide_eq_false Xf
 clear hv hl
 generalize au a d l=pg at *
 go_in
 go_upto_region 1 with fail
 rw[←HW.out]
 refine wp_region_quiet (C:=fun w'=>Below (W).heap.size (W) w') Xe Xe (Below.refl _ _).drew ?_
 simp only
 repeat (first
  |go_big_quiet_skip
  |(go_big_quiet_want
    apply Exists.intro
    refine⟨fun wq hq=> ?_,?_⟩
    · (have k0:=(B0.out.mono hq).cell 0;have k1:=(B0.out.mono hq).cell 1;have v0:=(HV.out.mono hq).cell 0;have y2:=(HL.out.mono hq).cell 2;have y3:=(HL.out.mono hq).cell 3;have y4:=(HL.out.mono hq).cell 4
       go_simp
       first
        |done
        |exact rfl
        |(with_reducible exact⟨rfl,rfl⟩)
        |(go_at_call 171;exact (HPG.out wq).mono fun e w2 ⟨he,hb⟩=>⟨he,bBo hq hb⟩))
    go_simp
    go_big_quiet_on))
 refine wpQuiet_nil ?_
 intro wq hq
 go_wp2_with fail
 go_ret
 exact⟨rfl,G0.out.trans hq⟩
end
end
end Go.Proofs.YtipdlnejmcmbbaaGreatDoor
