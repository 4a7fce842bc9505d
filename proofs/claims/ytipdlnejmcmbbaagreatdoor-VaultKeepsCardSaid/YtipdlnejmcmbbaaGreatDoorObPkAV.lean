/- Own texts, one behind the other. No condition. -/
import Derived.Test.YtipdlnejmcmbbaaGreatDoorObPkAU
import Derived.OrdersIn
set_option linter.unusedVariables false
set_option maxRecDepth 100000
set_option maxHeartbeats 8000000
set_option linter.unusedSimpArgs false
namespace Go.Proofs.YtipdlnejmcmbbaaGreatDoor
section
open Go.RowKit
def dP (a d l:Int) (life page:Nat):Nat:=(4+l+((life % 2:Nat):Int)*au a d l+(page:Int)).toNat
theorem yC {a d l:Int} (g:Geo a d l) (life page:Nat):((dP a d l life page:Nat):Int)=4+l+((life % 2:Nat):Int)*au a d l+(page:Int):=by
 obtain⟨h3,h4⟩:=g.l
 have hp:=(pgE a d l).1
 have :0≤((life % 2:Nat):Int)*au a d l:=Int.mul_nonneg (Int.natCast_nonneg _) hp
 unfold dP
 omega
theorem yO {a d l:Int} (g:Geo a d l) (life page:Nat) (hp:(page:Int)<au a d l):((dP a d l life page:Nat):Int)<dS a d l∧dP a d l life page≤1023:=by
 obtain⟨h3,h4⟩:=g.l
 have h5:=pgE a d l
 have hlt:=Nat.mod_lt life (show 0<2 by decide)
 have e:=yC g life page
 have hm:((life % 2:Nat):Int)*au a d l≤au a d l:=by
  rcases (show life % 2=0∨life % 2=1 by omega) with q|q<;>rw[q]
  · simp;exact h5.1
  · simp
 unfold dS
 omega
def iW (life n:Nat) (b:List UInt8):Sec:=⟨3,life,n,0,b⟩
def Mc.aO (m:Mc) (a d l:Int) (life n:Nat) (b:List UInt8):Mc×Int:=
 (m.enc (dP a d l life n) (iW life n b)).write (dP a d l life n) (encS m.S (dP a d l life n) (iW life n b))
def Mc.aN (m:Mc) (a d l:Int) (life:Nat):Nat→List (List UInt8)→Mc×Int
 |_,[]=>(m,0)
 |n,b::bs=>if (m.aO a d l life n b).2=0 then (m.aO a d l life n b).1.aN a d l life (n+1) bs else m.aO a d l life n b
def Mc.bJ (m:Mc) (a d l:Int) (life:Nat) (P:List (List UInt8)):Mc×Int:=dU (m.aN a d l life 0 P) Mc.flush
theorem Mc.Ok.aO {m:Mc} {n:Nat} (h:m.Ok n) (a d l:Int) (life k:Nat) (b:List UInt8):(m.aO a d l life k b).1.Ok (n+2):=(h.enc _ _).write _ _
theorem Mc.Ok.aN {a d l:Int} {life:Nat}:∀{P:List (List UInt8)} {m:Mc} {n:Nat} (h:m.Ok n) (k:Nat),(m.aN a d l life k P).1.Ok (n+2*P.length)
 | [],m,n,h,k=>h.le (by simp)
 |b::bs,m,n,h,k=>by
  unfold Mc.aN
  split
  · exact (Mc.Ok.aN (h.aO a d l life k b) (k+1)).le (by rw[List.length_cons];omega)
  · exact (h.aO a d l life k b).le (by rw[List.length_cons];omega)
theorem Mc.Ok.bJ {m:Mc} {n:Nat} (h:m.Ok n) (a d l:Int) (life:Nat) (P:List (List UInt8)):(m.bJ a d l life P).1.Ok (n+2*P.length+1):=oh (h.aN 0) (fun m h=>h.flush) Xf
theorem oJ (m:Mc) (a d l:Int) (life k:Nat) (b:List UInt8):(m.aO a d l life k b).1.d.kept.length=m.d.kept.length:=gu _ _ _
theorem tH {a d l:Int} {life:Nat}:∀(P:List (List UInt8)) (m:Mc) (k:Nat) (b:List UInt8),m.aN a d l life k (P++ [b])=if (m.aN a d l life k P).2=0 then (m.aN a d l life k P).1.aO a d l life (k+P.length) b else m.aN a d l life k P
 | [],m,k,b=>by
  show (if (m.aO a d l life k b).2=0 then ((m.aO a d l life k b).1,(0:Int)) else m.aO a d l life k b)=if (0:Int)=0 then m.aO a d l life (k+0) b else (m,0)
  rw[if_pos rfl]
  by_cases h:(m.aO a d l life k b).2=0
  · rw[if_pos h]
    show _=m.aO a d l life k b
    rw[←h]
  · rw[if_neg h];rfl
 |x::P,m,k,b=>by
  show (if (m.aO a d l life k x).2=0 then (m.aO a d l life k x).1.aN a d l life (k+1) (P++ [b]) else m.aO a d l life k x)=if (m.aN a d l life k (x::P)).2=0 then (m.aN a d l life k (x::P)).1.aO a d l life (k+(P.length+1)) b else m.aN a d l life k (x::P)
  have e:m.aN a d l life k (x::P)=if (m.aO a d l life k x).2=0 then (m.aO a d l life k x).1.aN a d l life (k+1) P else m.aO a d l life k x:=rfl
  by_cases h:(m.aO a d l life k x).2=0
  · rw[if_pos h] at e ⊢
    rw[e,tH P _ (k+1) b,show k+1+P.length=k+(P.length+1) by omega]
  · rw[if_neg h] at e ⊢
    rw[e,if_neg h]
section
variable {w0 w w':World} {L:Pl} {m:Mc} {n:Nat} {a d l:Int}
theorem tL (h:MSt w0 L m w) (f:Fit m a d l) (life:Nat):Calls Tryz.prog 231 #[.agg #[.pointer (some ⟨L.dp,0,none⟩),.pointer (some ⟨L.p,0,none⟩),.int .i64 a,.int .i64 d,.int .i64 l,.int .u64 (life:Int)]] w fun e w'=>e= .returned (.int .i64 0)∧Gr w w':=by
 obtain⟨W,hW⟩:∃W,W=w.alloc (.cells #[.pointer (some ⟨L.dp,0,none⟩),.pointer (some ⟨L.p,0,none⟩),.int .i64 a,.int .i64 d,.int .i64 l,.int .u64 (life:Int)] 275):=⟨_,rfl⟩
 have G0:Hid (Gr w W):=by rw[hW];exact Gr.alloc _ _
 have B0:Hid (Blk W w.heap.size 275 [.pointer (some ⟨L.dp,0,none⟩),.pointer (some ⟨L.p,0,none⟩),.int .i64 a,.int .i64 d,.int .i64 l,.int .u64 (life:Int)]):=by rw[hW];exact Blk.new w _ _
 have HW:=Xh hW;clear hW
 have HR:=Xh (fun wr=>gRa a d l wr)
 rw[f.g.r] at HR
 have HS:=Xh (fun wr=>kX a d l wr f.g)
 have HD:=Xh (fun wr (g:Gr w wr)=>(h.mono g).size)
 rw[f.s] at HD
 generalize dS a d l=q at *
 have t1:(q !=q)=false:=by simp
 clear h f
 go_in
 go_upto_region 3 with fail
 rw[←HW.out]
 refine wp_region_quiet (C:=fun w'=>Below (W).heap.size (W) w') Xe Xe (Below.refl _ _).drew ?_
 simp only
 repeat (first
  |go_big_quiet_skip
  |(go_big_quiet_want
    apply Exists.intro
    refine⟨fun wq hq=> ?_,?_⟩
    · (have k0:=(B0.out.mono hq).cell 0;have k2:=(B0.out.mono hq).cell 2;have k3:=(B0.out.mono hq).cell 3;have k4:=(B0.out.mono hq).cell 4
       go_simp
       first
        |done
        |exact rfl
        |(with_reducible exact⟨rfl,rfl⟩)
        |(first|(go_at_call 84;exact (HR.out wq).mono fun e w2 ⟨he,hb⟩=>⟨he,bBo hq hb⟩)|(go_at_call 86;exact (HS.out wq).mono fun e w2 ⟨he,hb⟩=>⟨he,bBo hq hb⟩)|(go_at_call 85;exact (HD.out wq (G0.out.trans hq)).mono fun e w2 ⟨he,hb⟩=>⟨he,hb▸hq⟩)))
    go_simp
    go_big_quiet_on))
 refine wpQuiet_nil ?_
 intro wq hq
 go_wp2_with fail
 go_ret
 exact⟨rfl,G0.out.trans hq⟩
theorem DN (g:Geo a d l) (life k:Nat) (b:List UInt8) (hk:(k:Int)<au a d l) (hb:b.length≤479):(iW life k b).right (dP a d l life k)=true:=by
 have h1:=(yO g life k hk).2
 have h2:=(pgE a d l).2
 unfold Sec.right iW
 simp only[Bool.and_eq_true,decide_eq_true_eq]
 refine⟨⟨⟨⟨Xg,Xg⟩,h1⟩,Xf⟩,hb⟩
theorem Jz (h:MSt w0 L m w) (f:Fit m a d l) (ho:m.Ok n) (hn:n+2≤90000) (life:Nat) (hl:life<18446744073709551616) (k:Nat) (hk:(k:Int)<au a d l) (r:aj) (hr:r.n≤479) (hb:QB L.kb w r.a r.n r.c r.l):
 Calls Tryz.prog 251 #[.agg #[.pointer (some ⟨L.dp,0,none⟩),.pointer (some ⟨L.p,0,none⟩),.int .i64 a,.int .i64 d,.int .i64 l,.int .u64 (life:Int)],.int .i64 (k:Int),.slice r.a r.n r.c] w (jX w0 w L (m.aO a d l life k r.l)):=by
 have hlen:r.l.length=r.n:=hb.b.len
 have HAR:=Xh (fun wr=>BU a d l life k wr f.g hl hk)
 rw[←yC f.g life k] at HAR
 have hsr:=DN f.g life k r.l hk Xf
 have hpl:dP a d l life k<m.d.kept.length:=by have :=(yO f.g life k hk).1;have :=f.s;omega
 obtain⟨W,hW⟩:∃W,W=w.alloc (.cells #[.pointer (some ⟨L.dp,0,none⟩),.pointer (some ⟨L.p,0,none⟩),.int .i64 a,.int .i64 d,.int .i64 l,.int .u64 (life:Int)] 275):=⟨_,rfl⟩
 have G0:Hid (Gr w W):=by rw[hW];exact Gr.alloc _ _
 have B0:Hid (Blk W w.heap.size 275 [.pointer (some ⟨L.dp,0,none⟩),.pointer (some ⟨L.p,0,none⟩),.int .i64 a,.int .i64 d,.int .i64 l,.int .u64 (life:Int)]):=by rw[hW];exact Blk.new w _ _
 have HW:=Xh hW;clear hW
 have HEN:=Xh (fun wr (g:Gr w wr)=>(h.mono g).encode ho Xf (dP a d l life k) (iW life k r.l) r.a r.c hsr hl (by show 0<_;decide) (by show Bs wr r.a r.l.length r.c r.l;rw[hlen];exact hb.b.mono g))
 have hex:eH (iW life k r.l) r.a r.c= .agg #[.int .i64 3,.int .u64 (life:Int),.int .i64 (k:Int),.int .u64 0,.slice r.a r.n r.c]:=by unfold eH iW;simp only;rw[hlen];rfl
 rw[hex] at HEN
 obtain⟨R,hR⟩:∃R,R=m.aO a d l life k r.l:=⟨_,rfl⟩
 rw[←hR]
 unfold Mc.aO at hR
 have HO1:=Xh (ho.enc (dP a d l life k) (iW life k r.l))
 obtain⟨v,hv⟩:∃v,v=dP a d l life k:=⟨_,rfl⟩
 rw[←hv] at hR HAR HEN hpl HO1
 have HPL:Hid (v<(m.enc v (iW life k r.l)).d.kept.length):=hpl
 have HR:=Xh hR
 clear h f ho hb hlen hsr hpl hex hR hv
 go_in
 go_upto_region 1 with fail
 rw[←HW.out]
 have k0:=B0.out.cell 0
 have k1:=B0.out.cell 1
 have k2:=B0.out.cell 2
 have k3:=B0.out.cell 3
 have k4:=B0.out.cell 4
 have k5:=B0.out.cell 5
 go_wp2_with fail
 refine (HAR.out _).mono ?_
 rintro e w1 ⟨rfl,g1⟩
 have G1:=Xh (G0.out.trans g1)
 have B1:=Xh (B0.out.mono g1)
 clear k0 k1 k2 k3 k4 k5 g1
 have k0:=B1.out.cell 0
 have k1:=B1.out.cell 1
 have k5:=B1.out.cell 5
 go_wp2_with fail
 refine (HEN.out w1 G1.out).mono ?_
 rintro e w2 ⟨A2,c2,rfl,q2,h2,k2⟩
 have B2:=B1.out
 have hB2:Blk w2 w.heap.size 275 [.pointer (some ⟨L.dp,0,none⟩),.pointer (some ⟨L.p,0,none⟩),.int .i64 a,.int .i64 d,.int .i64 l,.int .u64 (life:Int)]:=k2.blk B2 Xi Xd
 have HW2:=Xh (h2.write HO1.out Xf v HPL.out A2 c2 _ q2)
 rw[←HR.out] at HW2
 have K2:=Xh ((KQ.gr (kb:=L.kb) G1.out).trans k2)
 clear k0 k1 k5 q2 h2 k2 B2
 have k0:=hB2.cell 0
 clear hB2
 go_wp2_with fail
 refine HW2.out.mono ?_
 rintro e w3 ⟨rfl,h3,k3⟩
 have H3:=Xh h3;have K3:=Xh (K2.out.trans k3)
 clear h3 k3
 go_wp2_with fail
 go_ret
 exact⟨rfl,H3.out,K3.out⟩
end
end
section
open Go.RowKit
theorem tK {a d l:Int} {life:Nat}:∀(P Q:List (List UInt8)) (m:Mc) (k:Nat),(m.aN a d l life k P).2≠0→m.aN a d l life k (P++Q)=m.aN a d l life k P
 | [],Q,m,k,h=>absurd rfl h
 |x::P,Q,m,k,h=>by
  have e:∀P',m.aN a d l life k (x::P')=if (m.aO a d l life k x).2=0 then (m.aO a d l life k x).1.aN a d l life (k+1) P' else m.aO a d l life k x:=fun _=>rfl
  rw[List.cons_append,e,e]
  rw[e] at h
  by_cases h0:(m.aO a d l life k x).2=0
  · rw[if_pos h0] at h ⊢
    rw[if_pos h0]
    exact tK P Q _ _ h
  · rw[if_neg h0,if_neg h0]
section
variable {w0 w w':World} {L:Pl} {m:Mc} {n:Nat} {a d l:Int}
theorem OT {kb g:Nat} {cs:List Value} (k:KQ kb w w') (h:Blk w g 275 cs):Blk w' g 275 cs:=k.blk h Xi Xd
theorem El (h:MSt w0 L m w) (f:Fit m a d l) (ho:m.Ok n) (life:Nat) (hl:life<18446744073709551616) (A:Option Addr) (c:Nat) (R:List aj) (hP:Pgs L.kb w A R.length c R) (hlen:(R.length:Int)=au a d l) (hsm:∀r∈R,r.n≤479) (hn:n+2*R.length+1≤90000):
 Calls Tryz.prog 176 #[.pointer (some ⟨L.dp,0,none⟩),.pointer (some ⟨L.p,0,none⟩),.agg #[.int .i64 a,.int .i64 d,.int .i64 l],.int .u64 (life:Int),.slice A R.length c] w (jX w0 w L (m.bJ a d l life (R.map aj.l))):=by
 have g0:Gr w ((w.alloc (.cells #[.int .i64 a,.int .i64 d,.int .i64 l] 23)).alloc (.cells #[.pointer (some ⟨L.dp,0,none⟩),.pointer (some ⟨L.p,0,none⟩),.int .i64 a,.int .i64 d,.int .i64 l,.int .u64 (life:Int)] 275)):=(Gr.alloc _ _).trans (Gr.alloc _ _)
 have gb:Blk ((w.alloc (.cells #[.int .i64 a,.int .i64 d,.int .i64 l] 23)).alloc (.cells #[.pointer (some ⟨L.dp,0,none⟩),.pointer (some ⟨L.p,0,none⟩),.int .i64 a,.int .i64 d,.int .i64 l,.int .u64 (life:Int)] 275)) w.heap.size 23 [.int .i64 a,.int .i64 d,.int .i64 l]:=(Blk.new w _ _).alloc _
 have ab:Blk ((w.alloc (.cells #[.int .i64 a,.int .i64 d,.int .i64 l] 23)).alloc (.cells #[.pointer (some ⟨L.dp,0,none⟩),.pointer (some ⟨L.p,0,none⟩),.int .i64 a,.int .i64 d,.int .i64 l,.int .u64 (life:Int)] 275)) (w.heap.size+1) 275 [.pointer (some ⟨L.dp,0,none⟩),.pointer (some ⟨L.p,0,none⟩),.int .i64 a,.int .i64 d,.int .i64 l,.int .u64 (life:Int)]:=heap_alloc2_new w _ _
 obtain⟨W,hW⟩:∃W,W=(w.alloc (.cells #[.int .i64 a,.int .i64 d,.int .i64 l] 23)).alloc (.cells #[.pointer (some ⟨L.dp,0,none⟩),.pointer (some ⟨L.p,0,none⟩),.int .i64 a,.int .i64 d,.int .i64 l,.int .u64 (life:Int)] 275):=⟨_,rfl⟩
 rw[←hW] at g0 gb ab
 have G0:=Xh g0;have GB:=Xh gb;have AB:=Xh ab;have HW:=Xh hW
 have HRI:=Xh (tL (h.mono g0) f life)
 have HPG:=Xh (fun wr=>jg a d l wr)
 rw[←hlen] at HPG
 have HCT:=Xh (fun wr (g:Gr w wr)=>EO A R.length c R (fun r=>decide (479<r.n)) wr (hP.mono g).s (fun r _ w1 _=>Rl r w1))
 have hany:R.any (fun r=>decide (479<r.n))=false:=by
  rw[List.any_eq_false]
  intro r hr
  have :=hsm r hr
  simp;omega
 rw[hany] at HCT
 have hcap:=Sl.cap hP.s;have hmax:=Sl.max hP.s
 have t0:((R.length:Int) !=(R.length:Int))=false:=by simp
 have HPT:=Xh (fun k (mk:Mc) (wk:World) (h1:MSt w0 L mk wk) (h2:mk.d.kept.length=m.d.kept.length) (h3:mk.Ok (n+2*k)) (h4:n+2*k+2≤90000) (hk:k<R.length) (r:aj) (hr:R[k]?=some r) (q:QB L.kb wk r.a r.n r.c r.l)=>Jz h1 ⟨f.g,by rw[h2];exact f.s⟩ h3 h4 life hl k Xf r (hsm r (List.mem_of_getElem? hr)) q)
 have HH:=Xh h;have HO:=Xh ho;have HP:=Xh hP;have HN:=Xh hn
 obtain⟨Z,hZ⟩:∃Z,Z=m.bJ a d l life (R.map aj.l):=⟨_,rfl⟩
 rw[←hZ]
 unfold Mc.bJ at hZ
 obtain⟨S,hS⟩:∃S:Nat→Mc×Int,S=fun k=>m.aN a d l life 0 ((R.take k).map aj.l):=⟨_,rfl⟩
 have HS0:Hid (S 0=(m,0)):=by show _=_;rw[hS];rfl
 have HSE:Hid (S R.length=m.aN a d l life 0 (R.map aj.l)):=by show _=_;rw[hS];simp
 have HSO:Hid (∀k,k≤R.length→(S k).1.Ok (n+2*k)):=fun k hk=>by
  rw[hS]
  exact (HO.out.aN 0).le (by rw[List.length_map,List.length_take];omega)
 have HSS:Hid (∀k r,R[k]?=some r→(S k).2=0→S (k+1)=(S k).1.aO a d l life k r.l):=fun k r hr h0=>by
  rw[hS] at h0 ⊢
  simp only at h0 ⊢
  have hk:k<R.length:=(List.getElem?_eq_some_iff.1 hr).1
  rw[List.take_add_one,hr,List.map_append]
  show m.aN a d l life 0 ((R.take k).map aj.l++ [r.l])=_
  rw[tH,if_pos h0,List.length_map,List.length_take,Nat.min_eq_left Xf,Nat.zero_add]
 have HST:Hid (∀k,k<R.length→(S (k+1)).2≠0→∀j,k+1≤j→j≤R.length→S j=S (k+1)):=fun k hk hne j hj hjl=>by
  rw[hS] at hne ⊢
  simp only at hne ⊢
  have e:(R.take j).map aj.l=(R.take (k+1)).map aj.l++((R.take j).drop (k+1)).map aj.l:=by
   rw[←List.map_append]
   congr 1
   have :=(List.take_append_drop (k+1) (R.take j)).symm
   rwa[List.take_take,Nat.min_eq_left hj] at this
  rw[e]
  exact tK _ _ m 0 hne
 have HZ:=Xh hZ
 clear h f ho hP hlen hsm hn hany hZ hS hW g0 gb ab
 obtain⟨N,hN⟩:∃N,N=R.length:=⟨_,rfl⟩
 rw[←hN] at HCT HPG HPT HSE HSO HST HN HP hcap t0 ⊢
 have HNN:=Xh hN
 clear hN
 go_in
 go_upto_region 2 with fail
 rw[←HW.out]
 have k0:=AB.out.cell 0
 have k1:=AB.out.cell 1
 have k2:=AB.out.cell 2
 have k3:=AB.out.cell 3
 have k4:=AB.out.cell 4
 have k5:=AB.out.cell 5
 go_wp2_with fail
 refine HRI.out.mono ?_
 rintro e w1 ⟨rfl,g1⟩
 have G1:=Xh (G0.out.trans g1)
 have AB1:=Xh (AB.out.mono g1)
 have GB1:=GB.out.mono g1
 clear k0 k1 k2 k3 k4 k5 g1
 have k0:=GB1.cell 0
 have k1:=GB1.cell 1
 have k2:=GB1.cell 2
 clear GB1
 go_wp2_with fail
 refine (HPG.out _).mono ?_
 rintro e w2 ⟨rfl,g2⟩
 have G2:=Xh (G1.out.trans g2)
 have AB2:=Xh (AB1.out.mono g2)
 clear k0 k1 k2 g2
 go_wp2_with fail
 refine (HCT.out w2 G2.out).mono ?_
 rintro e w3 ⟨rfl,g3⟩
 have G3:=Xh (G2.out.trans g3)
 have AB3:=Xh (AB2.out.mono g3)
 clear g3
 go_wp2_with fail
 go_loopw [39] (fun i wr=>∃k:Nat,k≤N∧i= .int .i64 (k:Int)∧(S k).2=0∧MSt w0 L (S k).1 wr∧KQ L.kb w wr∧(S k).1.d.kept.length=m.d.kept.length∧Blk wr (w.heap.size+1) 275 [.pointer (some ⟨L.dp,0,none⟩),.pointer (some ⟨L.p,0,none⟩),.int .i64 a,.int .i64 d,.int .i64 l,.int .u64 (life:Int)]) (fun i _=>N - (Go.RowKit.intOf i).toNat)
 case atStart=>exact⟨0,Nat.zero_le _,rfl,by rw[HS0.out],by rw[HS0.out];exact HH.out.mono G3.out,KQ.gr G3.out,by rw[HS0.out],AB3.out⟩
 case round=>
  obtain⟨k,hk,rfl,hz,hm,hq,hkp,hab⟩:=hrel
  have HZK:=Xh hz;have HM:=Xh hm;have HQ:=Xh hq;have HKP:=Xh hkp;have HAB:=Xh hab
  clear hz hm hq hkp
  by_cases hlt:k<N
  · have t:decide ((k:Int)<(N:Int))=true:=decide_eq_true Xf
    have hkr:k<R.length:=by rw[←HNN.out];exact hlt
    obtain⟨r,hr⟩:∃r,R[k]?=some r:=⟨_,List.getElem?_eq_getElem hkr⟩
    have hPW:=HP.out.kq HQ.out
    obtain⟨bb,o,rfl,hcc⟩:=Sl.addr hPW.s Xf
    have c1:wr.cell? ⟨bb,o+k,none⟩=some (.slice r.a r.n r.c):=hcc k _ (by rw[List.getElem?_map,hr];rfl)
    have HSN:=Xh (HSS.out k r hr HZK.out)
    have HPU:=Xh (HPT.out k (S k).1 wr HM.out HKP.out (HSO.out k hk) (by have :=HN.out;omega) hlt r hr (hPW.r r (List.mem_of_getElem? hr)))
    rw[←HSN.out] at HPU
    have k0:=hab.cell 0
    have k1:=hab.cell 1
    have k2:=hab.cell 2
    have k3:=hab.cell 3
    have k4:=hab.cell 4
    have k5:=hab.cell 5
    have wk:IntKind.i64.wrap ((k:Int)+1)=(k:Int)+1:=IntWalk.i64_in _ Xf
    clear hPW hcc hr hab hkr
    go_wp2_with fail
    refine HPU.out.mono ?_
    rintro e w5 ⟨rfl,h5,k5'⟩
    have H5:=Xh h5;have K5:=Xh (HQ.out.trans k5');have AB5:=Xh (OT k5' HAB.out)
    clear h5 k5' k0 k1 k2 k3 k4 k5
    by_cases hf:(S (k+1)).2=0
    · have HF:=Xh hf
      rw[hf]
      clear hf
      go_wp2_with fail
      refine⟨⟨k+1,Xf,by go_num,HF.out,H5.out,K5.out,?_,AB5.out⟩,by simp[Go.RowKit.intOf];omega⟩
      rw[HSN.out,oJ]
      exact HKP.out
    · have hz2:Z=S (k+1):=by
       rw[HZ.out,←HSE.out]
       have hst:∀j,k+1≤j→j≤N→S j=S (k+1):=HST.out k hlt hf
       rw[hst N hlt (Nat.le_refl _)]
       unfold dU
       rw[if_neg hf]
      obtain⟨q,hq⟩:∃q,q=(S (k+1)).2:=⟨_,rfl⟩
      rw[←hq] at hf ⊢
      have t:(q !=0)=true:=by rw[bne_iff_ne];exact hf
      have HQQ:=Xh hq
      have HZ2:=Xh hz2
      clear hf hq hz2
      go_wp2_with fail
      go_ret
      rw[HZ2.out]
      exact⟨by rw[←HQQ.out];rfl,H5.out,K5.out⟩
  · obtain rfl:N=k:=by omega
    have t:decide ((N:Int)<(N:Int))=false:=decide_eq_false Xf
    have hz2:Z=(S N).1.flush:=by rw[HZ.out,←HSE.out];unfold dU;rw[if_pos HZK.out]
    have HFL:=Xh (HM.out.flush (HSO.out N (Nat.le_refl _)) (by have :=HN.out;omega))
    rw[←hz2] at HFL
    clear hz2 hab
    go_wp2_with fail
    refine HFL.out.mono ?_
    rintro e w9 ⟨rfl,h9,k9⟩
    have H9:=Xh h9;have K9:=Xh (HQ.out.trans k9)
    clear h9 k9
    go_wp2_with fail
    go_ret
    exact⟨rfl,H9.out,K9.out⟩
end
end
section
open Go.RowKit Go.Shelf
attribute [local go_sem] Oper.semAt_some
def Uu (I:World→Prop) (W:World):Exit→Act→World→Prop
 | .normal,_,W'=>KeepsOthers W W'∧I W'
 |_,_,_=>False
def EL (P:Program) (n N gf:Nat) (lb:Array Value) (F:World→Prop) (ok:Nat→Array Value→World→Prop) (w:World):Prop:=
 ∀(q:Nat) (J:Nat→World→Prop) (W:World),Gr w W→(∀k A A',J k A→Gr A A'→J k A')→(∀k A,J k A→F A)→
  (∀k args A,k<N→J k A→ok k args A→YieldAt Fence.wide (n - 1 - 1) P q args A fun e A'=>e= .returned (.bool true)∧J (k+1) A')→J 0 W→
  CallsIn Fence.wide (n - 1) P gf (#[.func (.yield q) #[] #[]]++lb) W fun e W'=>(∃v,e= .returned v)∧J N W'
theorem CF {P:Program} {g:Operand} {ps:Array Tmp} {assign body:Code} {Q:Exit→Act→World→Prop} {a:Act} {w:World} {n:Nat} (h1:1≤n)
 {gf:Nat} {lb:Array Value} (hg:a.eval g= .func (.func gf) #[] lb) (eg:∀args w,(callFunc gf args).run P w= .ok (.enter gf args) w)
 (N:Nat) (F:World→Prop) (ok:Nat→Array Value→World→Prop) (hseq:EL P n N gf lb F ok w) (hok:∀k args W,ok k args W→args.size=ps.size)
 (I:Nat→World→Prop) (hIg:∀k A A',I k A→Gr A A'→I k A') (hIF:∀k A,I k A→F A)
 (hIp:∀k W l r o',I k W→w.heap.size≤l→W.heap[l]?=some (.loop r)→I k (W.putObj l o')) (h0:I 0 w)
 (As:Nat→Array Value→Act→World→Prop) (hAp:∀k args a1 W l r o',As k args a1 W→w.heap.size≤l→W.heap[l]?=some (.loop r)→As k args a1 (W.putObj l o'))
 (hassign:∀(q k:Nat) (args:Array Value) (W:World) (K:Act→World→Prop),k<N→I k W→ok k args W→(∀a1 W1,Gr W W1→As k args a1 W1→K a1 W1)→
  assign.wpIn (Fence.wide.inRound q) (n - 1 - 1) P (Exit.then K (fun _ _ _=>False)) {tmps:=(ps.zip args).foldl (fun t (p,v)=>t.setIfInBounds p v) a.tmps,defers:=[]} W)
 (hbody:∀(q k:Nat) (args:Array Value) (a1:Act) (W:World),k<N→I k W→As k args a1 W→body.wpIn (Fence.wide.inRound q) (n - 1 - 1) P (Uu (I (k+1)) W) a1 W)
 (hdone:∀(D:Nat) (W:World),w.heap.size≤D→I N W→W.heap[D]?=some (.deferred (some []))→Q .normal {a with defers:={target:= .collected D,args:=#[]}::a.defers} W):
 (Code.rangeFunc g ps assign body).wpIn Fence.wide n P Q a w:=by
 refine wpIn_rangeFunc fun fn hfn=> ?_
 rw[show Fence.wide.round=none from rfl]
 obtain⟨L,hL⟩:∃L,L=w.heap.size:=⟨_,rfl⟩
 obtain⟨rc,hrc⟩:∃rc:LoopState→Option Code→Loop,rc=fun st pe=>{state:=st,pending:=pe,fn,tmps:=a.tmps,params:=ps,assign,body,defers:=L}:=⟨_,rfl⟩
 obtain⟨W1,hW1⟩:∃W1,W1=(w.alloc (.deferred (some []))).alloc (.loop (rc .ready none)):=⟨_,rfl⟩
 have lay:Laid L (rc .ready none) W1:=by
  refine⟨?_,?_⟩
  · rw[hW1,hL]
    have :=World.alloc_heap_new (w.alloc (.deferred (some []))) (.loop (rc .ready none))
    rwa[World.size_alloc] at this
  · rw[hW1,hL]
    exact (Below.heap_alloc _ _ _ (by simp)).trans (World.alloc_heap_new w _)
 have gW1:Gr w W1:=by rw[hW1];exact (Gr.alloc w _).trans (Gr.alloc _ _)
 have rdy:(rc .ready none).state= .ready:=by rw[hrc]
 have call:=hseq (L+1) (fun k W=>I k W∧Laid L (rc .ready none) W) W1 gW1
  (fun k A A' h g=>⟨hIg k A A' h.1 g,h.2.keep (kL g)⟩) (fun k A h=>hIF k A h.1)
  (by
   rintro k args A hk ⟨hi,hl⟩ hokk
   have hsz:=hok k args A hokk
   have hy:=run_yield (P:=P) (args:=args) hl.loop (by rw[hrc];exact hsz)
   rw[hrc] at hy
   refine⟨fn,_,assign,body,hy,roundIn_of_wpIn hfn (hassign _ k args A _ hk hi hokk (fun a1 A1 gA has=>⟨_,run_beginRound (hl.keep (kL gA)).loop rdy,?_⟩))⟩
   have hl1:=hl.keep (kL gA)
   obtain⟨A2,hA2⟩:∃A2,A2=A1.putObj (L+1) (.loop {rc .ready none with state:= .busy}):=⟨_,rfl⟩
   have hl2:Laid L {rc .ready none with state:= .busy} A2:=by rw[hA2];exact hl1.put
   have hi2:I k A2:=by rw[hA2];exact hIp _ _ _ _ _ (hIg k A A1 hi gA) Xf hl1.loop
   have ha2:As k args a1 A2:=by rw[hA2];exact hAp _ _ _ _ _ _ _ has Xf hl1.loop
   rw[←hA2]
   refine wpIn_mono (hbody _ k args a1 A2 hk hi2 ha2) ?_
   rintro e a3 A3 hp
   cases e with
   |normal=>
    obtain⟨hk3,hi3⟩:=hp
    have hl3:=hl2.keep hk3
    have hr:=run_endRound (P:=P) none hl3.loop
    refine⟨_,_,hr,⟨rfl,hIp _ _ _ _ _ hi3 Xf hl3.loop,?_⟩⟩
    have :=hl3.put (r':=rc .ready none)
    rw[hrc] at this ⊢
    exact this
   |ret=>exact hp.elim
   |exit id=>exact hp.elim
   |goto t=>exact hp.elim
   |panic ch=>exact hp.elim
   |outgrown=>exact hp.elim)
  ⟨hIg 0 w W1 h0 gW1,lay⟩
 refine⟨L+1,[{target:= .collected L,args:=#[]}],W1,{target:= .fn (.func gf) lb,args:=#[.func (.yield (L+1)) #[] #[]]},W1,gf,
  #[.func (.yield (L+1)) #[] #[]]++lb,W1,?_,?_,?_,?_,?_,?_⟩
 · rw[hW1,hrc,hL];exact run_enterLoop_outer _ _ _ _ _
 · simp only[resolve,hg]
   simp[go_sem]
 · exact fun _ _=>trivial
 · simp[invoke,go_sem,eg]
 · exact fun _=>h1
 · refine call.mono ?_
   rintro e W2 ⟨⟨v,rfl⟩,hi,hl⟩
   refine⟨none,W2.putObj (L+1) (.loop {rc .ready none with state:= .exhausted}),?_,hdone L _ Xf (hIp _ _ _ _ _ hi Xf hl.loop) ((World.putObj_heap_other Xf).trans hl.defer)⟩
   have :=run_endLoop (P:=P) hl.loop (by rw[hrc];simp)
   rw[hrc] at this ⊢
   exact this
theorem Ml {q n:Nat} {P:Program} {o:Oper} {a:Act} {next next':Act→World→Prop} {Q:Exit→Act→World→Prop} (hn:∀a w,next a w→next' a w):∀{r:Result Next},o.upon P a next Q r→o.uponIn (Fence.wide.inRound q) n P a next' Q r
 | .ok (.value v) w',h=>hn _ _ h
 | .ok .skip w',h=>hn _ _ h
 | .ok (.defer d) w',h=>hn _ _ h
 | .ok (.enter f args) w',h=>⟨fun hd=>(by cases hd),CallsIn.inRound q (callsIn_wide.2 (Calls.mono h fun e w hw=>by
  cases e with
  |returned v=>exact hn _ _ hw
  |panicked ch=>exact hw
  |outgrown=>exact hw))⟩
 | .ok (.row row args) w',h=>⟨fun hd=>(by cases hd),fun c cs _=>by
  obtain⟨v,w2,hr,hs⟩:=h c cs
  exact⟨v,w2,hn _ _ hr,by rw[fenced_inRound];exact stepsIn_wide.2 hs⟩⟩
 | .halt (.panic v) w',h=>h
def sj (l:List Oper):Bool:=l.all fun o=>match o.op with| .defer _=>false|_=>true
theorem lU {q n:Nat} {P:Program} {ops:Array Oper} {Q:Exit→Act→World→Prop} (hq:¬LetsOut Q):∀(l:List Oper) (a:Act) (w:World),sj l=true→wpList P ops Q l a w→wpListIn (Fence.wide.inRound q) n P ops Q l a w
 | [],a,w,_,h=>h
 |o::l,a,w,hd,h=>by
  have hd':sj l=true:=by
   unfold sj at hd ⊢
   rw[List.all_cons,Bool.and_eq_true] at hd
   exact hd.2
  have ho:∀c,o.op≠ .defer c:=by
   intro c hc
   unfold sj at hd
   rw[List.all_cons,Bool.and_eq_true,hc] at hd
   exact absurd hd.1 (by simp)
  have ih:=lU (q:=q) (n:=n) (P:=P) (ops:=ops) hq l
  unfold wpList at h
  unfold wpListIn
  split
  · rename_i hw
    rw[if_pos hw] at h
    rcases h with h| ⟨_,h⟩
    · refine⟨fun f _=>trivial,?_⟩
      rw[Oper.semAt_plain _ _ _ ho]
      exact Ml (fun a w h=>ih a w hd' h) h
    · exact absurd h hq
  · rename_i hw
    rw[if_neg hw] at h
    exact⟨fun f _=>trivial,ih _ _ hd' h⟩
end
section
namespace IG
open Go.RowKit
def opW (m:Nat) (P:Program) (o:Oper) (a:Act) (w:World) (K:Act→World→Prop) (Q:Exit→Act→World→Prop):Prop:=o.uponIn Fence.wide m P a K Q ((execOp a.eval o).run P w)
theorem Vo {m:Nat} {P:Program} {o:Oper} {a:Act} {w:World} {K:Act→World→Prop} {Q:Exit→Act→World→Prop} (h:opW m P o a w K Q):o.wpIn Fence.wide m P a w K Q:=by
 unfold Oper.wpIn
 refine⟨fun _ _=>trivial,?_⟩
 rw[show Fence.wide.round=none from rfl,Oper.semAt_none]
 exact h
section
variable {m:Nat} {P:Program} {ops:Array Oper} {Q:Act→World→Prop} {base:Nat}
theorem jI {o:Oper} {a:Act} {w:World} {K K':Act→World→Prop} {Q':Exit→Act→World→Prop} (h:∀a w,K a w→K' a w) (hh:opW m P o a w K dF):opW m P o a w K' Q':=by
 unfold opW at *
 generalize (execOp a.eval o).run P w=r at *
 cases r with
 |ok n w'=>
  cases n<;>simp only[Oper.uponIn] at hh ⊢
  case value=>exact h _ _ hh
  case skip=>exact h _ _ hh
  case defer=>exact h _ _ hh
  case enter f args=>exact⟨hh.1,CallsIn.mono hh.2 (fun e w'' he=>by
   cases e with
   |returned v=>exact h _ _ he
   |panicked c=>exact he.elim
   |outgrown=>obtain⟨_,_,he⟩:=he;exact he.elim)⟩
  case row=>exact⟨hh.1,RowsIn.mono hh.2 (fun _ _ he=>h _ _ he)⟩
  case round=>exact⟨hh.1,RoundIn.mono hh.2 (fun e w'' he=>by
   cases e with
   |returned v=>exact h _ _ he
   |panicked c=>exact he.elim
   |outgrown=>obtain⟨_,_,he⟩:=he;exact he.elim)⟩
 |halt x w'=>cases x<;>simp only[Oper.uponIn] at hh ⊢;exact hh.elim
def owI (m:Nat) (P:Program) (o:Oper) (a:Act) (w:World) (K:Act→World→Prop):Prop:=opW m P o a w K dF
instance:OwL P (owI m P) where
 mono:=jI
 value h hK:=by unfold owI opW;rw[h];exact hK
 skip h hK:=by unfold owI opW;rw[h];exact hK
 Li {ops o x a w K u} h1 h2 hs h:=by
  unfold owI opW at *
  rw[execOp_put o hs a x.dst u h1]
  generalize (execOp a.eval o).run P w=r at *
  cases r with
  |ok n w'=>
   cases n<;>simp only[Oper.uponIn] at h ⊢
   case value v=>exact⟨a.defers,v,(Act.put_comm a u v h2).symm▸rfl,h⟩
   case skip=>exact⟨a.defers,undef,(Act.put_comm a u undef h2).symm▸rfl,h⟩
   case defer d=>
    refine⟨d::a.defers,undef,?_,h⟩
    rw[Act.put_defers]
    exact Act.put_comm _ u undef h2
   case enter f args=>exact⟨h.1,CallsIn.mono h.2 (fun e w'' he=>by
    cases e with
    |returned v=>exact⟨a.defers,v,(Act.put_comm a u v h2).symm▸rfl,he⟩
    |panicked c=>exact he
    |outgrown=>obtain⟨_,_,he⟩:=he;exact he.elim)⟩
   case row=>exact⟨h.1,RowsIn.mono h.2 (fun v _ he=>⟨a.defers,v,(Act.put_comm a u v h2).symm▸rfl,he⟩)⟩
   case round=>exact⟨h.1,RoundIn.mono h.2 (fun e w'' he=>by
    cases e with
    |returned v=>exact⟨a.defers,v,(Act.put_comm a u v h2).symm▸rfl,he⟩
    |panicked c=>exact he
    |outgrown=>obtain⟨_,_,he⟩:=he;exact he.elim)⟩
  |halt x w'=>cases x<;>simp only[Oper.uponIn] at h ⊢;exact h
 dK {ops o x a w K u} h1 h2 hs h:=by
  unfold owI opW at *
  rw[execOp_put o hs a x.dst u h1] at h
  generalize (execOp a.eval o).run P w=r at *
  cases r with
  |ok n w'=>
   cases n<;>simp only[Oper.uponIn] at h ⊢
   case value v=>exact⟨a.defers,v,rfl,by rw[←Act.put_comm a u v h2];exact h⟩
   case skip=>exact⟨a.defers,undef,rfl,by rw[←Act.put_comm a u undef h2];exact h⟩
   case defer d=>exact⟨d::a.defers,undef,rfl,by rw[←Act.put_comm _ u undef h2,←Act.put_defers];exact h⟩
   case enter f args=>exact⟨h.1,CallsIn.mono h.2 (fun e w'' he=>by
    cases e with
    |returned v=>exact⟨a.defers,v,rfl,by rw[←Act.put_comm a u v h2];exact he⟩
    |panicked c=>exact he
    |outgrown=>obtain⟨_,_,he⟩:=he;exact he.elim)⟩
   case row=>exact⟨h.1,RowsIn.mono h.2 (fun v _ he=>⟨a.defers,v,rfl,by rw[←Act.put_comm a u v h2];exact he⟩)⟩
   case round=>exact⟨h.1,RoundIn.mono h.2 (fun e w'' he=>by
    cases e with
    |returned v=>exact⟨a.defers,v,rfl,by rw[←Act.put_comm a u v h2];exact he⟩
    |panicked c=>exact he
    |outgrown=>obtain⟨_,_,he⟩:=he;exact he.elim)⟩
  |halt x w'=>cases x<;>simp only[Oper.uponIn] at h ⊢;exact h
theorem jh {i:Nat} {o:Oper} {l:List St} {I:List (Nat×Nat)} {a:Act} {w:World} (ho:ops[i]?=some o) (hw:Region.wanted o (yielded ops a.tmps)=true) (h:∀w',Gr w w'→∀K:Act→World→Prop,(∀a' w'',Gr w' w''→wpG (owI m P) Gr Gr P ops Q base l ((w'.heap.size,w''.heap.size)::I) a' w''→K a' w'')→opW m P o a w' K dF):wpG (owI m P) Gr Gr P ops Q base (.c i::l) I a w:=zU ho hw h
theorem dV {i:Nat} {o:Oper} {l:List St} {I:List (Nat×Nat)} {a:Act} {w:World} (ho:ops[i]?=some o) (hw:Region.wanted o (yielded ops a.tmps)=true) (h:∀w',Gr w w'→∀K:Act→World→Prop,(∀a' w'',wpG (owI m P) Gr Gr P ops Q base l ((w'.heap.size,w''.heap.size)::I) a' w''→K a' w'')→opW m P o a w' K dF):wpG (owI m P) Gr Gr P ops Q base (.s i::l) I a w:=zU ho hw (fun w' hg K hK=>h w' hg K (fun a' w'' h=>hK a' w'' trivial h))
theorem wrG {id:Nat} {Q':Exit→Act→World→Prop} {a:Act} {w:World} (hf:P.follows .mixedOrders=true) (M:List Nat) (l:List St) (hB:tC .any ops M l=true) (hmk:mkA P ops l)
 (h:wpG (owI m P) Gr Gr P ops (fun a' w'=>Q' .normal a' w') w.heap.size l [] a w.drew):(Code.region id ops true).wpIn Fence.wide m P Q' a w:=by
 obtain⟨hns,hm,hlen,hg⟩:=CU hB
 refine wpIn_region_any hf (sJ (tt:=fun _=>True) (base:=w.heap.size) (wpAnyIn Fence.wide m P .any ops Q') (fun _ _ _ h k=>⟨h,k⟩) (fun n listed a w h0 h=>⟨fun h=>absurd h h0,fun i hi=> ?_⟩) (fun _ _ _ _ _ _ h _ k=>h.blk k) (fun _ _ h=>h.size) (fun _ _ _ _ _ _ h k=>h.blk k) hm hns ops.size l [] _ a _ hlen (fun i t z hy=>mkM (nP hmk) hy) hg (.inr ⟨Nat.le_refl _,fun p hp=>by cases hp⟩) h)
 obtain⟨_,o,ho,_⟩:=mem_ready.1 hi
 have :=h i hi o ho
 unfold wpOpIn
 simp only[ho]
 by_cases hw:Region.wanted o (yielded ops a.tmps)=true
 · rw[if_pos hw] at this ⊢
   exact Vo (jI (fun _ _ h=>h) this)
 · rw[if_neg hw] at this ⊢
   exact⟨fun _ _=>trivial,this⟩
end
end IG
end
end Go.Proofs.YtipdlnejmcmbbaaGreatDoor
