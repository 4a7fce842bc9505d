/- Own texts, one behind the other. No condition. -/
import Derived.Test.YtipdlnejmcmbbaaGreatDoorObPkBH
set_option linter.unusedVariables false
set_option maxRecDepth 100000
set_option maxHeartbeats 8000000
set_option linter.unusedSimpArgs false
namespace Go.Proofs.YtipdlnejmcmbbaaGreatDoor
section
open Go.RowKit
abbrev jm (L:Pl) (a d l:Int) (vx vk:Value) (dead:Bool):List Value:=[.pointer (some ⟨L.dp,0,none⟩),.pointer (some ⟨L.p,0,none⟩),.int .i64 a,.int .i64 d,.int .i64 l,vx,vk,.bool dead]
structure TrB (L:Pl) (a d l:Int) (vx vk:Value) (dead:Bool) (pt pv pd pS pg:Nat) (w:World):Prop where
 fd:Blk w pd 28 [.pointer (some ⟨L.dp,0,none⟩)]
 fs:Blk w pS 33 [.pointer (some ⟨L.p,0,none⟩)]
 fg:Blk w pg 23 [.int .i64 a,.int .i64 d,.int .i64 l]
 fv:Blk w pv 68 [.pointer (some ⟨pt,0,none⟩)]
 ft:Blk w pt 92 (jm L a d l vx vk dead)
theorem oQ:¬tyA 92:=by unfold tyA tyM;decide
section
variable {w0 w w':World} {L:Pl} {m:Mc} {n:Nat} {a d l:Int} {vx vk vx' vk':Value} {dead dead':Bool} {pt pv pd pS pg:Nat}
theorem TrB.gr (h:TrB L a d l vx vk dead pt pv pd pS pg w) (k:Gr w w'):TrB L a d l vx vk dead pt pv pd pS pg w':=⟨k.blk h.fd,k.blk h.fs,k.blk h.fg,k.blk h.fv,k.blk h.ft⟩
theorem TrB.to {S:Nat→Prop} {kb:Nat} (h:TrB L a d l vx vk dead pt pv pd pS pg w) (k:KX S kb w w') (hS:∀z,S z→∃t cs,Blk w z t cs∧t≠28∧t≠33∧t≠23∧t≠68) (ht:Blk w' pt 92 (jm L a d l vx' vk' dead')):TrB L a d l vx' vk' dead' pt pv pd pS pg w':=by
 have nS:∀{g:Nat} {t:TypeId} {cs:List Value},Blk w g t cs→(t=28∨t=33∨t=23∨t=68)→¬S g:=fun hg ht s=>by
  obtain⟨t',cs',z,h1,h2,h3,h4⟩:=hS _ s
  have :=bTy hg z
  subst this
  rcases ht with e|e|e|e
  · exact h1 e
  · exact h2 e
  · exact h3 e
  · exact h4 e
 exact⟨k.blk h.fd Xi Xd (nS h.fd (.inl rfl)),k.blk h.fs Xi Xd (nS h.fs (.inr (.inl rfl))),k.blk h.fg Xi Xd (nS h.fg (.inr (.inr (.inl rfl)))),k.blk h.fv Xi Xd (nS h.fv (.inr (.inr (.inr rfl)))),ht⟩
theorem TrB.kq {kb:Nat} (h:TrB L a d l vx vk dead pt pv pd pS pg w) (k:KQ kb w w'):TrB L a d l vx vk dead pt pv pd pS pg w':=h.to (KX.kq (S:=fun _=>False) k) (fun z s=>s.elim) (k.blk h.ft Xi Xd)
theorem TrB.cells (h:TrB L a d l vx vk dead pt pv pd pS pg w):w.cell? ⟨pd,0,none⟩=some (.pointer (some ⟨L.dp,0,none⟩))∧w.cell? ⟨pS,0,none⟩=some (.pointer (some ⟨L.p,0,none⟩))∧w.cell? ⟨pg,0,none⟩=some (.int .i64 a)∧w.cell? ⟨pg,1,none⟩=some (.int .i64 d)∧w.cell? ⟨pg,2,none⟩=some (.int .i64 l)∧w.cell? ⟨pv,0,none⟩=some (.pointer (some ⟨pt,0,none⟩))∧w.cell? ⟨pt,5,none⟩=some vx∧w.cell? ⟨pt,6,none⟩=some vk:=
 ⟨h.fd.cell 0,h.fs.cell 0,h.fg.cell 0,h.fg.cell 1,h.fg.cell 2,h.fv.cell 0,h.ft.cell 5,h.ft.cell 6⟩
theorem TrB.kx4 {S:Nat→Prop} {kb:Nat} (h:TrB L a d l vx vk dead pt pv pd pS pg w) (hS:∀z,S z→z=pt) (k:KX S kb w w'):w'.cell? ⟨pd,0,none⟩=some (.pointer (some ⟨L.dp,0,none⟩))∧w'.cell? ⟨pS,0,none⟩=some (.pointer (some ⟨L.p,0,none⟩))∧w'.cell? ⟨pg,0,none⟩=some (.int .i64 a)∧w'.cell? ⟨pg,1,none⟩=some (.int .i64 d)∧w'.cell? ⟨pg,2,none⟩=some (.int .i64 l)∧w'.cell? ⟨pv,0,none⟩=some (.pointer (some ⟨pt,0,none⟩)):=by
 have nS:∀{g:Nat} {t:TypeId} {cs:List Value},Blk w g t cs→t≠92→¬S g:=fun hg hne s=>by
  have e:=hS _ s
  rw[e] at hg
  exact hne (bTy hg h.ft)
 have b1:=k.blk h.fd Xi Xd (nS h.fd Xg)
 have b2:=k.blk h.fs Xi Xd (nS h.fs Xg)
 have b3:=k.blk h.fg Xi Xd (nS h.fg Xg)
 have b4:=k.blk h.fv Xi Xd (nS h.fv Xg)
 exact⟨b1.cell 0,b2.cell 0,b3.cell 0,b3.cell 1,b3.cell 2,b4.cell 0⟩
theorem tY (h:MSt w0 L m w) (f:Fit m a d l):Calls Tryz.prog 40 #[.pointer (some ⟨L.dp,0,none⟩),.pointer (some ⟨L.p,0,none⟩),.agg #[.int .i64 a,.int .i64 d,.int .i64 l]] w fun e w'=>e= .returned (.int .i64 0)∧Gr w w':=by
 obtain⟨W,hW⟩:∃W,W=w.alloc (.cells #[.int .i64 a,.int .i64 d,.int .i64 l] 23):=⟨_,rfl⟩
 have G0:Hid (Gr w W):=by rw[hW];exact Gr.alloc _ _
 have B0:Hid (Blk W w.heap.size 23 [.int .i64 a,.int .i64 d,.int .i64 l]):=by rw[hW];exact Blk.new w _ _
 have HW:=Xh hW;clear hW
 have HR:=Xh (fun wr=>gRa a d l wr)
 rw[f.g.r] at HR
 have HS:=Xh (fun wr=>kX a d l wr f.g)
 have HD:=Xh (fun wr (g:Gr w wr)=>(h.mono g).size)
 rw[f.s] at HD
 generalize dS a d l=q at *
 have t1:(q !=q)=false:=by simp
 clear h f
 go_in
 go_upto_region 3 with fail
 rw[←HW.out]
 refine wp_region_quiet (C:=fun w'=>Below (W).heap.size (W) w') Xe Xe (Below.refl _ _).drew ?_
 simp only
 repeat (first
  |go_big_quiet_skip
  |(go_big_quiet_want
    apply Exists.intro
    refine⟨fun wq hq=> ?_,?_⟩
    · (have k0:=(B0.out.mono hq).cell 0;have k1:=(B0.out.mono hq).cell 1;have k2:=(B0.out.mono hq).cell 2
       go_simp
       first
        |done
        |exact rfl
        |(with_reducible exact⟨rfl,rfl⟩)
        |(first|(go_at_call 84;exact (HR.out wq).mono fun e w2 ⟨he,hb⟩=>⟨he,bBo hq hb⟩)|(go_at_call 86;exact (HS.out wq).mono fun e w2 ⟨he,hb⟩=>⟨he,bBo hq hb⟩)|(go_at_call 85;exact (HD.out wq (G0.out.trans hq)).mono fun e w2 ⟨he,hb⟩=>⟨he,hb▸hq⟩)))
    go_simp
    go_big_quiet_on))
 refine wpQuiet_nil ?_
 intro wq hq
 go_wp2_with fail
 go_ret
 exact⟨rfl,G0.out.trans hq⟩
theorem Gx (h:MSt w0 L m w) (ho:m.Ok n) (hn:n+3≤90000) (hk:2≤m.d.kept.length) (A:Option Addr) (c:Nat) (key:List UInt8) (hb:Bs w A 32 c key) (b:TrB L a d l vx (.slice A 32 c) dead pt pv pd pS pg w):
 Calls Tryz.prog 43 #[.pointer (some ⟨pd,0,none⟩),.pointer (some ⟨pS,0,none⟩),.pointer (some ⟨pv,0,none⟩)] w (jX w0 w L (m.aT 0 key)):=by
 have HC:=Xh (fun wr (g:Gr w wr)=>(b.gr g).cells)
 have HR:=Xh (fun wr (g:Gr w wr)=>xC (h.mono g) ho hn hk 0 Xg A c key (hb.mono g))
 obtain⟨r,hr⟩:∃r,r=m.aT 0 key:=⟨_,rfl⟩
 rw[←hr] at HR ⊢
 clear h ho hk hb b hr
 go_in
 go_upto_region 1 with fail
 refine wrU (KQ L.kb) 143 (fun w w' h=>h.1) (fun w w' b cs h hb=>h.sec hb) Xe [0,0,0,4,12,28,63,127] [.q 0,.q 1,.q 2,.p 3,.p 4,.q 5,.t 6,.p 7] Xe (trivial) ?_
 refine gQ (fun wq hq=>HC.out wq (Xk hq)) ?_
 refine gQ (fun wq hq=>HC.out wq (Xk hq)) ?_
 refine gQ (fun wq hq=>HC.out wq (Xk hq)) ?_
 refine gP ?_
 refine gP ?_
 refine gQ (fun wq hq=>HC.out wq (Xk hq)) ?_
 refine gT ?_
 intro w3 g3 K hK
 refine (HR.out w3 ((Gr.drew _).trans g3)).mono ?_
 rintro e wn ⟨rfl,h4,k4⟩
 refine hK _ _ k4 ?_;have H4:=Xh h4;have K4:=Xh ((KQ.gr (kb:=L.kb) ((Gr.drew w).trans g3)).trans k4);clear g3 h4 k4 hK
 go_simp
 refine gP ?_
 refine wNi fun w5 g5=> ?_
 have H5:=Xh (H4.out.mono g5);have K5:=Xh (K4.out.trans (KQ.gr g5))
 clear g5
 go_wp2_with fail
 go_ret
 exact⟨rfl,H5.out,K5.out⟩
theorem FT (h:MSt w0 L m w) (ho:m.Ok n) (hn:n+2≤90000) (hk:2≤m.d.kept.length) (hd:Blk w pd 28 [.pointer (some ⟨L.dp,0,none⟩)]):
 Calls Tryz.prog 45 #[.pointer (some ⟨pd,0,none⟩)] w (jX w0 w L (m.aL 1)):=by
 have HR:=Xh (mW h ho hn hk 1 Xg)
 obtain⟨r,hr⟩:∃r,r=m.aL 1:=⟨_,rfl⟩
 rw[←hr] at HR ⊢
 have d0:=hd.cell 0
 clear h ho hk hd hr
 go_in
 go_wp2_with fail
 refine HR.out.mono ?_
 rintro e w1 ⟨rfl,h1,k1⟩
 have H1:=Xh h1;have K1:=Xh k1
 clear h1 k1 d0
 go_wp2_with fail
 go_ret
 exact⟨rfl,H1.out,K1.out⟩
theorem ES (h:MSt w0 L m w) (f:Fit m a d l) (hlv:m.Live) (ho:m.Ok n) (N:Nat) (hlen:(N:Int)=au a d l) (hn:n+2*N+80≤90000) (hge:w0.heap.size≤pt) (b:TrB L a d l vx vk dead pt pv pd pS pg w):
 Calls Tryz.prog 47 #[.pointer (some ⟨pd,0,none⟩),.pointer (some ⟨pS,0,none⟩),.pointer (some ⟨pg,0,none⟩),.pointer (some ⟨pv,0,none⟩)] w fun e w'=>e= .returned (.int .i64 0)∧∃ps pl bb,MSt w0 L (m.format a d l N) w'∧TrB L a d l (.pointer (some ⟨ps,0,none⟩)) vk dead pt pv pd pS pg w'∧Blk w' ps 150 (aI L a d l ⟨1,0,0⟩ (.pointer (some ⟨pl,0,none⟩)) 0 (.slice (some ⟨bb,0,none⟩) N N) false false)∧Blk w' pl 294 (cB L a d l 1 0 0)∧Blk w' bb 43 (List.replicate N (.slice none 0 0))∧w.heap.size≤ps∧w.heap.size≤pl∧w.heap.size≤bb∧KX (fun z=>z=pt) L.kb w w':=by
 have HC:=Xh (fun wr (k:KX (fun z=>z=pt) L.kb w wr)=>b.kx4 (fun z e=>e) k)
 have HB:=Xh b
 have hptlt:pt<w.heap.size:=b.ft.lt
 have HR:=Xh (fun wr (g:Gr w wr)=>Ak N (h.mono g) f hlv ho hlen hn)
 obtain⟨m2,hm2⟩:∃m2,m2=m.format a d l N:=⟨_,rfl⟩
 rw[←hm2] at HR ⊢
 clear h f hlv ho hlen b hm2
 go_in
 go_upto_region 1 with fail
 refine wrV (KX (fun z=>z=pt) L.kb) (KQ L.kb) 143 ?hlb (fun w w' h=>h.1) (fun w w' b cs h hb=>h.sec hb) Xe [0,0,0,0,14,30,62,62,127,383,895,2047] [.q 0,.q 1,.q 2,.q 3,.c 4,.p 5,.p 6,.p 7,.p 8,.p 9,.c 10,.p 11] Xe (trivial) ?_
 case hlb=>exact fun v w' b cs k hb z=>k.blk z Xi Xd Xf
 refine gQ (fun wq hq=>HC.out wq ((KX.gr (Gr.drew _)).trans hq)) ?_
 refine gQ (fun wq hq=>HC.out wq ((KX.gr (Gr.drew _)).trans hq)) ?_
 refine gQ (fun wq hq=>HC.out wq ((KX.gr (Gr.drew _)).trans hq)) ?_
 refine gQ (fun wq hq=>HC.out wq ((KX.gr (Gr.drew _)).trans hq)) ?_
 refine gC ?_
 intro w3 g3 K hK
 refine (HR.out w3 ((Gr.drew _).trans g3)).mono ?_
 rintro e wn ⟨ps,pl,bb,rfl,i1,i2,i3,i4,i5,i6,i7,i8⟩
 refine hK _ _ (KX.kq i8) ?_;have I1:=Xh i1;have I2:=Xh i2;have I3:=Xh i3;have I4:=Xh i4;have G3:=Xh ((Gr.drew w).trans g3);have I8:Hid (KQ L.kb w wn):=(KQ.gr ((Gr.drew w).trans g3)).trans i8;clear g3 i1 i2 i3 i4 i8 hK
 go_simp
 refine gP ?_
 refine gP ?_
 refine gP ?_
 refine gP ?_
 refine gP ?_
 refine jh rfl rfl ?_
 intro w5 g5 K hK
 have K5:Hid (KQ L.kb w w5):=I8.out.trans (KQ.gr g5)
 have B5:=Xh (HB.out.kq K5.out)
 have M5:=Xh (I1.out.mono g5);have S5:=Xh (I2.out.mono g5);have L5:=Xh (I3.out.mono g5);have N5:=Xh (I4.out.mono g5)
 have x5:=B5.out.ft.cell 5
 have f5:=Blk.free B5.out.ft 5
 clear g5
 go_simp
 refine hK _ _ (KX.tch (Tch.set ⟨pt,5,none⟩ _ rfl)) ?_
 clear hK x5 f5
 go_simp
 obtain⟨w6,hw6⟩:∃w6,w6=w5.setCell ⟨pt,5,none⟩ (.pointer (some ⟨ps,0,none⟩)):=⟨_,rfl⟩
 have T6:Tch (fun z=>z=pt) w5 w6:=by rw[hw6];exact Tch.set ⟨pt,5,none⟩ _ rfl
 have F6:Blk w6 pt 92 (jm L a d l (.pointer (some ⟨ps,0,none⟩)) vk dead):=by rw[hw6];exact B5.out.ft.set 5 _
 rw[←hw6]
 clear hw6
 refine gP ?_
 refine wNi fun w7 g7=> ?_
 have T7:Hid (Tch (fun z=>z=pt) w5 w7):=T6.trans (Tch.gr g7)
 have F7:=Xh (F6.mono g7)
 clear T6 F6 g7
 go_wp2_with fail
 go_ret
 have np:∀{g:Nat} {t:TypeId} {cs:List Value},Blk w5 g t cs→t≠92→¬g=pt:=fun hg hne e=>by
  rw[e] at hg
  exact hne (bTy hg B5.out.ft)
 exact⟨rfl,ps,pl,bb,M5.out.off T7.out (fun z e=>e▸hge) (fun z e=>e▸⟨_,_,B5.out.ft,oQ⟩),B5.out.to (KX.tch (kb:=L.kb) T7.out) (fun z e=>by subst e;exact⟨_,_,B5.out.ft,Xg,Xg,Xg,Xg⟩) F7.out,S5.out.tch T7.out (np S5.out Xg),L5.out.tch T7.out (np L5.out Xg),N5.out.tch T7.out (np N5.out Xg),Nat.le_trans G3.out.size i5,Nat.le_trans G3.out.size i6,Nat.le_trans G3.out.size i7,(KX.kq K5.out).trans (KX.tch T7.out)⟩
end
end
section
open Go.RowKit
def Mc.draw (m:Mc):Mc:={m with T:=(aG m.T).1}
def Mc.key (m:Mc):List UInt8:=aC (aG m.T).2
def Mc.seal (m:Mc) (key text:List UInt8):Mc:={m with T:=(bI m.T key text).1}
theorem Tx (m:Mc):m.key.length=32:=cO _
theorem Mc.Ok.draw {m:Mc} {n:Nat} (h:m.Ok n):m.draw.Ok (n+1):=by
 have t:=h.t
 refine⟨?_,Nat.le_succ_of_le h.s,Nat.le_succ_of_le h.c,Nat.le_succ_of_le h.a,h.k,h.f1,h.f2,h.z.atom⟩
 show (m.T++ [_]).length≤n+1
 rw[List.length_append]
 simp
 omega
section
variable {w0 w w':World} {L:Pl} {m:Mc} {n:Nat}
theorem MSt.draw (h:MSt w0 L m w) (ho:m.Ok n) (hn:n≤90000):Calls Tryz.prog 41 #[.pointer (some ⟨L.p,0,none⟩)] w fun e w'=>∃A c,e= .returned (.slice A 32 c)∧Own w0 w' 5 1 (.slice A 32 c) 32 (m.key.map u8c)∧MSt w0 L m.draw w'∧KQ L.kb w w'∧KZ L.g L.bm w w':=by
 refine (h.sy.Wy (by have :=ho.t;omega)).mono ?_
 rintro e w' ⟨⟨v,rfl,o,sy,_⟩,k⟩
 obtain⟨A,c,rfl,_⟩:=o.slice
 obtain⟨q,kq⟩:=MS.tab h sy k
 exact⟨A,c,rfl,o,q,kq,k⟩
theorem MSt.seal (h:MSt w0 L m w) (ho:m.Ok n) (hn:n≤90000) (A B:Option Addr) (c k d:Nat) (key text:List UInt8) (ha:Bs w A 32 c key) (hb:QB L.kb w B k d text) (hk:k≤20000):
 Calls Tryz.prog 115 #[.pointer (some ⟨L.p,0,none⟩),.slice A 32 c,.slice B k d] w fun e w'=>∃A' c',e= .returned (.slice A' (k+48) c')∧Own w0 w' 5 1 (.slice A' (k+48) c') (k+48) ((gX m.T key text).map u8c)∧MSt w0 L (m.seal key text) w'∧KQ L.kb w w'∧KZ L.g L.bm w w':=by
 obtain⟨es,ck,hm⟩:=h.sy.Mk
 have hkl:text.length=k:=by have :=hb.b.len;simpa using this
 refine (h.sy.Wz (by have :=ho.t;omega) A B 32 c k d key text ha hb.b rfl hk (fun w1 kz _=>(hb.kq (KQ.kz kz hm)).b)).mono ?_
 rintro e w' ⟨⟨v,rfl,o⟩,sy,_,kz⟩
 rw[hkl] at o
 obtain⟨A',c',rfl,_⟩:=o.slice
 obtain⟨q,kq⟩:=MS.tab h sy kz
 exact⟨A',c',rfl,o,q,kq,kz⟩
theorem MSt.Mx (h:MSt w0 L m w) (ho:m.Ok n) (hn:n≤90000) (A B:Option Addr) (k c j d:Nat) (key b:List UInt8) (ha:Bs w A k c key) (hb:Bs w B j d b) (hj:j≤60000):
 Calls Tryz.prog 65 #[.pointer (some ⟨L.p,0,none⟩),.slice A k c,.slice B j d] w (mQ w (eP m.T key b)):=
 h.sy.WA (by have :=ho.t;omega) ho.z A B k c j d key b ha hb hj
theorem MSt.Tj (h:MSt w0 L m w) (ho:m.Ok n) (hn:n≤90000) (A B:Option Addr) (k c j d:Nat) (key b:List UInt8) (ha:Bs w A k c key) (hb:Bs w B j d b) (hj:j≤60000):
 Calls Tryz.prog 65 #[.pointer (some ⟨L.p,0,none⟩),.slice A k c,.slice B j d] w (Wp w (eP m.T key b)):=
 (h.Mx ho hn A B k c j d key b ha hb hj).mono fun e w' ⟨A,n,c,h1,h2,h3,_⟩=>⟨A,n,c,h1,h2,h3⟩
theorem MSt.WI (h:MSt w0 L m w) (ho:m.Ok n) (hn:n≤90000) (A B:Option Addr) (k c j d:Nat) (key b:List UInt8) (ha:Bs w A k c key) (hb:Bs w B j d b) (hj:j≤60000):
 Calls Tryz.prog 65 #[.pointer (some ⟨L.p,0,none⟩),.slice A k c,.slice B j d] w fun e w'=>∃A n c,e= .returned (.tuple #[.slice A n c,.bool (eP m.T key b).isSome])∧QB L.kb w' A n c ((eP m.T key b).getD [])∧Gr w w':=
 (h.Mx ho hn A B k c j d key b ha hb hj).mono fun e w' ⟨A,n,c,h1,h2,h3,h4⟩=>⟨A,n,c,h1,⟨h2,fun b o _ q=>by
  obtain⟨a,m,z⟩:=h4 b o q
  exact⟨a,_,m,z,.inl rfl,fun e=>absurd e Xg⟩⟩,h3⟩
end
end
section
open Go.RowKit
theorem Mc.Live.aT {m:Mc} (h:m.Live) (gen:Nat) (key:List UInt8):(m.aT gen key).2=0∧(m.aT gen key).1.Live:=jP ((h.enc _ _).write _ _) (fun m h=>h.flush)
theorem Mc.Live.aL {m:Mc} (h:m.Live) (gen:Nat):(m.aL gen).2=0∧(m.aL gen).1.Live:=jP (h.write _ _) (fun m h=>h.flush)
theorem Mc.Live.draw {m:Mc} (h:m.Live):m.draw.Live:=⟨h.d,h.f⟩
theorem iP (m:Mc) (gen:Nat) (key:List UInt8):(m.aT gen key).1.d.kept.length=m.d.kept.length:=rA _ _ _
theorem mh (m:Mc) (gen:Nat):(m.aL gen).1.d.kept.length=m.d.kept.length:=rA _ _ _
def Mc.iE (m:Mc) (a d l:Int) (N:Nat):Mc:=((m.draw.aT 0 m.key).1.aL 1).1.format a d l N
section
variable {w0 w w':World} {L:Pl} {m:Mc} {n:Nat} {a d l:Int} {vx vk:Value} {dead:Bool} {pt pv pd pS pg:Nat}
theorem tT {kb g:Nat} {cs:List Value} (k:KQ kb w w') (h:Blk w g 139 cs):Blk w' g 139 cs:=k.blk h Xi Xd
theorem xY (N bs:Nat) (w2:World) (h:MSt w0 L m w2) (f:Fit m a d l) (hlv:m.Live) (ho:m.Ok n) (hge:w0.heap.size≤pt) (hlen:(N:Int)=au a d l) (hn:n+2*N+90≤90000) (A:Option Addr) (c:Nat) (key:List UInt8) (hb:QB L.kb w2 A 32 c key)
 (b:TrB L a d l vx (.slice A 32 c) dead pt pv pd pS pg w2)
 (hst:Blk w2 bs 139 [.func (.func 43) #[] #[.pointer (some ⟨pd,0,none⟩),.pointer (some ⟨pS,0,none⟩),.pointer (some ⟨pv,0,none⟩)],.func (.func 45) #[] #[.pointer (some ⟨pd,0,none⟩)],.func (.func 47) #[] #[.pointer (some ⟨pd,0,none⟩),.pointer (some ⟨pS,0,none⟩),.pointer (some ⟨pg,0,none⟩),.pointer (some ⟨pv,0,none⟩)]]):
 Calls Tryz.prog 42 #[.slice (some ⟨bs,0,none⟩) 3 3] w2 (iq (fun w'=>∃ps pl bb,MSt w0 L (((m.aT 0 key).1.aL 1).1.format a d l N) w'∧TrB L a d l (.pointer (some ⟨ps,0,none⟩)) (.slice A 32 c) dead pt pv pd pS pg w'∧Blk w' ps 150 (aI L a d l ⟨1,0,0⟩ (.pointer (some ⟨pl,0,none⟩)) 0 (.slice (some ⟨bb,0,none⟩) N N) false false)∧Blk w' pl 294 (cB L a d l 1 0 0)∧Blk w' bb 43 (List.replicate N (.slice none 0 0))∧w2.heap.size≤ps∧w2.heap.size≤pl∧w2.heap.size≤bb∧QB L.kb w' A 32 c key) (fun _ _=>False)):=by
 have hk:2≤m.d.kept.length:=by have :=f.s;have :=f.g.l;have :=(pgE a d l).1;unfold dS at *;omega
 have f2:Fit ((m.aT 0 key).1.aL 1).1 a d l:=⟨f.g,by rw[mh,iP];exact f.s⟩
 refine MG _ _ _ _ _ _ _ _ _ (enters_of Tryz.func43 Xe rfl) (enters_of Tryz.func45 Xe rfl) (enters_of Tryz.func47 Xe rfl) bs w2 (fun w'=>MSt w0 L (m.aT 0 key).1 w'∧KQ L.kb w2 w') (fun w'=>MSt w0 L ((m.aT 0 key).1.aL 1).1 w'∧KQ L.kb w2 w') _ _ hst ?_ ?_ ?_
 · refine (Gx h ho Xf hk A c key hb.b b).mono ?_
   rintro e w3 ⟨rfl,h3,k3⟩
   exact⟨_,rfl,fun _=>⟨h3,k3⟩,fun q=>absurd (hlv.aT 0 key).1 q⟩
 · rintro w3 ⟨h3,k3⟩
   refine⟨tT k3 hst,(FT (pd:=pd) h3 (ho.aT 0 key) Xf (by rw[iP];exact hk) (b.kq k3).fd).mono ?_⟩
   rintro e w4 ⟨rfl,h4,k4⟩
   exact⟨_,rfl,fun _=>⟨h4,k3.trans k4⟩,fun q=>absurd ((hlv.aT 0 key).2.aL 1).1 q⟩
 · rintro w4 ⟨h4,k4⟩
   refine⟨tT k4 hst,(ES h4 f2 ((hlv.aT 0 key).2.aL 1).2 ((ho.aT 0 key).aL 1) N hlen Xf hge (b.kq k4)).mono ?_⟩
   rintro e w5 ⟨rfl,ps,pl,bb,i1,i2,i3,i4,i5,i6,i7,i8,i9⟩
   exact⟨0,rfl,fun _=>⟨ps,pl,bb,i1,i2,i3,i4,i5,Nat.le_trans k4.1 i6,Nat.le_trans k4.1 i7,Nat.le_trans k4.1 i8,(hb.kq k4).kx i9 (fun z e=>by subst e;exact⟨_,_,(b.kq k4).ft,by unfold tyB;decide⟩)⟩,fun q=>absurd rfl q⟩
theorem AA (N:Nat) (h:MSt w0 L m w) (f:Fit m a d l) (hlv:m.Live) (ho:m.Ok n) (hlen:(N:Int)=au a d l) (hn:n+2*N+95≤90000):
 Calls Tryz.prog 26 #[.pointer (some ⟨L.dp,0,none⟩),.pointer (some ⟨L.p,0,none⟩),.agg #[.int .i64 a,.int .i64 d,.int .i64 l]] w fun e w'=>∃pt ps pl bb A c,e= .returned (.tuple #[.pointer (some ⟨pt,0,none⟩),.int .i64 0])∧MSt w0 L (m.iE a d l N) w'∧Blk w' pt 92 (jm L a d l (.pointer (some ⟨ps,0,none⟩)) (.slice A 32 c) false)∧QB L.kb w' A 32 c m.key∧Blk w' ps 150 (aI L a d l ⟨1,0,0⟩ (.pointer (some ⟨pl,0,none⟩)) 0 (.slice (some ⟨bb,0,none⟩) N N) false false)∧Blk w' pl 294 (cB L a d l 1 0 0)∧Blk w' bb 43 (List.replicate N (.slice none 0 0))∧w0.heap.size≤pt∧w0.heap.size≤ps∧w0.heap.size≤pl∧w0.heap.size≤bb:=by
 have hw0:w0.heap.size≤w.heap.size:=h.below.size
 obtain⟨W,hW⟩:∃W,W=((w.alloc (.cells #[.pointer (some ⟨L.dp,0,none⟩)] 28)).alloc (.cells #[.pointer (some ⟨L.p,0,none⟩)] 33)).alloc (.cells #[.int .i64 a,.int .i64 d,.int .i64 l] 23):=⟨_,rfl⟩
 have g0:Gr w W:=by rw[hW];exact ((Gr.alloc _ _).trans (Gr.alloc _ _)).trans (Gr.alloc _ _)
 have d0:Blk W w.heap.size 28 [.pointer (some ⟨L.dp,0,none⟩)]:=by rw[hW];exact ((Blk.new w _ _).alloc _).alloc _
 have s0:Blk W (w.heap.size+1) 33 [.pointer (some ⟨L.p,0,none⟩)]:=by rw[hW];exact (show Blk ((w.alloc (.cells #[.pointer (some ⟨L.dp,0,none⟩)] 28)).alloc (.cells #[.pointer (some ⟨L.p,0,none⟩)] 33)) (w.heap.size+1) 33 [.pointer (some ⟨L.p,0,none⟩)] from heap_alloc2_new w _ _).alloc _
 have q0:Blk W (w.heap.size+1+1) 23 [.int .i64 a,.int .i64 d,.int .i64 l]:=by
  rw[hW]
  have :=Blk.new ((w.alloc (.cells #[.pointer (some ⟨L.dp,0,none⟩)] 28)).alloc (.cells #[.pointer (some ⟨L.p,0,none⟩)] 33)) 23 #[.int .i64 a,.int .i64 d,.int .i64 l]
  rwa[World.size_alloc,World.size_alloc] at this
 have HRI:=Xh (tY (h.mono g0) f)
 have HDR:=Xh (fun wr (g:Gr w wr)=>(h.mono g).draw ho Xf)
 have HST:=Xh (fun (w2:World) (h2:MSt w0 L m.draw w2) (bs pt pv pd pS pg:Nat) (hge:w0.heap.size≤pt) (A:Option Addr) (c:Nat) (hb:QB L.kb w2 A 32 c m.key) (b:TrB L a d l (.pointer none) (.slice A 32 c) false pt pv pd pS pg w2) hst=>xY (pS:=pS) (pg:=pg) N bs w2 h2 (⟨f.g,f.s⟩:Fit m.draw a d l) hlv.draw ho.draw hge hlen Xf A c m.key hb b hst)
 obtain⟨mk,hmk⟩:∃mk,mk=m.key:=⟨_,rfl⟩
 obtain⟨mf,hmf⟩:∃mf,mf=m.iE a d l N:=⟨_,rfl⟩
 have hmf2:((m.draw.aT 0 m.key).1.aL 1).1.format a d l N=mf:=hmf.symm
 rw[hmf2] at HST
 rw[←hmf]
 rw[←hmk] at HDR HST ⊢
 have G0:=Xh g0;have D0:=Xh d0;have S0:=Xh s0;have Q0:=Xh q0;have HW:=Xh hW
 clear hW g0 d0 s0 q0 h f hlv ho hlen hmk hmf hmf2
 go_in
 go_upto_region 1 with fail
 rw[←HW.out]
 have k0:=D0.out.cell 0
 have k1:=S0.out.cell 0
 have y0:=Q0.out.cell 0
 have y1:=Q0.out.cell 1
 have y2:=Q0.out.cell 2
 go_wp2_with fail
 refine HRI.out.mono ?_
 rintro e w1 ⟨rfl,g1⟩
 have G1:=Xh (G0.out.trans g1)
 have D1:=Xh (D0.out.mono g1);have S1:=Xh (S0.out.mono g1)
 have Q1:=Xh (Q0.out.mono g1)
 clear g1 k0 k1 y0 y1 y2
 go_upto_region 4 with fail
 have HC:Hid (∀wr,KX (fun _=>False) L.kb w1 wr→wr.cell? ⟨w.heap.size,0,none⟩=some (.pointer (some ⟨L.dp,0,none⟩))∧wr.cell? ⟨w.heap.size+1,0,none⟩=some (.pointer (some ⟨L.p,0,none⟩))∧wr.cell? ⟨w.heap.size+1+1,0,none⟩=some (.int .i64 a)∧wr.cell? ⟨w.heap.size+1+1,1,none⟩=some (.int .i64 d)∧wr.cell? ⟨w.heap.size+1+1,2,none⟩=some (.int .i64 l)):=fun wr k=>by
  have b1:=k.blk D1.out Xi Xd (fun s=>s)
  have b2:=k.blk S1.out Xi Xd (fun s=>s)
  have b3:=k.blk Q1.out Xi Xd (fun s=>s)
  exact⟨b1.cell 0,b2.cell 0,b3.cell 0,b3.cell 1,b3.cell 2⟩
 refine wrV (KX (fun _=>False) L.kb) (KQ L.kb) 68 ?hlb (fun w w' h=>h.1) (fun w w' b cs h hb=>h.blk hb Xi Xd) Xe [0,0,0,0,8,31,63,0,255] [.q 0,.q 1,.q 2,.q 3,.c 4,.p 5,.c 6,.m 7 68 #[.pointer none],.s 8] Xe (⟨⟨fun o ho ρ w=>by cases ho;kernel_rfl,rfl⟩,trivial⟩) ?_
 case hlb=>exact fun v w' b cs k hb z=>k.blk z Xi Xd (fun s=>s)
 refine gQ (fun wq hq=>HC.out wq ((KX.gr (Gr.drew _)).trans hq)) ?_
 refine gQ (fun wq hq=>HC.out wq ((KX.gr (Gr.drew _)).trans hq)) ?_
 refine gQ (fun wq hq=>HC.out wq ((KX.gr (Gr.drew _)).trans hq)) ?_
 refine gQ (fun wq hq=>HC.out wq ((KX.gr (Gr.drew _)).trans hq)) ?_
 refine gC ?_
 intro w3 g3 K hK
 refine (HDR.out w3 (G1.out.trans ((Gr.drew _).trans g3))).mono ?_
 rintro e wn ⟨A,c,rfl,o4,h4,k4,_⟩
 refine hK _ _ (KX.kq k4) ?_;have H4:=Xh h4;have Q4:=Xh (QB.own (kb:=L.kb) o4);have K4:Hid (KX (fun _=>False) L.kb w1 wn):=(KX.gr ((Gr.drew w1).trans g3)).trans (KX.kq k4);clear g3 o4 h4 k4 hK
 go_simp
 refine gP ?_
 refine jh rfl rfl ?_
 intro w5 g5 K hK
 go_simp
 refine hK _ _ (KX.gr (Gr.alloc _ _)) ?_
 obtain⟨w6,hw6⟩:∃w6,w6=w5.alloc (.cells #[.pointer (some ⟨L.dp,0,none⟩),.pointer (some ⟨L.p,0,none⟩),.int .i64 a,.int .i64 d,.int .i64 l,.pointer none,.slice A 32 c,.bool false] 92):=⟨_,rfl⟩
 rw[←hw6]
 have g56:Gr w5 w6:=by rw[hw6];exact Gr.alloc _ _
 have F6:Hid (Blk w6 w5.heap.size 92 (jm L a d l (.pointer none) (.slice A 32 c) false)):=by show Blk _ _ _ _;rw[hw6];exact Blk.new w5 _ #[.pointer (some ⟨L.dp,0,none⟩),.pointer (some ⟨L.p,0,none⟩),.int .i64 a,.int .i64 d,.int .i64 l,.pointer none,.slice A 32 c,.bool false]
 have K6:Hid (KX (fun _=>False) L.kb w1 w6):=K4.out.trans (KX.gr (g5.trans g56))
 have H6:=Xh (H4.out.mono (g5.trans g56));have Q6:=Xh (Q4.out.mono (g5.trans g56))
 have hpt:w1.heap.size≤w5.heap.size:=Nat.le_trans K4.out.size g5.size
 clear hK g5 g56 hw6
 generalize w5.heap.size=pt at *
 go_simp
 refine EG rfl rfl ?_
 intro w7 pv g7 hpv hblk hI
 have F7:=Xh (F6.out.mono g7);have H7:=Xh (H6.out.mono g7);have Q7:=Xh (Q6.out.mono g7)
 have V7:Hid (Blk w7 pv 68 [.pointer none]):=hblk
 have K7:Hid (KX (fun _=>False) L.kb w1 w7):=K6.out.trans (KX.gr g7)
 have hpv1:w1.heap.size≤pv:=hpv
 clear hI hblk g7 hpv
 go_simp
 refine dV rfl rfl ?_
 intro w8 g8 K hK
 have F8:=Xh (F7.out.mono g8);have H8:=Xh (H7.out.mono g8);have Q8:=Xh (Q7.out.mono g8);have V8:=Xh (V7.out.mono g8)
 have K8:Hid (KX (fun _=>False) L.kb w1 w8):=K7.out.trans (KX.gr g8)
 have f0:=Blk.free V8.out 0
 have x0:=V8.out.cell 0
 clear g8
 go_simp
 refine hK _ _ ?_
 clear hK f0 x0
 go_simp
 refine wNi fun wa ga=> ?_
 have T9:Tch (fun z=>z=pv) w8 (w8.setCell ⟨pv,0,none⟩ (.pointer (some ⟨pt,0,none⟩))):=Tch.set ⟨pv,0,none⟩ _ rfl
 have Ta:Hid (Tch (fun z=>z=pv) w8 wa):=T9.trans (Tch.gr ga)
 have Va:Hid (Blk wa pv 68 [.pointer (some ⟨pt,0,none⟩)]):=Blk.mono (w:=w8.setCell ⟨pv,0,none⟩ (.pointer (some ⟨pt,0,none⟩))) (V8.out.set 0 _) ga
 clear T9 ga
 have nv:∀{g:Nat} {t:TypeId} {cs:List Value},Blk w8 g t cs→t≠68→¬g=pv:=fun hg hne e=>by
  rw[e] at hg
  exact hne (bTy hg V8.out)
 have hwp:w.heap.size≤w1.heap.size:=G1.out.size
 have Ha:Hid (MSt w0 L m.draw wa):=H8.out.off Ta.out (fun z e=>by omega) (fun z e=>e▸⟨_,_,V8.out,by unfold tyA tyM;decide⟩)
 have Qa:Hid (QB L.kb wa A 32 c mk):=Q8.out.gK Ta.out (fun z e=>e▸⟨_,_,V8.out,by unfold tyB;decide⟩)
 have D8:=K8.out.blk D1.out Xi Xd (fun s=>s)
 have S8:=K8.out.blk S1.out Xi Xd (fun s=>s)
 have Z8:=K8.out.blk Q1.out Xi Xd (fun s=>s)
 have Ba:Hid (TrB L a d l (.pointer none) (.slice A 32 c) false pt pv w.heap.size (w.heap.size+1) (w.heap.size+1+1) wa):=⟨D8.tch Ta.out (nv D8 Xg),S8.tch Ta.out (nv S8 Xg),Z8.tch Ta.out (nv Z8 Xg),Va.out,F8.out.tch Ta.out (nv F8.out Xg)⟩
 clear D8 S8 Z8 nv
 have v0:=Va.out.cell 0
 go_wp2_with fail
 obtain⟨F,hF⟩:∃F:Array Value,F=#[.func (.func 43) #[] #[.pointer (some ⟨w.heap.size,0,none⟩),.pointer (some ⟨w.heap.size+1,0,none⟩),.pointer (some ⟨pv,0,none⟩)],.func (.func 45) #[] #[.pointer (some ⟨w.heap.size,0,none⟩)],.func (.func 47) #[] #[.pointer (some ⟨w.heap.size,0,none⟩),.pointer (some ⟨w.heap.size+1,0,none⟩),.pointer (some ⟨w.heap.size+1+1,0,none⟩),.pointer (some ⟨pv,0,none⟩)]]:=⟨_,rfl⟩
 rw[←hF]
 have gb:Gr wa (wa.alloc (.cells F 139)):=Gr.alloc _ _
 have bst:=Blk.new wa 139 F
 rw[hF] at bst
 have HS2:=Xh (HST.out _ (Ha.out.mono gb) wa.heap.size pt pv w.heap.size (w.heap.size+1) (w.heap.size+1+1) Xf A c (Qa.out.mono gb) (Ba.out.gr gb) (by rw[hF];exact bst))
 have hsz:w1.heap.size≤wa.heap.size:=Nat.le_trans K8.out.size Ta.out.size
 have hsb:=gb.size
 clear bst gb v0
 refine HS2.out.mono ?_
 rintro e wc ⟨q,rfl,hi,he⟩
 have hq:q=0:=by
  rcases (show q=0∨q≠0 by omega) with z|z
  · exact z
  · exact (he z).elim
 subst hq
 obtain⟨ps,pl,bb,i1,i2,i3,i4,i5,i6,i7,i8,i9⟩:=hi rfl
 have I1:=Xh i1;have I2:=Xh i2;have I3:=Xh i3;have I4:=Xh i4;have I5:=Xh i5;have I9:=Xh i9
 have v0:=i2.fv.cell 0
 clear hi he i1 i2 i3 i4 i5 i9 hF
 go_wp2_with fail
 go_ret2
 exact⟨pt,ps,pl,bb,A,c,rfl,I1.out,I2.out.ft,I9.out,I3.out,I4.out,I5.out,Xf,Xf,Xf,Xf⟩
end
end
end Go.Proofs.YtipdlnejmcmbbaaGreatDoor
