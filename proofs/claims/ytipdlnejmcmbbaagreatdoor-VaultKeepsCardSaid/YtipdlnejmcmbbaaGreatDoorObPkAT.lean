/- Own texts, one behind the other. No condition. -/
import Derived.Test.YtipdlnejmcmbbaaGreatDoorObPkAS
import Derived.Laws.EntriesVeiled
set_option linter.unusedVariables false
set_option maxRecDepth 100000
set_option maxHeartbeats 8000000
set_option linter.unusedSimpArgs false
namespace Go.Proofs.YtipdlnejmcmbbaaGreatDoor
section
open Go.RowKit
def dU (r:Mc×Int) (f:Mc→Mc×Int):Mc×Int:=if r.2=0 then f r.1 else r
def ku (a d l:Int) (x:Spr):Sec:=⟨2,x.life,x.base,x.gen,lH a d l⟩
def Mc.bL (m:Mc) (a d l:Int) (x:Spr):Mc×Int:=
 dU ((m.enc (2+x.life % 2) (ku a d l x)).write (2+x.life % 2) (encS m.S (2+x.life % 2) (ku a d l x))) Mc.flush
def Mc.clear (m:Mc):Mc×Int:=dU (dU (m.write 2 aK) fun m=>m.write 3 aK) Mc.flush
theorem gu (m:Mc) (place:Nat) (l:List UInt8):(m.write place l).1.d.kept.length=m.d.kept.length:=by
 unfold Mc.write
 split
 · rfl
 · show (m.d.pushed place l).bB.1.kept.length=_
   rw[(oL _).1]
   rfl
theorem iG (m:Mc):m.flush.1.d.kept.length=m.d.kept.length:=by
 unfold Mc.flush
 split
 · rfl
 · show m.d.flush.1.kept.length=_
   unfold Dk.flush
   split
   · show (m.d.bB.1.keeps m.d.pend).kept.length=_
     rw[(lC _ _).2.1,(oL _).1]
   · rw[(oL _).1]
theorem oh {r:Mc×Int} {f:Mc→Mc×Int} {n k:Nat} (h:r.1.Ok n) (hf:∀m:Mc,m.Ok n→(f m).1.Ok k) (hk:n≤k):(dU r f).1.Ok k:=by
 unfold dU
 split
 · exact hf _ h
 · exact h.le hk
theorem Mc.Ok.enc {m:Mc} {n:Nat} (h:m.Ok n) (place:Nat) (x:Sec):(m.enc place x).Ok (n+1):=h.sum _
theorem Mc.Ok.bL {m:Mc} {n:Nat} (h:m.Ok n) (a d l:Int) (x:Spr):(m.bL a d l x).1.Ok (n+3):=oh ((h.enc _ _).write _ _) (fun m h=>h.flush) Xf
theorem Mc.Ok.clear {m:Mc} {n:Nat} (h:m.Ok n):m.clear.1.Ok (n+3):=oh (oh (h.write _ _) (fun m h=>h.write _ _) Xf) (fun m h=>h.flush) Xf
section
variable {w0 w w':World} {L:Pl} {m:Mc} {n:Nat} {a d l:Int}
theorem Gt (g:Geo a d l) (x:Spr) (hb:x.base≤1073741824):(ku a d l x).right (2+x.life % 2)=true:=by
 have :=Nat.mod_lt x.life (show 0<2 by decide)
 unfold Sec.right ku lH
 simp only[Bool.and_eq_true,decide_eq_true_eq]
 refine⟨⟨⟨⟨Xg,Xg⟩,Xf⟩,hb⟩,by simp⟩
theorem KQ.sec {kb:Nat} {w w':World} (h:KQ kb w w') {b:Nat} {cs:List Value} (hb:Blk w b 143 cs):Blk w' b 143 cs:=h.blk hb Xi Xd
theorem Bd (h:MSt w0 L m w) (f:Fit m a d l) (ho:m.Ok n) (hn:n+3≤90000) (x:Spr) (hl:x.life<18446744073709551616) (hb:x.base≤1073741824) (hg:x.gen<18446744073709551616):
 Calls Tryz.prog 178 #[.pointer (some ⟨L.dp,0,none⟩),.pointer (some ⟨L.p,0,none⟩),.agg #[.int .i64 a,.int .i64 d,.int .i64 l],.agg (aH x)] w (jX w0 w L (m.bL a d l x)):=by
 have hpl:2+x.life % 2<m.d.kept.length:=by
  have :=f.s;have :=f.g.l;have :=(pgE a d l).1;have :=Nat.mod_lt x.life (show 0<2 by decide);unfold dS at *;omega
 have HSR:=Xh (Gt f.g x hb)
 have HBO:=Xh (fun wr (g:Gr w wr)=>mU (h.mono g) f)
 have HSP:=Xh (fun wr=>nA x.life wr hl)
 have HMK:=Xh (fun wr=>tF (a:=a) (d:=d) (l:=l) wr f.g)
 have HH:=Xh h
 have g0:Gr w ((w.alloc (.cells #[.int .i64 a,.int .i64 d,.int .i64 l] 23)).alloc (.cells (aH x) 147)):=(Gr.alloc _ _).trans (Gr.alloc _ _)
 have gb:Blk ((w.alloc (.cells #[.int .i64 a,.int .i64 d,.int .i64 l] 23)).alloc (.cells (aH x) 147)) w.heap.size 23 [.int .i64 a,.int .i64 d,.int .i64 l]:=(Blk.new w _ _).alloc _
 have rb:Blk ((w.alloc (.cells #[.int .i64 a,.int .i64 d,.int .i64 l] 23)).alloc (.cells (aH x) 147)) (w.heap.size+1) 147 (aH x).toList:=heap_alloc2_new w _ _
 obtain⟨W,hW⟩:∃W,W=(w.alloc (.cells #[.int .i64 a,.int .i64 d,.int .i64 l] 23)).alloc (.cells (aH x) 147):=⟨_,rfl⟩
 rw[←hW] at g0 gb rb
 obtain⟨z0,z1,z2⟩:=jc rb
 have G0:=Xh g0;have GB:=Xh gb;have RB:=Xh rb;have HW:=Xh hW
 have k0:=gb.cell 0
 have k1:=gb.cell 1
 have k2:=gb.cell 2
 obtain⟨R,hR⟩:∃R,R=m.bL a d l x:=⟨_,rfl⟩
 rw[←hR]
 unfold Mc.bL at hR
 obtain⟨v,hv⟩:∃v,v=2+x.life % 2:=⟨_,rfl⟩
 rw[←hv] at hR HSP HSR hpl
 have HO2:=Xh (ho.enc v (ku a d l x))
 have HO3:=Xh ((ho.enc v (ku a d l x)).write v (encS m.S v (ku a d l x)))
 obtain⟨r1,hr1⟩:∃r1,r1=(m.enc v (ku a d l x)).write v (encS m.S v (ku a d l x)):=⟨_,rfl⟩
 rw[←hr1] at hR HO3
 have HR1:=Xh hr1;have HR:=Xh hR;have HPL:=Xh hpl;have HO:=Xh ho
 clear hW g0 gb rb h f hR hr1 hpl ho hv
 unfold aH
 go_in
 go_upto_region 1 with fail
 change Code.wp _ _ _ _ ((w.alloc (.cells #[.int .i64 a,.int .i64 d,.int .i64 l] 23)).alloc (.cells (aH x) 147))
 rw[←HW.out]
 go_wp2_with fail
 refine (HBO.out _ G0.out).mono ?_
 rintro e w1 ⟨rfl,g1⟩
 obtain⟨y0,y1,y2⟩:=jc (RB.out.mono g1)
 have G1:=Xh (G0.out.trans g1);have GB1:=Xh (GB.out.mono g1);have RB1:=Xh (RB.out.mono g1)
 clear g1 k0 k1 k2 z0 z1 z2
 go_wp2_with fail
 refine (HSP.out _).mono ?_
 rintro e w2 ⟨rfl,h2⟩
 subst h2
 go_upto_region 5 with fail
 clear y0 y1 y2
 have H1:=Xh (HH.out.mono G1.out)
 refine wrU (KQ L.kb) 143 (fun w w' h=>h.1) (fun w w' b cs h hb=>h.sec hb) Xe [0,0,0,4,0,16,0,64,0,256,1020,2047,4095,8191,8191,16383,65535] [.p 0,.p 1,.p 2,.p 4,.p 6,.q 3,.q 5,.q 7,.q 8,.c 9,.p 10,.t 11,.p 12,.p 13,.p 14,.p 15,.p 16] Xe (trivial) ?_
 refine gP ?_
 refine gP ?_
 refine gP ?_
 refine gP ?_
 refine gP ?_
 refine gQ (fun _ hq=>jc (RB1.out.mono (Xk hq))) ?_
 refine gQ (fun _ hq=>jc (RB1.out.mono (Xk hq))) ?_
 refine gQ (fun _ hq=>jc (RB1.out.mono (Xk hq))) ?_
 refine gQ (fun _ hq=>And.intro ((GB1.out.mono (Xk hq)).cell 0) (And.intro ((GB1.out.mono (Xk hq)).cell 1) ((GB1.out.mono (Xk hq)).cell 2))) ?_
 refine gC ?_
 intro w3 g3 K hK
 refine (HMK.out w3).mono ?_
 rintro e wn ⟨A4,c4,rfl,o4⟩
 refine hK _ _ o4.below ?_;have G4:=Xh (((Gr.drew w1).trans g3).trans o4.below);obtain⟨_,_,hv4,s4⟩:=o4.slice;injection hv4 with e1 _ e2;subst e1 e2;have S4:Hid (Bs wn A4 3 c4 (lH a d l)):=s4;clear g3 o4 s4 hK
 go_simp
 refine gP ?_
 refine gT ?_
 intro w5 g5 K hK
 refine ((H1.out.mono (G4.out.trans g5)).encode HO.out Xf v (ku a d l x) A4 c4 HSR.out hl hg (S4.out.mono g5)).mono ?_
 rintro e wn ⟨A6,c6,rfl,q6,h6,k6⟩
 refine hK _ _ k6 ?_;have K6:=Xh ((KQ.gr (kb:=L.kb) (G1.out.trans (G4.out.trans g5))).trans k6);have H6:=Xh h6;have Q6:=Xh q6;clear g5 q6 h6 k6 hK
 go_simp
 refine gP ?_
 refine gP ?_
 refine gP ?_
 refine gP ?_
 refine gP ?_
 refine wNi fun w7 g7=> ?_
 have K7:=Xh (K6.out.trans (KQ.gr g7));have H7:=Xh (H6.out.mono g7);have Q7:=Xh (Q6.out.mono g7)
 clear g7
 go_wp2_with fail
 have HWR:=Xh (H7.out.write HO2.out Xf v HPL.out A6 c6 _ Q7.out)
 rw[←HR1.out] at HWR
 refine HWR.out.mono ?_
 rintro e w8 ⟨rfl,h8,k8⟩
 have K8:=Xh (K7.out.trans k8);have H8:=Xh h8
 clear h8 k8
 by_cases hf:r1.2=0
 · have hr:R=r1.1.flush:=by rw[HR.out];unfold dU;rw[if_pos hf]
   rw[hf]
   have HFL:=Xh (H8.out.flush HO3.out Xf)
   rw[←hr] at HFL
   clear hr hf
   go_wp2_with fail
   refine HFL.out.mono ?_
   rintro e w9 ⟨rfl,h9,k9⟩
   have H9:=Xh h9;have K9:=Xh (K8.out.trans k9)
   clear h9 k9
   go_wp2_with fail
   go_ret
   exact⟨rfl,H9.out,K9.out⟩
 · have hr:R=r1:=by rw[HR.out];unfold dU;rw[if_neg hf]
   subst hr
   obtain⟨q,hq⟩:∃q,q=R.2:=⟨_,rfl⟩
   rw[←hq] at hf ⊢
   have t:(q !=0)=true:=by rw[bne_iff_ne];exact hf
   have HQ:=Xh hq
   clear hf hq
   go_wp2_with fail
   go_ret
   exact⟨by rw[←HQ.out];rfl,H8.out,K8.out⟩
theorem BD (h:MSt w0 L m w) (f:Fit m a d l) (ho:m.Ok n) (hn:n+3≤90000):
 Calls Tryz.prog 100 #[.pointer (some ⟨L.dp,0,none⟩),.agg #[.int .i64 a,.int .i64 d,.int .i64 l]] w (jX w0 w L m.clear):=by
 have hpl:3<m.d.kept.length:=by
  have :=f.s;have :=f.g.l;have :=(pgE a d l).1;unfold dS at *;omega
 have HBO:=Xh (fun wr (g:Gr w wr)=>qX (h.mono g) f)
 have HPL:=Xh (fun wr=>ql wr)
 have HB:=Xh (fun wr=>qc wr)
 have HH:=Xh h
 have G0:Hid (Gr w (w.alloc (.cells #[.int .i64 a,.int .i64 d,.int .i64 l] 23))):=Gr.alloc _ _
 have gb:Blk (w.alloc (.cells #[.int .i64 a,.int .i64 d,.int .i64 l] 23)) w.heap.size 23 [.int .i64 a,.int .i64 d,.int .i64 l]:=Blk.new w _ _
 have k0:=gb.cell 0
 have k1:=gb.cell 1
 have k2:=gb.cell 2
 obtain⟨R,hR⟩:∃R,R=m.clear:=⟨_,rfl⟩
 rw[←hR]
 unfold Mc.clear at hR
 obtain⟨r1,hr1⟩:∃r1,r1=m.write 2 aK:=⟨_,rfl⟩
 have HO1:=Xh (ho.write 2 aK)
 have hk1:=gu m 2 aK
 rw[←hr1] at hR HO1 hk1
 have HR1:=Xh hr1;have HR:=Xh hR;have HO:=Xh ho
 have HX0:Hid (∀W:World,(Instr.index 212 (.agg #[.int .i64 2,.int .i64 3]) (.int .i64 0)).run Tryz.prog W= .ok (.int .i64 2) W):=fun W=>by kernel_rfl
 have HX1:Hid (∀W:World,(Instr.index 212 (.agg #[.int .i64 2,.int .i64 3]) (.int .i64 1)).run Tryz.prog W= .ok (.int .i64 3) W):=fun W=>by kernel_rfl
 clear gb h f hR hr1 ho
 go_in
 go_wp2_with fail
 refine (HBO.out _ G0.out).mono ?_
 rintro e w1 ⟨rfl,g1⟩
 have G1:=Xh (G0.out.trans g1)
 clear g1 k0 k1 k2
 go_wp2_with fail
 refine (HPL.out _).mono ?_
 rintro e w2 ⟨rfl,g2⟩
 have G2:=Xh (G1.out.trans g2)
 clear g2
 have hx0:=HX0.out
 have hx1:=HX1.out
 go_wp2_with fail
 refine wp_loop_rounds 3 ?_
 rw[rounds_succ]
 go_wp2_with fail
 refine (HB.out _).mono ?_
 rintro e w3 ⟨A3,rfl,o3⟩
 have Q3:=Xh (QB.own (kb:=L.kb) o3)
 have H3:=Xh (HH.out.mono (G2.out.trans o3.below))
 have K3:=Xh (KQ.gr (kb:=L.kb) (G2.out.trans o3.below))
 clear o3
 go_wp2_with fail
 have HW1:=Xh (H3.out.write HO.out Xf 2 Xf A3 512 aK Q3.out)
 rw[←HR1.out] at HW1
 refine HW1.out.mono ?_
 rintro e w4 ⟨rfl,h4,k4⟩
 have H4:=Xh h4;have K4:=Xh (K3.out.trans k4)
 clear h4 k4
 by_cases hf:r1.2=0
 case neg=>
  have hr:R=r1:=by rw[HR.out];unfold dU;rw[if_neg hf,if_neg hf]
  subst hr
  obtain⟨q,hq⟩:∃q,q=R.2:=⟨_,rfl⟩
  rw[←hq] at hf ⊢
  have t:(q !=0)=true:=by rw[bne_iff_ne];exact hf
  have HQ:=Xh hq
  clear hf hq
  go_wp2_with fail
  go_ret
  exact⟨by rw[←HQ.out];rfl,H4.out,K4.out⟩
 obtain⟨r2,hr2⟩:∃r2,r2=r1.1.write 3 aK:=⟨_,rfl⟩
 have HO2:=Xh (HO1.out.write 3 aK)
 rw[←hr2] at HO2
 have HRX:Hid (R=dU r2 Mc.flush):=by show _=_;rw[HR.out,hr2];unfold dU;rw[if_pos hf]
 have HR2:=Xh hr2
 rw[hf]
 clear hf hr2
 go_wp2_with fail
 rw[rounds_succ]
 go_wp2_with fail
 refine (HB.out _).mono ?_
 rintro e w5 ⟨A5,rfl,o5⟩
 have Q5:=Xh (QB.own (kb:=L.kb) o5)
 have H5:=Xh (H4.out.mono o5.below)
 have K5:=Xh (K4.out.trans (KQ.gr (kb:=L.kb) o5.below))
 clear o5
 go_wp2_with fail
 have HW2:=Xh (H5.out.write HO1.out Xf 3 Xf A5 512 aK Q5.out)
 rw[←HR2.out] at HW2
 refine HW2.out.mono ?_
 rintro e w6 ⟨rfl,h6,k6⟩
 have H6:=Xh h6;have K6:=Xh (K5.out.trans k6)
 clear h6 k6
 by_cases hf:r2.2=0
 case neg=>
  have hr:R=r2:=by rw[HRX.out];unfold dU;rw[if_neg hf]
  subst hr
  obtain⟨q,hq⟩:∃q,q=R.2:=⟨_,rfl⟩
  rw[←hq] at hf ⊢
  have t:(q !=0)=true:=by rw[bne_iff_ne];exact hf
  have HQ:=Xh hq
  clear hf hq
  go_wp2_with fail
  go_ret
  exact⟨by rw[←HQ.out];rfl,H6.out,K6.out⟩
 have hr:R=r2.1.flush:=by rw[HRX.out];unfold dU;rw[if_pos hf]
 have HFL:=Xh (H6.out.flush HO2.out Xf)
 rw[←hr] at HFL
 rw[hf]
 clear hr hf
 go_wp2_with fail
 rw[rounds_succ]
 go_wp2_with fail
 refine HFL.out.mono ?_
 rintro e w9 ⟨rfl,h9,k9⟩
 have H9:=Xh h9;have K9:=Xh (K6.out.trans k9)
 clear h9 k9
 go_wp2_with fail
 go_ret
 exact⟨rfl,H9.out,K9.out⟩
end
end
section
open Go.RowKit
def Mc.gF (m:Mc) (gen:Nat) (b:List UInt8):Mc×Int:=dU (m.write (gen % 2) b) Mc.flush
def jK (gen:Nat) (key:List UInt8):Sec:=⟨1,0,0,gen,key⟩
def Mc.aT (m:Mc) (gen:Nat) (key:List UInt8):Mc×Int:=(m.enc (gen % 2) (jK gen key)).gF gen (encS m.S (gen % 2) (jK gen key))
def Mc.aL (m:Mc) (gen:Nat):Mc×Int:=m.gF gen aK
theorem Mc.Ok.gF {m:Mc} {n:Nat} (h:m.Ok n) (gen:Nat) (b:List UInt8):(m.gF gen b).1.Ok (n+2):=oh (h.write _ _) (fun m h=>h.flush) Xf
theorem Mc.Ok.aT {m:Mc} {n:Nat} (h:m.Ok n) (gen:Nat) (key:List UInt8):(m.aT gen key).1.Ok (n+3):=(h.enc _ _).gF _ _
theorem Mc.Ok.aL {m:Mc} {n:Nat} (h:m.Ok n) (gen:Nat):(m.aL gen).1.Ok (n+2):=h.gF _ _
theorem lK {r:Mc×Int} {f:Mc→Mc×Int} {k:Nat} (h:r.1.d.kept.length=k) (hf:∀m:Mc,m.d.kept.length=k→(f m).1.d.kept.length=k):(dU r f).1.d.kept.length=k:=by
 unfold dU
 split
 · exact hf _ h
 · exact h
theorem rA (m:Mc) (gen:Nat) (b:List UInt8):(m.gF gen b).1.d.kept.length=m.d.kept.length:=lK (gu _ _ _) (fun m h=>(iG m).trans h)
section
variable {w0 w w':World} {L:Pl} {m:Mc} {n:Nat} {a d l:Int}
theorem Ai (h:MSt w0 L m w) (ho:m.Ok n) (hn:n≤90000) (pd pp pb place:Nat) (A:Option Addr) (c:Nat) (b:List UInt8) (hp:place<m.d.kept.length) (h1:Blk w pd 28 [.pointer (some ⟨L.dp,0,none⟩)]) (h2:Blk w pp 3 [.int .i64 (place:Int)]) (h3:Blk w pb 43 [.slice A 512 c]) (hb:QB L.kb w A 512 c b):
 Calls Tryz.prog 168 #[.pointer (some ⟨pd,0,none⟩),.pointer (some ⟨pp,0,none⟩),.pointer (some ⟨pb,0,none⟩)] w (jX w0 w L (m.write place b)):=by
 have c1:=h1.cell 0
 have c2:=h2.cell 0
 have c3:=h3.cell 0
 have HW:=Xh (h.write ho Xf place hp A c b hb)
 clear h h1 h2 h3 hb
 obtain⟨r,hr⟩:∃r,r=m.write place b:=⟨_,rfl⟩
 rw[←hr] at HW ⊢
 clear hr
 go_in
 go_wp2_with fail
 refine HW.out.mono ?_
 rintro e w1 ⟨rfl,h1,k1⟩
 have H1:=Xh h1;have K1:=Xh k1
 clear h1 k1
 go_wp2_with fail
 go_ret
 exact⟨rfl,H1.out,K1.out⟩
theorem tJ (h:MSt w0 L m w) (ho:m.Ok n) (hn:n+2≤90000) (hk:2≤m.d.kept.length) (gen:Nat) (hg:gen<18446744073709551616) (A:Option Addr) (c:Nat) (b:List UInt8) (hb:QB L.kb w A 512 c b):
 Calls Tryz.prog 94 #[.pointer (some ⟨L.dp,0,none⟩),.int .u64 (gen:Int),.slice A 512 c] w (jX w0 w L (m.gF gen b)):=by
 have hlt:=Nat.mod_lt gen (show 0<2 by decide)
 have HRT:=Xh (fun wr=>pX gen wr hg)
 obtain⟨R,hR⟩:∃R,R=m.gF gen b:=⟨_,rfl⟩
 rw[←hR]
 unfold Mc.gF at hR
 obtain⟨v,hv⟩:∃v,v=gen % 2:=⟨_,rfl⟩
 rw[←hv] at hR HRT hlt
 obtain⟨r1,hr1⟩:∃r1,r1=m.write v b:=⟨_,rfl⟩
 have HO1:=Xh (ho.write v b)
 rw[←hr1] at hR HO1
 have HR1:=Xh hr1;have HR:=Xh hR;have HH:=Xh h;have HO:=Xh ho;have HB:=Xh hb
 have HLT:Hid (v<m.d.kept.length):=by show v<_;omega
 clear hR hr1 h ho hb hk hlt hv
 go_in
 go_wp2_with fail
 go_step3
 go_wp2_with fail
 refine (HRT.out _).mono ?_
 rintro e w1 ⟨rfl,h1⟩
 subst h1
 go_wp2_with fail
 go_step3
 go_wp2_with fail
 obtain⟨FN,hFN⟩:∃FN,FN=(Obj.cells #[.func (.func 168) #[] #[.pointer (some ⟨w.heap.size,0,none⟩),.pointer (some ⟨w.heap.size+1+1,0,none⟩),.pointer (some ⟨w.heap.size+1,0,none⟩)],.func (.func 170) #[.pointer (some ⟨L.dp,0,none⟩)] #[]] 209):=⟨_,rfl⟩
 have b1:Blk ((((w.alloc (.cells #[.pointer (some ⟨L.dp,0,none⟩)] 28)).alloc (.cells #[.slice A 512 c] 43)).alloc (.cells #[.int .i64 (v:Int)] 3)).alloc FN) w.heap.size 28 [.pointer (some ⟨L.dp,0,none⟩)]:=(((Blk.new w _ _).alloc _).alloc _).alloc _
 have b2:Blk ((((w.alloc (.cells #[.pointer (some ⟨L.dp,0,none⟩)] 28)).alloc (.cells #[.slice A 512 c] 43)).alloc (.cells #[.int .i64 (v:Int)] 3)).alloc FN) (w.heap.size+1) 43 [.slice A 512 c]:=by
  have :=((Blk.new (w.alloc (.cells #[.pointer (some ⟨L.dp,0,none⟩)] 28)) 43 #[.slice A 512 c]).alloc (.cells #[.int .i64 (v:Int)] 3)).alloc FN
  rwa[World.size_alloc] at this
 have b3:Blk ((((w.alloc (.cells #[.pointer (some ⟨L.dp,0,none⟩)] 28)).alloc (.cells #[.slice A 512 c] 43)).alloc (.cells #[.int .i64 (v:Int)] 3)).alloc FN) (w.heap.size+1+1) 3 [.int .i64 (v:Int)]:=by
  have :=(Blk.new ((w.alloc (.cells #[.pointer (some ⟨L.dp,0,none⟩)] 28)).alloc (.cells #[.slice A 512 c] 43)) 3 #[.int .i64 (v:Int)]).alloc FN
  rwa[World.size_alloc,World.size_alloc] at this
 have g1:Gr w ((((w.alloc (.cells #[.pointer (some ⟨L.dp,0,none⟩)] 28)).alloc (.cells #[.slice A 512 c] 43)).alloc (.cells #[.int .i64 (v:Int)] 3)).alloc FN):=(((Gr.alloc _ _).trans (Gr.alloc _ _)).trans (Gr.alloc _ _)).trans (Gr.alloc _ _)
 rw[←hFN]
 obtain⟨W,hW⟩:∃W,W=((((w.alloc (.cells #[.pointer (some ⟨L.dp,0,none⟩)] 28)).alloc (.cells #[.slice A 512 c] 43)).alloc (.cells #[.int .i64 (v:Int)] 3)).alloc FN):=⟨_,rfl⟩
 rw[←hW] at b1 b2 b3 g1 ⊢
 have H1:=Xh (HH.out.mono g1)
 have K1:=Xh (KQ.gr (kb:=L.kb) g1)
 have HF1:=Xh (Ai H1.out HO.out Xf w.heap.size (w.heap.size+1+1) (w.heap.size+1) v A c b HLT.out b1 b3 b2 (HB.out.mono g1))
 rw[←HR1.out] at HF1
 clear hW b1 b2 b3 g1 hFN
 obtain⟨F1,hF1⟩:∃F1,F1=Value.func (.func 168) #[] #[.pointer (some ⟨w.heap.size,0,none⟩),.pointer (some ⟨w.heap.size+1+1,0,none⟩),.pointer (some ⟨w.heap.size+1,0,none⟩)]:=⟨_,rfl⟩
 have hx0:∀W:World,(Instr.index 209 (.agg #[.func (.func 168) #[] #[.pointer (some ⟨w.heap.size,0,none⟩),.pointer (some ⟨w.heap.size+1+1,0,none⟩),.pointer (some ⟨w.heap.size+1,0,none⟩)],.func (.func 170) #[.pointer (some ⟨L.dp,0,none⟩)] #[]]) (.int .i64 0)).run Tryz.prog W= .ok (.func (.func 168) #[] #[.pointer (some ⟨w.heap.size,0,none⟩),.pointer (some ⟨w.heap.size+1+1,0,none⟩),.pointer (some ⟨w.heap.size+1,0,none⟩)]) W:=fun W=>by kernel_rfl
 have hx1:∀W:World,(Instr.index 209 (.agg #[.func (.func 168) #[] #[.pointer (some ⟨w.heap.size,0,none⟩),.pointer (some ⟨w.heap.size+1+1,0,none⟩),.pointer (some ⟨w.heap.size+1,0,none⟩)],.func (.func 170) #[.pointer (some ⟨L.dp,0,none⟩)] #[]]) (.int .i64 1)).run Tryz.prog W= .ok (.func (.func 170) #[.pointer (some ⟨L.dp,0,none⟩)] #[]) W:=fun W=>by kernel_rfl
 clear hF1
 refine wp_loop_rounds 3 ?_
 rw[rounds_succ]
 go_wp2_with fail
 refine HF1.out.mono ?_
 rintro e w2 ⟨rfl,h2,k2⟩
 have H2:=Xh h2;have K2:=Xh (K1.out.trans k2)
 clear h2 k2
 by_cases hf:r1.2=0
 · have hr:R=r1.1.flush:=by rw[HR.out];unfold dU;rw[if_pos hf]
   rw[hf]
   have HFL:=Xh (H2.out.flush HO1.out Xf)
   rw[←hr] at HFL
   clear hr hf
   go_wp2_with fail
   rw[rounds_succ]
   go_wp2_with fail
   refine HFL.out.mono ?_
   rintro e w9 ⟨rfl,h9,k9⟩
   have H9:=Xh h9;have K9:=Xh (K2.out.trans k9)
   clear h9 k9
   obtain⟨q,hq⟩:∃q,q=R.2:=⟨_,rfl⟩
   rw[←hq]
   have HQ:=Xh hq
   by_cases hf2:q=0
   · subst hf2
     clear hq
     go_wp2_with fail
     rw[rounds_succ]
     go_wp2_with fail
     try rw[Exit.noGoto_ret]
     go_ret
     exact⟨by rw[←HQ.out];rfl,H9.out,K9.out⟩
   · have t:(q !=0)=true:=by rw[bne_iff_ne];exact hf2
     clear hf2 hq
     go_wp2_with fail
     try rw[Exit.noGoto_ret]
     go_ret
     exact⟨by rw[←HQ.out];rfl,H9.out,K9.out⟩
 · have hr:R=r1:=by rw[HR.out];unfold dU;rw[if_neg hf]
   subst hr
   obtain⟨q,hq⟩:∃q,q=R.2:=⟨_,rfl⟩
   rw[←hq] at hf ⊢
   have t:(q !=0)=true:=by rw[bne_iff_ne];exact hf
   have HQ:=Xh hq
   clear hf hq
   go_wp2_with fail
   try rw[Exit.noGoto_ret]
   go_ret
   exact⟨by rw[←HQ.out];rfl,H2.out,K2.out⟩
theorem Fp (gen:Nat) (key:List UInt8) (h:key.length=32):(jK gen key).right (gen % 2)=true:=by
 have :=Nat.mod_lt gen (show 0<2 by decide)
 unfold Sec.right jK
 simp only[Bool.and_eq_true,decide_eq_true_eq]
 refine⟨⟨⟨⟨Xg,Xg⟩,Xf⟩,Xf⟩,Xf⟩
theorem xC (h:MSt w0 L m w) (ho:m.Ok n) (hn:n+3≤90000) (hk:2≤m.d.kept.length) (gen:Nat) (hg:gen<18446744073709551616) (A:Option Addr) (c:Nat) (key:List UInt8) (hb:Bs w A 32 c key):
 Calls Tryz.prog 44 #[.pointer (some ⟨L.dp,0,none⟩),.pointer (some ⟨L.p,0,none⟩),.int .u64 (gen:Int),.slice A 32 c] w (jX w0 w L (m.aT gen key)):=by
 have hkl:key.length=32:=hb.len
 have HRT:=Xh (fun wr=>pX gen wr hg)
 have HEN:=Xh (h.encode ho Xf (gen % 2) (jK gen key) A c (Fp gen key hkl) (by show 0<_;decide) hg (by show Bs w A key.length c key;rw[hkl];exact hb))
 have hex:eH (jK gen key) A c= .agg #[.int .i64 1,.int .u64 0,.int .i64 0,.int .u64 (gen:Int),.slice A 32 c]:=by unfold eH jK;simp only;rw[hkl];rfl
 rw[hex] at HEN
 obtain⟨R,hR⟩:∃R,R=m.aT gen key:=⟨_,rfl⟩
 rw[←hR]
 unfold Mc.aT at hR
 have HO1:=Xh (ho.enc (gen % 2) (jK gen key))
 have hk1:2≤(m.enc (gen % 2) (jK gen key)).d.kept.length:=hk
 obtain⟨m1,hm1⟩:∃m1,m1=m.enc (gen % 2) (jK gen key):=⟨_,rfl⟩
 obtain⟨b,hb1⟩:∃b,b=encS m.S (gen % 2) (jK gen key):=⟨_,rfl⟩
 rw[←hm1,←hb1] at HEN
 rw[←hm1] at HO1 hk1
 rw[←hm1,←hb1] at hR
 have HR:=Xh hR;have HK1:=Xh hk1
 clear h ho hk hb hkl hex hR hm1 hb1 hk1
 go_in
 go_wp2_with fail
 refine (HRT.out _).mono ?_
 rintro e w1 ⟨rfl,h1⟩
 subst h1
 go_wp2_with fail
 refine HEN.out.mono ?_
 rintro e w2 ⟨A2,c2,rfl,q2,h2,k2⟩
 have HW:=Xh (tJ h2 HO1.out Xf HK1.out gen hg A2 c2 b q2)
 rw[←HR.out] at HW
 have K2:=Xh k2
 clear q2 h2 k2
 go_wp2_with fail
 refine HW.out.mono ?_
 rintro e w3 ⟨rfl,h3,k3⟩
 have H3:=Xh h3;have K3:=Xh (K2.out.trans k3)
 clear h3 k3
 go_wp2_with fail
 go_ret
 exact⟨rfl,H3.out,K3.out⟩
theorem mW (h:MSt w0 L m w) (ho:m.Ok n) (hn:n+2≤90000) (hk:2≤m.d.kept.length) (gen:Nat) (hg:gen<18446744073709551616):
 Calls Tryz.prog 46 #[.pointer (some ⟨L.dp,0,none⟩),.int .u64 (gen:Int)] w (jX w0 w L (m.aL gen)):=by
 have HB:=Xh (qc w)
 obtain⟨R,hR⟩:∃R,R=m.aL gen:=⟨_,rfl⟩
 rw[←hR]
 unfold Mc.aL at hR
 have HR:=Xh hR;have HH:=Xh h;have HO:=Xh ho
 clear h ho hR
 go_in
 go_wp2_with fail
 refine HB.out.mono ?_
 rintro e w2 ⟨A2,rfl,o2⟩
 have HW:=Xh (tJ (HH.out.mono o2.below) HO.out hn hk gen hg A2 512 aK (QB.own o2))
 rw[←HR.out] at HW
 have K2:=Xh (KQ.gr (kb:=L.kb) o2.below)
 clear o2
 go_wp2_with fail
 refine HW.out.mono ?_
 rintro e w3 ⟨rfl,h3,k3⟩
 have H3:=Xh h3;have K3:=Xh (K2.out.trans k3)
 clear h3 k3
 go_wp2_with fail
 go_ret
 exact⟨rfl,H3.out,K3.out⟩
end
end
end Go.Proofs.YtipdlnejmcmbbaaGreatDoor
