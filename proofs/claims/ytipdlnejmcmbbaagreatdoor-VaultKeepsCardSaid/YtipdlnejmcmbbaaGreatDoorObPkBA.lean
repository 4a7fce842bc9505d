/- Own texts, one behind the other. No condition. -/
import Derived.Test.YtipdlnejmcmbbaaGreatDoorObPkAZ
set_option linter.unusedVariables false
set_option maxRecDepth 100000
set_option maxHeartbeats 8000000
set_option linter.unusedSimpArgs false
namespace Go.Proofs.YtipdlnejmcmbbaaGreatDoor
section
open Go.RowKit Go.Shelf
attribute [local go_sem] Oper.semAt_some
structure ScI (w0 w:World) (L:Pl) (m:Mc) (a d l:Int) (life base pa pt pb pf:Nat) (G:Nat) (P:List (Nat×List UInt8)) (k:Nat) (W:World):Prop where
 ws:WF w0 L m a d l life base pa W
 g:Gr w W
 f:Blk W pf 29 [.int .i64 0]
 b:Blk W pb 284 [.pointer (some ⟨pt,0,none⟩)]
 o:(k≤P.length∧∃(v:Value) (R:List aU) (g0:Nat),Blk W pt 286 (fC (.slice none 0 0) v g0 0 (au a d l))∧(0<k→g0=G)∧Own w W 234 2 v k (R.flatMap aU.cells)∧R.map (fun x=>(x.k,x.r.l))=P.take k∧∀x∈R,QB L.kb W x.r.a x.r.n x.r.c x.r.l)∨
  (k=P.length+1∧∃(A:Option Addr) (c:Nat) (v:Value) (R:List aU),Blk W pt 286 (fC (.slice A 1 c) (.slice none 0 0) 0 k (au a d l))∧Own w W 190 2 (.slice A 1 c) 1 [v,.int .u64 (G:Int)]∧Own w W 234 2 v P.length (R.flatMap aU.cells)∧R.map (fun x=>(x.k,x.r.l))=P∧∀x∈R,QB L.kb W x.r.a x.r.n x.r.c x.r.l)
def FR (L:Pl) (a d l:Int) (life base h pf pb pt pa pq:Nat) (pg:Int) (x16 x17 x35 x36:Value):Array Value:=
 #[.pointer (some ⟨L.dp,0,none⟩),.pointer (some ⟨L.p,0,none⟩),.agg #[.int .i64 a,.int .i64 d,.int .i64 l],.int .u64 (life:Int),.int .i64 (base:Int),undef,undef,.pointer (some ⟨h,0,none⟩),undef,undef,.slice none 0 0,.int .i64 0,.pointer (some ⟨h+1,0,none⟩),.int .i64 0,.pointer (some ⟨pf,0,none⟩),.pointer (some ⟨pb,0,none⟩),x16,x17,
  .pointer (some ⟨L.dp,0,none⟩),.pointer (some ⟨L.p,0,none⟩),.agg #[.int .i64 a,.int .i64 d,.int .i64 l],.int .u64 (life:Int),.int .i64 (base:Int),
  .agg #[.pointer (some ⟨L.dp,0,none⟩),.pointer (some ⟨L.p,0,none⟩),.int .i64 a,.int .i64 d,.int .i64 l,.int .u64 (life:Int),.int .i64 (base:Int)],
  .agg #[.pointer (some ⟨L.dp,0,none⟩),.pointer (some ⟨L.p,0,none⟩),.int .i64 a,.int .i64 d,.int .i64 l,.int .u64 (life:Int),.int .i64 (base:Int)],
  .int .i64 0,.int .i64 0,.bool false,undef,.agg #[.int .i64 a,.int .i64 d,.int .i64 l],.int .i64 pg,.agg #[.slice none 0 0,.slice none 0 0,.int .u64 0,.int .u64 0,.int .i64 pg],.pointer (some ⟨pt,0,none⟩),
  .agg #[.pointer (some ⟨L.dp,0,none⟩),.pointer (some ⟨L.p,0,none⟩),.int .i64 a,.int .i64 d,.int .i64 l,.int .u64 (life:Int),.int .i64 (base:Int)],
  .func (.func 294) #[] #[.pointer (some ⟨pa,0,none⟩),.pointer (some ⟨pq,0,none⟩)],x35,x36,undef,undef,undef,undef,undef,undef,undef,undef,undef,undef,undef,undef]
def ScA (w:World) (L:Pl) (m:Mc) (a d l:Int) (life base pf pb pt pa pq:Nat) (pg:Int) (k:Nat) (args:Array Value) (a1:Act) (W:World):Prop:=
 ∃(A1:Option Addr) (c1 px:Nat),a1={tmps:=FR L a d l life base w.heap.size pf pb pt pa pq pg (.int .i64 (k:Int)) (.pointer (some ⟨px,0,none⟩)) (.int .i64 (k:Int)) (eH (bU m l base k).1 A1 c1),defers:=[]}∧w.heap.size≤px∧Blk W px 143 [.int .i64 ((bU m l base k).1.kind:Int),.int .u64 ((bU m l base k).1.life:Int),.int .i64 ((bU m l base k).1.seq:Int),.int .u64 ((bU m l base k).1.gen:Int),.slice A1 (bU m l base k).1.body.length c1]∧QB L.kb W A1 (bU m l base k).1.body.length c1 (bU m l base k).1.body
section
variable {w0 w w':World} {L:Pl} {m:Mc} {n:Nat} {a d l:Int} {life base pa pt pb pf G k:Nat} {P:List (Nat×List UInt8)} {W W':World}
theorem WF.gr {A A':World} (h:WF w0 L m a d l life base pa A) (g:Gr A A'):WF w0 L m a d l life base pa A':=⟨h.ms.mono g,g.blk h.ar⟩
theorem ScI.gr (h:ScI w0 w L m a d l life base pa pt pb pf G P k W) (g:Gr W W'):ScI w0 w L m a d l life base pa pt pb pf G P k W':=by
 refine⟨h.ws.gr g,h.g.trans g,g.blk h.f,g.blk h.b,?_⟩
 rcases h.o with⟨hk,v,R,g0,h1,h2,h3,h4,h5⟩| ⟨hk,A,c,v,R,h1,h2,h3,h4,h5⟩
 · exact .inl ⟨hk,v,R,g0,g.blk h1,h2,h3.mono g,h4,fun x hx=>(h5 x hx).mono g⟩
 · exact .inr ⟨hk,A,c,v,R,g.blk h1,h2.mono g,h3.mono g,h4,fun x hx=>(h5 x hx).mono g⟩
theorem ScI.dK (h:ScI w0 w L m a d l life base pa pt pb pf G P k W) {j:Nat} {r:Loop} (hj:W.heap[j]?=some (.loop r)) (hge:w.heap.size≤j) (h0:w0.heap.size≤w.heap.size) (o:Obj):ScI w0 w L m a d l life base pa pt pb pf G P k (W.putObj j o):=by
 refine⟨⟨h.ws.ms.dK hj Xf o,h.ws.ar.dK hj o⟩,mK h.g j o hge,h.f.dK hj o,h.b.dK hj o,?_⟩
 rcases h.o with⟨hk,v,R,g0,h1,h2,h3,h4,h5⟩| ⟨hk,A,c,v,R,h1,h2,h3,h4,h5⟩
 · exact .inl ⟨hk,v,R,g0,h1.dK hj o,h2,h3.dK hj hge o,h4,fun x hx=>(h5 x hx).dK hj o⟩
 · exact .inr ⟨hk,A,c,v,R,h1.dK hj o,h2.dK hj hge o,h3.dK hj hge o,h4,fun x hx=>(h5 x hx).dK hj o⟩
theorem ScI.turn {S:Nat→Prop} (hi:ScI w0 w L m a d l life base pa pt pb pf G P k W) (h0:w0.heap.size≤w.heap.size) (T:Tch S W W') (hS:∀b,S b→w.heap.size≤b) (hty:∀b,S b→∃t cs,Blk W b t cs∧(t=286∨t=234)):
 WF w0 L m a d l life base pa W'∧Gr w W'∧Blk W' pf 29 [.int .i64 0]∧Blk W' pb 284 [.pointer (some ⟨pt,0,none⟩)]∧KeepsOthers W W'∧∀(A:Option Addr) (n c:Nat) (b:List UInt8),QB L.kb W A n c b→QB L.kb W' A n c b:=by
 have ns:∀{b:Nat} {t:TypeId} {cs:List Value},Blk W b t cs→t≠286→t≠234→¬S b:=fun hb h1 h2 q=>by
  obtain⟨t',cs',hb',hh⟩:=hty _ q
  have :=bTy hb hb'
  subst this
  rcases hh with e|e
  · exact h1 e
  · exact h2 e
 refine⟨⟨hi.ws.ms.off T (fun b q=>Nat.le_trans h0 (hS b q)) (fun b q=> ?_),hi.ws.ar.tch T (ns hi.ws.ar Xg Xg)⟩,T.below hi.g hi.g.size hS,hi.f.tch T (ns hi.f Xg Xg),hi.b.tch T (ns hi.b Xg Xg),⟨T.size,fun j o hj hc=> ?_⟩,fun A n c b hq=>hq.gK T (fun x q=> ?_)⟩
 · obtain⟨t',cs',hb',hh⟩:=hty _ q
   refine⟨t',cs',hb',?_⟩
   rcases hh with e|e<;>subst e<;>unfold tyA tyM<;>decide
 · refine (T.keep j (Array.getElem?_eq_some_iff.1 hj).1 (fun q=> ?_)).trans hj
   obtain⟨t',cs',hb',_⟩:=hty _ q
   unfold Blk at hb'
   rw[hj] at hb'
   injection hb' with hb'
   rw[hb'] at hc
   cases hc
 · obtain⟨t',cs',hb',hh⟩:=hty _ q
   refine⟨t',cs',hb',?_⟩
   rcases hh with e|e<;>subst e<;>unfold tyB<;>decide
theorem Wm (hi:ScI w0 w L m a d l life base pa pt pb pf G P k W) (h0:w0.heap.size≤w.heap.size) (hpt:w.heap.size≤pt) (hk:k<P.length+1) (hP0:0<P.length) (hPl:P.length≤63)
 (hall:∀k p,P[k]?=some p→bU m l base k=(fQ 4 life 0 k G p.1 p.2,0)∧(p.1:Int)<au a d l∧p.2.length≤473) (hend:bU m l base P.length=(fQ 5 life 0 P.length G P.length [],0))
 (A:Option Addr) (c:Nat) (hq:QB L.kb W A (bU m l base k).1.body.length c (bU m l base k).1.body):
 Calls Tryz.prog 235 #[.pointer (some ⟨pt,0,none⟩),.int .i64 (k:Int),.agg #[.int .i64 ((bU m l base k).1.kind:Int),.int .u64 ((bU m l base k).1.life:Int),.int .i64 ((bU m l base k).1.seq:Int),.int .u64 ((bU m l base k).1.gen:Int),.slice A (bU m l base k).1.body.length c]] W fun e W'=>e= .returned (.bool true)∧KeepsOthers W W'∧ScI w0 w L m a d l life base pa pt pb pf G P (k+1) W':=by
 rcases hi.o with⟨hk1,v,R,g0,h1,h2,h3,h4,h5⟩| ⟨hk1,_⟩
 case inr=>omega
 obtain⟨Av,cv,rfl,sv⟩:=h3.slice
 rcases (show k<P.length∨k=P.length by omega) with hlt|rfl
 · obtain⟨⟨pn,b⟩,hp⟩:∃p,P[k]?=some p:=⟨_,List.getElem?_eq_getElem hlt⟩
   obtain⟨e1,e2,e3⟩:=hall k _ hp
   rw[e1] at hq ⊢
   have hbl:(fQ 4 life 0 k G pn b).body.length=6+b.length:=by simp only[fQ,List.length_append,aQ]
   have hb5:=(pgE a d l).2
   refine (FY L.kb pt life G k pn k b (au a d l) g0 (.slice Av k cv) R A _ c hbl e2 hb5 Xf e3 h1 h3 h2 hpt hq).mono ?_
   rintro e W2 ⟨rfl,v',A',c',r1,r2,r3,T⟩
   have hty:∀x,(x=pt∨Value.ownBlock (.slice Av k cv)=some x)→∃t cs,Blk W x t cs∧(t=286∨t=234):=fun x q=>by
    rcases q with q|q
    · rw[q];exact⟨_,_,h1,.inl rfl⟩
    · obtain⟨cs,z⟩:=h3.aA q
      exact⟨_,cs,z,.inr rfl⟩
   obtain⟨q1,q2,q3,q4,q5,q6⟩:=hi.turn h0 T (fun x q=>by
    rcases q with q|q
    · rw[q];exact hpt
    · exact h3.ge q) hty
   refine⟨rfl,q5,q1,q2,q3,q4,.inl ⟨hlt,v',R++ [aU.mk pn (aj.mk A' b.length c' b)],G,r1,fun _=>rfl,r2,?_,?_⟩⟩
   · rw[List.map_append,h4,List.take_add_one,hp]
     rfl
   · intro x hx
     rcases List.mem_append.1 hx with z|z
     · exact q6 _ _ _ _ (h5 x z)
     · rw[List.mem_singleton.1 z];exact r3
 · rw[hend] at hq ⊢
   have hbl:(fQ 5 life 0 P.length G P.length []).body.length=6:=by simp only[fQ,List.length_append,aQ,List.length_nil]
   rw[hbl] at hq ⊢
   have hgg:g0=G:=h2 hP0
   subst hgg
   refine (AX (w0:=w) pt life g0 P.length P.length (au a d l) Av cv A c Xf hP0 Xf h1 hq.b (Sl.cap sv) (Sl.max sv) hi.g hpt).mono ?_
   rintro e W2 ⟨rfl,A',c',r1,r2,T⟩
   obtain⟨q1,q2,q3,q4,q5,q6⟩:=hi.turn h0 T (fun x q=>by rw[q];exact hpt) (fun x q=>by rw[q];exact⟨_,_,h1,.inl rfl⟩)
   refine⟨rfl,q5,q1,q2,q3,q4,.inr ⟨rfl,A',c',_,R,r1,r2,?_,?_,fun x hx=>q6 _ _ _ _ (h5 x hx)⟩⟩
   · exact h3.tch T (fun x q=>by rw[q];exact hpt) (fun b q e=>by
      obtain⟨cs,z⟩:=h3.aA q
      rw[e] at z
      exact absurd (bTy z h1) Xg)
   · rw[h4,List.take_length]
theorem Jj (h:MSt w0 L m w) (f:Fit m a d l) (ho:m.Ok n) (hn:n≤90000) (hd:m.d.down=false) (hp:m.d.pend=[]) (life base G:Nat) (hl:life<18446744073709551616) (hb:base≤1073741824) (P:List (Nat×List UInt8)) (hP:((P.length+1:Nat):Int)=l) (hP0:0<P.length)
 (hall:∀k p,P[k]?=some p→bU m l base k=(fQ 4 life 0 k G p.1 p.2,0)∧(p.1:Int)<au a d l∧p.2.length≤473) (hend:bU m l base P.length=(fQ 5 life 0 P.length G P.length [],0)):
 Calls Tryz.prog 151 #[.pointer (some ⟨L.dp,0,none⟩),.pointer (some ⟨L.p,0,none⟩),.agg #[.int .i64 a,.int .i64 d,.int .i64 l],.int .u64 (life:Int),.int .i64 (base:Int)] w fun e w'=>∃(A:Option Addr) (c:Nat) (v:Value) (R:List aU),e= .returned (.tuple #[.slice A 1 c,.int .i64 0])∧Own w w' 190 2 (.slice A 1 c) 1 [v,.int .u64 (G:Int)]∧Own w w' 234 2 v P.length (R.flatMap aU.cells)∧R.map (fun x=>(x.k,x.r.l))=P∧∀x∈R,QB L.kb w' x.r.a x.r.n x.r.c x.r.l:=by
 refine (callsIn_wide (n:=6)).1 ?_
 refine callsIn_of_wp_marks Tryz.func151 rfl trivial ?_ rfl
 simp only[Tryz.ntmps151,List.size_toArray,List.length_cons,List.length_nil,Nat.reduceAdd,Nat.reduceSub,Array.replicate_succ,Array.replicate_zero,List.push_toArray,List.append_toArray,List.nil_append,List.cons_append]
 refine wpIn_wide.2 ?_
 obtain⟨h3,h4⟩:=f.g.l
 have hw2:∀k,k<P.length+1→(bU m l base k).2=0∧(bU m l base k).1.life=life∧(bU m l base k).1.seq=k:=fun k hk=>by
  rcases (show k<P.length∨k=P.length by omega) with q|q
  · rw[(hall k _ (List.getElem?_eq_getElem q)).1];exact⟨rfl,rfl,rfl⟩
  · rw[q,hend];exact⟨rfl,rfl,rfl⟩
 have H0:=Xh h;have HO:=Xh ho
 have HRI:=Xh (fun wr (g:Gr w wr)=>u6 (h.mono g) f life base hb)
 have HMK:=Xh (fun wr pf=>xX (L:=L) (a:=a) (d:=d) (l:=l) wr pf life base)
 have HGV:=Xh (fun pa pf W=>Br (w0:=w0) (L:=L) (m:=m) (n:=n) f ho hn hd hp life base hl hb pa pf (P.length+1) hP hw2 6 Xf W)
 have HPG:=Xh (fun wr=>jg a d l wr)
 have HAL:=Xh hall;have HEN:=Xh hend
 have HPM:=Xh (pgE a d l)
 obtain⟨pg,hpg⟩:∃pg,pg=au a d l:=⟨_,rfl⟩
 rw[←hpg] at HPG
 have HPGE:=Xh hpg
 have hPl:P.length≤63:=by omega
 have g0:Gr w ((w.alloc (.cells #[.int .i64 a,.int .i64 d,.int .i64 l] 23)).alloc (.cells #[.pointer (some ⟨L.dp,0,none⟩),.pointer (some ⟨L.p,0,none⟩),.int .i64 a,.int .i64 d,.int .i64 l,.int .u64 (life:Int),.int .i64 (base:Int)] 283)):=(Gr.alloc _ _).trans (Gr.alloc _ _)
 have bg:Blk ((w.alloc (.cells #[.int .i64 a,.int .i64 d,.int .i64 l] 23)).alloc (.cells #[.pointer (some ⟨L.dp,0,none⟩),.pointer (some ⟨L.p,0,none⟩),.int .i64 a,.int .i64 d,.int .i64 l,.int .u64 (life:Int),.int .i64 (base:Int)] 283)) w.heap.size 23 [.int .i64 a,.int .i64 d,.int .i64 l]:=(Blk.new w _ _).alloc _
 have ba:Blk ((w.alloc (.cells #[.int .i64 a,.int .i64 d,.int .i64 l] 23)).alloc (.cells #[.pointer (some ⟨L.dp,0,none⟩),.pointer (some ⟨L.p,0,none⟩),.int .i64 a,.int .i64 d,.int .i64 l,.int .u64 (life:Int),.int .i64 (base:Int)] 283)) (w.heap.size+1) 283 (EJ L a d l life base):=heap_alloc2_new w _ _
 obtain⟨W,hW⟩:∃W,W=(w.alloc (.cells #[.int .i64 a,.int .i64 d,.int .i64 l] 23)).alloc (.cells #[.pointer (some ⟨L.dp,0,none⟩),.pointer (some ⟨L.p,0,none⟩),.int .i64 a,.int .i64 d,.int .i64 l,.int .u64 (life:Int),.int .i64 (base:Int)] 283):=⟨_,rfl⟩
 rw[←hW] at g0 bg ba
 have G0:=Xh g0;have BG:=Xh bg;have BA:=Xh ba;have HW:=Xh hW
 have HN:=Xh hP;have HP0:=Xh hP0
 clear h f ho hd hp hall hend g0 bg ba hW hP hP0 hpg hw2
 go_wp2_with fail
 go_step3
 go_upto_region 2 with fail
 rw[←HW.out]
 have k0:=BA.out.cell 0
 have k1:=BA.out.cell 1
 have k2:=BA.out.cell 2
 have k3:=BA.out.cell 3
 have k4:=BA.out.cell 4
 have k5:=BA.out.cell 5
 have k6:=BA.out.cell 6
 go_wp2_with fail
 refine (HRI.out W G0.out).mono ?_
 rintro e w1 ⟨rfl,g1⟩
 have G1:=Xh (G0.out.trans g1)
 have BA1:=Xh (BA.out.mono g1)
 have BG1:=BG.out.mono g1
 have gz:Gr w1 (w1.alloc (.cells #[.int .i64 0] 29)):=Gr.alloc _ _
 have z0:=(BG1.mono gz).cell 0
 have z1:=(BG1.mono gz).cell 1
 have z2:=(BG1.mono gz).cell 2
 clear k0 k1 k2 k3 k4 k5 k6 g1 BG1
 go_wp2_with fail
 refine (HPG.out _).mono ?_
 rintro e w2 ⟨rfl,g2⟩
 have G12:=Xh (gz.trans g2)
 have G2:=Xh (G1.out.trans G12.out)
 have BF2:Hid (Blk w2 w1.heap.size 29 [.int .i64 0]):=(Blk.new w1 29 #[.int .i64 0]).mono g2
 have BA2:=Xh (BA1.out.mono G12.out)
 clear z0 z1 z2 gz g2
 go_upto_region 7 with fail
 go_step3
 have g3:Gr w2 ((w2.alloc (.cells #[.slice none 0 0,.slice none 0 0,.int .u64 0,.int .u64 0,.int .i64 pg] 286)).alloc (.cells #[.pointer (some ⟨w2.heap.size,0,none⟩)] 284)):=(Gr.alloc _ _).trans (Gr.alloc _ _)
 have br:Blk ((w2.alloc (.cells #[.slice none 0 0,.slice none 0 0,.int .u64 0,.int .u64 0,.int .i64 pg] 286)).alloc (.cells #[.pointer (some ⟨w2.heap.size,0,none⟩)] 284)) w2.heap.size 286 (fC (.slice none 0 0) (.slice none 0 0) 0 0 pg):=(Blk.new w2 _ _).alloc _
 have bb:Blk ((w2.alloc (.cells #[.slice none 0 0,.slice none 0 0,.int .u64 0,.int .u64 0,.int .i64 pg] 286)).alloc (.cells #[.pointer (some ⟨w2.heap.size,0,none⟩)] 284)) (w2.heap.size+1) 284 [.pointer (some ⟨w2.heap.size,0,none⟩)]:=heap_alloc2_new w2 _ _
 obtain⟨w3,hw3⟩:∃w3,w3=(w2.alloc (.cells #[.slice none 0 0,.slice none 0 0,.int .u64 0,.int .u64 0,.int .i64 pg] 286)).alloc (.cells #[.pointer (some ⟨w2.heap.size,0,none⟩)] 284):=⟨_,rfl⟩
 rw[←hw3] at g3 br bb
 have BR3:=Xh br;have BB3:=Xh bb;have G23:=Xh g3;have HW3:=Xh hw3
 have G3:=Xh (G2.out.trans g3)
 have BF3:=Xh (BF2.out.mono g3)
 have BA3:=BA2.out.mono g3
 clear g3 br bb hw3
 go_upto_region 7 with fail
 rw[←HW3.out]
 have k0:=BA3.cell 0
 have k1:=BA3.cell 1
 have k2:=BA3.cell 2
 have k3:=BA3.cell 3
 have k4:=BA3.cell 4
 have k5:=BA3.cell 5
 have k6:=BA3.cell 6
 go_wp2_with fail
 refine (HMK.out w3 _).mono ?_
 rintro e w4 ⟨pa,pq,rfl,g4,ha,hpa⟩
 have G4:=Xh (G3.out.trans g4)
 have BR4:=Xh (BR3.out.mono g4)
 have BB4:=Xh (BB3.out.mono g4)
 have BF4:=Xh (BF3.out.mono g4)
 have WF4:Hid (WF w0 L m a d l life base pa w4):=⟨H0.out.mono G4.out,ha⟩
 clear g4 ha k0 k1 k2 k3 k4 k5 k6 BA3
 have hg2:w.heap.size≤w1.heap.size:=G1.out.size
 have hg3:w.heap.size≤w2.heap.size:=G2.out.size
 go_wp2_with fail
 obtain⟨pb,hpb⟩:∃pb,pb=w2.heap.size+1:=⟨_,rfl⟩
 obtain⟨pt,hpt⟩:∃pt,pt=w2.heap.size:=⟨_,rfl⟩
 obtain⟨pf,hpf⟩:∃pf,pf=w1.heap.size:=⟨_,rfl⟩
 have hlt4:pt<w4.heap.size∧pb<w4.heap.size∧pf<w4.heap.size:=⟨by have :=BR4.out.lt;omega,by have :=BB4.out.lt;omega,by have :=BF4.out.lt;omega⟩
 rw[←hpb,←hpt] at BB4
 rw[←hpt,HPGE.out] at BR4
 rw[←hpf] at BF4
 rw[←hpb,←hpt,←hpf]
 have hb1:w.heap.size≤pb:=by omega
 have hb2:w.heap.size≤pt:=by omega
 have hb3:w.heap.size≤pf:=by omega
 clear hpb hpt hpf hg2 hg3 G12 BF2 BA1 BA2 BR3 BB3 HW3 G23 G3 BF3
 refine (wpIn_wide (n:=6)).1 ?_
 refine CF Xf (gf:=294) (lb:=#[.pointer (some ⟨pa,0,none⟩),.pointer (some ⟨pq,0,none⟩)]) rfl (enters_of Tryz.func294 Xe rfl) (P.length+1) (WF w0 L m a d l life base pa) (QN L m l base) (HGV.out pa pq w4)
  (fun k args W' ho=>by obtain⟨A1,c1,rfl,_⟩:=ho;rfl)
  (ScI w0 w L m a d l life base pa pt pb pf G P) (fun k A A' h g=>h.gr g) (fun k A h=>h.ws)
  (fun k W' j r o' h hj hl2=>h.dK hl2 (Nat.le_trans G4.out.size hj) H0.out.below.size o')
  ⟨WF4.out,G4.out,BF4.out,BB4.out,.inl ⟨Nat.zero_le _,.slice none 0 0,[],0,BR4.out,fun h=>absurd h Xf,Own.nil' G4.out _ _,rfl,fun r hr=>(by cases hr)⟩⟩
  (ScA w L m a d l life base pf pb pt pa pq pg)
  (fun k args a1 W' j r o' h hj hl2=>by
   obtain⟨A1,c1,px,h1,h2,h3,h4⟩:=h
   exact⟨A1,c1,px,h1,h2,h3.dK hl2 o',h4.dK hl2 o'⟩) ?assign ?body ?done
 case assign=>
  rintro q k args W' K hk hi ⟨A1,c1,rfl,q1⟩ hK
  have HK:=Xh hK
  have HI:=Xh hi
  have Q1:=Xh q1
  have HS:Hid (∀px,ScA w L m a d l life base pf pb pt pa pq pg k #[.int .i64 (k:Int),eH (bU m l base k).1 A1 c1] {tmps:=FR L a d l life base w.heap.size pf pb pt pa pq pg (.int .i64 (k:Int)) (.pointer (some ⟨px,0,none⟩)) (.int .i64 (k:Int)) (eH (bU m l base k).1 A1 c1),defers:=[]} (W'.alloc (.cells #[.int .i64 ((bU m l base k).1.kind:Int),.int .u64 ((bU m l base k).1.life:Int),.int .i64 ((bU m l base k).1.seq:Int),.int .u64 ((bU m l base k).1.gen:Int),.slice A1 (bU m l base k).1.body.length c1] 143))∨px≠W'.heap.size):=fun px=>by
   by_cases hpx:px=W'.heap.size
   · left
     rw[hpx]
     exact⟨A1,c1,_,rfl,hi.g.size,Blk.new W' _ _,q1.mono (Gr.alloc _ _)⟩
   · exact .inr hpx
  clear hK hi q1
  obtain⟨X,hX⟩:∃X,X=(bU m l base k).1:=⟨_,rfl⟩
  rw[←hX] at HS HK ⊢
  unfold eH
  have HXX:=Xh hX
  clear hX
  gi_wp2
  refine HK.out _ _ (Gr.alloc W' _) ((HS.out W'.heap.size).resolve_right (fun h=>h rfl))
 case body=>
  rintro q k args a1 W' hk hi ⟨A1,c1,px,rfl,hpx,hpg,q1⟩
  have HG:=Xh hi.g;have HWS:=Xh hi.ws;have HFB:=Xh hi.f;have HBB:=Xh hi.b;have HOO:=Xh hi.o;have HPG1:=Xh hpg;have Q1:=Xh q1
  have b0:=hi.b.cell 0
  have p0:=hpg.cell 0
  have p1:=hpg.cell 1
  have p2:=hpg.cell 2
  have p3:=hpg.cell 3
  have p4:=hpg.cell 4
  unfold FR
  apply wpIn_block
  apply wpIn_seq_k
  intro K1 hK1
  apply wpIn_region_lit
  refine lU (fun⟨a,w,h⟩=>h) _ _ _ rfl ?_
  have HTK:=Xh (Wm hi H0.out.below.size hb2 hk HP0.out hPl HAL.out HEN.out A1 c1 q1)
  clear hi hpg q1
  go_wp2_with fail
  refine HTK.out.mono ?_
  rintro e W2 ⟨rfl,q5,i2⟩
  go_wp2_with fail
  refine wpIn_cond_false rfl ?_
  apply wpIn_skip
  exact⟨q5,i2⟩
 case done=>
  rintro D W' hD hi hKd
  have HI:=Xh hi
  have HKD:=Xh hKd
  rcases hi.o with⟨hk1,_⟩| ⟨_,A,c,v,R,h1,h2,h3,h4,h5⟩
  · omega
  have p0:=hi.f.cell 0
  have b0:=hi.b.cell 0
  have r0:=h1.cell 0
  have H1:=Xh h1;have H2:=Xh h2;have H3:=Xh h3;have H4:=Xh h4;have H5:=Xh h5
  clear hi hKd h1 h2 h3 h4 h5
  simp only[Exit.then,Exit.inBlock]
  go_wp2_with fail
  refine⟨by simp,.inl ⟨_,_,rfl,run_takeDeferred HKD.out,?_⟩⟩
  refine⟨_,results_tmp2 rfl _ _ _,A,c,v,R,rfl,?_,?_,H4.out,fun x hx=>QB.put (H5.out x hx) HKD.out rfl _⟩
  · refine H2.out.tch (Tch.putObj W' D _) (fun b e=>by rw[e];have :=G4.out.size;omega) (fun b q e=> ?_)
    obtain⟨cs,z⟩:=H2.out.aA q
    unfold Blk at z
    rw[e,HKD.out] at z
    cases z
  · refine H3.out.tch (Tch.putObj W' D _) (fun b e=>by rw[e];have :=G4.out.size;omega) (fun b q e=> ?_)
    obtain⟨cs,z⟩:=H3.out.aA q
    unfold Blk at z
    rw[e,HKD.out] at z
    cases z
end
end
section
open Go.RowKit
abbrev aI (L:Pl) (a d l:Int) (x:Spr) (vl:Value) (next:Nat) (vp:Value) (due dead:Bool):List Value:=
 [.pointer (some ⟨L.dp,0,none⟩),.pointer (some ⟨L.p,0,none⟩),.int .i64 a,.int .i64 d,.int .i64 l,.int .u64 (x.life:Int),.int .i64 (x.base:Int),.int .u64 (x.gen:Int),vl,.int .i64 (next:Int),vp,.bool due,.bool dead]
def Mc.jD (m:Mc) (l:Int):Nat→Mc
 |0=>m
 |k+1=>((m.jD l k).write (gZ l k) aK).1
def Mc.jV (m:Mc) (l:Int):Mc:=(m.jD l l.toNat).flush.1
theorem p8 {m:Mc} {n:Nat} (l:Int) (h:m.Live) (ho:m.Ok n):∀k,(m.jD l k).Live∧(m.jD l k).Ok (n+k)∧(m.jD l k).d.kept.length=m.d.kept.length
 |0=>⟨h,ho,rfl⟩
 |k+1=>by
  obtain⟨h1,h2,h3⟩:=p8 l h ho k
  exact⟨(h1.write _ _).2,h2.write _ _,(gu _ _ _).trans h3⟩
section
variable {w0 w w':World} {L:Pl} {m:Mc} {n:Nat} {a d l:Int}
theorem nE {kb g:Nat} {cs:List Value} (k:KQ kb w w') (h:Blk w g 150 cs):Blk w' g 150 cs:=k.blk h Xi Xd
theorem rE (h:MSt w0 L m w) (f:Fit m a d l):Calls Tryz.prog 96 #[.pointer (some ⟨L.dp,0,none⟩),.pointer (some ⟨L.p,0,none⟩),.agg #[.int .i64 a,.int .i64 d,.int .i64 l]] w fun e w'=>e= .returned (.int .i64 0)∧Gr w w':=by
 obtain⟨W,hW⟩:∃W,W=w.alloc (.cells #[.int .i64 a,.int .i64 d,.int .i64 l] 23):=⟨_,rfl⟩
 have G0:Hid (Gr w W):=by rw[hW];exact Gr.alloc _ _
 have B0:Hid (Blk W w.heap.size 23 [.int .i64 a,.int .i64 d,.int .i64 l]):=by rw[hW];exact Blk.new w _ _
 have HW:=Xh hW;clear hW
 have HR:=Xh (fun wr=>gRa a d l wr)
 rw[f.g.r] at HR
 have HS:=Xh (fun wr=>kX a d l wr f.g)
 have HD:=Xh (fun wr (g:Gr w wr)=>(h.mono g).size)
 rw[f.s] at HD
 generalize dS a d l=q at *
 have t1:(q !=q)=false:=by simp
 clear h f
 go_in
 go_upto_region 3 with fail
 rw[←HW.out]
 refine wp_region_quiet (C:=fun w'=>Below (W).heap.size (W) w') Xe Xe (Below.refl _ _).drew ?_
 simp only
 repeat (first
  |go_big_quiet_skip
  |(go_big_quiet_want
    apply Exists.intro
    refine⟨fun wq hq=> ?_,?_⟩
    · (have k0:=(B0.out.mono hq).cell 0;have k1:=(B0.out.mono hq).cell 1;have k2:=(B0.out.mono hq).cell 2
       go_simp
       first
        |done
        |exact rfl
        |(with_reducible exact⟨rfl,rfl⟩)
        |(first|(go_at_call 84;exact (HR.out wq).mono fun e w2 ⟨he,hb⟩=>⟨he,bBo hq hb⟩)|(go_at_call 86;exact (HS.out wq).mono fun e w2 ⟨he,hb⟩=>⟨he,bBo hq hb⟩)|(go_at_call 85;exact (HD.out wq (G0.out.trans hq)).mono fun e w2 ⟨he,hb⟩=>⟨he,hb▸hq⟩)))
    go_simp
    go_big_quiet_on))
 refine wpQuiet_nil ?_
 intro wq hq
 go_wp2_with fail
 go_ret
 exact⟨rfl,G0.out.trans hq⟩
theorem Ed (g:Geo a d l) (N:Nat) (hN:(N:Int)=au a d l) (w:World):Calls Tryz.prog 97 #[.agg #[.int .i64 a,.int .i64 d,.int .i64 l]] w fun e w'=>∃b,e= .returned (.slice (some ⟨b,0,none⟩) N N)∧Gr w w'∧w.heap.size≤b∧Blk w' b 43 (List.replicate N (.slice none 0 0)):=by
 have hpl:=(pgE a d l).2
 have HPG:=Xh (fun wr=>jg a d l wr)
 rw[←hN] at HPG
 have G0:Hid (Gr w (w.alloc (.cells #[.int .i64 a,.int .i64 d,.int .i64 l] 23))):=Gr.alloc _ _
 obtain⟨Z,hZ⟩:∃Z,Z=(dX N (.slice none 0 0)).toArray:=⟨_,rfl⟩
 have hmk:∀W:World,(Instr.makeSlice 127 (.int .i64 (N:Int)) (.int .i64 (N:Int))).run Tryz.prog W= .ok (.slice (some ⟨W.heap.size,0,none⟩) N N) (W.alloc (.cells Z 43)):=fun W=>by rw[hZ];exact run_mk tBB rfl N Xf W
 have HZ:=Xh hZ
 clear hN hZ g
 go_in
 go_wp2_with fail
 refine (HPG.out _).mono ?_
 rintro e w1 ⟨rfl,g1⟩
 have G1:=Xh (G0.out.trans g1)
 clear g1
 go_wp2_with fail
 go_ret
 refine⟨_,rfl,G1.out.trans (Gr.alloc _ _),G1.out.size,?_⟩
 have :=Blk.new w1 43 Z
 rw[HZ.out] at this ⊢
 exact this
theorem Dy (h:MSt w0 L m w) (f:Fit m a d l) (hlv:m.Live) (ho:m.Ok n) (hn:n+66≤90000) (ps:Nat) (x:Spr) (vl vp:Value) (next:Nat) (due dead:Bool) (hs:Blk w ps 150 (aI L a d l x vl next vp due dead)):
 Calls Tryz.prog 101 #[.pointer (some ⟨ps,0,none⟩)] w fun e w'=>e= .returned (.int .i64 0)∧MSt w0 L (m.jV l) w'∧KQ L.kb w w':=by
 obtain⟨h3,h4⟩:=f.g.l
 obtain⟨N,hNl⟩:∃N:Nat,(N:Int)=l:=⟨l.toNat,Xf⟩
 have hN4:N≤64:=by omega
 have HLG:=Xh (fun (k:Nat) (wr:World) (hk:k≤64)=>FI a d l k wr f.g Xf)
 have HWA:=Xh (p8 l hlv ho)
 have HPLC:Hid (∀k,gZ l k<m.d.kept.length):=fun k=>by have :=(wH f.g k).1;have :=f.s;omega
 obtain⟨Z,hZ⟩:∃Z,Z=m.jV l:=⟨_,rfl⟩
 rw[←hZ]
 have HZ:Hid (Z=(m.jD l N).flush.1):=by show _=_;rw[hZ];unfold Mc.jV;rw[show l.toNat=N by omega]
 have HH:=Xh h;have HS:=Xh hs;have HNL:=Xh hNl
 have k4:=hs.cell 4
 clear h f hlv ho hs hZ hNl
 go_in
 go_wp2_with fail
 clear k4
 go_loopw [10] (fun i wr=>∃k:Nat,k≤N∧i= .int .i64 (k:Int)∧MSt w0 L (m.jD l k) wr∧KQ L.kb w wr) (fun i _=>N - (Go.RowKit.intOf i).toNat)
 case atStart=>exact⟨0,Nat.zero_le _,rfl,HH.out,KQ.refl _⟩
 case round=>
  obtain⟨k,hk,rfl,hm,hq⟩:=hrel
  have HM:=Xh hm;have HQ:=Xh hq
  clear hm hq
  obtain⟨s1,s2,s3⟩:=HWA.out k
  have HLV:=Xh s1;have HOK:=Xh s2;have HKP:=Xh s3
  clear s1 s2 s3
  have HS1:=Xh (nE HQ.out HS.out)
  by_cases hlt:k<N
  · have t:decide ((k:Int)<l)=true:=decide_eq_true (by have :=HNL.out;omega)
    have wk:IntKind.i64.wrap ((k:Int)+1)=(k:Int)+1:=IntWalk.i64_in _ Xf
    have HL1:=Xh (fun wr=>HLG.out k wr Xf)
    obtain⟨v,hv⟩:∃v,v=gZ l k:=⟨_,rfl⟩
    have hv':4+k % l.toNat=v:=by rw[hv];rfl
    rw[hv'] at HL1
    have hz:((m.jD l k).write v aK).2=0:=(HLV.out.write _ _).1
    have HR:Hid (m.jD l (k+1)=((m.jD l k).write v aK).1):=by show _=_;rw[hv];rfl
    have HVK:Hid (v<(m.jD l k).d.kept.length):=by show _<_;rw[HKP.out,hv];exact HPLC.out k
    obtain⟨r,hr⟩:∃r,r=(m.jD l k).write v aK:=⟨_,rfl⟩
    rw[←hr] at hz HR
    have HRE:=Xh hr
    clear hv hv' hr
    go_upto_region 4 with fail
    refine wrU (KQ L.kb) 143 (fun w w' h=>h.1) (fun w w' b cs h hb=>h.sec hb) Xe [0,1,3,7,0,16,48,112,0,496,1008,2047,4095] [.p 0,.p 1,.p 2,.p 4,.p 5,.p 6,.p 8,.q 3,.q 7,.c 9,.c 10,.t 11,.p 12] Xe (trivial) ?_
    refine gP ?_
    refine gP ?_
    refine gP ?_
    refine gP ?_
    refine gP ?_
    refine gP ?_
    refine gP ?_
    refine gQ (fun _ hq=>(HS1.out.mono (Xk hq)).cell 0) ?_
    refine gQ (fun _ hq=>And.intro ((HS1.out.mono (Xk hq)).cell 2) (And.intro ((HS1.out.mono (Xk hq)).cell 3) ((HS1.out.mono (Xk hq)).cell 4))) ?_
    refine gC ?_
    intro w3 g3 K hK
    refine (HL1.out w3).mono ?_
    rintro e wn ⟨rfl,g4⟩
    refine hK _ _ g4 ?_;have G4:=Xh (((Gr.drew wr).trans g3).trans g4);clear g3 g4 hK
    go_simp
    refine gC ?_
    intro w5 g5 K hK
    refine (qc w5).mono ?_
    rintro e wn ⟨A6,rfl,o6⟩
    refine hK _ _ o6.below ?_;have G6:=Xh ((G4.out.trans g5).trans (show Gr w5 wn from o6.below));have Q6:=Xh (QB.own (kb:=L.kb) o6);clear g5 o6 hK
    go_simp
    refine gT ?_
    intro w7 g7 K hK
    refine ((HM.out.mono (G6.out.trans g7)).write HOK.out Xf v HVK.out A6 512 aK (Q6.out.mono g7)).mono ?_
    rintro e wn ⟨rfl,h8,k8⟩
    refine hK _ _ k8 ?_;have K8:=Xh ((KQ.gr (kb:=L.kb) (G6.out.trans g7)).trans k8);rw[←HRE.out] at h8;have H8:=Xh h8;clear g7 h8 k8 hK;rw[←HRE.out,hz]
    go_simp
    refine gP ?_
    refine wNi fun w9 g9=> ?_
    have K9:=Xh (HQ.out.trans (K8.out.trans (KQ.gr g9)));have H9:=Xh (H8.out.mono g9)
    clear g9 hz
    go_wp2_with fail
    refine⟨⟨k+1,Xf,by go_num,by rw[HR.out];exact H9.out,K9.out⟩,by simp[Go.RowKit.intOf];omega⟩
  · obtain rfl:N=k:=by omega
    have t:decide ((N:Int)<l)=false:=decide_eq_false (by have :=HNL.out;omega)
    have HFL:=Xh (HM.out.flush HOK.out Xf)
    have hz:=HLV.out.flush.1
    have k0:=HS1.out.cell 0
    obtain⟨r,hr⟩:∃r,r=(m.jD l N).flush:=⟨_,rfl⟩
    rw[←hr] at HFL hz HZ
    clear hr
    go_wp2_with fail
    refine HFL.out.mono ?_
    rintro e w9 ⟨rfl,h9,k9⟩
    rw[hz]
    have H9:=Xh h9;have K9:=Xh (HQ.out.trans k9)
    clear h9 k9 hz
    go_wp2_with fail
    go_ret
    exact⟨rfl,by rw[HZ.out];exact H9.out,K9.out⟩
end
end
end Go.Proofs.YtipdlnejmcmbbaaGreatDoor
