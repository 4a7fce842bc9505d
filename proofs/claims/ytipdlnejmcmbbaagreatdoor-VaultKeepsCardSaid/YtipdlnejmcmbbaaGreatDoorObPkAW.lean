/- Own texts, one behind the other. No condition. -/
import Derived.Test.YtipdlnejmcmbbaaGreatDoorObPkAV
set_option linter.unusedVariables false
set_option maxRecDepth 100000
set_option maxHeartbeats 8000000
set_option linter.unusedSimpArgs false
namespace Go.Proofs.YtipdlnejmcmbbaaGreatDoor
section
open Go.RowKit Go.Shelf
attribute [local go_sem] Oper.semAt_some
def nL (life n:Nat) (X:Sec):Bool:=decide (X.kind=3∧X.life=life∧X.seq=n∧X.gen=0)
section
variable {w0 w w':World} {L:Pl} {m:Mc} {n:Nat} {a d l:Int}
theorem Mh (pa k life:Nat) (X:Sec) (A:Option Addr) (c:Nat) (w:World) (h1:Blk w pa 275 [.pointer (some ⟨L.dp,0,none⟩),.pointer (some ⟨L.p,0,none⟩),.int .i64 a,.int .i64 d,.int .i64 l,.int .u64 (life:Int)]):
 Calls Tryz.prog 291 #[.int .i64 (k:Int),.agg #[.int .i64 (X.kind:Int),.int .u64 (X.life:Int),.int .i64 (X.seq:Int),.int .u64 (X.gen:Int),.slice A X.body.length c],.pointer (some ⟨pa,0,none⟩)] w fun e w'=>e= .returned (.bool (nL life k X))∧Gr w w':=by
 have b2:=h1.alloc (.cells #[.int .i64 (X.kind:Int),.int .u64 (X.life:Int),.int .i64 (X.seq:Int),.int .u64 (X.gen:Int),.slice A X.body.length c] 143)
 have c3:=b2.cell 3
 have c3':=h1.cell 3
 have c5:=b2.cell 5
 have c5':=h1.cell 5
 have G0:Hid (Gr w (w.alloc (.cells #[.int .i64 (X.kind:Int),.int .u64 (X.life:Int),.int .i64 (X.seq:Int),.int .u64 (X.gen:Int),.slice A X.body.length c] 143))):=Gr.alloc _ _
 clear b2 h1
 obtain⟨R,hR⟩:∃R,R=nL life k X:=⟨_,rfl⟩
 rw[←hR]
 unfold nL at hR
 by_cases q1:X.kind=3
 case neg=>
  have t:((X.kind:Int)==3)=false:=by rw[beq_eq_false_iff_ne];omega
  have hr:R=false:=by rw[hR,decide_eq_false_iff_not];exact fun q=>q1 q.1
  subst hr
  clear q1 hR
  go_in
  go_wp2_with fail
  go_ret
  exact⟨rfl,G0.out⟩
 have t1:((X.kind:Int)==3)=true:=by rw[beq_iff_eq];omega
 by_cases q2:X.life=life
 case neg=>
  have t:((X.life:Int)==(life:Int))=false:=by rw[beq_eq_false_iff_ne];omega
  have hr:R=false:=by rw[hR,decide_eq_false_iff_not];exact fun q=>q2 q.2.1
  subst hr
  clear q1 q2 hR
  go_in
  go_wp2_with fail
  go_ret
  exact⟨rfl,G0.out⟩
 have t2:((X.life:Int)==(life:Int))=true:=by rw[beq_iff_eq];omega
 by_cases q3:X.seq=k
 case neg=>
  have t:((X.seq:Int)==(k:Int))=false:=by rw[beq_eq_false_iff_ne];omega
  have hr:R=false:=by rw[hR,decide_eq_false_iff_not];exact fun q=>q3 q.2.2.1
  subst hr
  clear q1 q2 q3 hR
  go_in
  go_wp2_with fail
  go_ret
  exact⟨rfl,G0.out⟩
 have t3:((X.seq:Int)==(k:Int))=true:=by rw[beq_iff_eq];omega
 by_cases q4:X.gen=0
 · have t:((X.gen:Int)==0)=true:=by rw[beq_iff_eq];omega
   have hr:R=true:=by rw[hR,decide_eq_true_eq];exact⟨q1,q2,q3,q4⟩
   subst hr
   clear q1 q2 q3 q4 hR
   go_in
   go_wp2_with fail
   go_ret
   exact⟨rfl,G0.out⟩
 · have t:((X.gen:Int)==0)=false:=by rw[beq_eq_false_iff_ne];omega
   have hr:R=false:=by rw[hR,decide_eq_false_iff_not];exact fun q=>q4 q.2.2.2
   subst hr
   clear q1 q2 q3 q4 hR
   go_in
   go_wp2_with fail
   go_ret
   exact⟨rfl,G0.out⟩
structure PF (w0:World) (L:Pl) (m:Mc) (a d l:Int) (life pa pt:Nat) (A:World):Prop where
 ms:MSt w0 L m A
 ar:Blk A pa 275 [.pointer (some ⟨L.dp,0,none⟩),.pointer (some ⟨L.p,0,none⟩),.int .i64 a,.int .i64 d,.int .i64 l,.int .u64 (life:Int)]
 th:Blk A pt 290 [.func (.func 291) #[] #[.pointer (some ⟨pa,0,none⟩)]]
def pgR (m:Mc) (a d l:Int) (life k:Nat):Sec×Nat:=dA m.S (dP a d l life k) (m.d.kept.getD (dP a d l life k) [])
def jW (m:Mc) (a d l:Int) (life k:Nat):Bool:=decide ((pgR m a d l life k).2=0) && nL life k (pgR m a d l life k).1
def MP (L:Pl) (m:Mc) (a d l:Int) (life:Nat) (k:Nat) (args:Array Value) (A:World):Prop:=
 ∃A1 c1,args=#[.int .i64 (k:Int),.agg #[.slice A1 (pgR m a d l life k).1.body.length c1,.bool (jW m a d l life k)]]∧QB L.kb A A1 (pgR m a d l life k).1.body.length c1 (pgR m a d l life k).1.body
theorem DF (f:Fit m a d l) (ho:m.Ok n) (hn:n≤90000) (hd:m.d.down=false) (hp:m.d.pend=[]) (life:Nat) (hl:life<18446744073709551616) (pa pf pt N:Nat) (hN:(N:Int)=au a d l) (nn:Nat) (hnn:3≤nn) (w:World):
 EL Tryz.prog nn N 292 #[.pointer (some ⟨pa,0,none⟩),.pointer (some ⟨pf,0,none⟩),.pointer (some ⟨pt,0,none⟩)] (PF w0 L m a d l life pa pt) (MP L m a d l life) w:=by
 intro q J W gW hJg hJF hJY h0
 have HJG:=Xh hJg;have HJF:=Xh hJF;have HJY:=Xh hJY
 have F0:=hJF 0 W h0
 have H0:=Xh h0
 have HPG:=Xh (fun wr=>jg a d l wr)
 rw[←hN] at HPG
 have HAR:Hid (∀(k:Nat) (wr:World),k<N→Calls Tryz.prog 293 #[.agg #[.int .i64 a,.int .i64 d,.int .i64 l],.int .u64 (life:Int),.int .i64 (k:Int)] wr fun e w'=>e= .returned (.int .i64 ((dP a d l life k:Nat):Int))∧Gr wr w'):=fun k wr hk=>by rw[yC f.g life k];exact BU a d l life k wr f.g hl Xf
 have HRE:=Xh (fun k wr (hk:k<N) (s:MSt w0 L m wr)=>s.read ho Xf hd hp (dP a d l life k) (m.d.kept.getD (dP a d l life k) []) (by
  have :=(yO f.g life k Xf).1
  have :=f.s
  rw[List.getD_eq_getElem?_getD,List.getElem?_eq_getElem (show dP a d l life k<_ by omega)];rfl))
 have HDE:=Xh (fun k wr (s:MSt w0 L m wr) A c b (hb:Bs wr A 512 c b)=>s.decode ho hn (dP a d l life k) A c b hb)
 have hN2:N≤264:=by have :=(pgE a d l).2;omega
 have HNE:=Xh hN
 clear f ho hd hp gW hJg hJF hJY h0 hN
 refine callsIn_of_wp Tryz.func292 rfl trivial ?_ rfl
 simp only[Tryz.ntmps292,List.size_toArray,List.length_cons,List.length_nil,Nat.reduceAdd,Nat.reduceSub,Array.replicate_succ,Array.replicate_zero,List.push_toArray,List.append_toArray,List.nil_append,List.cons_append]
 have hn1:1≤nn - 1:=by omega
 have k2:=F0.ar.cell 2
 have k3:=F0.ar.cell 3
 have k4:=F0.ar.cell 4
 clear F0
 gi_wp2_with (refine⟨trivial,?_⟩;gi_at_call 171;refine (callsIn_wide.2 (HPG.out _)).mono ?_;rintro e w1 ⟨rfl,g1⟩;have J1:=Xh (HJG.out _ _ _ H0.out g1);clear g1)
 clear k2 k3 k4
 gi_loopw [14] (fun i wr=>∃k:Nat,k≤N∧i= .int .i64 (k:Int)∧J k wr) (fun i _=>N - (Go.RowKit.intOf i).toNat)
 case atStart=>exact⟨0,Nat.zero_le _,rfl,J1.out⟩
 case round=>
  obtain⟨k,hk,rfl,hj⟩:=hrel
  have HJ:=Xh hj
  have F1:=HJF.out k wr hj
  clear hj
  by_cases hlt:k<N
  · have t:decide ((k:Int)<(N:Int))=true:=decide_eq_true Xf
    have wk:IntKind.i64.wrap ((k:Int)+1)=(k:Int)+1:=IntWalk.i64_in _ Xf
    obtain⟨v,hv⟩:∃v,v=dP a d l life k:=⟨_,rfl⟩
    have HA:=Xh (HAR.out k wr hlt)
    have HRK:=Xh (fun wq (s:MSt w0 L m wq)=>HRE.out k wq hlt s)
    have HDK:=Xh (fun wq (s:MSt w0 L m wq) A c (hb:Bs wq A 512 c (m.d.kept.getD (dP a d l life k) []))=>HDE.out k wq s A c _ hb)
    obtain⟨X,hX⟩:∃X,X=pgR m a d l life k:=⟨_,rfl⟩
    have hX':dA m.S (dP a d l life k) (m.d.kept.getD (dP a d l life k) [])=X:=by rw[hX];rfl
    rw[hX'] at HDK
    have HX:=Xh hX
    clear hX hX'
    rw[←hv] at HA HRK HDK
    have HV:=Xh hv
    clear hv
    have k2:=F1.ar.cell 2
    have k3:=F1.ar.cell 3
    have k4:=F1.ar.cell 4
    have k5:=F1.ar.cell 5
    clear F1
    gi_wp2_with (refine⟨trivial,?_⟩;gi_at_call 293;refine (callsIn_wide.2 HA.out).mono ?_;rintro e w2 ⟨rfl,g2⟩;have J2:=Xh (HJG.out _ _ _ HJ.out g2);have F2:=HJF.out _ _ J2.out;have k0:=F2.ar.cell 0;clear F2 g2)
    gi_wp2_with (refine⟨trivial,?_⟩;gi_at_call 236;refine (callsIn_wide.2 (HRK.out _ (HJF.out _ _ J2.out).ms)).mono ?_;rintro e w3 ⟨A3,c3,rfl,q3,g3⟩;have J3:=Xh (HJG.out _ _ _ J2.out g3);have Q3:=Xh q3.b;have F3:=HJF.out _ _ J3.out;have k1:=F3.ar.cell 1;clear F3 g3 q3)
    clear k0 k2 k3 k4 k5
    gi_wp2_with (refine⟨trivial,?_⟩;gi_at_call 237;refine (callsIn_wide.2 (HDK.out _ (HJF.out _ _ J3.out).ms A3 c3 Q3.out)).mono ?_;rintro e w4 ⟨A4,c4,rfl,o4⟩;have J4:=Xh (HJG.out _ _ _ J3.out o4.below);have O4:=Xh o4;clear o4;unfold eH)
    obtain⟨w5,hw5⟩:∃w5,w5=w4.alloc (.cells #[.int .i64 (X.1.kind:Int),.int .u64 (X.1.life:Int),.int .i64 (X.1.seq:Int),.int .u64 (X.1.gen:Int),.slice A4 X.1.body.length c4] 143):=⟨_,rfl⟩
    have K5:Hid (Blk w5 w4.heap.size 143 [.int .i64 (X.1.kind:Int),.int .u64 (X.1.life:Int),.int .i64 (X.1.seq:Int),.int .u64 (X.1.gen:Int),.slice A4 X.1.body.length c4]):=by rw[hw5];exact Blk.new w4 _ _
    have G45:Hid (Gr w4 w5):=by rw[hw5];exact Gr.alloc _ _
    have J5:=Xh (HJG.out _ _ _ J4.out G45.out)
    have Q5:Hid (QB L.kb w5 A4 X.1.body.length c4 X.1.body):=QB.own (w:=w3) (O4.out.mono G45.out)
    rw[←hw5]
    clear hw5 O4 G45
    have F5:=Xh (HJF.out _ _ J5.out)
    have HTH:=Xh (fun wq (g:Gr w5 wq)=>Mh (L:=L) (a:=a) (d:=d) (l:=l) pa k life X.1 A4 c4 wq (F5.out.ar.mono g))
    obtain⟨xs,xk⟩:=X
    simp only at HTH K5 Q5 HX
    by_cases hz:xk=0
    · have tz:((xk:Int)==0)=true:=by rw[beq_iff_eq];omega
      have HIS:Hid (jW m a d l life k=nL life k xs):=by show _=_;unfold jW;rw[←HX.out];simp[hz]
      obtain⟨tb,htb⟩:∃tb,tb=nL life k xs:=⟨_,rfl⟩
      rw[←htb] at HTH HIS
      clear hz htb
      refine IG.wrG Xe [0,0,0,4,0,16,48,112,112,112,1008,2032,4092,8191,16383] [.p 0,.p 1,.p 2,.p 4,.p 5,.p 6,.p 8,.q 3,.q 7,.q 9,.c 10,.p 11,.p 12,.s 13,.p 14] Xe (trivial) ?_
      refine gP ?_
      refine gP ?_
      refine gP ?_
      refine gP ?_
      refine gP ?_
      refine gP ?_
      refine gP ?_
      refine gQ (fun _ hq=>(K5.out.mono (Xk hq)).cell 4) ?_
      refine gQ (fun _ hq=>(F5.out.th.mono (Xk hq)).cell 0) ?_
      refine gQ (fun _ hq=>And.intro ((K5.out.mono (Xk hq)).cell 0) (And.intro ((K5.out.mono (Xk hq)).cell 1) (And.intro ((K5.out.mono (Xk hq)).cell 2) (And.intro ((K5.out.mono (Xk hq)).cell 3) ((K5.out.mono (Xk hq)).cell 4))))) ?_
      refine IG.jh rfl rfl ?_
      intro w6 g6 K hK
      unfold IG.opW
      go_simp
      refine (callsIn_wide.2 (HTH.out w6 ((Gr.drew _).trans g6))).mono ?_
      rintro e wn ⟨rfl,g7⟩
      refine hK _ _ g7 ?_;have G7:=Xh (((Gr.drew w5).trans g6).trans g7);clear g6 g7 hK
      go_simp
      refine gP ?_
      refine gP ?_
      refine IG.dV rfl rfl ?_
      intro w8 g8 K hK
      have J8:=HJG.out _ _ _ J5.out (G7.out.trans g8)
      have ok8:MP L m a d l life k #[.int .i64 (k:Int),.agg #[.slice A4 xs.body.length c4,.bool tb]] w8:=⟨A4,c4,by rw[HIS.out,←HX.out],by rw[←HX.out];exact Q5.out.mono (G7.out.trans g8)⟩
      obtain⟨fn,tmps,assign,body,hy,hR⟩:=HJY.out k _ w8 hlt J8 ok8
      have HRR:=Xh hR
      clear hR ok8 J8 g8
      unfold IG.opW
      go_simp
      refine HRR.out.mono ?_
      rintro e W9 ⟨rfl,j9⟩
      refine hK _ _ ?_
      clear hK HRR hy
      have J9:=Xh j9
      clear j9
      go_simp
      refine gP ?_
      refine wNi fun w10 g10=> ?_
      have J10:=Xh (HJG.out _ _ _ J9.out g10)
      clear g10
      gi_wp2
      exact⟨⟨k+1,Xf,by go_num,J10.out⟩,by simp[Go.RowKit.intOf];omega⟩
    · have tz:((xk:Int)==0)=false:=by rw[beq_eq_false_iff_ne];omega
      have HIS:Hid (jW m a d l life k=false):=by show _=_;unfold jW;rw[←HX.out];simp[hz]
      clear hz
      refine IG.wrG Xe [0,0,0,4,0,16,48,112,112,112,1008,2032,4092,8191,16383] [.p 0,.p 1,.p 2,.p 4,.p 5,.p 6,.p 8,.q 3,.q 7,.q 9,.c 10,.p 11,.p 12,.s 13,.p 14] Xe (trivial) ?_
      refine gP ?_
      refine gP ?_
      refine gP ?_
      refine gP ?_
      refine gP ?_
      refine gP ?_
      refine gS ?_
      refine gQ (fun _ hq=>(K5.out.mono (Xk hq)).cell 4) ?_
      refine gS ?_
      refine gS ?_
      refine gS ?_
      refine gP ?_
      refine gP ?_
      refine IG.dV rfl rfl ?_
      intro w8 g8 K hK
      have J8:=HJG.out _ _ _ J5.out ((Gr.drew _).trans g8)
      have ok8:MP L m a d l life k #[.int .i64 (k:Int),.agg #[.slice A4 xs.body.length c4,.bool false]] w8:=⟨A4,c4,by rw[HIS.out,←HX.out],by rw[←HX.out];exact Q5.out.mono ((Gr.drew _).trans g8)⟩
      obtain⟨fn,tmps,assign,body,hy,hR⟩:=HJY.out k _ w8 hlt J8 ok8
      have HRR:=Xh hR
      clear hR ok8 J8 g8
      unfold IG.opW
      go_simp
      refine HRR.out.mono ?_
      rintro e W9 ⟨rfl,j9⟩
      refine hK _ _ ?_
      clear hK HRR hy
      have J9:=Xh j9
      clear j9
      go_simp
      refine gP ?_
      refine wNi fun w10 g10=> ?_
      have J10:=Xh (HJG.out _ _ _ J9.out g10)
      clear g10
      gi_wp2
      exact⟨⟨k+1,Xf,by go_num,J10.out⟩,by simp[Go.RowKit.intOf];omega⟩
  · obtain rfl:N=k:=by omega
    have t:decide ((N:Int)<(N:Int))=false:=decide_eq_false Xf
    clear F1
    gi_wp2
    go_end0
    exact⟨⟨_,rfl⟩,HJ.out⟩
theorem zw (w:World) (pf life:Nat):Calls Tryz.prog 232 #[.agg #[.pointer (some ⟨L.dp,0,none⟩),.pointer (some ⟨L.p,0,none⟩),.int .i64 a,.int .i64 d,.int .i64 l,.int .u64 (life:Int)],.pointer (some ⟨pf,0,none⟩)] w fun e w'=>∃pa pg pt,e= .returned (.func (.func 292) #[] #[.pointer (some ⟨pa,0,none⟩),.pointer (some ⟨pg,0,none⟩),.pointer (some ⟨pt,0,none⟩)])∧Gr w w'∧
 Blk w' pa 275 [.pointer (some ⟨L.dp,0,none⟩),.pointer (some ⟨L.p,0,none⟩),.int .i64 a,.int .i64 d,.int .i64 l,.int .u64 (life:Int)]∧Blk w' pt 290 [.func (.func 291) #[] #[.pointer (some ⟨pa,0,none⟩)]]∧w.heap.size≤pa∧w.heap.size≤pt:=by
 go_in
 go_wp2_with fail
 go_ret
 have e1:∀(v:Value) (t:TypeId),Blk (w.alloc (.cells #[v] t)) w.heap.size t [v]:=fun v t=>Blk.new w t #[v]
 refine⟨w.heap.size,w.heap.size+1,w.heap.size+1+1,rfl,((Gr.alloc _ _).trans (Gr.alloc _ _)).trans (Gr.alloc _ _),((Blk.new w _ _).alloc _).alloc _,?_,Nat.le_refl _,Xf⟩
 have :=Blk.new ((w.alloc (.cells #[.pointer (some ⟨L.dp,0,none⟩),.pointer (some ⟨L.p,0,none⟩),.int .i64 a,.int .i64 d,.int .i64 l,.int .u64 (life:Int)] 275)).alloc (.cells #[.pointer (some ⟨pf,0,none⟩)] 279)) 290 #[.func (.func 291) #[] #[.pointer (some ⟨w.heap.size,0,none⟩)]]
 rwa[World.size_alloc,World.size_alloc] at this
end
end
section
open Go.RowKit Go.Shelf
attribute [local go_sem] Oper.semAt_some
theorem MSt.WV {S:Nat→Prop} {w0 w w':World} {L:Pl} {m:Mc} (h:MSt w0 L m w) (T:Tch S w w') (hS:∀b,S b→w0.heap.size≤b) (hc:∀b t cs,Blk w b t cs→¬S b) (hm:∀b es ck,w.heap[b]?=some (.map es ck)→¬S b):MSt w0 L m w':=by
 obtain⟨es,ck,he⟩:=h.sm.map
 obtain⟨es2,ck2,he2⟩:=h.sy.Mk
 obtain⟨vl,vs,ht⟩:=h.sy.t
 obtain⟨vP,vA,hd⟩:=h.dk
 obtain⟨xs,ha⟩:=hd.all
 have ow:∀{e:TypeId} {s n:Nat} {v:Value} {ys:List Value},Own w0 w e s v n ys→∀b,v.ownBlock=some b→¬S b:=fun o b q=>by
  obtain⟨cs,z⟩:=o.aA q
  exact hc _ _ _ z
 refine⟨⟨h.sy.blk.tch T (hc _ _ _ h.sy.blk),⟨vl,vs,⟨⟨ht.x.blk.tch T (hc _ _ _ ht.x.blk),ht.x.l.tch T hS (ow ht.x.l),ht.x.s.tch T hS (ow ht.x.s),ht.x.ge,ht.x.gm⟩,ht.m.keep (T.keep _ ht.m.lt (hm _ _ _ he2))⟩⟩,h.sy.i⟩,h.sm.keep (T.keep _ h.sm.lt (hm _ _ _ he)),h.nb,h.ge,vP,vA,⟨hd.blk.tch T (hc _ _ _ hd.blk),hd.kept.tch T (hc _ _ _ hd.kept),hd.k512,hd.pend.tch T hS (ow hd.pend),hd.p512,⟨xs,ha.tch T hS (ow ha)⟩,hd.gd,hd.gk⟩⟩
theorem Tch.putObj (w:World) (l:Nat) (o:Obj):Tch (fun b=>b=l) w (w.putObj l o):=
 ⟨Below.grown (Below.refl 0 w) (grownBy_putObj' w l o) (Nat.zero_le _) (fun k e=>Nat.zero_le _),fun b _ hn=>World.putObj_heap_other hn⟩
theorem MSt.dK {w0 W:World} {L:Pl} {m:Mc} {l:Nat} {r:Loop} (h:MSt w0 L m W) (hl:W.heap[l]?=some (.loop r)) (hge:w0.heap.size≤l) (o:Obj):MSt w0 L m (W.putObj l o):=
 h.WV (Tch.putObj W l o) (fun b e=>e▸hge) (fun b t cs hb e=>by unfold Blk at hb;rw[e,hl] at hb;cases hb) (fun b es ck hb e=>by rw[e,hl] at hb;cases hb)
theorem Blk.dK {W:World} {g l:Nat} {t:TypeId} {cs:List Value} {r:Loop} (h:Blk W g t cs) (hl:W.heap[l]?=some (.loop r)) (o:Obj):Blk (W.putObj l o) g t cs:=
 (World.putObj_heap_other (fun e=>by unfold Blk at h;rw[e,hl] at h;cases h)).trans h
theorem Own.dK {w0 W:World} {e:TypeId} {s n:Nat} {v:Value} {xs:List Value} {l:Nat} {r:Loop} (h:Own w0 W e s v n xs) (hl:W.heap[l]?=some (.loop r)) (hge:w0.heap.size≤l) (o:Obj):Own w0 (W.putObj l o) e s v n xs:=
 h.tch (Tch.putObj W l o) (fun b e=>e▸hge) (fun b q e=>by
  obtain⟨cs,z⟩:=h.aA q
  unfold Blk at z
  rw[e,hl] at z
  cases z)
theorem QB.dK {kb:Nat} {W:World} {A:Option Addr} {n c:Nat} {b:List UInt8} {l:Nat} {r:Loop} (h:QB kb W A n c b) (hl:W.heap[l]?=some (.loop r)) (o:Obj):QB kb (W.putObj l o) A n c b:=h.put hl rfl o
theorem PF.gr {w0:World} {L:Pl} {m:Mc} {a d l:Int} {life pa pt:Nat} {A A':World} (h:PF w0 L m a d l life pa pt A) (g:Gr A A'):PF w0 L m a d l life pa pt A':=⟨h.ms.mono g,g.blk h.ar,g.blk h.th⟩
theorem tBB:eB Tryz.prog 127 43 (.slice none 0 0) 1 24:=⟨Tryz.underlying127,by kernel_rfl,rfl,Xg,Xg⟩
structure RdI (w0 w:World) (L:Pl) (m:Mc) (a d l:Int) (life pa pt po pq:Nat) (k:Nat) (W:World):Prop where
 pf:PF w0 L m a d l life pa pt W
 g:Gr w W
 f:Blk W pq 29 [.int .i64 0]
 o:∃(v:Value) (R:List aj),Blk W po 127 [v]∧Own w W 43 1 v k (R.map aj.v)∧R.map aj.l=(List.range k).map (fun i=>(pgR m a d l life i).1.body)∧∀r∈R,QB L.kb W r.a r.n r.c r.l
theorem RdI.gr {w0 w:World} {L:Pl} {m:Mc} {a d l:Int} {life pa pt po pq k:Nat} {W W':World} (h:RdI w0 w L m a d l life pa pt po pq k W) (g:Gr W W'):RdI w0 w L m a d l life pa pt po pq k W':=by
 obtain⟨v,R,h1,h2,h3,h4⟩:=h.o
 exact⟨h.pf.gr g,h.g.trans g,g.blk h.f,v,R,g.blk h1,h2.mono g,h3,fun r hr=>(h4 r hr).mono g⟩
theorem RdI.dK {w0 w:World} {L:Pl} {m:Mc} {a d l:Int} {life pa pt po pq k:Nat} {W:World} (h:RdI w0 w L m a d l life pa pt po pq k W) {j:Nat} {r:Loop} (hj:W.heap[j]?=some (.loop r)) (hge:w.heap.size≤j) (h0:w0.heap.size≤w.heap.size) (o:Obj):RdI w0 w L m a d l life pa pt po pq k (W.putObj j o):=by
 obtain⟨v,R,h1,h2,h3,h4⟩:=h.o
 exact⟨⟨h.pf.ms.dK hj Xf o,h.pf.ar.dK hj o,h.pf.th.dK hj o⟩,mK h.g j o hge,h.f.dK hj o,v,R,h1.dK hj o,h2.dK hj hge o,h3,fun r hr=>(h4 r hr).dK hj o⟩
def NM (L:Pl) (a d l:Int) (life h pa pg pt:Nat) (x13 x26 x27:Value):Array Value:=
 #[.pointer (some ⟨L.dp,0,none⟩),.pointer (some ⟨L.p,0,none⟩),.agg #[.int .i64 a,.int .i64 d,.int .i64 l],.int .u64 (life:Int),undef,undef,.pointer (some ⟨h,0,none⟩),undef,.pointer (some ⟨h+1,0,none⟩),.pointer (some ⟨h+1+1,0,none⟩),.pointer (some ⟨h+1+1+1,0,none⟩),.int .i64 0,undef,x13,.pointer (some ⟨L.dp,0,none⟩),.pointer (some ⟨L.p,0,none⟩),.agg #[.int .i64 a,.int .i64 d,.int .i64 l],.int .u64 (life:Int),.agg #[.pointer (some ⟨L.dp,0,none⟩),.pointer (some ⟨L.p,0,none⟩),.int .i64 a,.int .i64 d,.int .i64 l,.int .u64 (life:Int)],.agg #[.pointer (some ⟨L.dp,0,none⟩),.pointer (some ⟨L.p,0,none⟩),.int .i64 a,.int .i64 d,.int .i64 l,.int .u64 (life:Int)],.int .i64 0,.int .i64 0,.bool false,undef,.agg #[.pointer (some ⟨L.dp,0,none⟩),.pointer (some ⟨L.p,0,none⟩),.int .i64 a,.int .i64 d,.int .i64 l,.int .u64 (life:Int)],.func (.func 292) #[] #[.pointer (some ⟨pa,0,none⟩),.pointer (some ⟨pg,0,none⟩),.pointer (some ⟨pt,0,none⟩)],x26,x27,undef,undef,undef,undef,undef,undef,undef,undef,undef,undef,undef,undef]
def RdA (w:World) (L:Pl) (m:Mc) (a d l:Int) (life pa pg pt:Nat) (k:Nat) (args:Array Value) (a1:Act) (W:World):Prop:=
 ∃(A1:Option Addr) (c1 px:Nat),a1={tmps:=NM L a d l life w.heap.size pa pg pt (.pointer (some ⟨px,0,none⟩)) (.int .i64 (k:Int)) (.agg #[.slice A1 (pgR m a d l life k).1.body.length c1,.bool (jW m a d l life k)]),defers:=[]}∧w.heap.size≤px∧Blk W px 281 [.slice A1 (pgR m a d l life k).1.body.length c1,.bool (jW m a d l life k)]∧QB L.kb W A1 (pgR m a d l life k).1.body.length c1 (pgR m a d l life k).1.body
theorem Hr {fn:Func} {p u:Tmp} (h:fn.results=#[.cell p 127,.cell u 29]) (tmps:Array Value) (w:World) (g g':Nat) (A:Option Addr) (n c:Nat) (q:Int) (hp:tmps.getD p undef= .pointer (some ⟨g,0,none⟩)) (hu:tmps.getD u undef= .pointer (some ⟨g',0,none⟩)) (hc:w.cell? ⟨g,0,none⟩=some (.slice A n c)) (hd:w.cell? ⟨g',0,none⟩=some (.int .i64 q)):
 (results fn tmps).run Tryz.prog w= .ok (.tuple #[.slice A n c,.int .i64 q]) w:=by
 have hp':tmps[p]?.getD undef= .pointer (some ⟨g,0,none⟩):=by simpa using hp
 have hu':tmps[u]?.getD undef= .pointer (some ⟨g',0,none⟩):=by simpa using hu
 simp only[results,h]
 simp[Sem.run_bind,hp',hu',asAddr]
 go_simp
section
variable {w0 w w':World} {L:Pl} {m:Mc} {n:Nat} {a d l:Int}
theorem Il (h:MSt w0 L m w) (f:Fit m a d l) (ho:m.Ok n) (hn:n≤90000) (hd:m.d.down=false) (hp:m.d.pend=[]) (life:Nat) (hl:life<18446744073709551616) (N:Nat) (hN:(N:Int)=au a d l) (hall:∀k,k<N→jW m a d l life k=true):
 Calls Tryz.prog 149 #[.pointer (some ⟨L.dp,0,none⟩),.pointer (some ⟨L.p,0,none⟩),.agg #[.int .i64 a,.int .i64 d,.int .i64 l],.int .u64 (life:Int)] w fun e w'=>∃(A:Option Addr) (c:Nat) (R:List aj),e= .returned (.tuple #[.slice A N c,.int .i64 0])∧Own w w' 43 1 (.slice A N c) N (R.map aj.v)∧R.map aj.l=(List.range N).map (fun i=>(pgR m a d l life i).1.body)∧∀r∈R,QB L.kb w' r.a r.n r.c r.l:=by
 refine (callsIn_wide (n:=6)).1 ?_
 refine callsIn_of_wp_marks Tryz.func149 rfl trivial ?_ rfl
 simp only[Tryz.ntmps149,List.size_toArray,List.length_cons,List.length_nil,Nat.reduceAdd,Nat.reduceSub,Array.replicate_succ,Array.replicate_zero,List.push_toArray,List.append_toArray,List.nil_append,List.cons_append]
 refine wpIn_wide.2 ?_
 have H0:=Xh h;have HF:=Xh f;have HO:=Xh ho
 have HRI:=Xh (fun wr (g:Gr w wr)=>tL (h.mono g) f life)
 have HMK:=Xh (fun wr pf=>zw (L:=L) (a:=a) (d:=d) (l:=l) wr pf life)
 have HGV:=Xh (fun pa pf pt W=>DF (w0:=w0) (L:=L) (m:=m) (n:=n) f ho hn hd hp life hl pa pf pt N hN 6 Xf W)
 have HAL:=Xh hall
 have g0:Gr w ((((w.alloc (.cells #[.int .i64 a,.int .i64 d,.int .i64 l] 23)).alloc (.cells #[.slice none 0 0] 127)).alloc (.cells #[.int .i64 0] 29)).alloc (.cells #[.pointer (some ⟨L.dp,0,none⟩),.pointer (some ⟨L.p,0,none⟩),.int .i64 a,.int .i64 d,.int .i64 l,.int .u64 (life:Int)] 275)):=(((Gr.alloc _ _).trans (Gr.alloc _ _)).trans (Gr.alloc _ _)).trans (Gr.alloc _ _)
 have bo:Blk ((((w.alloc (.cells #[.int .i64 a,.int .i64 d,.int .i64 l] 23)).alloc (.cells #[.slice none 0 0] 127)).alloc (.cells #[.int .i64 0] 29)).alloc (.cells #[.pointer (some ⟨L.dp,0,none⟩),.pointer (some ⟨L.p,0,none⟩),.int .i64 a,.int .i64 d,.int .i64 l,.int .u64 (life:Int)] 275)) (w.heap.size+1) 127 [.slice none 0 0]:=by
  have :=((Blk.new (w.alloc (.cells #[.int .i64 a,.int .i64 d,.int .i64 l] 23)) 127 #[.slice none 0 0]).alloc (.cells #[.int .i64 0] 29)).alloc (.cells #[.pointer (some ⟨L.dp,0,none⟩),.pointer (some ⟨L.p,0,none⟩),.int .i64 a,.int .i64 d,.int .i64 l,.int .u64 (life:Int)] 275)
  rwa[World.size_alloc] at this
 have bf:Blk ((((w.alloc (.cells #[.int .i64 a,.int .i64 d,.int .i64 l] 23)).alloc (.cells #[.slice none 0 0] 127)).alloc (.cells #[.int .i64 0] 29)).alloc (.cells #[.pointer (some ⟨L.dp,0,none⟩),.pointer (some ⟨L.p,0,none⟩),.int .i64 a,.int .i64 d,.int .i64 l,.int .u64 (life:Int)] 275)) (w.heap.size+1+1) 29 [.int .i64 0]:=by
  have :=(Blk.new ((w.alloc (.cells #[.int .i64 a,.int .i64 d,.int .i64 l] 23)).alloc (.cells #[.slice none 0 0] 127)) 29 #[.int .i64 0]).alloc (.cells #[.pointer (some ⟨L.dp,0,none⟩),.pointer (some ⟨L.p,0,none⟩),.int .i64 a,.int .i64 d,.int .i64 l,.int .u64 (life:Int)] 275)
  rwa[World.size_alloc,World.size_alloc] at this
 have ba:Blk ((((w.alloc (.cells #[.int .i64 a,.int .i64 d,.int .i64 l] 23)).alloc (.cells #[.slice none 0 0] 127)).alloc (.cells #[.int .i64 0] 29)).alloc (.cells #[.pointer (some ⟨L.dp,0,none⟩),.pointer (some ⟨L.p,0,none⟩),.int .i64 a,.int .i64 d,.int .i64 l,.int .u64 (life:Int)] 275)) (w.heap.size+1+1+1) 275 [.pointer (some ⟨L.dp,0,none⟩),.pointer (some ⟨L.p,0,none⟩),.int .i64 a,.int .i64 d,.int .i64 l,.int .u64 (life:Int)]:=by
  have :=Blk.new (((w.alloc (.cells #[.int .i64 a,.int .i64 d,.int .i64 l] 23)).alloc (.cells #[.slice none 0 0] 127)).alloc (.cells #[.int .i64 0] 29)) 275 #[.pointer (some ⟨L.dp,0,none⟩),.pointer (some ⟨L.p,0,none⟩),.int .i64 a,.int .i64 d,.int .i64 l,.int .u64 (life:Int)]
  rwa[World.size_alloc,World.size_alloc,World.size_alloc] at this
 obtain⟨W,hW⟩:∃W,W=((((w.alloc (.cells #[.int .i64 a,.int .i64 d,.int .i64 l] 23)).alloc (.cells #[.slice none 0 0] 127)).alloc (.cells #[.int .i64 0] 29)).alloc (.cells #[.pointer (some ⟨L.dp,0,none⟩),.pointer (some ⟨L.p,0,none⟩),.int .i64 a,.int .i64 d,.int .i64 l,.int .u64 (life:Int)] 275)):=⟨_,rfl⟩
 rw[←hW] at g0 bo bf ba
 have G0:=Xh g0;have BO:=Xh bo;have BF:=Xh bf;have BA:=Xh ba;have HW:=Xh hW
 have HN:=Xh hN
 clear h f ho hd hp hall g0 bo bf ba hW hN
 go_upto_region 2 with fail
 rw[←HW.out]
 have k0:=BA.out.cell 0
 have k1:=BA.out.cell 1
 have k2:=BA.out.cell 2
 have k3:=BA.out.cell 3
 have k4:=BA.out.cell 4
 have k5:=BA.out.cell 5
 go_wp2_with fail
 refine (HRI.out W G0.out).mono ?_
 rintro e w1 ⟨rfl,g1⟩
 have G1:=Xh (G0.out.trans g1)
 have BA1:=BA.out.mono g1
 have BO1:=Xh (BO.out.mono g1)
 have BF1:=Xh (BF.out.mono g1)
 clear k0 k1 k2 k3 k4 k5 g1
 have k0:=BA1.cell 0
 have k1:=BA1.cell 1
 have k2:=BA1.cell 2
 have k3:=BA1.cell 3
 have k4:=BA1.cell 4
 have k5:=BA1.cell 5
 clear BA1
 go_wp2_with fail
 refine (HMK.out w1 _).mono ?_
 rintro e w2 ⟨pa,pg,pt,rfl,g2,ha,ht,hpa,hpt⟩
 have G2:=Xh (G1.out.trans g2)
 have BO2:=Xh (BO1.out.mono g2)
 have BF2:=Xh (BF1.out.mono g2)
 have PF2:Hid (PF w0 L m a d l life pa pt w2):=⟨H0.out.mono G2.out,ha,ht⟩
 clear g2 ha ht k0 k1 k2 k3 k4 k5
 go_wp2_with fail
 refine (wpIn_wide (n:=6)).1 ?_
 refine CF Xf (gf:=292) (lb:=#[.pointer (some ⟨pa,0,none⟩),.pointer (some ⟨pg,0,none⟩),.pointer (some ⟨pt,0,none⟩)]) rfl (enters_of Tryz.func292 Xe rfl) N (PF w0 L m a d l life pa pt) (MP L m a d l life) (HGV.out pa pg pt w2)
  (fun k args W' ho=>by obtain⟨A1,c1,rfl,_⟩:=ho;rfl)
  (RdI w0 w L m a d l life pa pt (w.heap.size+1) (w.heap.size+1+1)) (fun k A A' h g=>h.gr g) (fun k A h=>h.pf)
  (fun k W' j r o' h hj hl2=>h.dK hl2 (Nat.le_trans G2.out.size hj) H0.out.below.size o')
  ⟨PF2.out,G2.out,BF2.out,.slice none 0 0,[],BO2.out,Own.nil' G2.out _ _,rfl,fun r hr=>(by cases hr)⟩
  (RdA w L m a d l life pa pg pt)
  (fun k args a1 W' j r o' h hj hl2=>by
   obtain⟨A1,c1,px,h1,h2,h3,h4⟩:=h
   exact⟨A1,c1,px,h1,h2,h3.dK hl2 o',h4.dK hl2 o'⟩) ?assign ?body ?done
 case assign=>
  rintro q k args W' K hk hi ⟨A1,c1,rfl,q1⟩ hK
  have HK:=Xh hK
  have HI:=Xh hi
  have Q1:=Xh q1
  clear hK hi q1
  obtain⟨bl,hbl⟩:∃bl,bl=(pgR m a d l life k).1.body.length:=⟨_,rfl⟩
  obtain⟨is,his⟩:∃is,is=jW m a d l life k:=⟨_,rfl⟩
  rw[←hbl,←his]
  have HB:=Xh hbl;have HIS:=Xh his
  clear hbl his
  gi_wp2
  refine HK.out _ _ (Gr.alloc W' (.cells #[.slice A1 bl c1,.bool is] 281)) ⟨A1,c1,W'.heap.size,?_,Nat.le_trans HI.out.g.size (Nat.le_refl _),?_,Q1.out.mono (Gr.alloc _ _)⟩
  · rw[←HB.out,←HIS.out];rfl
  · rw[←HB.out,←HIS.out];exact Blk.new W' _ _
 case body=>
  rintro q k args a1 W' hk hi ⟨A1,c1,px,rfl,hpx,hpg,q1⟩
  obtain⟨v,R,ho,how,hmp,hqb⟩:=hi.o
  have HIS:=HAL.out k hk
  rw[HIS] at hpg ⊢
  have HG:=Xh hi.g;have HPF:=Xh hi.pf;have HFB:=Xh hi.f;have HO2:=Xh ho;have HOW:=Xh how;have HMP:=Xh hmp;have HQB:=Xh hqb;have HPG:=Xh hpg;have Q1:=Xh q1
  have p0:=hpg.cell 0
  have p1:=hpg.cell 1
  have o0:=ho.cell 0
  have fo:=Blk.free ho 0
  have hkN:k≤264:=by have :=(pgE a d l).2;have :=HN.out;omega
  have hml:R.length=k:=by have :=congrArg List.length hmp;simpa using this
  have HML:=Xh hml
  clear hi ho how hmp hqb hpg q1 HIS hml
  obtain⟨bd,hbd⟩:∃bd,bd=(pgR m a d l life k).1.body:=⟨_,rfl⟩
  rw[←hbd] at p0 HPG Q1 ⊢
  have HBD:=Xh hbd
  clear hbd
  unfold NM
  apply wpIn_block
  apply wpIn_seq_k
  intro K1 hK1
  apply wpIn_seq_k
  intro K2 hK2
  apply wpIn_region_lit
  refine lU (fun⟨a,w,h⟩=>h) _ _ _ rfl ?_
  go_wp2_with fail
  refine wpIn_cond_false rfl ?_
  apply wpIn_skip
  refine hK1 _ _ ?_
  clear hK1
  apply wpIn_region_lit
  refine lU (fun⟨a,w,h⟩=>h) _ _ _ rfl ?_
  go_wp2_with (at_builtin;refine nW rfl (.tmp 31) (.tmp 34) 127 rfl tBB rfl HOW.out #[.slice A1 bd.length c1] rfl rfl (fun u hu=>by rw[List.mem_singleton.1 hu];rfl) Xf ?_;intro v5 w5 o5 k5;obtain⟨A5,e5,rfl,_⟩:=o5.slice;have O5:=Xh o5;have K5:=Xh k5;have g5:Gr W' (W'.alloc (.cells #[.slice A1 bd.length c1] 43)):=Gr.alloc _ _;have po5:=(k5.1 _ (g5.blk HO2.out).lt (bZ (HOW.out.mono g5) (g5.blk HO2.out) Xg)).trans (g5.blk HO2.out);have PO5:Hid (Blk w5 (w.heap.size+1) 127 [v]):=po5;have y0:=PO5.out.cell 0;have y1:=Blk.free PO5.out 0;clear o5 k5 po5 g5)
  have gA:Gr W' (W'.alloc (.cells #[.slice A1 bd.length c1] 43)):=Gr.alloc _ _
  obtain⟨W1,hW1⟩:∃W1,W1=W'.alloc (.cells #[.slice A1 bd.length c1] 43):=⟨_,rfl⟩
  rw[←hW1] at K5 gA
  obtain⟨w6,hw6⟩:∃w6,w6=w5.setCell ⟨w.heap.size+1,0,none⟩ (.slice A5 (k+1) e5):=⟨_,rfl⟩
  have T5:Tch (fun b=>v.ownBlock=some b∨b=w.heap.size+1) W1 w5:=⟨gJ (HOW.out.mono gA).below O5.out.below K5.out.2.1,fun b hl hn=>K5.out.1 b hl (fun q=>hn (.inl q))⟩
  have T6:Tch (fun b=>v.ownBlock=some b∨b=w.heap.size+1) W1 w6:=T5.trans (by rw[hw6];exact Tch.set ⟨w.heap.size+1,0,none⟩ _ (.inr rfl))
  have hS:∀b,(v.ownBlock=some b∨b=w.heap.size+1)→w.heap.size≤b:=fun b q=>by
   rcases q with q|q
   · exact HOW.out.ge q
   · omega
  have hty:∀b,(v.ownBlock=some b∨b=w.heap.size+1)→∃t cs,Blk W1 b t cs∧(t=43∨t=127):=fun b q=>by
   rcases q with q|q
   · obtain⟨cs,z⟩:=(HOW.out.mono gA).aA q
     exact⟨_,cs,z,.inl rfl⟩
   · rw[q];exact⟨_,_,gA.blk HO2.out,.inr rfl⟩
  have ns:∀{b:Nat} {t:TypeId} {cs:List Value},Blk W1 b t cs→t≠43→t≠127→¬(v.ownBlock=some b∨b=w.heap.size+1):=fun hb h1 h2 q=>by
   obtain⟨t',cs',hb',hh⟩:=hty _ q
   have :=bTy hb hb'
   subst this
   rcases hh with e|e
   · exact h1 e
   · exact h2 e
  have ntb:∀b,(v.ownBlock=some b∨b=w.heap.size+1)→∃t cs,Blk W1 b t cs∧¬tyB t:=fun b q=>by
   obtain⟨t',cs',hb',hh⟩:=hty _ q
   refine⟨t',cs',hb',?_⟩
   rcases hh with e|e<;>subst e<;>unfold tyB<;>decide
  have PF1:=HPF.out.gr gA
  have MS6:MSt w0 L m w6:=PF1.ms.off T6 (fun b q=>Nat.le_trans H0.out.below.size (hS b q)) (fun b q=>by
   obtain⟨t',cs',hb',hh⟩:=hty _ q
   refine⟨t',cs',hb',?_⟩
   rcases hh with e|e<;>subst e<;>unfold tyA tyM<;>decide)
  rw[←hw6]
  refine⟨⟨Nat.le_trans gA.size T6.size,fun j o hj hc=> ?_⟩,⟨⟨MS6,PF1.ar.tch T6 (ns PF1.ar Xg Xg),PF1.th.tch T6 (ns PF1.th Xg Xg)⟩,T6.below (HG.out.trans gA) (HG.out.trans gA).size hS,(gA.blk HFB.out).tch T6 (ns (gA.blk HFB.out) Xg Xg),.slice A5 (k+1) e5,R++ [⟨A1,bd.length,c1,bd⟩],?_,?_,?_,?_⟩⟩
  · have h1:=(gA.block j (Array.getElem?_eq_some_iff.1 hj).1).trans hj
    refine (T6.keep j (Array.getElem?_eq_some_iff.1 h1).1 (fun q=> ?_)).trans h1
    obtain⟨t',cs',hb',_⟩:=hty _ q
    unfold Blk at hb'
    rw[h1] at hb'
    injection hb' with hb'
    rw[hb'] at hc
    cases hc
  · rw[hw6];exact PO5.out.set 0 _
  · have o6:=O5.out
    have :=o6.tch (S:=fun b=>b=w.heap.size+1) (by rw[hw6];exact Tch.set ⟨w.heap.size+1,0,none⟩ _ rfl:Tch _ w5 w6) (fun b e=>by rw[e];omega) (fun b q e=>by
     obtain⟨cs,z⟩:=o6.aA q
     rw[e] at z
     exact absurd (bTy z PO5.out) Xg)
    rw[List.map_append]
    exact this
  · rw[List.map_append,HMP.out,List.range_succ,List.map_append]
    show _++ [bd]=_++ [(pgR m a d l life k).1.body]
    rw[HBD.out]
  · intro r hr
    rcases List.mem_append.1 hr with q|q
    · exact ((HQB.out r q).mono gA).gK T6 ntb
    · rw[List.mem_singleton.1 q]
      exact (Q1.out.mono gA).gK T6 ntb
 case done=>
  rintro D W' hD hi hKd
  obtain⟨v,R,ho,how,hmp,hqb⟩:=hi.o
  obtain⟨A5,e5,rfl,_⟩:=how.slice
  have HG:=Xh hi.g;have HFB:=Xh hi.f;have HO2:=Xh ho;have HOW:=Xh how;have HMP:=Xh hmp;have HQB:=Xh hqb;have HKD:=Xh hKd
  have o0:=ho.cell 0
  have fo:=Blk.free ho 0
  have p0:=hi.f.cell 0
  have fp:=Blk.free hi.f 0
  have D1:w.heap.size+1+1<D:=by
   have :=Blk.lt (show Blk w2 (w.heap.size+1+1) _ _ from BF2.out)
   omega
  clear hi ho how hmp hqb hKd
  simp only[Exit.then,Exit.inBlock]
  go_wp2_with fail
  obtain⟨w8,hw8⟩:∃w8,w8=(W'.setCell ⟨w.heap.size+1,0,none⟩ (.slice A5 N e5)).setCell ⟨w.heap.size+1+1,0,none⟩ (.int .i64 0):=⟨_,rfl⟩
  have T8:Tch (fun b=>b=w.heap.size+1∨b=w.heap.size+1+1) W' w8:=by rw[hw8];exact (Tch.set ⟨w.heap.size+1,0,none⟩ _ (.inl rfl)).trans (Tch.set ⟨w.heap.size+1+1,0,none⟩ _ (.inr rfl))
  have K8:w8.heap[D]?=some (.deferred (some [])):=(T8.keep D (Array.getElem?_eq_some_iff.1 HKD.out).1 Xf).trans HKD.out
  have B48:Blk w8 (w.heap.size+1) 127 [.slice A5 N e5]:=by rw[hw8];exact (HO2.out.set 0 _).far (p:=⟨w.heap.size+1+1,0,none⟩) (by show w.heap.size+1≠w.heap.size+1+1;omega) _
  have B58:Blk w8 (w.heap.size+1+1) 29 [.int .i64 0]:=by rw[hw8];exact (HFB.out.far (p:=⟨w.heap.size+1,0,none⟩) (by show w.heap.size+1+1≠w.heap.size+1;omega) _).set 0 _
  rw[←hw8]
  refine⟨by simp,.inl ⟨_,_,rfl,run_takeDeferred K8,?_⟩⟩
  have n1:w.heap.size+1≠D:=by omega
  have n2:w.heap.size+1+1≠D:=by omega
  refine⟨_,Hr rfl _ _ (w.heap.size+1) (w.heap.size+1+1) A5 N e5 0 rfl rfl (bC0 (jB B48 n1 _)) (bC0 (jB B58 n2 _)),?_⟩
  have O8:=HOW.out.tch T8 (fun b e=>by rcases e with e|e<;>omega) (fun b q e=>by
   obtain⟨cs,z⟩:=HOW.out.aA q
   rcases e with e|e
   · rw[e] at z;exact absurd (bTy z HO2.out) Xg
   · rw[e] at z;exact absurd (bTy z HFB.out) Xg)
  refine⟨A5,e5,R,rfl,?_,HMP.out,fun r hr=> ?_⟩
  · refine O8.tch (Tch.putObj w8 D _) (fun b e=>by rw[e];omega) (fun b q e=> ?_)
    obtain⟨cs,z⟩:=O8.aA q
    unfold Blk at z
    rw[e,K8] at z
    cases z
  · refine QB.put ((HQB.out r hr).gK T8 (fun b e=> ?_)) K8 rfl _
    rcases e with e|e
    · rw[e];exact⟨_,_,HO2.out,by unfold tyB;decide⟩
    · rw[e];exact⟨_,_,HFB.out,by unfold tyB;decide⟩
end
end
end Go.Proofs.YtipdlnejmcmbbaaGreatDoor
