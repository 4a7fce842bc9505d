/- Own texts, one behind the other. No condition. -/
import Derived.Test.YtipdlnejmcmbbaaGreatDoorObPkAT
set_option linter.unusedVariables false
set_option maxRecDepth 100000
set_option maxHeartbeats 8000000
set_option linter.unusedSimpArgs false
namespace Go.Proofs.YtipdlnejmcmbbaaGreatDoor
section
open Go.RowKit
def rootKey (S:List (List UInt8)) (gen:Nat) (b:List UInt8):Option (List UInt8):=
 if (dA S (gen % 2) b).2=0∧(dA S (gen % 2) b).1.kind=1∧(dA S (gen % 2) b).1.life=0∧(dA S (gen % 2) b).1.seq=0∧(dA S (gen % 2) b).1.gen=gen∧(dA S (gen % 2) b).1.body.length=32 then some (dA S (gen % 2) b).1.body else none
theorem Jc {S:List (List UInt8)} {gen:Nat} {b key:List UInt8} (h:rootKey S gen b=some key):key.length=32:=by
 unfold rootKey at h
 split at h
 · next hc=>injection h with h;rw[←h];exact hc.2.2.2.2.2
 · cases h
section
variable {w0 w w':World} {L:Pl} {m:Mc} {n:Nat} {a d l:Int}
theorem CV {w:World} {g:Nat} {t:TypeId} {X:Sec} {A:Option Addr} {c:Nat} (h:Blk w g t (dJ X A c).toList):w.cell? ⟨g,0,none⟩=some (.int .i64 (X.kind:Int))∧w.cell? ⟨g,1,none⟩=some (.int .u64 (X.life:Int))∧w.cell? ⟨g,2,none⟩=some (.int .i64 (X.seq:Int))∧w.cell? ⟨g,3,none⟩=some (.int .u64 (X.gen:Int))∧w.cell? ⟨g,4,none⟩=some (.slice A X.body.length c):=⟨h.cell 0,h.cell 1,h.cell 2,h.cell 3,h.cell 4⟩
theorem FV (pk px pg k gen:Nat) (X:Sec) (A:Option Addr) (c:Nat) (w:World) (h1:Blk w pk 29 [.int .i64 (k:Int)]) (h2:Blk w px 143 (dJ X A c).toList) (h3:Blk w pg 95 [.int .u64 (gen:Int)]):
 Calls Tryz.prog 238 #[.pointer (some ⟨pk,0,none⟩),.pointer (some ⟨px,0,none⟩),.pointer (some ⟨pg,0,none⟩)] w fun e w'=>e= .returned (.bool (decide (k=0∧X.kind=1∧X.life=0∧X.seq=0∧X.gen=gen∧X.body.length=32)))∧w=w':=by
 have c1:=h1.cell 0
 obtain⟨x0,x1,x2,x3,x4⟩:=CV h2
 have c3:=h3.cell 0
 clear h1 h2 h3
 obtain⟨R,hR⟩:∃R,R=decide (k=0∧X.kind=1∧X.life=0∧X.seq=0∧X.gen=gen∧X.body.length=32):=⟨_,rfl⟩
 rw[←hR]
 by_cases q1:k=0
 case neg=>
  have t:((k:Int)==0)=false:=by rw[beq_eq_false_iff_ne];omega
  have hr:R=false:=by rw[hR,decide_eq_false_iff_not];exact fun q=>q1 q.1
  subst hr
  clear q1 hR
  go_in
  go_wp2_with fail
  go_ret
  exact⟨rfl,rfl⟩
 have t1:((k:Int)==0)=true:=by rw[beq_iff_eq];omega
 by_cases q2:X.kind=1
 case neg=>
  have t:((X.kind:Int)==1)=false:=by rw[beq_eq_false_iff_ne];omega
  have hr:R=false:=by rw[hR,decide_eq_false_iff_not];exact fun q=>q2 q.2.1
  subst hr
  clear q1 q2 hR
  go_in
  go_wp2_with fail
  go_ret
  exact⟨rfl,rfl⟩
 have t2:((X.kind:Int)==1)=true:=by rw[beq_iff_eq];omega
 by_cases q3:X.life=0
 case neg=>
  have t:((X.life:Int)==0)=false:=by rw[beq_eq_false_iff_ne];omega
  have hr:R=false:=by rw[hR,decide_eq_false_iff_not];exact fun q=>q3 q.2.2.1
  subst hr
  clear q1 q2 q3 hR
  go_in
  go_wp2_with fail
  go_ret
  exact⟨rfl,rfl⟩
 have t3:((X.life:Int)==0)=true:=by rw[beq_iff_eq];omega
 by_cases q4:X.seq=0
 case neg=>
  have t:((X.seq:Int)==0)=false:=by rw[beq_eq_false_iff_ne];omega
  have hr:R=false:=by rw[hR,decide_eq_false_iff_not];exact fun q=>q4 q.2.2.2.1
  subst hr
  clear q1 q2 q3 q4 hR
  go_in
  go_wp2_with fail
  go_ret
  exact⟨rfl,rfl⟩
 have t4:((X.seq:Int)==0)=true:=by rw[beq_iff_eq];omega
 by_cases q5:X.gen=gen
 case neg=>
  have t:((X.gen:Int)==(gen:Int))=false:=by rw[beq_eq_false_iff_ne];omega
  have hr:R=false:=by rw[hR,decide_eq_false_iff_not];exact fun q=>q5 q.2.2.2.2.1
  subst hr
  clear q1 q2 q3 q4 q5 hR
  go_in
  go_wp2_with fail
  go_ret
  exact⟨rfl,rfl⟩
 have t5:((X.gen:Int)==(gen:Int))=true:=by rw[beq_iff_eq];omega
 by_cases q6:X.body.length=32
 · have t:((X.body.length:Int)==32)=true:=by rw[beq_iff_eq];omega
   have hr:R=true:=by rw[hR,decide_eq_true_eq];exact⟨q1,q2,q3,q4,q5,q6⟩
   subst hr
   clear q1 q2 q3 q4 q5 q6 hR
   go_in
   go_wp2_with fail
   go_ret
   exact⟨rfl,rfl⟩
 · have t:((X.body.length:Int)==32)=false:=by rw[beq_eq_false_iff_ne];omega
   have hr:R=false:=by rw[hR,decide_eq_false_iff_not];exact fun q=>q6 q.2.2.2.2.2
   subst hr
   clear q1 q2 q3 q4 q5 q6 hR
   go_in
   go_wp2_with fail
   go_ret
   exact⟨rfl,rfl⟩
theorem Ji (h:MSt w0 L m w) (ho:m.Ok n) (hn:n≤90000) (hd:m.d.down=false) (hp:m.d.pend=[]) (gen:Nat) (hg:gen<18446744073709551616) (b:List UInt8) (hb:m.d.kept[gen % 2]?=some b):
 Calls Tryz.prog 153 #[.pointer (some ⟨L.dp,0,none⟩),.pointer (some ⟨L.p,0,none⟩),.int .u64 (gen:Int)] w fun e w'=>∃A c,e= .returned (.tuple #[.slice A ((rootKey m.S gen b).getD []).length c,.int .i64 (if (rootKey m.S gen b).isSome=true then 0 else 11)])∧Own w w' 5 1 (.slice A ((rootKey m.S gen b).getD []).length c) ((rootKey m.S gen b).getD []).length (((rootKey m.S gen b).getD []).map u8c):=by
 obtain⟨R,hR⟩:∃R,R=rootKey m.S gen b:=⟨_,rfl⟩
 rw[←hR]
 unfold rootKey at hR
 obtain⟨D,hD⟩:∃D,D=dA m.S (gen % 2) b:=⟨_,rfl⟩
 rw[←hD] at hR
 have HRT:=Xh (fun wr=>pX gen wr hg)
 have HRE:=Xh (fun wr (g:Gr w wr)=>(h.mono g).read ho Xf hd hp (gen % 2) b hb)
 have HDE:=Xh (fun wr (g:Gr w wr) A c (s:Bs wr A 512 c b)=>(h.mono g).decode ho hn (gen % 2) A c b s)
 rw[←hD] at HDE
 obtain⟨v,hv⟩:∃v,v=gen % 2:=⟨_,rfl⟩
 rw[←hv] at HRT HRE HDE
 have HR:=Xh hR
 obtain⟨X,k⟩:=D
 simp only at HR HDE
 have G0:Hid (Gr w (w.alloc (.cells #[.int .u64 (gen:Int)] 95))):=Gr.alloc _ _
 have B0:Hid (Blk (w.alloc (.cells #[.int .u64 (gen:Int)] 95)) w.heap.size 95 [.int .u64 (gen:Int)]):=Blk.new w _ _
 clear h ho hd hp hb hR hD hv
 go_in
 go_wp2_with fail
 refine (HRT.out _).mono ?_
 rintro e w1 ⟨rfl,h1⟩
 subst h1
 go_wp2_with fail
 refine (HRE.out _ G0.out).mono ?_
 rintro e w2 ⟨A2,c2,rfl,q2,g2⟩
 have G2:=Xh (G0.out.trans g2)
 have B2:=Xh (B0.out.mono g2)
 have Q2:=Xh q2.b
 clear g2 q2
 go_wp2_with fail
 refine (HDE.out _ G2.out A2 c2 Q2.out).mono ?_
 rintro e w3 ⟨A3,c3,rfl,o3⟩
 have G3:=Xh (G2.out.trans o3.below)
 have B3:=Xh (B2.out.mono o3.below)
 have O3:=Xh (o3.base G2.out)
 clear o3
 unfold eH
 go_wp2_with fail
 have g4:Gr w3 ((w3.alloc (.cells (dJ X A3 c3) 143)).alloc (.cells #[.int .i64 (k:Int)] 29)):=(Gr.alloc _ _).trans (Gr.alloc _ _)
 have b4:Blk ((w3.alloc (.cells (dJ X A3 c3) 143)).alloc (.cells #[.int .i64 (k:Int)] 29)) w3.heap.size 143 (dJ X A3 c3).toList:=(Blk.new w3 _ _).alloc _
 have b5:Blk ((w3.alloc (.cells (dJ X A3 c3) 143)).alloc (.cells #[.int .i64 (k:Int)] 29)) (w3.heap.size+1) 29 [.int .i64 (k:Int)]:=heap_alloc2_new w3 _ _
 change Calls _ _ _ ((w3.alloc (.cells (dJ X A3 c3) 143)).alloc (.cells #[.int .i64 (k:Int)] 29)) _
 obtain⟨w4,hw4⟩:∃w4,w4=(w3.alloc (.cells (dJ X A3 c3) 143)).alloc (.cells #[.int .i64 (k:Int)] 29):=⟨_,rfl⟩
 rw[←hw4] at g4 b4 b5 ⊢
 have G4:=Xh (G3.out.trans g4);have O4:=Xh (O3.out.mono g4)
 obtain⟨_,_,_,_,x4⟩:=CV b4
 refine (FV (w3.heap.size+1) w3.heap.size w.heap.size k gen X A3 c3 w4 b5 b4 (B3.out.mono g4)).mono ?_
 rintro e w5 ⟨rfl,h5⟩
 subst h5
 obtain⟨q,hq⟩:∃q,q=decide (k=0∧X.kind=1∧X.life=0∧X.seq=0∧X.gen=gen∧X.body.length=32):=⟨_,rfl⟩
 rw[←hq]
 have HQ:=Xh hq
 clear hq hw4 g4 b4 b5
 cases q
 · have hr:R=none:=by rw[HR.out,if_neg (decide_eq_false_iff_not.1 HQ.out.symm)]
   subst hr
   go_wp2_with fail
   go_ret2
   exact⟨none,0,rfl,Own.nil' G4.out _ _⟩
 · have hr:R=some X.body:=by rw[HR.out,if_pos (of_decide_eq_true HQ.out.symm)]
   subst hr
   go_wp2_with fail
   go_ret2
   exact⟨A3,c3,rfl,O4.out⟩
theorem DZ (h:MSt w0 L m w) (ho:m.Ok n) (hn:n≤90000) (hd:m.d.down=false) (hp:m.d.pend=[]) (gen:Nat) (hg:gen<18446744073709551616) (b:List UInt8) (hb:m.d.kept[gen % 2]?=some b):
 Calls Tryz.prog 154 #[.pointer (some ⟨L.dp,0,none⟩),.int .u64 (gen:Int)] w fun e w'=>e= .returned (.tuple #[.bool (b==aK),.int .i64 0])∧Gr w w':=by
 have HRT:=Xh (fun wr=>pX gen wr hg)
 have HRE:=Xh (h.read ho Xf hd hp (gen % 2) b hb)
 obtain⟨v,hv⟩:∃v,v=gen % 2:=⟨_,rfl⟩
 rw[←hv] at HRT HRE
 clear h ho hd hp hb hv
 obtain⟨q,hq⟩:∃q,q=(b==aK):=⟨_,rfl⟩
 rw[←hq]
 go_in
 go_wp2_with fail
 refine (HRT.out _).mono ?_
 rintro e w1 ⟨rfl,h1⟩
 subst h1
 go_wp2_with fail
 refine HRE.out.mono ?_
 rintro e w2 ⟨A2,c2,rfl,q2,g2⟩
 have HI:=Xh (xw A2 512 c2 b w2 q2.b)
 rw[←hq] at HI
 have G2:=Xh g2
 clear g2 q2 hq
 go_wp2_with fail
 refine HI.out.mono ?_
 rintro e w3 ⟨rfl,g3⟩
 have G3:Hid (Gr w w3):=G2.out.trans g3
 clear g3
 go_wp2_with fail
 go_ret2
 exact⟨rfl,G3.out⟩
theorem u64_xor (a b:Nat) (ha:a<2 ^ 64) (hb:b<2 ^ 64):bits .xor .u64 (a:Int) (b:Int)=((a ^^^ b:Nat):Int):=by
 have hx:a ^^^ b<2 ^ 64:=Nat.xor_lt_two_pow ha hb
 show IntKind.u64.wrap ((BitVec.ofInt 64 (a:Int) ^^^ BitVec.ofInt 64 (b:Int)).toNat:Int)=_
 rw[BitVec.toNat_xor,qm 64 a ha,qm 64 b hb,IntKind.wrap_u64]
 omega
end
def Mc.settle (m:Mc) (gen:Nat):(Mc×Int)×List UInt8:=
 match rootKey m.S gen (m.d.kept.getD (gen % 2) []) with
 |none=>((m,11),[])
 |some key=>if m.d.kept.getD ((gen ^^^ 1) % 2) []=aK then ((m,0),key) else (m.aL (gen ^^^ 1),if (m.aL (gen ^^^ 1)).2=0 then key else [])
def SQ (w0 w:World) (L:Pl) (r:(Mc×Int)×List UInt8) (e:Ending) (w':World):Prop:=∃A c,e= .returned (.tuple #[.slice A r.2.length c,.int .i64 r.1.2])∧QB L.kb w' A r.2.length c r.2∧MSt w0 L r.1.1 w'∧KQ L.kb w w'
section
variable {w0 w w':World} {L:Pl} {m:Mc} {n:Nat} {a d l:Int}
theorem AU (h:MSt w0 L m w) (ho:m.Ok n) (hn:n+2≤90000) (hd:m.d.down=false) (hp:m.d.pend=[]) (hk:2≤m.d.kept.length) (gen:Nat) (hg:gen<18446744073709551616):
 Calls Tryz.prog 79 #[.pointer (some ⟨L.dp,0,none⟩),.pointer (some ⟨L.p,0,none⟩),.int .u64 (gen:Int)] w (SQ w0 w L (m.settle gen)):=by
 have hb0:m.d.kept[gen % 2]?=some (m.d.kept.getD (gen % 2) []):=by
  have :=Nat.mod_lt gen (show 0<2 by decide)
  rw[List.getD_eq_getElem?_getD,List.getElem?_eq_getElem (show gen % 2<_ by omega)];rfl
 have hb1:m.d.kept[(gen ^^^ 1) % 2]?=some (m.d.kept.getD ((gen ^^^ 1) % 2) []):=by
  have :=Nat.mod_lt (gen ^^^ 1) (show 0<2 by decide)
  rw[List.getD_eq_getElem?_getD,List.getElem?_eq_getElem (show (gen ^^^ 1) % 2<_ by omega)];rfl
 have hx:gen ^^^ 1<18446744073709551616:=Nat.xor_lt_two_pow (n:=64) hg Xg
 have hxor:bits .xor .u64 (gen:Int) 1=((gen ^^^ 1:Nat):Int):=u64_xor gen 1 hg Xg
 have HGE:=Xh (Ji h ho Xf hd hp gen hg _ hb0)
 have HBL:=Xh (fun wr (g:Gr w wr)=>DZ (h.mono g) ho Xf hd hp (gen ^^^ 1) hx _ hb1)
 have HER:=Xh (fun wr (g:Gr w wr)=>mW (h.mono g) ho Xf hk (gen ^^^ 1) hx)
 obtain⟨R,hR⟩:∃R,R=m.settle gen:=⟨_,rfl⟩
 rw[←hR]
 unfold Mc.settle at hR
 obtain⟨K,hK⟩:∃K,K=rootKey m.S gen (m.d.kept.getD (gen % 2) []):=⟨_,rfl⟩
 obtain⟨b,hb⟩:∃b,b=m.d.kept.getD ((gen ^^^ 1) % 2) []:=⟨_,rfl⟩
 rw[←hb] at hR HBL
 rw[←hK] at hR HGE
 have HKL:Hid (∀key,K=some key→key.length=32):=fun key e=>Jc (hK.symm.trans e)
 obtain⟨r,hr⟩:∃r,r=m.aL (gen ^^^ 1):=⟨_,rfl⟩
 rw[←hr] at hR HER
 obtain⟨o,ho2⟩:∃o,o=gen ^^^ 1:=⟨_,rfl⟩
 rw[←ho2] at HBL HER hxor
 have HR:=Xh hR
 have HH:=Xh h
 clear h ho hd hp hb0 hb1 hR hK hb hr ho2 hx
 go_in
 go_wp2_with fail
 refine HGE.out.mono ?_
 rintro e w1 ⟨A1,c1,rfl,o1⟩
 have G1:Hid (Gr w w1):=o1.below
 cases K with
 |none=>
  clear o1
  simp only[Option.isSome_none,Bool.false_eq_true,if_false,Option.getD_none]
  go_wp2_with fail
  go_ret2
  rw[HR.out]
  exact⟨none,0,rfl,QB.nil _ _,HH.out.mono G1.out,KQ.gr G1.out⟩
 |some key=>
  have Q1:Hid (QB L.kb w1 A1 key.length c1 key):=QB.own (w:=w) o1
  clear o1
  simp only[Option.isSome_some,if_true,Option.getD_some]
  go_wp2_with fail
  refine (HBL.out w1 G1.out).mono ?_
  rintro e w2 ⟨rfl,g2⟩
  have G2:=Xh (G1.out.trans g2)
  have Q2:=Xh (Q1.out.mono g2)
  clear g2
  by_cases hbl:b=aK
  · have t:(b==aK)=true:=beq_iff_eq.2 hbl
    have hr:R=((m,0),key):=by rw[HR.out];rw[if_pos hbl]
    subst hr
    rw[t]
    clear t hbl
    go_wp2_with fail
    go_ret2
    exact⟨A1,c1,rfl,Q2.out,HH.out.mono G2.out,KQ.gr G2.out⟩
  · have t:(b==aK)=false:=beq_eq_false_iff_ne.2 hbl
    obtain⟨ky,hky⟩:∃ky,ky=if r.2=0 then key else []:=⟨_,rfl⟩
    have hr:R=(r,ky):=by rw[HR.out,hky];rw[if_neg hbl]
    have HKY:=Xh hky
    clear hky
    subst hr
    rw[t]
    clear t hbl
    go_wp2_with fail
    refine (HER.out w2 G2.out).mono ?_
    rintro e w3 ⟨rfl,h3,k3⟩
    have H3:=Xh h3;have K3:=Xh ((KQ.gr (kb:=L.kb) G2.out).trans k3);have Q3:=Xh (Q2.out.kq k3)
    clear h3 k3
    by_cases hf:r.2=0
    · have HF:=Xh hf
      have hk2:ky=key:=by rw[HKY.out,if_pos hf]
      subst hk2
      rw[hf]
      clear hf
      go_wp2_with fail
      go_ret2
      exact⟨A1,c1,by rw[HF.out];rfl,Q3.out,H3.out,K3.out⟩
    · have hk2:ky=[]:=by rw[HKY.out,if_neg hf]
      subst hk2
      obtain⟨q,hq⟩:∃q,q=r.2:=⟨_,rfl⟩
      rw[←hq] at hf ⊢
      have t:(q !=0)=true:=by rw[bne_iff_ne];exact hf
      have HQ:=Xh hq
      clear hf hq
      go_wp2_with fail
      go_ret2
      exact⟨none,0,by rw[←HQ.out];rfl,QB.nil _ _,H3.out,K3.out⟩
end
end
section
open Go.RowKit
def iq (I:World→Prop) (E:Int→World→Prop) (e:Ending) (w':World):Prop:=∃q:Int,e= .returned (.int .i64 q)∧(q=0→I w')∧(q≠0→E q w')
theorem JC (f1 f2:Nat) (a1 b1 a2 b2:Array Value) (e1:∀args w,(callFunc f1 args).run Tryz.prog w= .ok (.enter f1 args) w) (e2:∀args w,(callFunc f2 args).run Tryz.prog w= .ok (.enter f2 args) w)
 (b:Nat) (w:World) (I1 I2:World→Prop) (E:Int→World→Prop) (hb:Blk w b 211 [.func (.func f1) a1 b1,.func (.func f2) a2 b2])
 (h1:Calls Tryz.prog f1 (a1++b1) w (iq I1 E)) (h2:∀w1,I1 w1→Blk w1 b 211 [.func (.func f1) a1 b1,.func (.func f2) a2 b2]∧Calls Tryz.prog f2 (a2++b2) w1 (iq I2 E)):
 Calls Tryz.prog 98 #[.slice (some ⟨b,0,none⟩) 2 2] w (iq I2 E):=by
 have c0:=hb.cell 0
 have H1:=Xh h1;have H2:=Xh h2
 clear hb h1 h2
 go_in
 go_wp2_with fail
 go_step3
 go_wp2_with fail
 go_step3
 go_wp2_with fail
 refine wp_loop_rounds 3 ?_
 rw[rounds_succ]
 go_wp2_with fail
 refine H1.out.mono ?_
 rintro e w1 ⟨q,rfl,hi,he⟩
 have HE1:=Xh he;have HJ1:=Xh hi
 clear hi he
 by_cases hq:q=0
 case neg=>
  have HQ:=Xh hq
  have t:(q !=0)=true:=by rw[bne_iff_ne];exact hq
  clear hq
  go_wp2_with fail
  try rw[Exit.noGoto_ret]
  go_ret
  exact⟨q,rfl,fun h=>absurd h HQ.out,HE1.out⟩
 have HI1:=Xh (HJ1.out hq)
 subst hq
 go_wp2_with fail
 obtain⟨hb2,h2⟩:=H2.out w1 HI1.out
 have c1:=hb2.cell 1
 have HC2:=Xh h2
 clear hb2 h2
 rw[rounds_succ]
 go_wp2_with fail
 refine HC2.out.mono ?_
 rintro e w2 ⟨q,rfl,hi,he⟩
 have HE2:=Xh he;have HJ2:=Xh hi
 clear hi he
 by_cases hq:q=0
 case neg=>
  have HQ:=Xh hq
  have t:(q !=0)=true:=by rw[bne_iff_ne];exact hq
  clear hq
  go_wp2_with fail
  try rw[Exit.noGoto_ret]
  go_ret
  exact⟨q,rfl,fun h=>absurd h HQ.out,HE2.out⟩
 have HI2:=Xh (HJ2.out hq)
 subst hq
 go_wp2_with fail
 rw[rounds_succ]
 go_wp2_with fail
 try rw[Exit.noGoto_ret]
 go_ret
 exact⟨0,rfl,fun _=>HI2.out,fun h=>absurd rfl h⟩
theorem qJ (f1 f2 f3:Nat) (a1 b1 a2 b2 a3 b3:Array Value) (e1:∀args w,(callFunc f1 args).run Tryz.prog w= .ok (.enter f1 args) w) (e2:∀args w,(callFunc f2 args).run Tryz.prog w= .ok (.enter f2 args) w) (e3:∀args w,(callFunc f3 args).run Tryz.prog w= .ok (.enter f3 args) w)
 (b:Nat) (w:World) (I1 I2 I3:World→Prop) (E:Int→World→Prop) (hb:Blk w b 211 [.func (.func f1) a1 b1,.func (.func f2) a2 b2,.func (.func f3) a3 b3])
 (h1:Calls Tryz.prog f1 (a1++b1) w (iq I1 E)) (h2:∀w1,I1 w1→Blk w1 b 211 [.func (.func f1) a1 b1,.func (.func f2) a2 b2,.func (.func f3) a3 b3]∧Calls Tryz.prog f2 (a2++b2) w1 (iq I2 E)) (h3:∀w1,I2 w1→Blk w1 b 211 [.func (.func f1) a1 b1,.func (.func f2) a2 b2,.func (.func f3) a3 b3]∧Calls Tryz.prog f3 (a3++b3) w1 (iq I3 E)):
 Calls Tryz.prog 98 #[.slice (some ⟨b,0,none⟩) 3 3] w (iq I3 E):=by
 have c0:=hb.cell 0
 have H1:=Xh h1;have H2:=Xh h2;have H3:=Xh h3
 clear hb h1 h2 h3
 go_in
 go_wp2_with fail
 go_step3
 go_wp2_with fail
 go_step3
 go_wp2_with fail
 refine wp_loop_rounds 4 ?_
 rw[rounds_succ]
 go_wp2_with fail
 refine H1.out.mono ?_
 rintro e w1 ⟨q,rfl,hi,he⟩
 have HE1:=Xh he;have HJ1:=Xh hi
 clear hi he
 by_cases hq:q=0
 case neg=>
  have HQ:=Xh hq
  have t:(q !=0)=true:=by rw[bne_iff_ne];exact hq
  clear hq
  go_wp2_with fail
  try rw[Exit.noGoto_ret]
  go_ret
  exact⟨q,rfl,fun h=>absurd h HQ.out,HE1.out⟩
 have HI1:=Xh (HJ1.out hq)
 subst hq
 go_wp2_with fail
 obtain⟨hb2,h2⟩:=H2.out w1 HI1.out
 have c1:=hb2.cell 1
 have HC2:=Xh h2
 clear hb2 h2
 rw[rounds_succ]
 go_wp2_with fail
 refine HC2.out.mono ?_
 rintro e w2 ⟨q,rfl,hi,he⟩
 have HE2:=Xh he;have HJ2:=Xh hi
 clear hi he
 by_cases hq:q=0
 case neg=>
  have HQ:=Xh hq
  have t:(q !=0)=true:=by rw[bne_iff_ne];exact hq
  clear hq
  go_wp2_with fail
  try rw[Exit.noGoto_ret]
  go_ret
  exact⟨q,rfl,fun h=>absurd h HQ.out,HE2.out⟩
 have HI2:=Xh (HJ2.out hq)
 subst hq
 go_wp2_with fail
 obtain⟨hb3,h3⟩:=H3.out w2 HI2.out
 have c2:=hb3.cell 2
 have HC3:=Xh h3
 clear hb3 h3
 rw[rounds_succ]
 go_wp2_with fail
 refine HC3.out.mono ?_
 rintro e w3 ⟨q,rfl,hi,he⟩
 have HE3:=Xh he;have HJ3:=Xh hi
 clear hi he
 by_cases hq:q=0
 case neg=>
  have HQ:=Xh hq
  have t:(q !=0)=true:=by rw[bne_iff_ne];exact hq
  clear hq
  go_wp2_with fail
  try rw[Exit.noGoto_ret]
  go_ret
  exact⟨q,rfl,fun h=>absurd h HQ.out,HE3.out⟩
 have HI3:=Xh (HJ3.out hq)
 subst hq
 go_wp2_with fail
 rw[rounds_succ]
 go_wp2_with fail
 try rw[Exit.noGoto_ret]
 go_ret
 exact⟨0,rfl,fun _=>HI3.out,fun h=>absurd rfl h⟩
theorem MG (f1 f2 f3:Nat) (a1 b1 a2 b2 a3 b3:Array Value) (e1:∀args w,(callFunc f1 args).run Tryz.prog w= .ok (.enter f1 args) w) (e2:∀args w,(callFunc f2 args).run Tryz.prog w= .ok (.enter f2 args) w) (e3:∀args w,(callFunc f3 args).run Tryz.prog w= .ok (.enter f3 args) w)
 (b:Nat) (w:World) (I1 I2 I3:World→Prop) (E:Int→World→Prop) (hb:Blk w b 139 [.func (.func f1) a1 b1,.func (.func f2) a2 b2,.func (.func f3) a3 b3])
 (h1:Calls Tryz.prog f1 (a1++b1) w (iq I1 E)) (h2:∀w1,I1 w1→Blk w1 b 139 [.func (.func f1) a1 b1,.func (.func f2) a2 b2,.func (.func f3) a3 b3]∧Calls Tryz.prog f2 (a2++b2) w1 (iq I2 E)) (h3:∀w1,I2 w1→Blk w1 b 139 [.func (.func f1) a1 b1,.func (.func f2) a2 b2,.func (.func f3) a3 b3]∧Calls Tryz.prog f3 (a3++b3) w1 (iq I3 E)):
 Calls Tryz.prog 42 #[.slice (some ⟨b,0,none⟩) 3 3] w (iq I3 E):=by
 have c0:=hb.cell 0
 have H1:=Xh h1;have H2:=Xh h2;have H3:=Xh h3
 clear hb h1 h2 h3
 go_in
 go_wp2_with fail
 refine wp_loop_rounds 4 ?_
 rw[rounds_succ]
 go_wp2_with fail
 refine H1.out.mono ?_
 rintro e w1 ⟨q,rfl,hi,he⟩
 have HE1:=Xh he;have HJ1:=Xh hi
 clear hi he
 by_cases hq:q=0
 case neg=>
  have HQ:=Xh hq
  have t:(q !=0)=true:=by rw[bne_iff_ne];exact hq
  clear hq
  go_wp2_with fail
  try rw[Exit.noGoto_ret]
  go_ret
  exact⟨q,rfl,fun h=>absurd h HQ.out,HE1.out⟩
 have HI1:=Xh (HJ1.out hq)
 subst hq
 go_wp2_with fail
 obtain⟨hb2,h2⟩:=H2.out w1 HI1.out
 have c1:=hb2.cell 1
 have HC2:=Xh h2
 clear hb2 h2
 rw[rounds_succ]
 go_wp2_with fail
 refine HC2.out.mono ?_
 rintro e w2 ⟨q,rfl,hi,he⟩
 have HE2:=Xh he;have HJ2:=Xh hi
 clear hi he
 by_cases hq:q=0
 case neg=>
  have HQ:=Xh hq
  have t:(q !=0)=true:=by rw[bne_iff_ne];exact hq
  clear hq
  go_wp2_with fail
  try rw[Exit.noGoto_ret]
  go_ret
  exact⟨q,rfl,fun h=>absurd h HQ.out,HE2.out⟩
 have HI2:=Xh (HJ2.out hq)
 subst hq
 go_wp2_with fail
 obtain⟨hb3,h3⟩:=H3.out w2 HI2.out
 have c2:=hb3.cell 2
 have HC3:=Xh h3
 clear hb3 h3
 rw[rounds_succ]
 go_wp2_with fail
 refine HC3.out.mono ?_
 rintro e w3 ⟨q,rfl,hi,he⟩
 have HE3:=Xh he;have HJ3:=Xh hi
 clear hi he
 by_cases hq:q=0
 case neg=>
  have HQ:=Xh hq
  have t:(q !=0)=true:=by rw[bne_iff_ne];exact hq
  clear hq
  go_wp2_with fail
  try rw[Exit.noGoto_ret]
  go_ret
  exact⟨q,rfl,fun h=>absurd h HQ.out,HE3.out⟩
 have HI3:=Xh (HJ3.out hq)
 subst hq
 go_wp2_with fail
 rw[rounds_succ]
 go_wp2_with fail
 try rw[Exit.noGoto_ret]
 go_ret
 exact⟨0,rfl,fun _=>HI3.out,fun h=>absurd rfl h⟩
theorem LP (f1 f2 f3 f4:Nat) (a1 b1 a2 b2 a3 b3 a4 b4:Array Value) (e1:∀args w,(callFunc f1 args).run Tryz.prog w= .ok (.enter f1 args) w) (e2:∀args w,(callFunc f2 args).run Tryz.prog w= .ok (.enter f2 args) w) (e3:∀args w,(callFunc f3 args).run Tryz.prog w= .ok (.enter f3 args) w) (e4:∀args w,(callFunc f4 args).run Tryz.prog w= .ok (.enter f4 args) w)
 (b:Nat) (w:World) (I1 I2 I3 I4:World→Prop) (E:Int→World→Prop) (hb:Blk w b 139 [.func (.func f1) a1 b1,.func (.func f2) a2 b2,.func (.func f3) a3 b3,.func (.func f4) a4 b4])
 (h1:Calls Tryz.prog f1 (a1++b1) w (iq I1 E)) (h2:∀w1,I1 w1→Blk w1 b 139 [.func (.func f1) a1 b1,.func (.func f2) a2 b2,.func (.func f3) a3 b3,.func (.func f4) a4 b4]∧Calls Tryz.prog f2 (a2++b2) w1 (iq I2 E)) (h3:∀w1,I2 w1→Blk w1 b 139 [.func (.func f1) a1 b1,.func (.func f2) a2 b2,.func (.func f3) a3 b3,.func (.func f4) a4 b4]∧Calls Tryz.prog f3 (a3++b3) w1 (iq I3 E)) (h4:∀w1,I3 w1→Blk w1 b 139 [.func (.func f1) a1 b1,.func (.func f2) a2 b2,.func (.func f3) a3 b3,.func (.func f4) a4 b4]∧Calls Tryz.prog f4 (a4++b4) w1 (iq I4 E)):
 Calls Tryz.prog 42 #[.slice (some ⟨b,0,none⟩) 4 4] w (iq I4 E):=by
 have c0:=hb.cell 0
 have H1:=Xh h1;have H2:=Xh h2;have H3:=Xh h3;have H4:=Xh h4
 clear hb h1 h2 h3 h4
 go_in
 go_wp2_with fail
 refine wp_loop_rounds 5 ?_
 rw[rounds_succ]
 go_wp2_with fail
 refine H1.out.mono ?_
 rintro e w1 ⟨q,rfl,hi,he⟩
 have HE1:=Xh he;have HJ1:=Xh hi
 clear hi he
 by_cases hq:q=0
 case neg=>
  have HQ:=Xh hq
  have t:(q !=0)=true:=by rw[bne_iff_ne];exact hq
  clear hq
  go_wp2_with fail
  try rw[Exit.noGoto_ret]
  go_ret
  exact⟨q,rfl,fun h=>absurd h HQ.out,HE1.out⟩
 have HI1:=Xh (HJ1.out hq)
 subst hq
 go_wp2_with fail
 obtain⟨hb2,h2⟩:=H2.out w1 HI1.out
 have c1:=hb2.cell 1
 have HC2:=Xh h2
 clear hb2 h2
 rw[rounds_succ]
 go_wp2_with fail
 refine HC2.out.mono ?_
 rintro e w2 ⟨q,rfl,hi,he⟩
 have HE2:=Xh he;have HJ2:=Xh hi
 clear hi he
 by_cases hq:q=0
 case neg=>
  have HQ:=Xh hq
  have t:(q !=0)=true:=by rw[bne_iff_ne];exact hq
  clear hq
  go_wp2_with fail
  try rw[Exit.noGoto_ret]
  go_ret
  exact⟨q,rfl,fun h=>absurd h HQ.out,HE2.out⟩
 have HI2:=Xh (HJ2.out hq)
 subst hq
 go_wp2_with fail
 obtain⟨hb3,h3⟩:=H3.out w2 HI2.out
 have c2:=hb3.cell 2
 have HC3:=Xh h3
 clear hb3 h3
 rw[rounds_succ]
 go_wp2_with fail
 refine HC3.out.mono ?_
 rintro e w3 ⟨q,rfl,hi,he⟩
 have HE3:=Xh he;have HJ3:=Xh hi
 clear hi he
 by_cases hq:q=0
 case neg=>
  have HQ:=Xh hq
  have t:(q !=0)=true:=by rw[bne_iff_ne];exact hq
  clear hq
  go_wp2_with fail
  try rw[Exit.noGoto_ret]
  go_ret
  exact⟨q,rfl,fun h=>absurd h HQ.out,HE3.out⟩
 have HI3:=Xh (HJ3.out hq)
 subst hq
 go_wp2_with fail
 obtain⟨hb4,h4⟩:=H4.out w3 HI3.out
 have c3:=hb4.cell 3
 have HC4:=Xh h4
 clear hb4 h4
 rw[rounds_succ]
 go_wp2_with fail
 refine HC4.out.mono ?_
 rintro e w4 ⟨q,rfl,hi,he⟩
 have HE4:=Xh he;have HJ4:=Xh hi
 clear hi he
 by_cases hq:q=0
 case neg=>
  have HQ:=Xh hq
  have t:(q !=0)=true:=by rw[bne_iff_ne];exact hq
  clear hq
  go_wp2_with fail
  try rw[Exit.noGoto_ret]
  go_ret
  exact⟨q,rfl,fun h=>absurd h HQ.out,HE4.out⟩
 have HI4:=Xh (HJ4.out hq)
 subst hq
 go_wp2_with fail
 rw[rounds_succ]
 go_wp2_with fail
 try rw[Exit.noGoto_ret]
 go_ret
 exact⟨0,rfl,fun _=>HI4.out,fun h=>absurd rfl h⟩
end
section
open Go.RowKit
def Safe (kb:Nat) (w:World) (A:Option Addr) (n:Nat):Prop:=∀b o,0<n→A=some ⟨b,o,none⟩→∃a t m,w.heap[b]?=some (.cells a t m)∧¬tyM t∧(t=302→b≠kb)
theorem Safe.kq {kb:Nat} {w w':World} {A:Option Addr} {n:Nat} (h:Safe kb w A n) (k:KQ kb w w'):Safe kb w' A n:=fun b o h0 e=>by
 obtain⟨a,t,m,q,h1,h2⟩:=h b o h0 e
 exact⟨a,t,m,k.2 b a t m q h1 h2,h1,h2⟩
theorem Sl.kq {kb:Nat} {w w':World} {A:Option Addr} {n c s:Nat} {xs:List Value} (h:Sl w A n c s xs) (u:Safe kb w A n) (k:KQ kb w w'):Sl w' A n c s xs:=
 ⟨h.1,h.2.1,h.2.2.1,fun h0=>by
  obtain⟨b,o,e,hc⟩:=h.2.2.2 h0
  obtain⟨a,t,m,q,h1,h2⟩:=u b o h0 e
  have hu:w'.heap[b]?=w.heap[b]?:=(k.2 b a t m q h1 h2).trans q.symm
  exact⟨b,o,e,fun j x hx=>(World.cell?_of_block (w:=w) (a:=⟨b,o+j,none⟩) hu).trans (hc j x hx)⟩⟩
structure Pgs (kb:Nat) (w:World) (A:Option Addr) (n c:Nat) (R:List aj):Prop where
 s:Sl w A n c 1 (R.map aj.v)
 u:Safe kb w A n
 r:∀r∈R,QB kb w r.a r.n r.c r.l
theorem Pgs.kq {kb:Nat} {w w':World} {A:Option Addr} {n c:Nat} {R:List aj} (h:Pgs kb w A n c R) (k:KQ kb w w'):Pgs kb w' A n c R:=⟨h.s.kq h.u k,h.u.kq k,fun r hr=>(h.r r hr).kq k⟩
theorem Pgs.mono {kb:Nat} {w w':World} {A:Option Addr} {n c:Nat} {R:List aj} (h:Pgs kb w A n c R) (g:Gr w w'):Pgs kb w' A n c R:=h.kq (KQ.gr g)
theorem Pgs.len {kb:Nat} {w:World} {A:Option Addr} {n c:Nat} {R:List aj} (h:Pgs kb w A n c R):R.length=n:=by have :=Sl.len h.s;simpa using this
theorem Rl (r:aj) (w:World):Calls Tryz.prog 250 #[.slice r.a r.n r.c] w fun e w'=>e= .returned (.bool (decide (479<r.n)))∧Gr w w':=by
 have t:decide ((479:Int)<(r.n:Int))=decide (479<r.n):=decide_eq_decide.2 Xf
 go_in
 go_wp2_with fail
 go_ret
 exact⟨bV rfl,Gr.refl _⟩
theorem Oo (A:Option Addr) (n c:Nat) (R:List aj) (q:aj→Bool) (w:World) (h:Sl w A n c 1 (R.map aj.v)) (hq:∀r∈R,∀w',Gr w w'→Calls Tryz.prog 250 #[.slice r.a r.n r.c] w' fun e w''=>e= .returned (.bool (q r))∧Gr w' w''):
 Calls Tryz.prog 271 #[.slice A n c,.func (.func 250) #[] #[]] w fun e w'=>∃r,e= .returned (.int .i64 r)∧decide (0≤r)=R.any q∧Gr w w':=by
 have hmax:=h.max
 have hcap:=h.cap
 have hll:R.length=n:=by have :=Sl.len h;simpa using this
 have HL:=Xh hll
 have HH:=Xh h;have HQ:=Xh hq;clear h hq hll
 go_in
 go_wp2
 go_loopw [8] (fun i wr=>∃k:Nat,k≤n∧i= .int .i64 k∧Gr w wr∧(R.take k).any q=false) (fun i _=>n - (Go.RowKit.intOf i).toNat)
 case atStart=>exact⟨0,Nat.zero_le _,rfl,Gr.refl _,rfl⟩
 case round=>
  obtain⟨k,hk,rfl,hbel,hall⟩:=hrel
  have HA:=Xh hall;have HB:=Xh hbel;clear hall
  by_cases hlt:k<n
  · obtain⟨b,o,rfl,hcc⟩:=Sl.addr (HH.out.mono hbel) Xf
    have hkl:k<R.length:=by rw[HL.out];exact hlt
    obtain⟨x,hx⟩:∃x,R[k]?=some x:=⟨_,List.getElem?_eq_getElem hkl⟩
    have c1:wr.cell? ⟨b,o+k,none⟩=some (.slice x.a x.n x.c):=hcc k _ (by rw[List.getElem?_map,hx];rfl)
    have HC:=Xh (HQ.out x (List.mem_of_getElem? hx) wr hbel)
    have HS:Hid ((R.take (k+1)).any q=((R.take k).any q || q x)):=by
     show _=_
     rw[List.take_add_one,hx,List.any_append]
     simp
    have HT:Hid (q x=true→R.any q=true):=fun hh=>List.any_eq_true.2 ⟨x,List.mem_of_getElem? hx,hh⟩
    clear hcc hkl hbel hx
    cases he:q x
    · have HT2:Hid ((R.take (k+1)).any q=false):=by show _=_;rw[HS.out,HA.out,he];rfl
      rw[he] at HC
      clear he
      go_wp2_with (go_at_call 250;refine HC.out.mono ?_;rintro e w1 ⟨rfl,b1⟩)
      go_roundw
      case rel=>exact⟨k+1,Xf,by go_num,HB.out.trans b1,HT2.out⟩
      case measure=>simp[Go.RowKit.intOf];omega
    · have HF:Hid (R.any q=true):=HT.out he
      rw[he] at HC
      clear he
      go_wp2_with (go_at_call 250;refine HC.out.mono ?_;rintro e w1 ⟨rfl,b1⟩)
      go_ret
      exact⟨k,rfl,by rw[HF.out,decide_eq_true_iff];omega,HB.out.trans b1⟩
  · obtain rfl:n=k:=by omega
    have HF:Hid (R.any q=false):=by have :=HA.out;rwa[List.take_of_length_le (by rw[HL.out];omega)] at this
    clear hbel
    go_wp2
    go_ret
    exact⟨-1,rfl,by rw[HF.out];rfl,HB.out⟩
theorem EO (A:Option Addr) (n c:Nat) (R:List aj) (q:aj→Bool) (w:World) (h:Sl w A n c 1 (R.map aj.v)) (hq:∀r∈R,∀w',Gr w w'→Calls Tryz.prog 250 #[.slice r.a r.n r.c] w' fun e w''=>e= .returned (.bool (q r))∧Gr w' w''):
 Calls Tryz.prog 194 #[.slice A n c,.func (.func 250) #[] #[]] w fun e w'=>e= .returned (.bool (R.any q))∧Gr w w':=by
 have HI:=Xh (Oo A n c R q w h hq)
 clear h hq
 go_in
 go_wp2_with fail
 refine HI.out.mono ?_
 rintro e w1 ⟨r,rfl,hr,g1⟩
 have HR:=Xh hr;have G1:=Xh g1;clear hr g1
 go_wp2_with fail
 go_ret
 exact⟨bV HR.out,G1.out⟩
end
end Go.Proofs.YtipdlnejmcmbbaaGreatDoor
