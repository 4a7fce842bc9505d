/- Own texts, one behind the other. No condition. -/
import Derived.Test.YtipdlnejmcmbbaaGreatDoorObPkBK
import Derived.Lib.Join
import Derived.Lib.SplitLaws
import Derived.Lib.CountLaws
set_option linter.unusedVariables false
set_option maxRecDepth 100000
set_option maxHeartbeats 8000000
set_option linter.unusedSimpArgs false
namespace Go.Proofs.YtipdlnejmcmbbaaGreatDoor
section
open Go.RowKit
def nAt (W:List Nat) (k:Nat):Nat:=W.getD k 0
theorem sV (p:Nat) (W:List Nat) (k:Nat):nAt (p::W) (k+1)=nAt W k:=by unfold nAt;rw[List.getD_cons_succ]
theorem Kq (a p:Nat):nAt (upL a p) 0=p:=by
 rcases Nat.eq_zero_or_pos p with e|e
 · subst e;rw[lY];rfl
 · rw[mo a p e];rfl
theorem Rm {a:Nat} (ha:0<a):∀p i,i+1<(upL a p).length→0<nAt (upL a p) i∧nAt (upL a p) (i+1)=(nAt (upL a p) i - 1) / a:=by
 intro p
 induction p using Nat.strongRecOn with
 |ind p ih=>
  intro i hi
  rcases Nat.eq_zero_or_pos p with e|e
  · subst e;rw[lY] at hi;simp at hi
  · rw[mo a p e] at hi ⊢
    cases i with
    |zero=>rw[sV,Kq];exact⟨e,rfl⟩
    |succ i=>
     rw[sV,sV]
     exact ih _ (qp ha e) i (by simpa using hi)
theorem TM {a:Nat} (ha:0<a) (p:Nat):nAt (upL a p) ((upL a p).length - 1)=0:=by
 induction p using Nat.strongRecOn with
 |ind p ih=>
  rcases Nat.eq_zero_or_pos p with e|e
  · subst e;rw[lY];rfl
  · have h1:=VD a ((p - 1) / a)
    have :=ih _ (qp ha e)
    rw[mo a p e,List.length_cons,show (upL a ((p - 1) / a)).length+1 - 1=(upL a ((p - 1) / a)).length - 1+1 by omega,sV]
    exact this
theorem UA {W:List Nat} {k:Nat} (h:k<W.length):nAt W k∈W:=by
 unfold nAt
 rw[List.getD_eq_getElem?_getD,List.getElem?_eq_getElem h]
 exact List.getElem_mem h
theorem rV {W:List Nat} {k:Nat} (h:k<W.length):nAt W.reverse k=nAt W (W.length - 1 - k):=by
 unfold nAt
 rw[List.getD_eq_getElem?_getD,List.getD_eq_getElem?_getD,List.getElem?_reverse h]
structure Way (a d l s:Int) (P:Nat) (W:List Nat):Prop where
 e:kG a d l s++ [(P:Int)]=W.map (fun (q:Nat)=>(q:Int))
 n:W.length=d.toNat+1
 m:(kG a d l s).length=d.toNat
 z:nAt W 0=0
 p:nAt W d.toNat=P
 c:∀k,k<d.toNat→0<nAt W (k+1)∧(nAt W (k+1) - 1) / a.toNat=nAt W k
 u:∀k,k<d.toNat+1→Sub a.toNat (nAt W k) P
section
variable {a d l:Int}
theorem UR (g:Geo a d l) {s:Int} (h0:0≤s) (h:s<ay a d l):∃(P:Nat) (W:List Nat),aW a d l s=(P:Int)∧av a d l+s=P∧Way a d l s P W:=by
 obtain⟨x,y,n,rfl,rfl,rfl,h1,h2,h3,h4,hr,hn,e1,_,e3,e4⟩:=zT h0 h
 obtain⟨P,hP⟩:∃P,P=ndN x y+n:=⟨_,rfl⟩
 rw[←hP] at e1 e3 e4
 have hp:P<pgN x y:=by unfold pgN;omega
 obtain⟨k1,k2,k3,_⟩:=zx (Cy h1 h2 h3 h4 hp)
 have k4:=k3.2 Xf
 have hlen:(upL x P).length=y+1:=by omega
 have hx:0<x:=by omega
 have hnn:av (x:Int) (y:Int) l=(ndN x y:Int):=je hr rfl rfl
 refine⟨P,(upL x P).reverse,e1,by rw[hnn];omega,?_,by rw[List.length_reverse,hlen];rfl,?_,?_,?_,fun k hk=> ?_,fun k hk=> ?_⟩
 · rw[e3,List.map_reverse,e4,List.map_cons,List.reverse_cons]
 · rw[e3,List.length_reverse,List.length_map]
   rw[e4,List.length_cons] at hlen
   rw[Int.toNat_natCast]
   omega
 · rw[rV Xf,show (upL x P).length - 1 - 0=(upL x P).length - 1 by omega]
   exact TM hx P
 · rw[Int.toNat_natCast,rV Xf,show (upL x P).length - 1 - y=0 by omega]
   exact Kq x P
 · rw[Int.toNat_natCast] at hk
   rw[rV Xf,rV Xf,show (upL x P).length - 1 - k=(upL x P).length - 1 - (k+1)+1 by omega]
   obtain⟨q1,q2⟩:=Rm hx P ((upL x P).length - 1 - (k+1)) Xf
   exact⟨q1,q2.symm⟩
 · rw[Int.toNat_natCast] at hk
   rw[rV (W:=upL x P) (k:=k) Xf]
   exact UA (W:=upL x P) Xf
theorem OY {a NN:Nat} {T:List Nd} {Q K:Nat→List UInt8} {c:Nat→Option (List UInt8×List UInt8)} (ha:0<a) (hok:∀q,q<a*NN+1→iZ a NN T Q K c q) {p r:Nat} (h:Sub a p r) (hr:r<a*NN+1) (hk:(K r).length=32):(K p).length=32:=by
 induction r using Nat.strongRecOn with
 |ind r ih=>
  rcases Nat.eq_zero_or_pos r with e|e
  · subst e;have :=sub_le h;rwa[show p=0 by omega]
  · rcases (jw e).1 h with e1|e1
    · rwa[e1]
    · have hdm:=Nat.div_add_mod (r - 1) a
      have hlt:=qp ha e
      have hpn:(r - 1) / a<NN:=by
       refine Nat.div_lt_of_lt_mul ?_
       omega
      have ht:=hok ((r - 1) / a) Xf
      unfold iZ at ht
      rw[if_pos hpn] at ht
      obtain⟨rows,hl,_,hri⟩:=ht
      have hm:=Nat.mod_lt (r - 1) ha
      have :=hri ((r - 1) % a) _ (List.getElem?_eq_getElem Xf)
      rw[show a*((r - 1) / a)+1+(r - 1) % a=r by omega] at this
      rcases this with⟨q,_⟩| ⟨_,q,_⟩
      · rw[q] at hk;cases hk
      · exact ih _ hlt e1 Xf q
end
section
variable {w0 w w':World} {L:Pl} {a d l:Int} {N:Nat} {m m':Mc} {n n':Nat} {x:Spr} {vl vk:Value} {next:Nat} {due:Bool} {pt ps b c:Nat} {R:List aj} {K:Nat→List UInt8} {cs:Nat→Option (List UInt8×List UInt8)}
theorem TrG.Vl (h:TrG w0 L a d l N m n x vl next due vk pt ps b c R w):Calls Tryz.prog 62 #[.pointer (some ⟨ps,0,none⟩),.int .i64 (-1)] w fun e w'=>e= .returned (.slice none 0 0)∧w=w':=by
 clear h
 go_in
 go_wp2_with fail
 go_ret
 exact⟨rfl,rfl⟩
theorem Eu (h:TrG w0 L a d l N m n x vl next due vk pt ps b c R w) (s:Int) (hs:aW a d l s= -1):
 Calls Tryz.prog 30 #[.pointer (some ⟨pt,0,none⟩),.int .i64 s] w (mQ w none):=by
 have HLF:=Xh (fun wr=>kM a d l s wr)
 rw[hs] at HLF
 have HH:=Xh h
 obtain⟨s1,s2,s3,s4,s5,s6⟩:=h.cells
 clear h hs
 go_in
 go_wp2_with fail
 refine (HLF.out w).mono ?_
 rintro e w1 ⟨rfl,g1⟩
 have G1:=Xh (show Gr w w1 from g1)
 have HPG:=Xh ((HH.out.gr G1.out).Vl)
 clear s1 s2 s3 s4 s5 s6 g1
 obtain⟨s1,s2,s3,s4,s5,s6⟩:=(HH.out.gr G1.out).cells
 go_wp2_with fail
 refine HPG.out.mono ?_
 rintro e wd ⟨rfl,hwd⟩
 subst hwd
 have HDL:=Xh (lX none 0 w1)
 go_wp2_with fail
 refine HDL.out.mono ?_
 rintro e wd ⟨rfl,hwd⟩
 subst hwd
 go_wp2_with fail
 go_ret2
 exact⟨none,0,0,rfl,Sl.nil _ _,G1.out,Ub.nil _⟩
theorem Fj (h:TrG w0 L a d l N m n x vl next due vk pt ps b c R w) (hI:TrI a d l m.T (R.map aj.l) K cs) (hU:U8 w) (s:Int) (h0:0≤s) (P:Nat) (hs:aW a d l s=P) (hP:av a d l+s=P) (hp:av a d l≤P) (hP2:P<N) (hc:cs s.toNat=none):
 Calls Tryz.prog 30 #[.pointer (some ⟨pt,0,none⟩),.int .i64 s] w (mQ w none):=by
 have HLF:=Xh (fun wr=>kM a d l s wr)
 rw[hs] at HLF
 have hl:=hI.leaf (p:=P) hp (by have :=h.hN;omega)
 have hpc:P - (av a d l).toNat=s.toNat:=by have :=dM a d l;omega
 rw[hpc] at hl
 have HPG:=Xh (fun wr (g:Gr w wr)=>(h.gr g).page P hP2)
 have hee:=yJ hl
 have HDL:=Xh (fun wr (g:Gr w wr) A n cc (q:Bs wr A n cc _)=>mI hl (by have :=h.ok.t;have :=h.n9;omega) q (hU.mono g))
 generalize (R.map aj.l).getD P []=bl at *
 rw[hc] at hl hee HDL
 unfold wD at HDL
 obtain⟨t,ht⟩:∃t:ByteArray,t=⟨(hdL none).toArray⟩:=⟨_,rfl⟩
 rw[←ht] at hee HDL
 have HH:=Xh h
 obtain⟨s1,s2,s3,s4,s5,s6⟩:=h.cells
 have tP:decide ((P:Int)<0)=false:=decide_eq_false Xf
 clear h hI hU hs hl hp hP hP2 hpc hc ht
 rw[Option.isNone_none] at hee
 go_in
 go_wp2_with fail
 refine (HLF.out w).mono ?_
 rintro e w1 ⟨rfl,g1⟩
 have G1:=Xh (show Gr w w1 from g1)
 have HPG1:=Xh (HPG.out w1 G1.out)
 clear s1 s2 s3 s4 s5 s6 g1
 obtain⟨s1,s2,s3,s4,s5,s6⟩:=(HH.out.gr G1.out).cells
 go_wp2_with fail
 refine HPG1.out.mono ?_
 rintro e w2 ⟨v2,rfl,o2⟩
 obtain⟨A2,c2,rfl,b2⟩:=o2.slice
 have G2:=Xh (G1.out.trans (show Gr w1 w2 from o2.below))
 have HD2:=Xh (HDL.out w2 G2.out A2 _ c2 b2)
 clear s1 s2 s3 s4 s5 s6 o2 b2
 generalize bl.length=bn at *
 go_wp2_with fail
 refine HD2.out.mono ?_
 rintro e w3 ⟨A3,n3,c3,z,rfl,b3,h3,g3,ho⟩
 have G3:=Xh (G2.out.trans g3)
 clear b3 h3 g3 ho
 go_wp2_with fail
 go_ret2
 exact⟨none,0,0,rfl,Sl.nil _ _,G3.out,Ub.nil _⟩
theorem Uy (g:Geo a d l) (hI:TrI a d l m.T (R.map aj.l) K cs) (hT:m.T.length≤100000) {s:Int} {P:Nat} {W:List Nat} (hW:Way a d l s P W) (hP:(P:Int)<au a d l) (hk:(K P).length=32) {k:Nat} (hkd:k<d.toNat):
 (K (nAt W k)).length=32∧(K (nAt W (k+1))).length=32∧(nAt W k:Int)<av a d l∧∃rows j r,rows.length=a.toNat∧(R.map aj.l).getD (nAt W k) []=dI rows∧(∀x∈rows,rowOk x=true)∧nY a d l (nAt W (k+1))=(j:Nat)∧j<a.toNat∧rows[j]?=some r∧r.length=80∧eP m.T (K (nAt W k)) r=some (K (nAt W (k+1))):=by
 obtain⟨X,y,rfl,rfl,x1,x2,x3,x4,e1,e2,e3,e4,e5⟩:=g.nn
 have hok:∀q,q<X*ndN X y+1→iZ X (ndN X y) m.T (fun q=>(R.map aj.l).getD q []) K cs q:=fun q hq=>by
  have :=hI.ok q (by rw[e3];exact hq)
  rw[e1] at this
  exact this
 rw[e3] at hP
 obtain⟨c1,c2⟩:=hW.c k hkd
 rw[Int.toNat_natCast] at c2
 have hx:0<X:=by omega
 have hs1:=hW.u k Xf;have hs2:=hW.u (k+1) Xf
 rw[Int.toNat_natCast] at hs1 hs2
 have k1:=OY hx hok hs1 Xf hk
 have k2:=OY hx hok hs2 Xf hk
 generalize nAt W k=p at *
 have hqP:=sub_le hs2
 generalize nAt W (k+1)=q at *
 have hdm:=Nat.div_add_mod (q - 1) X
 have hm:=Nat.mod_lt (q - 1) hx
 rw[c2] at hdm
 have hpn:p<ndN X y:=by rw[←c2];exact Nat.div_lt_of_lt_mul Xf
 have hmx:=Nat.mul_le_mul_right (ndN X y) (show 1≤X by omega)
 obtain⟨rows,r1,r2,_,r4,r5⟩:=(hok p Xf).rows hpn hT
 have hj:(q - 1) % X<rows.length:=by omega
 have hr:=r5 _ _ (List.getElem?_eq_getElem hj)
 rw[show X*p+1+(q - 1) % X=q by omega] at hr
 refine⟨k1,k2,by rw[e1];omega,rows,(q - 1) % X,rows[(q - 1) % X],by rw[r1];rfl,r2,r4,?_,by rw[Int.toNat_natCast];exact hm,List.getElem?_eq_getElem hj,?_,?_⟩
 · unfold nY
   rw[if_pos ⟨Xf,by have :av (X:Int) y l+ay (X:Int) y l=au (X:Int) y l:=rfl;rw[this,e3];omega⟩,show (q:Int) - 1=((q - 1:Nat):Int) by omega]
   exact (Int.natCast_emod _ _).symm
 · rcases hr with⟨e,_⟩| ⟨_,_,hS⟩
   · rw[e] at k2;cases k2
   · rw[hS.len hT,k2]
 · rcases hr with⟨e,_⟩| ⟨_,_,hS⟩
   · rw[e] at k2;cases k2
   · exact hS.opn hT Xf
theorem Fu {AK:Option Addr} {kc:Nat} (h:TrG w0 L a d l N m n x vl next due (.slice AK 32 kc) pt ps b c R w) (hI:TrI a d l m.T (R.map aj.l) K cs) (hU:U8 w) (hb:Bs w AK 32 kc (K 0)) (s:Int) (h0:0≤s) (P:Nat) (hs:aW a d l s=P) (hP:av a d l+s=P) (hp:av a d l≤P) (hP2:P<N) {hd v:List UInt8} (hc:cs s.toNat=some (hd,v)) {W:List Nat} (hW:Way a d l s P W):
 Calls Tryz.prog 30 #[.pointer (some ⟨pt,0,none⟩),.int .i64 s] w (mQ w (some v)):=by
 have HLF:=Xh (fun wr=>kM a d l s wr)
 rw[hs] at HLF
 have hl:=hI.leaf (p:=P) hp (by have :=h.hN;omega)
 have hpc:P - (av a d l).toNat=s.toNat:=by have :=dM a d l;omega
 rw[hpc] at hl
 have HPG:=Xh (fun wr (g:Gr w wr)=>(h.gr g).page P hP2)
 have hee:=yJ hl
 have HDL:=Xh (fun wr (g:Gr w wr) A n cc (q:Bs wr A n cc _)=>mI hl (by have :=h.ok.t;have :=h.n9;omega) q (hU.mono g))
 generalize (R.map aj.l).getD P []=bl at *
 rw[hc] at hl hee HDL
 unfold wD at HDL
 obtain⟨t,ht⟩:∃t:ByteArray,t=⟨(hdL (some (hd,v))).toArray⟩:=⟨_,rfl⟩
 rw[←ht] at hee HDL
 have hT:m.T.length≤100000:=by have :=h.ok.t;have :=h.n9;omega
 have hkP:(K P).length=32:=by obtain⟨z,q,_⟩:=hl;exact q
 have HR:=Xh (fun k hk=>Uy h.g hI hT hW (by have :=h.hN;omega) hkP (k:=k) hk)
 have HPA:=Xh (fun wr=>Qu a d l s wr)
 obtain⟨X,hX⟩:∃X:Nat,a=X:=by obtain⟨X,_,e,_⟩:=h.g.nn;exact⟨X,e⟩
 obtain⟨D,hD⟩:∃D:Nat,D=d.toNat:=⟨_,rfl⟩
 have hD3:1≤D∧D≤3:=by obtain⟨_,y,_,e,_,_,q1,q2,_⟩:=h.g.nn;omega
 have hWn:=hW.n;have hWm:=hW.m;have hWe:=hW.e;have hWz:=hW.z;have hWp:=hW.p
 rw[←hD] at hWn hWm hWp HR
 have hXn:a.toNat=X:=by rw[hX];rfl
 rw[hXn] at HR
 have HDC:=Xh (fun wr A m c rows (e1:rows.length=X) (e2:∀x∈rows,rowOk x=true) (q:Bs wr A m c (dI rows))=>qM (kb:=L.kb) h.g X hX.symm A m c rows e1 e2 q)
 have HWH:=Xh (fun k wr=>PW a d l (nAt W (k+1):Nat) wr)
 have HPK:=Xh (fun k (hk:(nAt W k:Int)<av a d l) wr (g:Gr w wr)=>(h.gr g).page (nAt W k) (by have :=h.hN;have :=bM a d l;have :au a d l=av a d l+ay a d l:=rfl;omega))
 have HOP:=Xh (fun wr (g:Gr w wr) A kc (key:List UInt8) (hk:Bs wr A 32 kc key) B n c z (hz:Bs wr B n c z) (hn:n≤60000)=>(h.gr g).ms.Mx h.ok h.n9 A B 32 kc n c key z hk hz hn)
 have HH:=Xh h;have HB:=Xh hb
 obtain⟨s1,s2,s3,s4,s5,s6⟩:=h.cells
 have tP:decide ((P:Int)<0)=false:=decide_eq_false Xf
 have HWE:=Xh hWe
 rw[←hWz] at HB
 generalize hpl:kG a d l s=pl at *
 have HWM:=Xh hWm;have HWN:=Xh hWn;have HWP:=Xh hWp
 clear h hI hU hs hl hp hP hP2 hpc hc ht hT hkP hX hXn hWn hWm hWe hWz hWp hpl hW hb hD h0
 rw[show (some (hd,v)).isNone=false from rfl] at hee
 go_in
 go_wp2_with fail
 refine (HLF.out w).mono ?_
 rintro e w1 ⟨rfl,g1⟩
 have G1:=Xh (show Gr w w1 from g1)
 have HPG1:=Xh (HPG.out w1 G1.out)
 clear s1 s2 s3 s4 s5 s6 g1
 obtain⟨s1,s2,s3,s4,s5,s6⟩:=(HH.out.gr G1.out).cells
 go_wp2_with fail
 refine HPG1.out.mono ?_
 rintro e w2 ⟨v2,rfl,o2⟩
 obtain⟨A2,c2,rfl,b2⟩:=o2.slice
 have G2:=Xh (G1.out.trans (show Gr w1 w2 from o2.below))
 have HD2:=Xh (HDL.out w2 G2.out A2 _ c2 b2)
 clear s1 s2 s3 s4 s5 s6 o2 b2
 generalize bl.length=bn at *
 go_wp2_with fail
 refine HD2.out.mono ?_
 rintro e w3 ⟨A3,n3,c3,z,rfl,b3,h3,g3,ho⟩
 have G3:=Xh (G2.out.trans g3)
 have B3:=Xh b3;have hz:=ho hd v rfl;have HZ:=Xh hz;have hn3:=h3
 clear b3 h3 g3 ho hz
 obtain⟨s1,s2,s3,s4,s5,s6⟩:=(HH.out.gr G3.out).cells
 go_wp2_with fail
 refine (HPA.out w3).mono ?_
 rintro e w4 ⟨v4,rfl,o4⟩
 rw[HWM.out] at o4
 have O4:=Xh o4
 clear s1 s2 s3 s4 s5 s6 o4
 go_wp2_with (at_builtin;refine jy rfl (.tmp 56) (.tmp 58) 85 rfl sD rfl O4.out #[.int .i64 (P:Int)] rfl rfl (nJ _ _) Xf ?_;intro v5 w5 o5;have O5:=Xh o5;obtain⟨A5,c5,rfl,sl5⟩:=o5.slice;have hcap5:=sl5.cap;have hmax5:=sl5.max;obtain⟨A6,hA6,hr6'⟩:=og sD A5 (D+1) c5 1 Xf hcap5;have hr6:∀w:World,(Instr.slice 85 (.slice A5 (D+1) c5) (some (.int .i64 1)) none none).run Tryz.prog w= .ok (.slice A6 D (c5 - 1)) w:=hr6';have HA6:=Xh hA6;clear o5 sl5 hr6' hA6)
 have hcell:∃b5 o5',A5=some ⟨b5,o5',none⟩∧A6=some ⟨b5,o5'+1,none⟩∧∀k,k<D+1→∀wq,Gr w5 wq→wq.cell? ⟨b5,o5'+k,none⟩=some (.int .i64 (nAt W k:Nat)):=by
  obtain⟨_,_,hv,sl⟩:=O5.out.slice
  injection hv with e1 _ e2
  subst e1 e2
  obtain⟨b5,o5',e,hcc⟩:=Sl.addr sl Xf
  refine⟨b5,o5',e,by have :=HA6.out Xf b5 o5' e;simpa using this,fun k hk wq g=> ?_⟩
  have :=hcc k (.int .i64 (nAt W k:Nat)) (by
   have e1:pl.map eD++ [.int .i64 (P:Int)]=(pl++ [(P:Int)]).map eD:=by rw[List.map_append];rfl
   have hkW:k<W.length:=by rw[HWN.out];exact hk
   rw[show (pl.map eD++ #[Value.int .i64 (P:Int)].toList)=(pl++ [(P:Int)]).map eD from e1,HWE.out,List.getElem?_map,List.getElem?_map,List.getElem?_eq_getElem hkW]
   unfold nAt
   rw[List.getD_eq_getElem?_getD,List.getElem?_eq_getElem hkW]
   rfl)
  exact (g.cell (p:=⟨b5,o5'+k,none⟩) (World.block_lt_of_cell? _ _ this)).trans this
 obtain⟨b5,o5',rfl,rfl,hcc⟩:=hcell
 have HCC:=Xh hcc
 have G5:=Xh (G3.out.trans (show Gr w3 w5 from O5.out.below))
 have G35:=Xh (show Gr w3 w5 from O5.out.below)
 clear hcc
 go_loopw [6,63] (fun v6 i wr=>∃k:Nat,k≤D∧i= .int .i64 (k:Int)∧Gr w5 wr∧∃A6 c6,v6= .slice A6 32 c6∧Bs wr A6 32 c6 (K (nAt W k))) (fun _ i _=>D - (Go.RowKit.intOf i).toNat)
 case atStart=>exact⟨0,Nat.zero_le _,rfl,Gr.refl _,AK,kc,rfl,HB.out.mono G5.out⟩
 case round=>
  obtain⟨k,hk,rfl,g6,AK6,c6,rfl,b6⟩:=hrel
  have B6:=Xh b6
  have G6:=Xh (G5.out.trans g6)
  have G56:=Xh g6
  clear g6 b6
  by_cases hlt:k<D
  · have t:decide ((k:Int)<(D:Int))=true:=decide_eq_true Xf
    have wk:IntKind.i64.wrap ((k:Int)+1)=(k:Int)+1:=IntWalk.i64_in _ Xf
    obtain⟨k1,k2,hkn,rows,j,r,e1,e2,e3,e4,hj,e5,e6,e7⟩:=HR.out k hlt
    have hlt1:(k:Int)<(D:Int)+1:=by omega
    have k0:wr.cell? ⟨b5,o5'+1+k,none⟩=some (.int .i64 (nAt W (k+1):Nat)):=by
     have :=HCC.out (k+1) Xf wr G56.out
     rwa[show o5'+(k+1)=o5'+1+k by omega] at this
    have HPG2:=Xh (HPK.out k hkn)
    rw[e2] at HPG2
    have HWI:=Xh (HWH.out k)
    rw[e4] at HWI
    have HD7:=Xh (fun wr A m c q=>HDC.out wr A m c rows e1 e3 q)
    have HK2:=Xh k2;have HE5:=Xh e5;have HE6:=Xh e6;have HE7:=Xh e7;have HL:=Xh e1
    have hjl:(j:Int)<(X:Int):=by omega
    clear k1 k2 hkn e1 e2 e3 e4 e5 e6 e7
    obtain⟨kq,hkq⟩:∃kq,kq=K (nAt W (k+1)):=⟨_,rfl⟩
    rw[←hkq] at HK2 HE7
    have HKQ:=Xh hkq
    clear hkq
    go_upto_region 12 with fail
    refine wrG Xe [0,1,3,7,0,16,48,112,0,0,768,1792,4080,8191,16383,32767,32767,65535,262143] [.p 0,.p 1,.p 2,.p 4,.p 5,.p 6,.p 8,.p 9,.p 10,.q 3,.q 7,.q 11,.c 12,.c 13,.p 14,.p 15,.p 16,.p 17,.p 18] Xe (trivial) ?_
    iterate 9 refine gP ?_
    iterate 2 refine gQ (fun wq hq=>(HH.out.gr (G6.out.trans (Xk hq))).cells) ?_
    refine gQ (fun wq hq=>HCC.out k Xf wq (G56.out.trans (Xk hq))) ?_
    refine gC ?_
    intro w6 g6 K hK
    refine (HPG2.out w6 (G6.out.trans ((Gr.drew _).trans g6))).mono ?_
    rintro e wn ⟨v7,rfl,o7⟩
    refine hK _ _ o7.below ?_;obtain⟨A7,c7,rfl,b7⟩:=o7.slice;have G7:=Xh (((Gr.drew wr).trans g6).trans (show Gr w6 wn from o7.below));have B7:=Xh (show Bs wn A7 _ c7 (dI rows) from b7);clear g6 o7 b7 hK
    go_simp
    generalize (dI rows).length=bn2 at *
    refine gC ?_
    intro w8 g8 K hK
    refine (HD7.out w8 A7 bn2 c7 (B7.out.mono g8)).mono ?_
    rintro e wn ⟨bo,RR,rfl,g9,_,p9,m9⟩
    refine hK _ _ g9 ?_;have G9:=Xh (G7.out.trans (g8.trans g9));have P9:=Xh p9;have M9:=Xh m9;clear g8 g9 p9 m9 hK
    go_simp
    iterate 5 refine gP ?_
    refine wNi fun wa ga=> ?_
    have Ga:=Xh (G9.out.trans ga)
    have hRL:=P9.out.len
    obtain⟨y,hy⟩:∃y,RR[j]?=some y:=⟨_,List.getElem?_eq_getElem Xf⟩
    have hyl:y.l=r:=by have :=HE5.out;rw[←M9.out,List.getElem?_map,hy] at this;exact Option.some.inj this
    have Y1:=Xh ((P9.out.q y (List.mem_of_getElem? hy)).mono ga)
    have Pa:=Xh (P9.out.mono ga)
    have hyc:=fun wq (g:Gr wa wq)=>(Pa.out.mono g).cell hy
    obtain⟨ya,yn,yc,yl⟩:=y
    obtain rfl:yl=r:=hyl
    obtain rfl:yn=80:=by have h1:yl.length=yn:=Y1.out.b.len;rw[←h1];exact HE6.out
    have HYC:Hid (∀wq,Gr wa wq→wq.cell? ⟨bo,j,none⟩=some (.slice ya 80 yc)):=hyc
    clear M9 P9 ga hy hyc k0
    go_upto_region 15 with fail
    refine wrG Xe [0,1,3,7,0,0,0,64,192,448,0,1984,4064,8160,16383,32767,65535,65535,131071,524287] [.p 0,.p 1,.p 2,.p 4,.p 5,.p 6,.p 7,.p 8,.p 10,.q 3,.q 9,.c 11,.p 12,.q 13,.c 14,.p 15,.p 16,.p 17,.p 18,.p 19] Xe (trivial) ?_
    iterate 9 refine gP ?_
    iterate 2 refine gQ (fun wq hq=>(HH.out.gr (G6.out.trans (Ga.out.trans (Xk hq)))).cells) ?_
    refine gC ?_
    intro wb gb K hK
    refine (HWI.out wb).mono ?_
    rintro e wn ⟨rfl,gc⟩
    refine hK _ _ (show Gr wb wn from gc) ?_;have Gc:=Xh (((Gr.drew wa).trans gb).trans (show Gr wb wn from gc));clear gb gc hK
    go_simp
    refine gP ?_
    refine gQ (fun wq hq=>HYC.out wq (Gc.out.trans hq)) ?_
    refine gC ?_
    intro wd gd K hK
    refine (HOP.out wd (G6.out.trans (Ga.out.trans (Gc.out.trans gd))) AK6 c6 _ (B6.out.mono (Ga.out.trans (Gc.out.trans gd))) ya 80 yc yl ((Y1.out.mono (Gc.out.trans gd)).b) Xg).mono ?_
    rintro e wn ⟨A8,n8,c8,rfl,b8,ge,_⟩
    rw[HE7.out] at b8 ⊢;refine hK _ _ ge ?_;have Ge:=Xh (Ga.out.trans ((Gc.out.trans gd).trans ge));have B8:=Xh b8;clear gd ge b8 hK
    go_simp
    iterate 5 refine gP ?_
    refine wNi fun wf gf=> ?_
    have Gf:=Xh (G56.out.trans (Ge.out.trans gf))
    obtain rfl:n8=32:=by have h1:kq.length=n8:=B8.out.len;rw[←h1];exact HK2.out
    have Bf:Hid (Bs wf A8 32 c8 kq):=B8.out.mono gf
    clear gf
    go_wp2_with fail
    go_roundw
    case rel=>exact⟨k+1,Xf,by go_num,Gf.out,A8,c8,rfl,by rw[←HKQ.out];exact Bf.out⟩
    case measure=>simp[Go.RowKit.intOf];omega
  · obtain rfl:D=k:=by omega
    have t:decide ((D:Int)<(D:Int))=false:=decide_eq_false Xf
    have B6':Hid (Bs wr AK6 32 c6 (K P)):=by have :=B6.out;rwa[HWP.out] at this
    have HOF:=Xh (HOP.out wr G6.out AK6 c6 _ B6'.out A3 n3 c3 z (B3.out.mono (G35.out.trans G56.out)) Xf)
    rw[HZ.out] at HOF
    obtain⟨s1,s2,s3,s4,s5,s6⟩:=(HH.out.gr G6.out).cells
    go_wp2_with fail
    refine HOF.out.mono ?_
    rintro e wg ⟨A9,n9,c9,rfl,b9,g10,u9⟩
    have B9:=Xh b9;have U9:=Xh u9;have G10:=Xh (G6.out.trans g10)
    clear s1 s2 s3 s4 s5 s6 b9 g10 u9
    go_wp2_with fail
    go_ret2
    exact⟨A9,n9,c9,rfl,B9.out,G10.out,U9.out⟩
def vZ (a d l:Int) (cs:Nat→Option (List UInt8×List UInt8)) (s:Int):Option (List UInt8):=if 0≤s∧s<ay a d l then (cs s.toNat).map Prod.snd else none
theorem JF {AK:Option Addr} {kc:Nat} (h:TrG w0 L a d l N m n x vl next due (.slice AK 32 kc) pt ps b c R w) (hI:TrI a d l m.T (R.map aj.l) K cs) (hU:U8 w) (hb:Bs w AK 32 kc (K 0)) (s:Int):
 Calls Tryz.prog 30 #[.pointer (some ⟨pt,0,none⟩),.int .i64 s] w (mQ w (vZ a d l cs s)):=by
 unfold vZ
 by_cases h0:0≤s∧s<ay a d l
 · rw[if_pos h0]
   obtain⟨P,W,h1,h2,h3⟩:=UR h.g h0.1 h0.2
   have hN:=h.hN
   have hn:=dM a d l
   have hl:=bM a d l
   have hpg:au a d l=av a d l+ay a d l:=rfl
   cases hc:cs s.toNat with
   |none=>exact Fj h hI hU s h0.1 P h1 h2 Xf Xf hc
   |some x=>exact Fu h hI hU hb s h0.1 P h1 h2 Xf Xf hc h3
 · rw[if_neg h0]
   exact Eu h s (by unfold aW;rw[if_neg h0])
end
end
section
open Go.RowKit
def aF (n:Nat) (cs:Nat→Option (List UInt8×List UInt8)):List (List UInt8):=(List.range n).map fun s=>hdL (cs s)
theorem iA (n:Nat) (cs:Nat→Option (List UInt8×List UInt8)):(aF n cs).length=n:=by unfold aF;rw[List.length_map,List.length_range]
theorem JG (n:Nat) (cs:Nat→Option (List UInt8×List UInt8)):aF (n+1) cs=aF n cs++ [hdL (cs n)]:=by unfold aF;rw[List.range_succ,List.map_append];rfl
section
variable {w0 w w':World} {L:Pl} {a d l:Int} {N:Nat} {m m':Mc} {n n':Nat} {x:Spr} {vl vk:Value} {next:Nat} {due:Bool} {pt ps b c:Nat} {R:List aj} {K:Nat→List UInt8} {cs:Nat→Option (List UInt8×List UInt8)}
theorem Ee (h:TrG w0 L a d l N m n x vl next due vk pt ps b c R w) (hI:TrI a d l m.T (R.map aj.l) K cs) (hU:U8 w) (LV:Nat) (hLV:ay a d l=LV):
 Calls Tryz.prog 34 #[.pointer (some ⟨pt,0,none⟩)] w fun e w'=>∃v,e= .returned v∧Own w w' 9 1 v LV ((aF LV cs).map ak):=by
 have hN:=h.hN
 have hn:=dM a d l
 have hl64:=bM a d l
 have hpg:au a d l=av a d l+ay a d l:=rfl
 obtain⟨NN,hNN⟩:∃NN:Nat,av a d l=NN:=⟨_,(Int.toNat_of_nonneg hn.1).symm⟩
 have HLF:=Xh (fun (k:Nat) (hk:k<LV) wr=>kM a d l (k:Int) wr)
 have HLE:Hid (∀k:Nat,k<LV→aW a d l k=((NN+k:Nat):Int)):=fun k hk=>by unfold aW;rw[if_pos ⟨Xf,Xf⟩,hNN];rfl
 have HPG:=Xh (fun (k:Nat) (hk:k<LV) wr (g:Gr w wr)=>(h.gr g).page (NN+k) Xf)
 have HDL:Hid (∀k:Nat,k<LV→∀wr,Gr w wr→∀A n cc,Bs wr A n cc ((R.map aj.l).getD (NN+k) [])→Calls Tryz.prog 61 #[.slice A n cc] wr (wD wr m.T (K (NN+k)) (cs k))):=fun k hk wr g A n cc q=>by
  have hl:=hI.leaf (p:=NN+k) Xf Xf
  rw[show NN+k - (av a d l).toNat=k by omega] at hl
  exact mI hl (by have :=h.ok.t;have :=h.n9;omega) q (hU.mono g)
 have HLV:=Xh (fun wr=>nD a d l wr)
 rw[hLV] at HLV
 have HH:=Xh h
 obtain⟨s1,s2,s3,s4,s5,s6⟩:=h.cells
 have h64:LV≤64:=by omega
 clear h hI hU hLV hN hn hl64 hpg hNN
 go_in
 go_wp2_with fail
 refine (HLV.out w).mono ?_
 rintro e w1 ⟨rfl,g1⟩
 have G1:=Xh (show Gr w w1 from g1)
 clear s1 s2 s3 s4 s5 s6 g1
 go_wp2_with fail
 go_loopw [2,14] (fun v i wr=>∃k:Nat,k≤LV∧i= .int .i64 (k:Int)∧Own w wr 9 1 v k ((aF k cs).map ak)) (fun _ i _=>LV - (Go.RowKit.intOf i).toNat)
 case atStart=>exact⟨0,Nat.zero_le _,rfl,(Own.nil w1 _ _).base G1.out⟩
 case round=>
  obtain⟨k,hk,rfl,o2⟩:=hrel
  have O2:=Xh o2
  have G2:=Xh (show Gr w wr from o2.below)
  clear o2
  by_cases hlt:k<LV
  · have t:decide ((k:Int)<(LV:Int))=true:=decide_eq_true Xf
    have wk:IntKind.i64.wrap ((k:Int)+1)=(k:Int)+1:=IntWalk.i64_in _ Xf
    have HLFk:=Xh (HLF.out k hlt)
    rw[HLE.out k hlt] at HLFk
    have HPGk:=Xh (HPG.out k hlt);have HDLk:=Xh (HDL.out k hlt)
    have HSN:=Xh (JG k cs)
    unfold wD at HDLk
    generalize (R.map aj.l).getD (NN+k) []=bl at *
    generalize NN+k=P at *
    obtain⟨u,hu⟩:∃u:ByteArray,u=⟨(hdL (cs k)).toArray⟩:=⟨_,rfl⟩
    rw[←hu] at HDLk
    have HU:=Xh hu
    clear hu
    go_upto_region 6 with fail
    refine wrG Xe [0,1,3,7,0,16,48,112,0,496,1023,2047,4095,8191,8191,8191,16383,98303,262143] [.p 0,.p 1,.p 2,.p 4,.p 5,.p 6,.p 8,.q 3,.q 7,.c 9,.c 10,.c 11,.p 12,.p 13,.p 14,.p 15,.p 16,.p 17,.p 18] Xe (trivial) ?_
    iterate 7 refine gP ?_
    iterate 2 refine gQ (fun wq hq=>(HH.out.gr (G2.out.trans (Xk hq))).cells) ?_
    refine gC ?_
    intro w3 g3 K hK
    refine (HLFk.out w3).mono ?_
    rintro e wn ⟨rfl,g4⟩
    refine hK _ _ (show Gr w3 wn from g4) ?_;have G4:=Xh (((Gr.drew wr).trans g3).trans (show Gr w3 wn from g4));clear g3 g4 hK
    go_simp
    refine gC ?_
    intro w5 g5 K hK
    refine (HPGk.out w5 (G2.out.trans (G4.out.trans g5))).mono ?_
    rintro e wn ⟨v6,rfl,o6⟩
    refine hK _ _ o6.below ?_;obtain⟨A6,c6,rfl,b6⟩:=o6.slice;have G6:=Xh ((G4.out.trans g5).trans (show Gr w5 wn from o6.below));have B6:=Xh (show Bs wn A6 _ c6 bl from b6);clear g5 o6 b6 hK
    go_simp
    generalize bl.length=bn at *
    refine gC ?_
    intro w7 g7 K hK
    refine (HDLk.out w7 (G2.out.trans (G6.out.trans g7)) A6 bn c6 (B6.out.mono g7)).mono ?_
    rintro e wn ⟨A8,n8,c8,z8,rfl,_,_,g8,_⟩
    refine hK _ _ g8 ?_;have G8:=Xh ((G6.out.trans g7).trans g8);clear g7 g8 hK
    go_simp
    iterate 7 refine gP ?_
    refine wNi fun w9 g9=> ?_
    have O9:=Xh (O2.out.mono (G8.out.trans g9))
    clear g9
    go_wp2_with (at_builtin;refine jy rfl (.tmp 33) (.tmp 35) 51 rfl Nt rfl O9.out #[.string u] rfl rfl (by intro q hq;rw[List.mem_singleton.1 hq];rfl) Xf ?_;intro va wa oa;have OA:=Xh oa;clear oa)
    go_roundw
    case rel=>exact⟨k+1,Xf,by go_num,by rw[HSN.out,List.map_append];have :=OA.out;rw[HU.out] at this;exact this⟩
    case measure=>simp[Go.RowKit.intOf];omega
  · obtain rfl:LV=k:=by omega
    have t:decide ((LV:Int)<(LV:Int))=false:=decide_eq_false Xf
    go_wp2_with fail
    go_ret
    exact⟨_,rfl,O2.out⟩
end
end
section
open Go.RowKit
def joinL (ps:List (List UInt8)):List UInt8:=Lib.join ps [46]
theorem Nl (l:List UInt8) (s:ByteArray) (hs:s=⟨l.toArray⟩) (k:Nat):s.extract 0 k=⟨(l.take k).toArray⟩:=by
 subst hs
 apply ByteArray.ext
 simp[ByteArray.extract,ByteArray.copySlice]
theorem FU:∀(k:Nat) (s:ByteArray),Lib.countB s ⟨#[46]⟩=k→(Lib.splitB ⟨#[46]⟩ 0 k s).map Value.string=(pcL s.data.toList).map ak:=by
 intro k
 induction k with
 |zero=>
  intro s hk
  have hix:Lib.indexB s ⟨#[46]⟩=Lib.indexByte s.data.toList 46:=Lib.index_one s.data.toList 46
  rcases oq s.data.toList _ rfl with⟨hi,hp⟩| ⟨j,hi,hj,hp⟩
  · rw[hp];rfl
  · rw[hi] at hix
    have :=Lib.countB_hit s ⟨#[46]⟩ j Xg hix
    omega
 |succ k ih=>
  intro s hk
  have hix:Lib.indexB s ⟨#[46]⟩=Lib.indexByte s.data.toList 46:=Lib.index_one s.data.toList 46
  rcases oq s.data.toList _ rfl with⟨hi,hp⟩| ⟨j,hi,hj,hp⟩
  · rw[hi] at hix
    have :=Lib.countB_miss s ⟨#[46]⟩ hix
    omega
  · rw[hi] at hix
    have hc:=Lib.countB_hit s ⟨#[46]⟩ j Xg hix
    rw[Lib.splitB_hit _ 0 k s j hix,hp,List.map_cons,List.map_cons,ih _ Xf]
    have e1:(⟨#[46]⟩:ByteArray).size=1:=rfl
    have hs:s=⟨s.data.toList.toArray⟩:=by cases s;rfl
    congr 1
    · show Value.string _=ak _
      unfold ak
      rw[←Nl _ s hs j]
      rfl
    · rw[e1,Dq _ s hs (j+1)]
end
section
open Go.RowKit
def gL (w:World):Prop:=∃m,w.cell? ⟨2,0,none⟩=some (.int .i64 m)
theorem gL.mono {w w':World} (h:gL w) (g:Gr w w'):gL w':=by
 obtain⟨m,hm⟩:=h
 exact⟨m,(g.cell (World.block_lt_of_cell? w _ hm)).trans hm⟩
theorem PV (l:List UInt8) (w:World) (hl:l.length≤100000) (hT:U8 w) (hM:gL w):Calls Tryz.prog 289 #[.string ⟨l.toArray⟩] w (Tg w (rG l)):=by
 have HR:=Xh (eu l w hl hT)
 have HM:=Xh hM
 have HP:Hid (∀wr,gL wr→Calls Tryz.prog 323 #[.string ⟨l.toArray⟩,.string ⟨#[46]⟩] wr (Tg wr (pcL l))):=fun wr ⟨m,hm⟩=>by
  have h:=Tryz.strings_Split ⟨l.toArray⟩ ⟨#[46]⟩ m wr (by rw[kI];omega) hm Xg
  have hsp:=FU _ ⟨l.toArray⟩ rfl
  rw[hsp] at h
  have hln:(pcL l).length=Lib.countB ⟨l.toArray⟩ ⟨#[46]⟩+1:=by
   have :=congrArg List.length hsp
   rw[List.length_map,List.length_map,Lib.splitB_all _ Xg 0 _ _ rfl] at this
   exact this.symm
  refine h.mono ?_
  rintro e w' ⟨rfl,rfl⟩
  refine⟨_,rfl,?_⟩
  rw[←hln]
  exact (Blk.new wr 9 ((pcL l).map ak).toArray).own (Nat.le_refl _) (Gr.alloc wr _) (by simp) (by have :=(kD l).1;simp only[maxLen];omega)
 obtain⟨s,hs⟩:∃s:ByteArray,s=⟨l.toArray⟩:=⟨_,rfl⟩
 rw[←hs] at HR ⊢
 simp only[←hs] at HP
 clear hs hT hM
 cases hb:aB l with
 |false=>
  rw[hb] at HR
  have HS:Hid (rG l=[]):=by show _=_;unfold rG;rw[if_neg (by rw[hb];decide)]
  go_in
  go_wp2_with fail
  refine HR.out.mono ?_
  rintro e w1 ⟨rfl,g1⟩
  have G1:=Xh g1;clear g1
  go_wp2_with fail
  go_ret
  exact⟨_,rfl,by rw[HS.out];exact Own.nil' G1.out _ _⟩
 |true=>
  rw[hb] at HR
  have HS:Hid (rG l=pcL l):=by show _=_;unfold rG;rw[if_pos hb]
  go_in
  go_wp2_with fail
  refine HR.out.mono ?_
  rintro e w1 ⟨rfl,g1⟩
  have G1:=Xh g1;clear g1
  go_wp2_with fail
  refine (HP.out _ (HM.out.mono G1.out)).mono ?_
  rintro e w2 ⟨v,rfl,own⟩
  have OW:=Xh own;clear own
  go_wp2_with fail
  go_ret
  exact⟨_,rfl,by rw[HS.out];exact OW.out.onto G1.out⟩
end
section
open Go.RowKit
theorem En (x:List UInt8) (r:List (List UInt8)):Lib.joinTail [46] (x::r)=46::(x++Lib.joinTail [46] r):=by simp[Lib.joinTail]
theorem mY (x:List UInt8) (r:List (List UInt8)):joinL (x::r)=x++Lib.joinTail [46] r:=Lib.join_cons x r _
theorem qy:∀l:List UInt8,joinL (pcL l)=l
 | []=>rfl
 |b::t=>by
  have ih:=qy t
  unfold pcL
  split
  · next hb=>
    subst hb
    cases hq:pcL t with
    |nil=>exact absurd hq (lq t)
    |cons q qs=>
     rw[hq,mY] at ih
     rw[mY,En,ih]
     rfl
  · cases hq:pcL t with
    |nil=>exact absurd hq (lq t)
    |cons q qs=>
     rw[hq,mY] at ih
     show joinL ((b::q)::qs)=_
     rw[mY,List.cons_append,ih]
def dN (x y:List UInt8):Int:=if Op.bytesLess x y=true then -1 else if (Op.bytesLess x y || x==y)=false then 1 else 0
def aM:List (List UInt8)→List (List UInt8)→Int
 | [],[]=>0
 | [],_::_=> -1
 |_::_,[]=>1
 |x::xs,y::ys=>if dN x y=0 then aM xs ys else dN x y
theorem vX:∀x:List UInt8,Op.bytesLess x x=false
 | []=>rfl
 |a::x=>by rw[Op.bytesLess,vX x];simp
theorem QI (a b:UInt8):a<b∨a=b∨b<a:=by
 rw[UInt8.lt_iff_toNat_lt,UInt8.lt_iff_toNat_lt]
 have :a.toNat=b.toNat→a=b:=UInt8.toNat_inj.1
 by_cases h:a.toNat=b.toNat
 · exact .inr (.inl (this h))
 · omega
theorem Cq:∀x y:List UInt8,Op.bytesLess y x=(!Op.bytesLess x y && !(x==y))
 | [],[]=>by simp[Op.bytesLess]
 |_::_,[]=>by simp[Op.bytesLess]
 | [],_::_=>by simp[Op.bytesLess]
 |a::x,b::y=>by
  rw[Op.bytesLess,Op.bytesLess,Cq x y]
  rcases QI a b with h|h|h
  · have h2:¬b<a:=UInt8.lt_asymm h
    have h3:a≠b:=UInt8.ne_of_lt h
    simp[h,h2,h3,Ne.symm h3]
  · subst h
    simp[UInt8.lt_irrefl]
  · have h2:¬a<b:=UInt8.lt_asymm h
    have h3:b≠a:=UInt8.ne_of_lt h
    simp[h,h2,h3,Ne.symm h3]
theorem CQ (x:List UInt8):dN x x=0:=by unfold dN;simp[vX]
theorem BZ (x y:List UInt8):dN y x= - dN x y:=by
 unfold dN
 rw[Cq x y]
 have h:(y==x)=(x==y):=by rw[Bool.eq_iff_iff,beq_iff_eq,beq_iff_eq];exact eq_comm
 rw[h]
 by_cases h1:Op.bytesLess x y=true
 · have h2:¬(x==y)=true:=by
    intro e
    rw[beq_iff_eq] at e
    subst e
    rw[vX] at h1
    cases h1
   simp[h1]
   simpa using h2
 · rw[Bool.not_eq_true] at h1
   cases h2:(x==y)<;>simp[h1]
theorem yT (x y:List UInt8):dN x y= -1∨dN x y=0∨dN x y=1:=by
 unfold dN
 split
 · exact .inl rfl
 · split
   · exact .inr (.inr rfl)
   · exact .inr (.inl rfl)
theorem uQ:∀xs ys,aM ys xs= - aM xs ys
 | [],[]=>rfl
 | [],_::_=>rfl
 |_::_,[]=>rfl
 |x::xs,y::ys=>by
  unfold aM
  rw[BZ x y,uQ xs ys]
  by_cases h:dN x y=0
  · rw[if_pos h,if_pos Xf]
  · rw[if_neg h,if_neg Xf]
theorem uo:∀xs ys,aM xs ys= -1∨aM xs ys=0∨aM xs ys=1
 | [],[]=> .inr (.inl rfl)
 | [],_::_=> .inl rfl
 |_::_,[]=> .inr (.inr rfl)
 |x::xs,y::ys=>by
  unfold aM
  split
  · exact uo xs ys
  · exact yT x y
def cmpL (s t:List UInt8):Int:=if aB s=true∧aB t=true then aM (pcL s) (pcL t) else 0
theorem Oh (s t:List UInt8):cmpL t s= - cmpL s t:=by
 unfold cmpL
 by_cases h:aB s=true∧aB t=true
 · rw[if_pos h,if_pos ⟨h.2,h.1⟩,uQ]
 · rw[if_neg h,if_neg (fun h'=>h ⟨h'.2,h'.1⟩)];rfl
theorem Nh (s t:List UInt8):cmpL s t= -1∨cmpL s t=0∨cmpL s t=1:=by
 unfold cmpL
 split
 · exact uo _ _
 · exact .inr (.inl rfl)
end
end Go.Proofs.YtipdlnejmcmbbaaGreatDoor
