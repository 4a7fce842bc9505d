/- Own texts, one behind the other. No condition. -/
import Derived.Test.YtipdlnejmcmbbaaGreatDoorObPkBB
set_option linter.unusedVariables false
set_option maxRecDepth 100000
set_option maxHeartbeats 8000000
set_option linter.unusedSimpArgs false
namespace Go.Proofs.YtipdlnejmcmbbaaGreatDoor
section
open Go.RowKit
section
variable {w0 w w':World} {L:Pl} {m:Mc} {n:Nat} {a d l:Int} {ps:Nat} {x:Spr} {vl vp:Value} {next:Nat} {due dead:Bool}
theorem uL (hs:Blk w ps 150 (aI L a d l x vl next vp due dead)):Calls Tryz.prog 80 #[.pointer (some ⟨ps,0,none⟩)] w fun e w'=>e= .returned (.int .u64 (x.gen:Int))∧w=w':=by
 have k7:=hs.cell 7
 clear hs
 go_in
 go_wp2_with fail
 go_ret
 exact⟨rfl,rfl⟩
theorem DJ (hs:Blk w ps 150 (aI L a d l x vl next vp due dead)):Calls Tryz.prog 75 #[.pointer (some ⟨ps,0,none⟩)] w fun e w'=>e= .returned (.bool dead)∧w=w':=by
 have k12:=hs.cell 12
 clear hs
 go_in
 go_wp2_with fail
 go_ret
 exact⟨rfl,rfl⟩
theorem rH (hs:Blk w ps 150 (aI L a d l x vl next vp due false)):Calls Tryz.prog 156 #[.pointer (some ⟨ps,0,none⟩)] w fun e w'=>e= .returned (.int .i64 0)∧w=w':=by
 have k12:=hs.cell 12
 clear hs
 go_in
 go_wp2_with fail
 go_ret
 exact⟨rfl,rfl⟩
end
end
section
open Go.RowKit
structure Pgo (w0:World) (kb:Nat) (w:World) (b c N:Nat) (R:List aj):Prop where
 o:Own w0 w 43 1 (.slice (some ⟨b,0,none⟩) N c) N (R.map aj.v)
 q:∀r∈R,QB kb w r.a r.n r.c r.l
theorem Pgo.mono {w0 w w':World} {kb b c N:Nat} {R:List aj} (h:Pgo w0 kb w b c N R) (g:Gr w w'):Pgo w0 kb w' b c N R:=⟨h.o.mono g,fun r hr=>(h.q r hr).mono g⟩
theorem Pgo.len {w0 w:World} {kb b c N:Nat} {R:List aj} (h:Pgo w0 kb w b c N R):R.length=N:=by
 obtain⟨_,_,hv,s⟩:=h.o.slice
 have :=Sl.len s
 simpa using this
theorem Own.setCell {w0 w:World} {b c N:Nat} {xs:List Value} {e:TypeId} (h:Own w0 w e 1 (.slice (some ⟨b,0,none⟩) N c) N xs) (j:Nat) (u:Value):Own w0 (w.setCell ⟨b,j,none⟩ u) e 1 (.slice (some ⟨b,0,none⟩) N c) N (xs.set j u):=
 ⟨(h.1.stored j u).1,(Tch.set (S:=fun x=>x=b) ⟨b,j,none⟩ u rfl).below h.2 h.2.size (fun x q=>by rw[q];exact h.ge rfl)⟩
theorem Pgo.set {w0 w:World} {kb b c N:Nat} {R:List aj} (h:Pgo w0 kb w b c N R) (j:Nat) (r:aj) (hr:QB kb w r.a r.n r.c r.l):Pgo w0 kb (w.setCell ⟨b,j,none⟩ r.v) b c N (R.set j r):=by
 have key:∀r':aj,QB kb w r'.a r'.n r'.c r'.l→QB kb (w.setCell ⟨b,j,none⟩ r.v) r'.a r'.n r'.c r'.l:=fun r' hq=>hq.gK (Tch.set (S:=fun x=>x=b) ⟨b,j,none⟩ r.v rfl) (fun x q=>by
  obtain⟨cs,z⟩:=h.o.aA (b:=b) rfl
  rw[q]
  exact⟨_,cs,z,by unfold tyB;decide⟩)
 refine⟨?_,fun r' hr'=> ?_⟩
 · rw[List.map_set]
   exact h.o.setCell j r.v
 · rcases List.mem_or_eq_of_mem_set hr' with q|q
   · exact key _ (h.q _ q)
   · rw[q];exact key _ hr
end
section
open Go.RowKit
def gY (P:List (List UInt8)):List (Nat×List UInt8)→List (List UInt8)
 | []=>P
 |x::l=>gY (P.set x.1 x.2) l
theorem Dh:∀(l:List (Nat×List UInt8)) (P:List (List UInt8)) (x:Nat×List UInt8),gY P (l++ [x])=(gY P l).set x.1 x.2
 | [],P,x=>rfl
 |y::l,P,x=>Dh l _ x
section
variable {w0 w w':World} {L:Pl} {m:Mc} {n:Nat} {a d l:Int} {ps b c N:Nat} {x:Spr} {vl:Value} {next:Nat} {due dead:Bool}
theorem vY (h:MSt w0 L m w) (hs:Blk w ps 150 (aI L a d l x vl next (.slice (some ⟨b,0,none⟩) N c) due dead)) (R:List aj) (hp:Pgo w0 L.kb w b c N R) (hcN:c≤9223372036854775807) (hNc:N≤c)
 (A:Option Addr) (K0 c':Nat) (R':List aU) (hP:PgW L.kb w A K0 c' R') (hk:∀x∈R',x.k<N) (hsm:∀x∈R',x.r.n≤100000) (hK:K0≤1000) (hN:N≤264)
 (hsb:∀b',A.map (·.block)=some b'→b'≠b):
 Calls Tryz.prog 152 #[.pointer (some ⟨ps,0,none⟩),.slice A K0 c'] w fun e w'=>(∃v,e= .returned v)∧MSt w0 L m w'∧(∃R2,Pgo w0 L.kb w' b c N R2∧R2.map aj.l=gY (R.map aj.l) (R'.map fun x=>(x.k,x.r.l)))∧Tch (fun x=>x=b) w w':=by
 have hcap:=Sl.cap hP.s.2;have hmax:=Sl.max hP.s.2
 have HS:=Xh hs;have HP:=Xh hP;have HH:=Xh h;have HPO:=Xh hp
 have HKR:=Xh hk;have HSM:=Xh hsm;have HSB:=Xh hsb
 have HRN:=Xh hP.s.1
 clear h hs hp hP hk hsm hsb
 go_in
 go_wp2_with fail
 go_loopw [8] (fun i wr=>∃k:Nat,k≤K0∧i= .int .i64 (k:Int)∧Tch (fun x=>x=b) w wr∧∃R2,Pgo w0 L.kb wr b c N R2∧R2.map aj.l=gY (R.map aj.l) ((R'.take k).map fun x=>(x.k,x.r.l))) (fun i _=>K0 - (Go.RowKit.intOf i).toNat)
 case atStart=>exact⟨0,Nat.zero_le _,rfl,Tch.refl _,R,HPO.out,rfl⟩
 case round=>
  obtain⟨k,hk,rfl,T,R2,hp2,hm2⟩:=hrel
  have HT:=Xh T;have HP2:=Xh hp2;have HM2:=Xh hm2
  clear T hp2 hm2
  by_cases hlt:k<K0
  · have t:decide ((k:Int)<(K0:Int))=true:=decide_eq_true Xf
    have wk:IntKind.i64.wrap ((k:Int)+1)=(k:Int)+1:=IntWalk.i64_in _ Xf
    obtain⟨b',o',y,rfl,hy,c0,c1⟩:=aU.row HP.out.s hlt
    have hbb:b'≠b:=HSB.out b' rfl
    have z0:wr.cell? ⟨b',o'+k*2,none⟩=some (.int .i64 (y.k:Int)):=(World.cell?_of_block (w:=w) (a:=⟨b',o'+k*2,none⟩) (HT.out.keep b' (World.block_lt_of_cell? w _ c0) hbb)).trans c0
    have z1:wr.cell? ⟨b',o'+k*2+1,none⟩=some (.slice y.r.a y.r.n y.r.c):=(World.cell?_of_block (w:=w) (a:=⟨b',o'+k*2+1,none⟩) (HT.out.keep b' (World.block_lt_of_cell? w _ c1) hbb)).trans c1
    have hmem:=List.mem_of_getElem? hy
    have hyk:=HKR.out y hmem
    have HYQ:Hid (QB L.kb wr y.r.a y.r.n y.r.c y.r.l):=(HP.out.r y hmem).gK HT.out (fun x q=>by
     obtain⟨cs,z⟩:=HPO.out.o.aA (b:=b) rfl
     rw[q]
     exact⟨_,cs,z,by unfold tyB;decide⟩)
    have hyn:=HSM.out y hmem
    have HY:=Xh hy
    clear c0 c1 hmem hy
    go_upto_region 3 with (refine wpList_store_row rfl 234 (.tmp 5) (.tmp 11) rfl wr.heap.size (iK y.k y.r.a y.r.n y.r.c) rfl rfl 234 #[.int .i64 0,.slice none 0 0] (Blk.new wr 234 #[.int .i64 0,.slice none 0 0]) pageSize rfl (Kn _ _ _ _) ?_)
    obtain⟨w4,hw4⟩:∃w4,w4=(wr.alloc (.cells #[.int .i64 0,.slice none 0 0] 234)).setRow wr.heap.size (iK y.k y.r.a y.r.n y.r.c):=⟨_,rfl⟩
    have G4:Hid (Gr wr w4):=by
     show Gr _ _
     rw[hw4]
     exact (Tch.row (S:=fun b=>b=wr.heap.size) (w:=wr.alloc (.cells #[.int .i64 0,.slice none 0 0] 234)) (g:=wr.heap.size) rfl (iK y.k y.r.a y.r.n y.r.c)).below (Gr.alloc _ _) (Gr.alloc wr _).size (fun b e=>e▸Nat.le_refl _)
    have B4:Hid (Blk w4 wr.heap.size 234 [.int .i64 (y.k:Int),.slice y.r.a y.r.n y.r.c]):=by
     show Blk _ _ _ _
     rw[hw4]
     exact setRow_heap _ wr.heap.size _ (iK y.k y.r.a y.r.n y.r.c) _ _ (Blk.new wr _ #[.int .i64 0,.slice none 0 0])
    rw[←hw4]
    clear hw4
    have S4:Hid (Blk w4 ps 150 (aI L a d l x vl next (.slice (some ⟨b,0,none⟩) N c) due dead)):=(HS.out.tch HT.out (fun e=>by
     obtain⟨cs,z⟩:=HPO.out.o.aA (b:=b) rfl
     rw[←e] at z
     exact absurd (bTy z HS.out) Xg)).mono G4.out
    have HCL:=Xh (fun wq (g:Gr w4 wq)=>jd y.r.a y.r.n y.r.c y.r.l wq ((HYQ.out.mono (G4.out.trans g)).b) Xf)
    have tk:decide ((y.k:Int)<(N:Int))=true:=decide_eq_true Xf
    clear z0 z1
    refine wrG Xe [0,1,3,7,0,16,0,64,192,511,1023] [.p 0,.p 1,.p 2,.p 4,.p 6,.q 3,.q 5,.q 7,.c 8,.p 9,.s 10] Xe (trivial) ?_
    refine gP ?_
    refine gP ?_
    refine gP ?_
    refine gP ?_
    refine gP ?_
    refine gQ (fun _ hq=>(S4.out.mono (Xk hq)).cell 10) ?_
    refine gQ (fun _ hq=>(B4.out.mono (Xk hq)).cell 0) ?_
    refine gQ (fun _ hq=>(B4.out.mono (Xk hq)).cell 1) ?_
    refine gC ?_
    intro w5 g5 K hK
    refine (HCL.out w5 ((Gr.drew _).trans g5)).mono ?_
    rintro e wn ⟨v6,rfl,o6⟩
    refine hK _ _ o6.below ?_;have G6:=Xh (((Gr.drew w4).trans g5).trans (show Gr w5 wn from o6.below));obtain⟨A6,c6,rfl,_⟩:=o6.slice;have Q6:=Xh (QB.own (kb:=L.kb) o6);clear g5 o6 hK
    go_simp
    refine gP ?_
    refine dV rfl rfl ?_
    intro w8 g8 K hK
    have P8:=Xh ((HP2.out.mono G4.out).mono (G6.out.trans g8))
    have Q8:=Xh (Q6.out.mono g8)
    have G8:=Xh ((G4.out.trans G6.out).trans g8)
    have fz:=P8.out.o.1.frozenAt y.k
    obtain⟨r0,hr0⟩:∃r0,R2[y.k]?=some r0:=⟨_,List.getElem?_eq_getElem (by have :=HP2.out.len;omega)⟩
    have xc:w8.cell? ⟨b,y.k,none⟩=some r0.v:=by
     obtain⟨_,_,hv,sl⟩:=P8.out.o.slice
     injection hv with e1 _ _
     subst e1
     obtain⟨b2,o2,e2,hc⟩:=Sl.addr sl Xf
     injection e2 with e2
     injection e2 with e3 e4 _
     subst e3 e4
     have :=hc y.k r0.v (by rw[List.getElem?_map,hr0];rfl)
     rwa[Nat.zero_add] at this
    clear g8 hr0
    go_simp
    refine hK _ _ ?_
    clear hK fz xc
    go_simp
    refine wNi fun wa ga=> ?_
    have pz:=P8.out.set y.k ⟨A6,y.r.l.length,c6,y.r.l⟩ Q8.out
    have T9:Tch (fun x=>x=b) w8 (w8.setCell ⟨b,y.k,none⟩ (.slice A6 y.r.l.length c6)):=Tch.set ⟨b,y.k,none⟩ _ rfl
    have PZ:=Xh (Pgo.mono (w:=w8.setCell ⟨b,y.k,none⟩ (.slice A6 y.r.l.length c6)) pz ga)
    have TZ:Hid (Tch (fun x=>x=b) w wa):=((HT.out.trans (Tch.gr G8.out)).trans T9).trans (Tch.gr ga)
    clear pz T9 ga
    go_wp2_with fail
    refine⟨⟨k+1,Xf,by go_num,TZ.out,R2.set y.k ⟨A6,y.r.l.length,c6,y.r.l⟩,PZ.out,?_⟩,by simp[Go.RowKit.intOf];omega⟩
    rw[List.map_set,HM2.out,List.take_add_one,HY.out,List.map_append]
    show _=gY _ (_++ [(y.k,y.r.l)])
    rw[Dh]
  · obtain rfl:K0=k:=by omega
    have t:decide ((K0:Int)<(K0:Int))=false:=decide_eq_false Xf
    go_wp2_with fail
    go_end0
    refine⟨⟨_,rfl⟩,HH.out.off HT.out (fun x e=>by rw[e];exact HPO.out.o.ge rfl) (fun x e=> ?_),⟨R2,HP2.out,?_⟩,HT.out⟩
    · obtain⟨cs,z⟩:=HPO.out.o.aA (b:=b) rfl
      rw[e]
      exact⟨_,cs,z,by unfold tyA tyM;decide⟩
    · have :=HM2.out
      rwa[List.take_of_length_le (by rw[HRN.out];exact Nat.le_refl _)] at this
end
end
section
open Go.RowKit
section
variable {w0 w w':World} {L:Pl} {m:Mc} {n:Nat} {a d l:Int} {ps b c N:Nat} {x:Spr} {vl:Value} {next:Nat} {due dead:Bool}
theorem Pgo.cell {kb:Nat} {R:List aj} (h:Pgo w0 kb w b c N R) {k:Nat} {r:aj} (hr:R[k]?=some r):w.cell? ⟨b,k,none⟩=some r.v:=by
 have hk:k<R.length:=(List.getElem?_eq_some_iff.1 hr).1
 have hl:=h.len
 obtain⟨_,_,hv,sl⟩:=h.o.slice
 injection hv with e1 _ _
 subst e1
 obtain⟨b2,o2,e2,hc⟩:=Sl.addr sl Xf
 injection e2 with e2
 injection e2 with e3 e4 _
 subst e3 e4
 have :=hc k r.v (by rw[List.getElem?_map,hr];rfl)
 rwa[Nat.zero_add] at this
theorem DT (hs:Blk w ps 150 (aI L a d l x vl next (.slice (some ⟨b,0,none⟩) N c) due dead)) (kb:Nat) (R:List aj) (hp:Pgo w0 kb w b c N R) (k:Nat) (r:aj) (hr:R[k]?=some r) (hn:r.n≤100000) (hcN:c≤9223372036854775807) (hNc:N≤c):
 Calls Tryz.prog 62 #[.pointer (some ⟨ps,0,none⟩),.int .i64 (k:Int)] w (fK w r.l):=by
 have hk:k<N:=by have :=(List.getElem?_eq_some_iff.1 hr).1;have :=hp.len;omega
 have c0:=hp.cell hr
 have k10:=hs.cell 10
 have hb:=(hp.q r (List.mem_of_getElem? hr)).b
 have HCL:=Xh (jd r.a r.n r.c r.l w hb Xf)
 have t0:decide ((k:Int)<0)=false:=decide_eq_false Xf
 have t1:decide ((N:Int)≤(k:Int))=false:=decide_eq_false Xf
 have t2:decide ((k:Int)<(N:Int))=true:=decide_eq_true Xf
 unfold aj.v at c0
 clear hs hp hr hb
 go_in
 go_wp2_with fail
 refine HCL.out.mono ?_
 rintro e w1 ⟨v,rfl,o1⟩
 have O1:=Xh o1
 clear o1 c0 k10
 go_wp2_with fail
 go_ret
 exact⟨v,rfl,O1.out⟩
end
end
section
open Go.RowKit
theorem FE:∀R:List aU,(R.flatMap aU.cells).length=R.length*2
 | []=>rfl
 |x::R=>by rw[List.flatMap_cons,List.length_append,FE R,aU.eX,List.length_cons];omega
section
variable {S:Nat→Prop} {w0 w w':World} {kb n c N b:Nat} {A:Option Addr} {l:List UInt8}
theorem QB.kx (h:QB kb w A n c l) (k:KX S kb w w') (hS:∀x,S x→∃t cs,Blk w x t cs∧¬tyB t):QB kb w' A n c l:=by
 have hu:∀b o,0<n→A=some ⟨b,o,none⟩→w'.heap[b]?=w.heap[b]?:=fun b o h0 e=>by
  obtain⟨a,t,m,q,h1,h2⟩:=h.u b o h0 e
  refine (k.keep b a t m q h1.no h2 (fun s=> ?_)).trans q.symm
  obtain⟨t',cs',hb',hn'⟩:=hS _ s
  unfold Blk at hb'
  rw[q] at hb'
  injection hb' with hb'
  injection hb' with _ e2 _
  exact hn' (e2▸h1)
 refine⟨⟨h.b.1,h.b.2.1,h.b.2.2.1,fun h0=> ?_⟩,fun b o h0 e=> ?_⟩
 · obtain⟨b,o,e,hc⟩:=h.b.2.2.2 h0
   exact⟨b,o,e,fun j x hx=>(World.cell?_of_block (w:=w) (a:=⟨b,o+j,none⟩) (hu b o h0 e)).trans (hc j x hx)⟩
 · obtain⟨a,t,m,q,h1,h2⟩:=h.u b o h0 e
   exact⟨a,t,m,(hu b o h0 e).trans q,h1,h2⟩
theorem Own.kx {e:TypeId} {s:Nat} {v:Value} {xs:List Value} (h:Own w0 w e s v n xs) (k:KX S kb w w') (hb:Below w0.heap.size w0 w') (h1:¬tyM e) (h2:e≠302) (hS:∀x,S x→v.ownBlock≠some x):Own w0 w' e s v n xs:=
 h.stay hb k.size (fun b q=>by
  obtain⟨cs,z⟩:=h.aA q
  exact (k.blk z h1 (fun e'=>absurd e' h2) (fun s=>hS _ s q)).trans z.symm)
theorem Pgo.kx {R:List aj} (h:Pgo w0 kb w b c N R) (k:KX S kb w w') (hb:Below w0.heap.size w0 w') (hS:∀x,S x→x≠b∧∃t cs,Blk w x t cs∧¬tyB t):Pgo w0 kb w' b c N R:=
 ⟨h.o.kx k hb Xi Xg (fun x s q=>(hS x s).1 (by injection q with q;exact q.symm)),fun r hr=>(h.q r hr).kx k (fun x s=>(hS x s).2)⟩
structure Pgw (w0:World) (kb:Nat) (w:World) (A:Option Addr) (c K:Nat) (R:List aU):Prop where
 o:Own w0 w 234 2 (.slice A K c) K (R.flatMap aU.cells)
 q:∀x∈R,QB kb w x.r.a x.r.n x.r.c x.r.l
theorem Pgw.kx {K:Nat} {R:List aU} (h:Pgw w0 kb w A c K R) (k:KX S kb w w') (hb:Below w0.heap.size w0 w') (hS:∀x,S x→∃t cs,Blk w x t cs∧¬tyB t∧t≠234):Pgw w0 kb w' A c K R:=
 ⟨h.o.kx k hb Xi Xg (fun x s q=>by
  obtain⟨cs,z⟩:=h.o.aA q
  obtain⟨t,cs',z',_,hn⟩:=hS x s
  exact hn (bTy z z').symm),fun r hr=>(h.q r hr).kx k (fun x s=>by
  obtain⟨t,cs',z',hn,_⟩:=hS x s
  exact⟨t,cs',z',hn⟩)⟩
theorem Pgw.mono {K:Nat} {R:List aU} (h:Pgw w0 kb w A c K R) (g:Gr w w'):Pgw w0 kb w' A c K R:=⟨h.o.mono g,fun r hr=>(h.q r hr).mono g⟩
theorem Pgw.pgw {K:Nat} {R:List aU} (h:Pgw w0 kb w A c K R):PgW kb w A K c R:=by
 have hl:=h.o.1.1
 obtain⟨_,_,hv,s⟩:=h.o.slice
 injection hv with e1 _ e2
 subst e1 e2
 have hlen:R.length=K:=by
  have :=FE R
  omega
 refine⟨⟨hlen,s⟩,fun b o h0 e=> ?_,h.q⟩
 subst e
 obtain⟨cs,z⟩:=h.o.aA (b:=b) rfl
 exact⟨_,_,_,z,by unfold tyM;decide,fun e=>absurd e Xg⟩
end
end
section
open Go.RowKit
def RtS (w w':World):Prop:=w.heap.size≤w'.heap.size∧∀b cs,Blk w b 143 cs→Blk w' b 143 cs
theorem KX.rts {S:Nat→Prop} {kb:Nat} {w w':World} (k:KX S kb w w') (hS:∀x,S x→∃t cs,Blk w x t cs∧t≠143):RtS w w':=
 ⟨k.size,fun b cs hb=>k.blk hb Xi Xd (fun s=>by
  obtain⟨t,cs',z,hn⟩:=hS b s
  exact hn (bTy hb z).symm)⟩
section
variable {w0 w w':World} {L:Pl} {m:Mc} {n:Nat} {a d l:Int} {ps pl b c N:Nat} {x:Spr} {next:Nat}
end
end
section
open Go.RowKit
theorem Pgo.pgs {w0 w:World} {kb b c N:Nat} {R:List aj} (h:Pgo w0 kb w b c N R):Pgs kb w (some ⟨b,0,none⟩) N c R:=by
 obtain⟨_,_,hv,s⟩:=h.o.slice
 injection hv with e1 _ e2
 subst e1 e2
 refine⟨s,fun b' o h0 e=> ?_,h.q⟩
 obtain⟨cs,z⟩:=h.o.aA (b:=b) rfl
 injection e with e
 injection e with e1 _
 subst e1
 exact⟨_,_,_,z,by unfold tyM;decide,fun e=>absurd e Xg⟩
section
variable {w0 w w':World} {L:Pl} {m:Mc} {n:Nat} {a d l:Int} {ps b c N:Nat} {x:Spr} {vl vp:Value} {next:Nat} {due:Bool}
theorem Ey (hs:Blk w ps 150 (aI L a d l x vl next vp due false)):Calls Tryz.prog 158 #[.pointer (some ⟨ps,0,none⟩),.int .i64 0] w fun e w'=>e= .returned (.int .i64 0)∧Blk w' ps 150 (aI L a d l x vl next vp due false)∧Tch (fun z=>z=ps) w w':=by
 have k12:=hs.cell 12
 have f12:=Blk.free hs 12
 have HS:=Xh hs
 clear hs
 go_in
 go_wp2_with fail
 go_ret
 exact⟨rfl,HS.out.set 12 _,Tch.set ⟨ps,12,none⟩ _ rfl⟩
end
end
section
open Go.RowKit
section
variable {w0 w w':World} {L:Pl} {m:Mc} {n:Nat} {a d l:Int} {ps b c N:Nat} {x:Spr} {vl vp:Value} {next:Nat} {due:Bool}
theorem Ir (g:Geo a d l) (pl life base first gen:Nat) (hlog:Blk w pl 294 (cB L a d l life base first)) (A:Option Addr) (N c:Nat) (R:List aU) (hP:PgW L.kb w A N c R) (hk:∀x∈R,(x.k:Int)<au a d l) (hsm:∀x∈R,x.r.n≤473) (hf:(N:Int)<l) (hfi:(first:Int)≤l) (hN:l - (first:Int)≤(N:Int)):
 Calls Tryz.prog 198 #[.pointer (some ⟨pl,0,none⟩),.slice A N c,.int .u64 (gen:Int)] w fun e w'=>e= .returned (.int .i64 5)∧Gr w w':=by
 have g0:Gr w (w.alloc (.cells #[.pointer (some ⟨pl,0,none⟩)] 148)):=Gr.alloc _ _
 have bv:Blk (w.alloc (.cells #[.pointer (some ⟨pl,0,none⟩)] 148)) w.heap.size 148 [.pointer (some ⟨pl,0,none⟩)]:=Blk.new w _ _
 obtain⟨W,hW⟩:∃W,W=w.alloc (.cells #[.pointer (some ⟨pl,0,none⟩)] 148):=⟨_,rfl⟩
 rw[←hW] at g0 bv
 have G0:=Xh g0;have BV:=Xh bv;have HW:=Xh hW
 have LOG0:=Xh (hlog.mono g0)
 have HCT:=Xh (uK A N c R (.pointer (some ⟨w.heap.size,0,none⟩)) W (hP.s.mono g0) (fun x hx wr gr=>Co w.heap.size pl life base first x wr (bv.mono gr) ((hlog.mono g0).mono gr) (hk x hx) (hsm x hx)))
 have HFI:=Xh (fun wr=>qB g N wr)
 rw[show decide ((N:Int)<l)=true from decide_eq_true hf] at HFI
 have HRO:=Xh (fun wr (k:Gr W wr)=>xB pl life base first wr g hfi ((hlog.mono g0).mono k))
 have tr:decide (l - (first:Int)≤(N:Int))=true:=decide_eq_true hN
 have hcap:=Sl.cap hP.s.2;have hmax:=Sl.max hP.s.2
 clear hlog hP hk hsm hW g0 bv
 go_in
 go_upto_region 1 with fail
 rw[←HW.out]
 have v0:=BV.out.cell 0
 go_wp2_with fail
 refine HCT.out.mono ?_
 rintro e w1 ⟨rfl,g1⟩
 have G1:=Xh (G0.out.trans g1);have GW1:=Xh g1
 have BV1:=Xh (BV.out.mono g1)
 have LOG1:=Xh (LOG0.out.mono g1)
 clear g1 v0
 have v0:=BV1.out.cell 0
 have y2:=LOG1.out.cell 2
 have y3:=LOG1.out.cell 3
 have y4:=LOG1.out.cell 4
 go_wp2_with fail
 refine (HFI.out _).mono ?_
 rintro e w2 ⟨rfl,g2⟩
 have G2:=Xh (G1.out.trans g2);have GW2:=Xh (GW1.out.trans g2)
 have BV2:=Xh (BV1.out.mono g2)
 clear g2 v0 y2 y3 y4
 have v0:=BV2.out.cell 0
 go_wp2_with fail
 refine (HRO.out _ GW2.out).mono ?_
 rintro e w3 ⟨rfl,g3⟩
 have G3:=Xh (G2.out.trans g3)
 clear g3 v0
 go_wp2_with fail
 go_ret
 exact⟨rfl,G3.out⟩
theorem IJ (g:Geo a d l) (pl life base first:Nat) (hlog:Blk w pl 294 (cB L a d l life base first)) (hb:base≤1073741824) (hf:first≤1000):
 Calls Tryz.prog 157 #[.pointer (some ⟨pl,0,none⟩)] w fun e w'=>e= .returned (.int .i64 (((base+first) % l.toNat:Nat):Int))∧Gr w w':=by
 obtain⟨h3,h4⟩:=g.l
 obtain⟨q,rfl⟩:∃q:Nat,l=(q:Int):=⟨l.toNat,Xf⟩
 rw[Int.toNat_natCast]
 have HL:=Xh hlog
 have ws:IntKind.i64.wrap ((base:Int)+(first:Int))=(base:Int)+(first:Int):=IntWalk.i64_in _ Xf
 have hm:Int.tmod ((base:Int)+(first:Int)) (q:Int)=(((base+first) % q:Nat):Int):=(Int.ofNat_tmod (base+first) q).symm
 have hlt:(base+first) % q<q:=Nat.mod_lt _ Xf
 generalize (base+first) % q=r at *
 have w2:IntKind.i64.wrap (r:Int)=(r:Int):=IntWalk.i64_in _ Xf
 have nz:((q:Int)==0)=false:=by rw[beq_eq_false_iff_ne];omega
 have nz2:¬q=0:=by omega
 clear hlog g
 go_in
 go_upto_region 3 with fail
 refine wrG Xe [0,1,3,7,15,0,32,96,224,511,0,1024,3072,7168,15360,31744,65535,131071] [.p 0,.p 1,.p 2,.p 3,.p 5,.p 6,.p 7,.p 10,.p 11,.p 12,.p 13,.p 14,.q 4,.q 8,.p 9,.q 15,.p 16,.p 17] Xe (trivial) ?_
 iterate 12 refine gP ?_
 iterate 2 refine gQ (fun wq hq=>(show _∧_ from⟨(HL.out.mono (Xk hq)).cell 6,(HL.out.mono (Xk hq)).cell 7⟩)) ?_
 refine gP ?_
 refine gQ (fun wq hq=>(HL.out.mono (Xk hq)).cell 4) ?_
 iterate 2 refine gP ?_
 refine wNi fun w1 g1=> ?_
 have G1:Hid (Gr w w1):=(Gr.drew w).trans g1
 clear g1
 go_wp2_with fail
 go_ret
 exact⟨rfl,G1.out⟩
theorem qj (h:MSt w0 L m w) (f:Fit m a d l) (hlv:m.Live) (ho:m.Ok n) (hl:x.life<1000000) (nb:Nat) (hbs:nb≤1073741824) (hdue:(due=true∧nb=next)∨(due=false∧∃pl first,vl= .pointer (some ⟨pl,0,none⟩)∧Blk w pl 294 (cB L a d l x.life x.base first)∧x.base≤1073741824∧first≤1000∧nb=(x.base+first) % l.toNat)) (hg:x.gen<18446744073709551616) (hge:w0.heap.size≤ps)
 (R:List aj) (hp:Pgo w0 L.kb w b c N R) (hlen:(N:Int)=au a d l) (hsm:∀r∈R,r.n≤479) (hn:n+2*N+4≤90000) (hs:Blk w ps 150 (aI L a d l x vl next (.slice (some ⟨b,0,none⟩) N c) due false)):
 Calls Tryz.prog 83 #[.pointer (some ⟨ps,0,none⟩)] w fun e w'=>e= .returned (.int .i64 0)∧∃pl,w.heap.size≤pl∧Blk w' pl 294 (cB L a d l (x.life+1) nb 0)∧MSt w0 L (m.begin a d l ⟨x.life+1,nb,x.gen⟩ (R.map aj.l)) w'∧Blk w' ps 150 (aI L a d l ⟨x.life+1,nb,x.gen⟩ (.pointer (some ⟨pl,0,none⟩)) next (.slice (some ⟨b,0,none⟩) N c) false false)∧KX (fun b=>b=ps) L.kb w w':=by
 have HRD:=Xh (rH hs)
 have HBG:=Xh (fun wq (g:Gr w wq)=>qV (y:=⟨x.life+1,nb,x.gen⟩) (some ⟨b,0,none⟩) N c R (h.mono g) f hlv ho (by show x.life+1<_;omega) hbs hg hge (hp.mono g).pgs hlen hsm hn (hs.mono g))
 obtain⟨m2,hm2⟩:∃m2,m2=m.begin a d l ⟨x.life+1,nb,x.gen⟩ (R.map aj.l):=⟨_,rfl⟩
 rw[←hm2] at HBG ⊢
 have wl:IntKind.u64.wrap ((x.life:Int)+1)=(x.life:Int)+1:=IntWalk.u64_in ((x.life:Int)+1) Xf
 have t1:decide ((4611686018427387904:Int)≤(x.life:Int))=false:=decide_eq_false Xf
 have HS:=Xh hs
 unfold aH at HBG
 have hcast:((x.life+1:Nat):Int)=(x.life:Int)+1:=by omega
 simp only[hcast] at HBG
 have HDU:=Xh hdue;have HG:=Xh f.g
 clear h f hlv ho hp hlen hsm hs hm2 hdue
 have k5:=HS.out.cell 5
 have k9:=HS.out.cell 9
 have k11:=HS.out.cell 11
 go_in
 go_wp2_with fail
 refine HRD.out.mono ?_
 rintro e wd ⟨rfl,hwd⟩
 subst hwd
 go_upto_if 24 with fail
 go_cut [4] (fun v wx=>v= .int .i64 (nb:Int)∧Gr w wx)
 case first=>
  rcases HDU.out with⟨hd,hb⟩| ⟨hd,pl,first,rfl,hlg,hb1,hf1,hb⟩
  · subst hd hb
    go_wp2_with fail
    go_meet
    exact⟨rfl,Gr.refl _⟩
  · subst hd
    have HNX:=Xh (IJ HG.out pl x.life x.base first hlg hb1 hf1)
    rw[←hb] at HNX
    have k8:=HS.out.cell 8
    clear hlg hb
    go_wp2_with fail
    refine HNX.out.mono ?_
    rintro e w2 ⟨rfl,g2⟩
    have G2:=Xh g2
    clear g2
    go_wp2_with fail
    go_meet
    exact⟨rfl,G2.out⟩
 case rest=>
 obtain⟨rfl,gc⟩:=hcut
 have GC:=Xh gc
 clear k5 k9 k11 HDU gc
 go_upto_region 9 with fail
 refine wrU RtS 143 (fun w w' h=>h.1) (fun w w' b cs h hb=>h.2 b cs hb) Xe [0,0,0,4,12,28,60,124,0,0,512,1536,3584,7680,16380,32766,65535,131071] [.p 0,.p 1,.p 2,.p 3,.p 4,.p 5,.p 8,.p 9,.p 10,.p 11,.p 12,.q 6,.p 7,.q 13,.p 14,.t 15,.t 16,.p 17] Xe (trivial) ?_
 refine gP ?_
 refine gP ?_
 refine gP ?_
 refine gP ?_
 refine gP ?_
 refine gP ?_
 refine gP ?_
 refine gP ?_
 refine gP ?_
 refine gP ?_
 refine gP ?_
 refine gQ (fun _ hq=>(HS.out.mono (GC.out.trans (Xk hq))).cell 5) ?_
 refine gP ?_
 refine gQ (fun _ hq=>(HS.out.mono (GC.out.trans (Xk hq))).cell 7) ?_
 refine gP ?_
 refine gT ?_
 intro w3 g3 K hK
 refine (HBG.out w3 (GC.out.trans ((Gr.drew _).trans g3))).mono ?_
 rintro e wn ⟨rfl,pl,i1,i2,i3,i4,i5⟩
 refine hK _ _ (i5.rts (fun z e=>by subst e;exact⟨150,_,HS.out.mono (GC.out.trans ((Gr.drew _).trans g3)),Xg⟩)) ?_;have GW3:=Xh (GC.out.trans ((Gr.drew _).trans g3));have I1:=Xh i1;have I2:=Xh i2;have I5:=Xh i5;have I3:=Xh i3;have hpl:w.heap.size≤pl:=Nat.le_trans GW3.out.size i4;clear g3 i1 i2 i3 i4 i5 hK
 go_simp
 refine gT ?_
 intro w5 g5 K hK
 refine (Ey (I2.out.mono g5)).mono ?_
 rintro e wn ⟨rfl,j2,j3⟩
 refine hK _ _ ((KX.tch (kb:=L.kb) j3).rts (fun z e=>by subst e;exact⟨150,_,I2.out.mono g5,Xg⟩)) ?_;have J1:Hid (MSt w0 L m2 wn):=(I1.out.mono g5).off j3 (fun z e=>e▸hge) (fun z e=>e▸⟨_,_,I2.out.mono g5,gI⟩);have J2:=Xh j2;have J3:=Xh ((I3.out.mono g5).tch j3 (fun e=>by have :=I3.out;rw[e] at this;exact absurd (bTy this I2.out) Xg));have J5:Hid (KX (fun z=>z=ps) L.kb w wn):=(((KX.gr GW3.out).trans I5.out).trans (KX.gr g5)).trans (KX.tch j3);clear g5 j2 j3 hK
 go_simp
 refine gP ?_
 refine wNi fun w7 g7=> ?_
 have Z1:=Xh (J1.out.mono g7);have Z2:=Xh (J2.out.mono g7);have Z3:=Xh (J3.out.mono g7);have Z5:=Xh (J5.out.trans (KX.gr g7))
 clear g7
 go_wp2_with fail
 go_ret
 exact⟨rfl,pl,hpl,by have :=Z3.out;simp only[cB,hcast] at this ⊢;exact this,Z1.out,Z2.out,Z5.out⟩
end
end
end Go.Proofs.YtipdlnejmcmbbaaGreatDoor
