/- Own texts, one behind the other. No condition. -/
import Derived.Test.YtipdlnejmcmbbaaGreatDoorObPkBD
import Derived.BigRegion
import Derived.Deep.RegionWith
set_option linter.unusedVariables false
set_option maxRecDepth 100000
set_option maxHeartbeats 8000000
set_option linter.unusedSimpArgs false
namespace Go.Proofs.YtipdlnejmcmbbaaGreatDoor
section
open Go.RowKit
section
variable {w0 w w':World} {a d l:Int}
theorem xV (A:Option Addr) (n c:Nat) (w:World):Calls Tryz.prog 131 #[.slice A n c] w fun e w'=>e= .returned (.bool (decide (n=0) || decide (n=80)))∧Gr w w':=by
 have HS:=Xh (iM 32 w Xg)
 have t0:((n:Int)==0)=decide (n=0):=by
  by_cases h:n=0
  · subst h;rfl
  · rw[decide_eq_false h,beq_eq_false_iff_ne];omega
 have t8:((n:Int)==80)=decide (n=80):=by
  by_cases h:n=80
  · subst h;rfl
  · rw[decide_eq_false h,beq_eq_false_iff_ne];omega
 by_cases hz:n=0
 · have HZ:=Xh hz
   rw[decide_eq_true hz] at t0 ⊢
   clear hz t8 HS
   go_in
   go_wp2_with fail
   go_ret
   exact⟨rfl,Gr.refl _⟩
 · rw[decide_eq_false hz] at t0 ⊢
   clear hz
   go_in
   go_wp2_with fail
   refine HS.out.mono ?_
   rintro e w1 ⟨rfl,hw⟩
   subst hw
   go_wp2_with fail
   go_ret
   exact⟨bV (by rw[Bool.false_or]),Gr.refl _⟩
theorem jr (A:Option Addr) (n c:Nat) (w:World):Calls Tryz.prog 122 #[.slice A n c] w fun e w'=>e= .returned (.bool (decide (n=0)))∧w=w':=by
 have t0:((n:Int)==0)=decide (n=0):=by
  by_cases h:n=0
  · subst h;rfl
  · rw[decide_eq_false h,beq_eq_false_iff_ne];omega
 go_in
 go_wp2_with fail
 go_ret
 exact⟨rfl,rfl⟩
theorem Jm (r:aj) (w:World):Calls Tryz.prog 193 #[.slice r.a r.n r.c] w fun e w'=>e= .returned (.bool (!(decide (r.n=0) || decide (r.n=80))))∧Gr w w':=by
 have HR:=Xh (xV r.a r.n r.c w)
 generalize (decide (r.n=0) || decide (r.n=80))=q at *
 go_in
 go_wp2_with fail
 refine HR.out.mono ?_
 rintro e w1 ⟨rfl,g1⟩
 have G1:=Xh g1
 clear g1
 go_wp2_with fail
 go_ret
 exact⟨rfl,G1.out⟩
theorem Ho (r:aj) (w:World):Calls Tryz.prog 195 #[.slice r.a r.n r.c] w fun e w'=>e= .returned (.bool (decide (0<r.n)))∧Gr w w':=by
 have t:decide ((0:Int)<(r.n:Int))=decide (0<r.n):=decide_eq_decide.2 Xf
 go_in
 go_wp2_with fail
 go_ret
 exact⟨bV rfl,Gr.refl _⟩
theorem Sj (A:Option Addr) (n c:Nat) (R:List aj) (q:aj→Bool) (w:World) (h:Sl w A n c 1 (R.map aj.v)) (hq:∀r∈R,∀w',Gr w w'→Calls Tryz.prog 193 #[.slice r.a r.n r.c] w' fun e w''=>e= .returned (.bool (q r))∧Gr w' w''):
 Calls Tryz.prog 271 #[.slice A n c,.func (.func 193) #[] #[]] w fun e w'=>∃r,e= .returned (.int .i64 r)∧decide (0≤r)=R.any q∧Gr w w':=by
 have hmax:=h.max
 have hcap:=h.cap
 have hll:R.length=n:=by have :=Sl.len h;simpa using this
 have HL:=Xh hll
 have HH:=Xh h;have HQ:=Xh hq;clear h hq hll
 go_in
 go_wp2
 go_loopw [8] (fun i wr=>∃k:Nat,k≤n∧i= .int .i64 k∧Gr w wr∧(R.take k).any q=false) (fun i _=>n - (Go.RowKit.intOf i).toNat)
 case atStart=>exact⟨0,Nat.zero_le _,rfl,Gr.refl _,rfl⟩
 case round=>
  obtain⟨k,hk,rfl,hbel,hall⟩:=hrel
  have HA:=Xh hall;have HB:=Xh hbel;clear hall
  by_cases hlt:k<n
  · obtain⟨b,o,rfl,hcc⟩:=Sl.addr (HH.out.mono hbel) Xf
    have hkl:k<R.length:=by rw[HL.out];exact hlt
    obtain⟨x,hx⟩:∃x,R[k]?=some x:=⟨_,List.getElem?_eq_getElem hkl⟩
    have c1:wr.cell? ⟨b,o+k,none⟩=some (.slice x.a x.n x.c):=hcc k _ (by rw[List.getElem?_map,hx];rfl)
    have HC:=Xh (HQ.out x (List.mem_of_getElem? hx) wr hbel)
    have HS:Hid ((R.take (k+1)).any q=((R.take k).any q || q x)):=by
     show _=_
     rw[List.take_add_one,hx,List.any_append]
     simp
    have HT:Hid (q x=true→R.any q=true):=fun hh=>List.any_eq_true.2 ⟨x,List.mem_of_getElem? hx,hh⟩
    clear hcc hkl hbel hx
    cases he:q x
    · have HT2:Hid ((R.take (k+1)).any q=false):=by show _=_;rw[HS.out,HA.out,he];rfl
      rw[he] at HC
      clear he
      go_wp2_with (go_at_call 193;refine HC.out.mono ?_;rintro e w1 ⟨rfl,b1⟩)
      go_roundw
      case rel=>exact⟨k+1,Xf,by go_num,HB.out.trans b1,HT2.out⟩
      case measure=>simp[Go.RowKit.intOf];omega
    · have HF:Hid (R.any q=true):=HT.out he
      rw[he] at HC
      clear he
      go_wp2_with (go_at_call 193;refine HC.out.mono ?_;rintro e w1 ⟨rfl,b1⟩)
      go_ret
      exact⟨k,rfl,by rw[HF.out,decide_eq_true_iff];omega,HB.out.trans b1⟩
  · obtain rfl:n=k:=by omega
    have HF:Hid (R.any q=false):=by have :=HA.out;rwa[List.take_of_length_le (by rw[HL.out];omega)] at this
    clear hbel
    go_wp2
    go_ret
    exact⟨-1,rfl,by rw[HF.out];rfl,HB.out⟩
theorem Js (A:Option Addr) (n c:Nat) (R:List aj) (q:aj→Bool) (w:World) (h:Sl w A n c 1 (R.map aj.v)) (hq:∀r∈R,∀w',Gr w w'→Calls Tryz.prog 193 #[.slice r.a r.n r.c] w' fun e w''=>e= .returned (.bool (q r))∧Gr w' w''):
 Calls Tryz.prog 194 #[.slice A n c,.func (.func 193) #[] #[]] w fun e w'=>e= .returned (.bool (R.any q))∧Gr w w':=by
 have HI:=Xh (Sj A n c R q w h hq)
 clear h hq
 go_in
 go_wp2_with fail
 refine HI.out.mono ?_
 rintro e w1 ⟨r,rfl,hr,g1⟩
 have HR:=Xh hr;have G1:=Xh g1;clear hr g1
 go_wp2_with fail
 go_ret
 exact⟨bV HR.out,G1.out⟩
theorem indexAny (A:Option Addr) (n c:Nat) (R:List aj) (q:aj→Bool) (w:World) (h:Sl w A n c 1 (R.map aj.v)) (hq:∀r∈R,∀w',Gr w w'→Calls Tryz.prog 195 #[.slice r.a r.n r.c] w' fun e w''=>e= .returned (.bool (q r))∧Gr w' w''):
 Calls Tryz.prog 271 #[.slice A n c,.func (.func 195) #[] #[]] w fun e w'=>∃r,e= .returned (.int .i64 r)∧decide (0≤r)=R.any q∧Gr w w':=by
 have hmax:=h.max
 have hcap:=h.cap
 have hll:R.length=n:=by have :=Sl.len h;simpa using this
 have HL:=Xh hll
 have HH:=Xh h;have HQ:=Xh hq;clear h hq hll
 go_in
 go_wp2
 go_loopw [8] (fun i wr=>∃k:Nat,k≤n∧i= .int .i64 k∧Gr w wr∧(R.take k).any q=false) (fun i _=>n - (Go.RowKit.intOf i).toNat)
 case atStart=>exact⟨0,Nat.zero_le _,rfl,Gr.refl _,rfl⟩
 case round=>
  obtain⟨k,hk,rfl,hbel,hall⟩:=hrel
  have HA:=Xh hall;have HB:=Xh hbel;clear hall
  by_cases hlt:k<n
  · obtain⟨b,o,rfl,hcc⟩:=Sl.addr (HH.out.mono hbel) Xf
    have hkl:k<R.length:=by rw[HL.out];exact hlt
    obtain⟨x,hx⟩:∃x,R[k]?=some x:=⟨_,List.getElem?_eq_getElem hkl⟩
    have c1:wr.cell? ⟨b,o+k,none⟩=some (.slice x.a x.n x.c):=hcc k _ (by rw[List.getElem?_map,hx];rfl)
    have HC:=Xh (HQ.out x (List.mem_of_getElem? hx) wr hbel)
    have HS:Hid ((R.take (k+1)).any q=((R.take k).any q || q x)):=by
     show _=_
     rw[List.take_add_one,hx,List.any_append]
     simp
    have HT:Hid (q x=true→R.any q=true):=fun hh=>List.any_eq_true.2 ⟨x,List.mem_of_getElem? hx,hh⟩
    clear hcc hkl hbel hx
    cases he:q x
    · have HT2:Hid ((R.take (k+1)).any q=false):=by show _=_;rw[HS.out,HA.out,he];rfl
      rw[he] at HC
      clear he
      go_wp2_with (go_at_call 195;refine HC.out.mono ?_;rintro e w1 ⟨rfl,b1⟩)
      go_roundw
      case rel=>exact⟨k+1,Xf,by go_num,HB.out.trans b1,HT2.out⟩
      case measure=>simp[Go.RowKit.intOf];omega
    · have HF:Hid (R.any q=true):=HT.out he
      rw[he] at HC
      clear he
      go_wp2_with (go_at_call 195;refine HC.out.mono ?_;rintro e w1 ⟨rfl,b1⟩)
      go_ret
      exact⟨k,rfl,by rw[HF.out,decide_eq_true_iff];omega,HB.out.trans b1⟩
  · obtain rfl:n=k:=by omega
    have HF:Hid (R.any q=false):=by have :=HA.out;rwa[List.take_of_length_le (by rw[HL.out];omega)] at this
    clear hbel
    go_wp2
    go_ret
    exact⟨-1,rfl,by rw[HF.out];rfl,HB.out⟩
theorem containsAny (A:Option Addr) (n c:Nat) (R:List aj) (q:aj→Bool) (w:World) (h:Sl w A n c 1 (R.map aj.v)) (hq:∀r∈R,∀w',Gr w w'→Calls Tryz.prog 195 #[.slice r.a r.n r.c] w' fun e w''=>e= .returned (.bool (q r))∧Gr w' w''):
 Calls Tryz.prog 194 #[.slice A n c,.func (.func 195) #[] #[]] w fun e w'=>e= .returned (.bool (R.any q))∧Gr w w':=by
 have HI:=Xh (indexAny A n c R q w h hq)
 clear h hq
 go_in
 go_wp2_with fail
 refine HI.out.mono ?_
 rintro e w1 ⟨r,rfl,hr,g1⟩
 have HR:=Xh hr;have G1:=Xh g1;clear hr g1
 go_wp2_with fail
 go_ret
 exact⟨bV HR.out,G1.out⟩
theorem LZ (L:List (List UInt8)) (x:List UInt8):dw (L++ [x])=dw L++aJ x:=by
 unfold dw
 rw[List.flatMap_append]
 simp
theorem mP:∀L:List (List UInt8),(∀x∈L,x.length≤80)→(dw L).length≤L.length*82
 | [],_=>Nat.zero_le _
 |x::L,h=>by
  have h1:=h x List.mem_cons_self
  have h2:=mP L (fun y hy=>h y (List.mem_cons_of_mem _ hy))
  unfold dw at h2 ⊢
  rw[List.flatMap_cons,List.length_append,fLn,List.length_cons]
  omega
theorem Kk {w:World}:∀R:List aj,(∀r∈R,Bs w r.a r.n r.c r.l)→R.any (fun r=>decide (0<r.n))=(R.map aj.l).any (fun l=>decide (0<l.length))
 | [],_=>rfl
 |r::R,hr=>by rw[List.map_cons,List.any_cons,List.any_cons,(hr r List.mem_cons_self).len,Kk R (fun q hq=>hr q (List.mem_cons_of_mem _ hq))]
theorem BQ (g:Geo a d l) (A:Option Addr) (n c:Nat) (R:List aj) (hn:(n:Int)=a) (h:Sl w A n c 1 (R.map aj.v)) (hr:∀r∈R,Bs w r.a r.n r.c r.l) (hok:∀r∈R,(decide (r.n=0) || decide (r.n=80))=true):
 Calls Tryz.prog 116 #[.agg #[.int .i64 a,.int .i64 d,.int .i64 l],.slice A n c] w fun e w'=>∃v,e= .returned (.tuple #[v,.int .i64 0])∧Own w w' 5 1 v (dI (R.map aj.l)).length ((dI (R.map aj.l)).map u8c):=by
 have hRn:R.length=n:=by have :=Sl.len h;simpa using this
 have hn4:n≤4:=by
  obtain⟨x,y,e1,e2,x1,x2,_,_⟩:=dz g.r
  omega
 obtain⟨W,hW⟩:∃W,W=w.alloc (.cells #[.int .i64 a,.int .i64 d,.int .i64 l] 23):=⟨_,rfl⟩
 have g0:Gr w W:=by rw[hW];exact Gr.alloc _ _
 have b0:Blk W w.heap.size 23 [.int .i64 a,.int .i64 d,.int .i64 l]:=by rw[hW];exact Blk.new w _ _
 have HRI:=Xh (fun wr=>gRa a d l wr)
 rw[g.r] at HRI
 have HOD:=Xh (fun wr (q:Gr w wr)=>Js A n c R (fun r=> !(decide (r.n=0) || decide (r.n=80))) wr (h.mono q) (fun r _ w' _=>Jm r w'))
 have HSO:=Xh (fun wr (q:Gr w wr)=>containsAny A n c R (fun r=>decide (0<r.n)) wr (h.mono q) (fun r _ w' _=>Ho r w'))
 have hodd:(R.any fun r=> !(decide (r.n=0) || decide (r.n=80)))=false:=by
  rw[List.any_eq_false]
  intro r q
  rw[hok r q]
  decide
 rw[hodd] at HOD
 have hsE:=Kk R hr
 have HNE:Hid (dI (R.map aj.l)=if R.any (fun r=>decide (0<r.n))=true then dw (R.map aj.l) else []):=by show _=_;rw[hsE];rfl
 generalize R.any (fun r=>decide (0<r.n))=hs at *
 have HSL:=Xh h
 have HRR:=Xh hr
 have HLE:Hid (∀r∈R,r.n≤80∧r.l.length=r.n):=fun r q=>by
  have h1:=hok r q
  have h2:=(hr r q).len
  simp only[Bool.or_eq_true,decide_eq_true_eq] at h1
  exact⟨Xf,by simpa using h2⟩
 have HRN:=Xh hRn
 have G0:=Xh g0;have B0:=Xh b0;have HW:=Xh hW
 have tn:((n:Int) !=a)=false:=by rw[hn];simp
 clear h hr hok hsE hRn g0 b0 hW hodd
 go_in
 go_upto_region 2 with fail
 rw[←HW.out]
 have k0:=B0.out.cell 0
 have k1:=B0.out.cell 1
 have k2:=B0.out.cell 2
 go_wp2_with fail
 refine (HRI.out W).mono ?_
 rintro e w1 ⟨rfl,g1⟩
 have G1:=Xh (G0.out.trans g1)
 have B1:=Xh (B0.out.mono g1)
 clear k0 k1 k2 g1
 have k0:=B1.out.cell 0
 go_wp2_with fail
 refine (HOD.out w1 G1.out).mono ?_
 rintro e w2 ⟨rfl,g2⟩
 have G2:=Xh (G1.out.trans g2)
 clear k0 g2
 go_wp2_with fail
 refine (HSO.out w2 G2.out).mono ?_
 rintro e w3 ⟨rfl,g3⟩
 have G3:=Xh (G2.out.trans g3)
 clear g3
 cases hs
 · go_wp2_with fail
   go_ret2
   refine⟨_,rfl,?_⟩
   rw[HNE.out]
   exact (Own.nil w3 _ _).base G3.out
 rw[if_pos rfl] at HNE
 go_upto_region 8 with fail
 obtain⟨w4,hw4⟩:∃w4,w4=w3.alloc (.cells #[.slice none 0 0] 231):=⟨_,rfl⟩
 rw[←hw4]
 have g34:Gr w3 w4:=by rw[hw4];exact Gr.alloc _ _
 have T4:Hid (Wtr w w4 w3.heap.size (.slice none 0 0) []):=⟨G3.out.size,by rw[hw4];exact Blk.new w3 _ _,(Own.nil w4 _ _).base (G3.out.trans g34)⟩
 clear hw4 g34
 generalize w3.heap.size=pw at *
 have hcap:=HSL.out.cap;have hmax:=HSL.out.max
 have e1:=enters_of Tryz.func196 Xe rfl
 go_wp2_with fail
 go_loopw [35] (fun i wr=>∃k:Nat,k≤n∧i= .int .i64 (k:Int)∧∃v,Wtr w wr pw v (dw ((R.take k).map aj.l))) (fun i _=>n - (Go.RowKit.intOf i).toNat)
 case atStart=>exact⟨0,Nat.zero_le _,rfl,_,T4.out⟩
 case round=>
  obtain⟨k,hk,rfl,v,ht⟩:=hrel
  have HT:=Xh ht
  clear ht
  have hgr:Gr w wr:=HT.out.o.below
  by_cases hlt:k<n
  · have t:decide ((k:Int)<(n:Int))=true:=decide_eq_true Xf
    have wk:IntKind.i64.wrap ((k:Int)+1)=(k:Int)+1:=IntWalk.i64_in _ Xf
    obtain⟨b,o,rfl,hcc⟩:=Sl.addr (HSL.out.mono hgr) Xf
    obtain⟨x,hx⟩:∃x,R[k]?=some x:=⟨_,List.getElem?_eq_getElem (by rw[HRN.out];exact hlt)⟩
    have c1:wr.cell? ⟨b,o+k,none⟩=some (.slice x.a x.n x.c):=hcc k _ (by rw[List.getElem?_map,hx];rfl)
    have hm:=List.mem_of_getElem? hx
    have hb:=HRR.out x hm
    have h80:=HLE.out x hm
    have hlen:(dw ((R.take k).map aj.l)).length≤1000:=by
     have h1:=mP ((R.take k).map aj.l) (fun y hy=>by
      obtain⟨r,hr,rfl⟩:=List.mem_map.1 hy
      have :=HLE.out r (List.mem_of_mem_take hr)
      omega)
     rw[List.length_map,List.length_take] at h1
     omega
    have HBY:=Xh (qI HT.out x.a x.n x.c x.l (hb.mono hgr) (WtX.old HT.out hb) Xf Xf)
    have HE:Hid (dw ((R.take (k+1)).map aj.l)=dw ((R.take k).map aj.l)++aJ x.l):=by
     show _=_
     rw[List.take_add_one,hx,List.map_append]
     exact LZ _ _
    clear hcc hx hm hb h80 hlen hgr
    go_wp2_with fail
    refine HBY.out.mono ?_
    rintro e w5 ⟨⟨u,rfl⟩,v',f'⟩
    have F':=Xh f'.wt
    clear f'
    go_wp2_with fail
    refine⟨⟨k+1,Xf,by go_num,v',by rw[HE.out];exact F'.out⟩,by simp[Go.RowKit.intOf];omega⟩
  · obtain rfl:n=k:=by omega
    have t:decide ((n:Int)<(n:Int))=false:=decide_eq_false Xf
    have HE:Hid (dw ((R.take n).map aj.l)=dw (R.map aj.l)):=by show _=_;rw[List.take_of_length_le (by rw[HRN.out];exact Nat.le_refl _)]
    have hlen:(dw (R.map aj.l)).length≤1000:=by
     have h1:=mP (R.map aj.l) (fun y hy=>by
      obtain⟨r,hr,rfl⟩:=List.mem_map.1 hy
      have :=HLE.out r hr
      omega)
     rw[List.length_map,HRN.out] at h1
     omega
    have HO:=Xh (Dm HT.out (by rw[HE.out];omega))
    rw[HE.out] at HO
    clear hlen
    go_wp2_with fail
    refine HO.out.mono ?_
    rintro e w5 ⟨v5,rfl,o5⟩
    have O5:=Xh (o5.base hgr)
    clear o5
    go_wp2_with fail
    go_ret2
    rw[HNE.out]
    exact⟨v5,rfl,O5.out⟩
end
end
section
open Go.RowKit
theorem U0 {x y p:Nat} {l:Int} (hr:bH (x:Int) y l=true) (hp:(p:Int)<av (x:Int) y l+ay (x:Int) y l):p<pgN x y:=by
 rw[je hr rfl rfl,gB hr rfl rfl] at hp
 unfold pgN
 omega
end
section
open Go.RowKit
def jk (l:List Int) (k:Nat):List Int:=(List.range l.length).map fun j=>if j<k∨l.length - k≤j then l.getD (l.length - 1 - j) 0 else l.getD j 0
theorem iI (l:List Int) (k:Nat):(jk l k).length=l.length:=by simp[jk]
theorem LA (l:List Int):jk l 0=l:=by
 unfold jk
 apply List.ext_getElem (by simp)
 intro i h1 h2
 simp at h1
 simp[h1]
 intro h;omega
theorem oP (l:List Int) (k j:Nat) (h:j<l.length):(jk l k)[j]?=some (if j<k∨l.length - k≤j then l.getD (l.length - 1 - j) 0 else l.getD j 0):=by simp[jk,h]
theorem Oj (l:List Int) (k:Nat) (h:l.length≤2*k+1):jk l k=l.reverse:=by
 apply List.ext_getElem?
 intro j
 by_cases hj:j<l.length
 · rw[oP l k j hj,List.getElem?_reverse hj]
   have e:l.length - 1 - j<l.length:=by omega
   rw[List.getElem?_eq_getElem e]
   split
   · simp[e]
   · have :l.length - 1 - j=j:=by omega
     simp[this,hj]
 · rw[List.getElem?_eq_none (by rw[iI];omega),List.getElem?_eq_none (by simp;omega)]
theorem LC (l:List Int) (k:Nat) (h:2*k+1<l.length):((jk l k).set k (l.getD (l.length - 1 - k) 0)).set (l.length - 1 - k) (l.getD k 0)=jk l (k+1):=by
 apply List.ext_getElem?
 intro j
 by_cases hj:j<l.length
 · rw[oP l (k+1) j hj,List.getElem?_set]
   by_cases h1:l.length - 1 - k=j
   · rw[if_pos h1,if_pos (by simp[iI];omega),if_pos Xf]
     have :l.length - 1 - j=k:=by omega
     rw[this]
   · rw[if_neg h1,List.getElem?_set]
     by_cases h2:k=j
     · rw[if_pos h2,if_pos (by simp[iI];omega),if_pos Xf,h2]
     · rw[if_neg h2,oP l k j hj]
       congr 1
       by_cases h3:j<k∨l.length - k≤j
       · rw[if_pos h3,if_pos Xf]
       · rw[if_neg h3,if_neg Xf]
 · rw[List.getElem?_eq_none (by simp[iI];omega),List.getElem?_eq_none (by rw[iI];omega)]
theorem Own.row {w0 w:World} {v:Value} {l:List Int} (h:Own w0 w 3 1 v l.length (l.map eD)) (hn:0<l.length):
 ∃g cap rest,v= .slice (some ⟨g,0,none⟩) l.length cap∧w0.heap.size≤g∧Blk w g 3 (l.map eD++rest)∧l.length+rest.length=cap∧cap≤9223372036854775807:=by
 rcases h.1.2 with⟨_,h0⟩| ⟨g,cap,cur,rfl,hg,hh,hn',hc,hs,ht⟩
 · omega
 · refine⟨g,cap,cur.toList.drop l.length,rfl,hg,?_,?_,hc⟩
   · unfold Blk
     have e:(l.map eD++cur.toList.drop l.length).toArray=cur:=by
      have ht':cur.toList.take l.length=l.map eD:=by simpa using ht
      rw[←ht',List.take_append_drop]
     rw[e];exact hh
   · simp at hs
     simp;omega
theorem Own.VZ {w0 w w':World} {g cap:Nat} {l:List Int} {rest:List Value} (hb:Below w0.heap.size w0 w') (hg:w0.heap.size≤g) (h:Blk w' g 3 (l.map eD++rest)) (hc:l.length+rest.length=cap) (hm:cap≤9223372036854775807):
 Own w0 w' 3 1 (.slice (some ⟨g,0,none⟩) l.length cap) l.length (l.map eD):=
 ⟨⟨by simp,.inr ⟨g,cap,_,rfl,hg,h,Xf,hm,by simp;omega,by simp⟩⟩,hb⟩
theorem Ip (g cap:Nat) (l:List Int) (rest:List Value) (w0 w:World) (hb:Below w0.heap.size w0 w) (hg:w0.heap.size≤g) (h:Blk w g 3 (l.map eD++rest)) (hc:l.length+rest.length=cap) (hm:cap≤9223372036854775807) (hn:0<l.length):
 Calls Tryz.prog 129 #[.slice (some ⟨g,0,none⟩) l.length cap] w fun e w'=>e= .returned (.tuple #[])∧Blk w' g 3 (l.reverse.map eD++rest)∧w.grownBy w' (some g):=by
 have hcap:l.length≤cap:=by omega
 have HC:=Xh hc;clear hc
 have HH:=Xh h;clear h
 go_in
 go_wp2
 go_loopw [2,3] (fun i j wr=>∃k m:Nat,m+k+1=l.length∧2*k≤l.length∧i= .int .i64 k∧j= .int .i64 m∧Blk wr g 3 ((jk l k).map eD++rest)∧w.grownBy wr (some g)) (fun i _ _=>l.length - (intOf i).toNat)
 case atStart=>exact⟨0,l.length - 1,Xf,Xf,rfl,by go_num,by rw[LA];exact HH.out,World.grownBy.refl w _⟩
 case round=>
  obtain⟨k,m,hkm,hk,rfl,rfl,hblk,hgr⟩:=hrel
  have hm1:m<l.length:=by omega
  have hk1:k<l.length:=by omega
  by_cases hlt:k<m
  · have c1:=hblk.cell k
    rw[List.getElem?_append_left (by simp[iI];omega),List.getElem?_map,oP l k k Xf,if_neg Xf] at c1
    simp only[Option.map_some] at c1
    have c2:=hblk.cell m
    rw[List.getElem?_append_left (by simp[iI];omega),List.getElem?_map,oP l k m Xf,if_neg Xf] at c2
    simp only[Option.map_some] at c2
    have c1':wr.cell? ⟨g,k,none⟩=some (.int .i64 (l.getD k 0)):=c1
    have c2':wr.cell? ⟨g,m,none⟩=some (.int .i64 (l.getD m 0)):=c2
    clear c1 c2
    have f1:=hblk.free k
    have f2:=hblk.free m
    have HS:Hid (((jk l k).set k (l.getD m 0)).set m (l.getD k 0)=jk l (k+1)):=by
     have h:=LC l k Xf
     have e:l.length - 1 - k=m:=by omega
     rw[e] at h
     exact h
    generalize l.getD k 0=vk at *
    generalize l.getD m 0=vm at *
    have HB:=Xh hblk;clear hblk
    have i1:(k:Int)<l.length:=by omega
    have i2:(m:Int)<l.length:=by omega
    have n1:¬(m=k):=by omega
    have n2:¬(k=m):=by omega
    have HKM:=Xh hkm;clear hkm
    have HFIN:Hid (Blk ((wr.setCell ⟨g,k,none⟩ (.int .i64 vm)).setCell ⟨g,m,none⟩ (.int .i64 vk)) g 3 ((jk l (k+1)).map eD++rest)):=by
     have h:=(HB.out.set k (.int .i64 vm)).set m (.int .i64 vk)
     rw[List.set_append_left _ _ (by simp[iI];omega),List.set_append_left _ _ (by simp[iI];omega)] at h
     have e:(((jk l k).map eD).set k (.int .i64 vm)).set m (.int .i64 vk)=(jk l (k+1)).map eD:=by
      rw[←HS.out,List.map_set,List.map_set];rfl
     rw[e] at h
     exact h
    have HGR:Hid (w.grownBy ((wr.setCell ⟨g,k,none⟩ (.int .i64 vm)).setCell ⟨g,m,none⟩ (.int .i64 vk)) (some g)):=by
     refine⟨hgr.os,hgr.tape,hgr.output,by simpa [World.setCell] using hgr.size,fun i hi hne=> ?_⟩
     rw[Below.heap_setCell _ _ _ i (fun e=>hne (by rw[e])),Below.heap_setCell _ _ _ i (fun e=>hne (by rw[e]))]
     exact hgr.block i hi hne
    clear hgr
    go_wp2
    go_region
    all_goals
     go_wp2
     go_roundw
     case rel=>exact⟨k+1,m - 1,by have :=HKM.out;omega,by have :=HKM.out;omega,by go_num,by go_num,HFIN.out,⟨HGR.out.os,HGR.out.tape,HGR.out.output,HGR.out.size,HGR.out.block⟩⟩
     case measure=>simp[intOf];omega
  · have HFIN:Hid (Blk wr g 3 (l.reverse.map eD++rest)):=by
     rw[Oj l k Xf] at hblk
     exact hblk
    clear hblk
    go_wp2
    go_end0
    exact⟨rfl,HFIN.out,hgr⟩
theorem Je (v:Value) (l:List Int) (w0 w:World) (h:Own w0 w 3 1 v l.length (l.map eD)):
 Calls Tryz.prog 129 #[v] w fun e w'=>e= .returned (.tuple #[])∧Own w0 w' 3 1 v l.length (l.reverse.map eD):=by
 rcases Nat.eq_zero_or_pos l.length with hz|hn
 · have hl:l=[]:=List.eq_nil_of_length_eq_zero hz
   subst hl
   obtain⟨A,c,rfl,hs⟩:=h.slice
   have HF:=Xh h;clear h hs
   go_in
   go_wp2
   refine wp_loop_rounds 1 ?_
   rw[rounds_succ]
   go_wp2
   go_end0
   exact⟨rfl,HF.out⟩
 · obtain⟨g,cap,rest,rfl,hg,hblk,hc,hm⟩:=h.row hn
   refine (Ip g cap l rest w0 w h.below hg hblk hc hm hn).mono ?_
   rintro e w' ⟨rfl,hb',hgr⟩
   have h2:=Own.VZ (w0:=w0) (w:=w) (l:=l.reverse) (h.below.grown hgr h.below.size (fun k hk=>by injection hk with hk;omega)) hg hb' (by simp;omega) hm
   rw[List.length_reverse] at h2
   exact⟨rfl,h2⟩
end
section
open Go.RowKit
def kG (a d l s:Int):List Int:=if aW a d l s= -1 then [] else (upI a d l (iT a d l (aW a d l s))).reverse
theorem Qu (a d l p:Int) (w:World):
 Calls Tryz.prog 63 #[.agg #[.int .i64 a,.int .i64 d,.int .i64 l],.int .i64 p] w (wM w (kG a d l p)):=by
 obtain⟨wl,HWL,HB,HCELL⟩:=iO w a d l
 by_cases hy:aW a d l p= -1
 · have HE:Hid (kG a d l p=[]):=by show _=_;unfold kG;rw[if_pos hy]
   go_in
   go_wp2_with fail
   rw[←HWL.out]
   refine (kM _ _ l _ _).mono ?_
   rintro e w1 ⟨rfl,b1⟩
   rw[hy]
   have B1:=Xh (bBo HB.out b1);clear b1 hy
   go_wp2
   go_ret
   exact⟨_,rfl,by rw[HE.out];exact Own.nil' B1.out _ _⟩
 · have HE:Hid (kG a d l p=(upI a d l (iT a d l (aW a d l p))).reverse):=by show _=_;unfold kG;rw[if_neg hy]
   have t1:(aW a d l p== -1)=false:=by simpa using hy
   clear hy
   go_in
   go_wp2_with fail
   rw[←HWL.out]
   refine (kM _ _ l _ _).mono ?_
   rintro e w1 ⟨rfl,b1⟩
   generalize aW a d l p=lf at *
   obtain⟨c0,c1,c2⟩:=HCELL.out w1 b1
   have B1:=Xh b1;clear b1
   go_wp2_with fail
   go_region_with (first|(go_at_call 128;refine (yR a d l lf _).mono ?_;rintro e w2 ⟨rfl,b2⟩;have B2:=Xh (bBo B1.out.drew b2);obtain⟨d0,d1,d2⟩:=HCELL.out w2 B2.out;clear b2)|(go_at_call 110;refine (OI a d l _ _).mono ?_;rintro e w3 ⟨v3,rfl,o3⟩))
   all_goals
    have O3:=Xh (o3.base (bBo HB.out B2.out))
    clear o3
    go_wp2_with fail
    refine (Je _ _ _ _ O3.out).mono ?_
    rintro e w4 ⟨rfl,o4⟩
    have O4:=Xh o4;clear o4
    go_wp2
    go_ret
    exact⟨_,rfl,by rw[HE.out,List.length_reverse];exact O4.out⟩
end
section
def dn (x nd:Nat):Nat→Nat→Nat→Option (Nat×Nat)
 |0,f,l=>if f<nd then none else some (f,l)
 |k+1,f,l=>if f<nd then (if l<nd then dn x nd k (x*f+1) (x*l+x) else none) else some (f,l)
def dnL (x y p:Nat):Nat×Nat:=(dn x (ndN x y) 4 p p).getD (0,0)
def zQ (x y p:Nat):List Int:=(List.range ((dnL x y p).2+1 - (dnL x y p).1)).map fun i=>(((dnL x y p).1 - ndN x y+i:Nat):Int)
section
variable (a d l:Int)
def qQ (p:Int):List Int:=if fI a d l p then zQ a.toNat d.toNat p.toNat else []
end
theorem LD {a d l p:Int} (h:fI a d l p=true):qQ a d l p=zQ a.toNat d.toNat p.toNat:=by unfold qQ;rw[if_pos h]
theorem Px {a d l p:Int} (h:fI a d l p=false):qQ a d l p=[]:=by unfold qQ;rw[if_neg (by rw[h];simp)]
end
section
open Go.RowKit Go.Maps
def Rp (x y p:Nat):List Int:=((List.range (x ^ y)).filter fun s=>decide (ndN x y+s=p) || (upL x ((ndN x y+s - 1) / x)).contains p).map fun (s:Nat)=>(s:Int)
theorem UN:((List.range 5).all fun x=>(List.range 4).all fun y=>(List.range 85).all fun p=> !(decide (2≤x) && decide (1≤y) && decide (p<pgN x y)) || (Rp x y p==zQ x y p))=true:=by decide +kernel
theorem Tq {x y p:Nat} (h1:2≤x) (h2:x≤4) (h3:1≤y) (h4:y≤3) (h5:p<pgN x y):Rp x y p=zQ x y p:=by
 have h6:=Fq h1 h2 h3 h4
 have h:=List.all_eq_true.1 (List.all_eq_true.1 (List.all_eq_true.1 UN x (List.mem_range.2 Xf)) y (List.mem_range.2 Xf)) p (List.mem_range.2 Xf)
 simpa [h1,h3,h5] using h
theorem Ny (x:Nat):∀f p q,q∈upF x f p→q≤p
 |0,p,q,h=>by cases h
 |f+1,p,q,h=>by
  unfold upF at h
  rcases List.mem_cons.1 h with rfl|h
  · exact Nat.le_refl _
  · split at h
    · cases h
    · have h1:=Ny x f _ q h
      have :(p - 1) / x≤p - 1:=Nat.div_le_self _ _
      omega
theorem rY {x p q:Nat} (h:q∈upL x p):q≤p:=Ny x _ p q h
theorem KI {x y:Nat} (hx:1≤x) (hy:1≤y):1≤ndN x y:=by
 obtain⟨k,rfl⟩:∃k,y=k+1:=⟨y - 1,Xf⟩
 unfold ndN
 have :=Nat.pow_pos (n:=k) (show 0<x by omega)
 omega
section
variable {a d l:Int}
theorem DC {s:Int} (h0:0≤s) (h:s<ay a d l):bH a d l=true:=by
 cases hr:bH a d l
 · rw[lM hr] at h;omega
 · rfl
theorem zT {s:Int} (h0:0≤s) (h:s<ay a d l):∃x y n:Nat,a=x∧d=y∧s=n∧2≤x∧x≤4∧1≤y∧y≤3∧bH a d l=true∧n<x ^ y∧aW a d l s=((ndN x y+n:Nat):Int)∧upI a d l (aW a d l s)=(upL x (ndN x y+n)).map (fun (q:Nat)=>(q:Int))∧
 kG a d l s=((upL x ((ndN x y+n - 1) / x)).map (fun (q:Nat)=>(q:Int))).reverse∧upL x (ndN x y+n)=(ndN x y+n)::upL x ((ndN x y+n - 1) / x):=by
 have hr:=DC h0 h
 obtain⟨x,y,rfl,rfl,hx1,hx2,hy1,hy2⟩:=dz hr
 obtain⟨n,rfl⟩:=Int.eq_ofNat_of_zero_le h0
 have hl:=h
 rw[gB hr rfl rfl] at hl
 have hp:=KI (show 1≤x by omega) hy1
 have e1:aW (x:Int) y l n=((ndN x y+n:Nat):Int):=by unfold aW;rw[if_pos ⟨h0,h⟩,je hr rfl rfl];simp
 have hpg:((ndN x y+n:Nat):Int)<av (x:Int) y l+ay (x:Int) y l:=by rw[je hr rfl rfl,gB hr rfl rfl];omega
 have hdv:(ndN x y+n - 1) / x≤ndN x y+n - 1:=Nat.div_le_self _ _
 have e2:iT (x:Int) y l ((ndN x y+n:Nat):Int)=(((ndN x y+n - 1) / x:Nat):Int):=by
  unfold iT
  rw[if_pos ⟨Xf,hpg⟩]
  have :((ndN x y+n:Nat):Int) - 1=((ndN x y+n - 1:Nat):Int):=by omega
  rw[this];exact (Int.natCast_ediv _ _).symm
 refine⟨x,y,n,rfl,rfl,rfl,hx1,hx2,hy1,hy2,hr,Xf,e1,?_,?_,mo x _ Xf⟩
 · rw[e1];unfold upI;rw[if_pos (fB ⟨Xf,hpg⟩),Int.toNat_natCast,Int.toNat_natCast]
 · unfold kG
   rw[e1,if_neg Xf,e2]
   clear e2
   generalize (ndN x y+n - 1) / x=q at *
   unfold upI
   rw[if_pos (fB ⟨Xf,Xf⟩),Int.toNat_natCast,Int.toNat_natCast]
def MK (a d l p:Int):List Int:=((List.range (ay a d l).toNat).filter fun (s:Nat)=>(aW a d l s==p) || (kG a d l s).contains p).map fun (s:Nat)=>(s:Int)
theorem mem_cast (L:List Nat) (p:Int):p∈L.map (fun (q:Nat)=>(q:Int))↔0≤p∧p.toNat∈L:=by
 constructor
 · intro h
   obtain⟨q,hq,rfl⟩:=List.mem_map.1 h
   exact⟨Xf,by simpa using hq⟩
 · rintro⟨h0,h⟩
   exact List.mem_map.2 ⟨p.toNat,h,Xf⟩
theorem Ky {s p:Int} (h0:0≤s) (h:s<ay a d l):p∈upI a d l (aW a d l s)↔(aW a d l s=p∨p∈kG a d l s):=by
 obtain⟨x,y,n,rfl,rfl,rfl,hx1,hx2,hy1,hy2,hr,hn,e1,e2,e3,e4⟩:=zT h0 h
 rw[e2,e3,e1,e4,List.map_cons,List.mem_cons,List.mem_reverse]
 constructor
 · rintro (h|h)
   · exact .inl h.symm
   · exact .inr h
 · rintro (h|h)
   · exact .inl h.symm
   · exact .inr h
theorem Ou {s p:Int} (h0:0≤s) (h:s<ay a d l) (hp:p∈upI a d l (aW a d l s)):0≤p∧p<av a d l+ay a d l:=by
 obtain⟨x,y,n,rfl,rfl,rfl,hx1,hx2,hy1,hy2,hr,hn,e1,e2,e3,e4⟩:=zT h0 h
 rw[e2,mem_cast] at hp
 have :=rY hp.2
 rw[je hr rfl rfl,gB hr rfl rfl]
 omega
theorem yw (s p:Int):s∈MK a d l p↔(0≤s∧s<ay a d l)∧p∈upI a d l (aW a d l s):=by
 unfold MK
 rw[mem_cast,List.mem_filter,List.mem_range]
 constructor
 · rintro⟨h0,h1,h2⟩
   have e:((s.toNat:Nat):Int)=s:=by omega
   rw[e] at h2
   have hs:s<ay a d l:=by omega
   refine⟨⟨h0,hs⟩,(Ky h0 hs).2 ?_⟩
   simpa using h2
 · rintro⟨⟨h0,h1⟩,h2⟩
   have e:((s.toNat:Nat):Int)=s:=by omega
   refine⟨h0,Xf,?_⟩
   rw[e]
   have :=(Ky h0 h1).1 h2
   simpa using this
theorem Kw (p:Int):MK a d l p=qQ a d l p:=by
 by_cases h:0≤p∧p<av a d l+ay a d l
 · have hr:=jO h.1 h.2
   obtain⟨x,y,rfl,rfl,hx1,hx2,hy1,hy2⟩:=dz hr
   obtain⟨q,rfl⟩:=Int.eq_ofNat_of_zero_le h.1
   rw[LD (fB h)]
   simp only[Int.toNat_natCast]
   rw[←Tq hx1 hx2 hy1 hy2 (U0 hr h.2)]
   unfold MK Rp
   rw[gB hr rfl rfl,Int.toNat_natCast]
   congr 1
   apply List.filter_congr
   intro s hs
   have hs':=List.mem_range.1 hs
   have h0:(0:Int)≤s:=by omega
   have h1:(s:Int)<ay (x:Int) y l:=by rw[gB hr rfl rfl];omega
   obtain⟨x',y',n,ex,ey,en,_,_,_,_,_,_,e1,e2,e3,e4⟩:=zT h0 h1
   obtain rfl:x=x':=by omega
   obtain rfl:y=y':=by omega
   obtain rfl:s=n:=by omega
   rw[e1,e3]
   congr 1
   · rw[Bool.eq_iff_iff,decide_eq_true_iff,beq_iff_eq];omega
   · rw[Bool.eq_iff_iff,List.contains_iff_mem,List.contains_iff_mem,List.mem_reverse,mem_cast];simp
 · rw[Px (lu h)]
   apply List.eq_nil_iff_forall_not_mem.2
   intro s hs
   obtain⟨⟨h0,h1⟩,h2⟩:=(yw s p).1 hs
   exact h (Ou h0 h1 h2)
def jl (a d l:Int) (S:List Int) (k:Nat):List Int:=((List.range k).filter fun (p:Nat)=>(qQ a d l p).any fun u=>S.contains u).map fun (p:Nat)=>(p:Int)
theorem Qy (S:List Int) (k:Nat):(jl a d l S k).length≤k:=by
 unfold jl
 rw[List.length_map]
 exact Nat.le_trans (List.length_filter_le _ _) (by simp)
theorem Qt {p:Int} (h:p<0):upI a d l p=[]:=by unfold upI;rw[if_neg (by rw[lu Xf];decide)]
theorem Qm (S:List Int):gV (S.flatMap fun s=>upI a d l (aW a d l s))=jl a d l S (au a d l).toNat:=by
 refine Kr (nV _) ?_ (fun p=> ?_)
 · unfold jl
   rw[List.pairwise_map]
   exact (List.pairwise_lt_range.filter _).imp (fun {x y} h=>by omega)
 · rw[gG]
   unfold jl
   rw[mem_cast,List.mem_filter,List.mem_range,List.mem_flatMap,List.any_eq_true]
   have hpg:=CB a d l
   constructor
   · rintro⟨s,hs,hp⟩
     by_cases h:0≤s∧s<ay a d l
     · have hin:=Ou h.1 h.2 hp
       have e:((p.toNat:Nat):Int)=p:=by omega
       refine⟨hin.1,Xf,s,?_,List.contains_iff_mem.2 hs⟩
       rw[e,←Kw]
       exact (yw s p).2 ⟨h,hp⟩
     · have :aW a d l s= -1:=by unfold aW;rw[if_neg h]
       rw[this,Qt Xf] at hp
       cases hp
   · rintro⟨h0,h1,s,hs,hS⟩
     have e:((p.toNat:Nat):Int)=p:=by omega
     rw[e,←Kw] at hs
     exact⟨s,List.contains_iff_mem.1 hS,((yw s p).1 hs).2⟩
end
end
end Go.Proofs.YtipdlnejmcmbbaaGreatDoor
