/- Own texts, one behind the other. No condition. -/
import Derived.Test.YtipdlnejmcmbbaaGreatDoorObPkBL
import Derived.Calls
import Derived.Below
import Derived.Sort.Grow
set_option linter.unusedVariables false
set_option maxRecDepth 100000
set_option maxHeartbeats 8000000
set_option linter.unusedSimpArgs false
namespace Go.Proofs.YtipdlnejmcmbbaaGreatDoor
section
open Go.RowKit
theorem wu (x:ByteArray) (w:World):Calls Tryz.prog 227 #[.string x] w fun e w'=>e= .returned (.bool false)∧w'=w:=by
 have t1:(x.toList==x.toList)=true:=by simp
 go_in
 go_wp2
 go_ret
 exact⟨by simp,rfl⟩
theorem KT (x y:ByteArray) (w:World) (P:Program):Sem.run P (binOp .gtr 9 (.string x) (.string y)) w= .ok (.bool (!(Op.bytesLess x.toList y.toList || x.toList==y.toList))) w:=rfl
theorem zV (x y:ByteArray) (w:World):Calls Tryz.prog 144 #[.string x,.string y] w fun e w'=>e= .returned (.int .i64 (dN x.toList y.toList))∧w'=w:=by
 obtain⟨r,hr⟩:∃r,r=dN x.toList y.toList:=⟨_,rfl⟩
 rw[←hr]
 have HR:Hid (r=if Op.bytesLess x.toList y.toList=true then -1 else if (Op.bytesLess x.toList y.toList || x.toList==y.toList)=false then 1 else 0):=hr
 clear hr
 cases t1:Op.bytesLess x.toList y.toList with
 |true=>
  have HF:Hid (r= -1):=by show _=_;rw[HR.out,if_pos t1]
  go_in
  go_wp2_with (go_at_call 227;refine (wu _ _).mono ?_;rintro e w' ⟨rfl,rfl⟩)
  go_ret
  exact⟨by rw[HF.out];rfl,rfl⟩
 |false=>
  cases t2:(x.toList==y.toList) with
  |true=>
   have HF:Hid (r=0):=by show _=_;rw[HR.out,t1,t2];rfl
   go_in
   go_wp2_with (go_at_call 227;refine (wu _ _).mono ?_;rintro e w' ⟨rfl,rfl⟩)
   rw[KT,t1,t2]
   go_wp2
   go_ret
   exact⟨by rw[HF.out];rfl,rfl⟩
  |false=>
   have HF:Hid (r=1):=by show _=_;rw[HR.out,t1,t2];rfl
   go_in
   go_wp2_with (go_at_call 227;refine (wu _ _).mono ?_;rintro e w' ⟨rfl,rfl⟩)
   rw[KT,t1,t2]
   go_wp2
   go_ret
   exact⟨by rw[HF.out];rfl,rfl⟩
theorem E5 {a b:List (List UInt8)} {k:Nat} (ha:k<a.length) (hb:k<b.length):aM (a.drop k) (b.drop k)=if dN a[k] b[k]=0 then aM (a.drop (k+1)) (b.drop (k+1)) else dN a[k] b[k]:=by
 rw[List.drop_eq_getElem_cons ha,List.drop_eq_getElem_cons hb]
 rfl
theorem GY {a b:List (List UInt8)} {k:Nat} (ha:k<a.length) (hb:b.length≤k):aM (a.drop k) (b.drop k)=1:=by
 rw[List.drop_eq_getElem_cons ha,List.drop_eq_nil_of_le hb]
 rfl
theorem Jl {a b:List (List UInt8)} {k:Nat} (ha:a.length=k):aM (a.drop k) (b.drop k)=if k<b.length then -1 else 0:=by
 rw[List.drop_eq_nil_of_le (Nat.le_of_eq ha)]
 split
 · next h=>rw[List.drop_eq_getElem_cons h];rfl
 · next h=>rw[List.drop_eq_nil_of_le Xf];rfl
theorem JE (A B:Option Addr) (n m c d:Nat) (a b:List (List UInt8)) (w:World) (ha:Ws w A n c a) (hb:Ws w B m d b):
 Calls Tryz.prog 225 #[.slice A n c,.slice B m d] w fun e w'=>e= .returned (.int .i64 (aM a b))∧Gr w w':=by
 have hla:=ha.len
 have hlb:=hb.len
 have ma:=ha.max
 have mb:=hb.max
 have ca:=ha.cap
 have cb:=hb.cap
 have HA:=Xh ha;have HB:=Xh hb;clear ha hb
 have HLA:=Xh hla;have HLB:=Xh hlb;clear hla hlb
 obtain⟨r,hr⟩:∃r,r=aM a b:=⟨_,rfl⟩
 rw[←hr]
 have HR:Hid (r=aM (a.drop 0) (b.drop 0)):=hr
 clear hr
 go_in
 go_wp2
 go_loopw [11] (fun i wr=>∃k:Nat,k≤n∧i= .int .i64 k∧Gr w wr∧r=aM (a.drop k) (b.drop k)) (fun i _=>n - (intOf i).toNat)
 case atStart=>exact⟨0,Nat.zero_le _,rfl,Gr.refl _,HR.out⟩
 case round=>
  obtain⟨k,hk,rfl,g,hsame⟩:=hrel
  have HSM:=Xh hsame;have G:=Xh g;clear hsame
  by_cases hlt:k<n
  · have hka:k<a.length:=by rw[HLA.out];exact hlt
    by_cases hlm:k<m
    · have hkb:k<b.length:=by rw[HLB.out];exact hlm
      obtain⟨b1,o1,rfl,hc1⟩:=Ws.addr (HA.out.mono g) Xf
      obtain⟨b2,o2,rfl,hc2⟩:=Ws.addr (HB.out.mono g) Xf
      have c1:wr.cell? ⟨b1,o1+k,none⟩=some _:=hc1 k hka
      have c2:wr.cell? ⟨b2,o2+k,none⟩=some _:=hc2 k hkb
      have HST:Hid (r=if dN a[k] b[k]=0 then aM (a.drop (k+1)) (b.drop (k+1)) else dN a[k] b[k]):=HSM.out.trans (E5 hka hkb)
      have t2:decide ((k:Int)≥(m:Int))=false:=decide_eq_false Xf
      clear hc1 hc2 g
      generalize a[k]=x at *
      generalize b[k]=y at *
      obtain⟨xs,hxs⟩:∃xs:ByteArray,xs=⟨x.toArray⟩:=⟨_,rfl⟩
      obtain⟨ys,hys⟩:∃ys:ByteArray,ys=⟨y.toArray⟩:=⟨_,rfl⟩
      rw[←hxs] at c1
      rw[←hys] at c2
      have hxl:xs.toList=x:=by rw[ByteArray.toList_eq,hxs]
      have hyl:ys.toList=y:=by rw[ByteArray.toList_eq,hys]
      have HCP:=Xh (fun w=>zV xs ys w)
      rw[hxl,hyl] at HCP
      clear hxs hys hxl hyl
      generalize dN x y=q at *
      by_cases he:q=0
      · subst he
        have HE:Hid (r=aM (a.drop (k+1)) (b.drop (k+1))):=by show _=_;rw[HST.out,if_pos rfl]
        go_wp2_with fail
        refine (HCP.out _).mono ?_
        rintro e w' ⟨rfl,rfl⟩
        go_wp2_with fail
        refine⟨⟨k+1,Xf,by first|trivial|go_num,G.out,HE.out⟩,?_⟩
        show n - ((k:Int)+1).toNat<n - (k:Int).toNat
        omega
      · have HE:Hid (r=q):=by show _=_;rw[HST.out,if_neg he]
        have t1:(q !=0)=true:=bne_iff_ne.2 he
        go_wp2_with fail
        refine (HCP.out _).mono ?_
        rintro e w' ⟨rfl,rfl⟩
        go_wp2_with fail
        go_ret
        exact⟨by rw[HE.out];rfl,G.out⟩
    · obtain⟨b1,o1,rfl,hc1⟩:=Ws.addr (HA.out.mono g) Xf
      have c1:wr.cell? ⟨b1,o1+k,none⟩=some _:=hc1 k hka
      have HE:Hid (r=1):=HSM.out.trans (GY hka (by rw[HLB.out];omega))
      have t2:decide ((k:Int)≥(m:Int))=true:=decide_eq_true Xf
      clear hc1 g
      go_wp2_with fail
      go_ret
      exact⟨by rw[HE.out];rfl,G.out⟩
  · obtain rfl:k=n:=by omega
    have HE:Hid (r=if k<b.length then -1 else 0):=HSM.out.trans (Jl HLA.out)
    clear g
    by_cases hkm:k<m
    · have HF:Hid (r= -1):=by show _=_;rw[HE.out,if_pos (by rw[HLB.out];exact hkm)]
      have t2:decide ((k:Int)<(m:Int))=true:=decide_eq_true Xf
      go_wp2_with fail
      go_ret
      exact⟨by rw[HF.out];rfl,G.out⟩
    · have HF:Hid (r=0):=by show _=_;rw[HE.out,if_neg (by rw[HLB.out];exact hkm)]
      have t2:decide ((k:Int)<(m:Int))=false:=decide_eq_false Xf
      go_wp2_with fail
      go_ret
      exact⟨by rw[HF.out];rfl,G.out⟩
theorem yU (l:List UInt8) (w:World) (hl:l.length≤100000) (hT:U8 w) (hb:aB l=false):Calls Tryz.prog 289 #[ak l] w fun e w'=>e= .returned (.slice none 0 0)∧Gr w w':=by
 have HR:Hid (Calls Tryz.prog 104 #[ak l] w fun e w'=>e= .returned (.bool (aB l))∧Gr w w'):=eu l w hl hT
 rw[hb] at HR
 clear hb hT
 go_in
 go_wp2_with fail
 refine HR.out.mono ?_
 rintro e w1 ⟨rfl,g1⟩
 have G1:=Xh g1;clear g1
 go_wp2_with fail
 go_ret
 exact⟨rfl,G1.out⟩
def Lp (w:World) (ps:List (List UInt8)) (e:Ending) (w':World):Prop:=∃b o c:Nat,e= .returned (.slice (some ⟨b,o,none⟩) ps.length c)∧Ws w' (some ⟨b,o,none⟩) ps.length c ps∧Gr w w'
theorem zX (l:List UInt8) (w:World) (hl:l.length≤100000) (hT:U8 w) (hM:gL w) (hb:aB l=true):Calls Tryz.prog 289 #[ak l] w (Lp w (pcL l)):=by
 have hs:rG l=pcL l:=if_pos hb
 refine (PV l w hl hT hM).mono ?_
 rintro e w' ⟨v,rfl,ow⟩
 rw[hs] at ow
 obtain⟨A,c,rfl,sl⟩:=ow.slice
 obtain⟨b,o,rfl,_⟩:=Ws.addr sl (List.length_pos_iff.2 (lq l))
 exact⟨b,o,c,rfl,sl,ow.below⟩
end
section
open Go.RowKit
def wN (w:World) (q:Int) (e:Ending) (w':World):Prop:=∃(A B:Option Addr) (n m c d:Nat) (a b:List (List UInt8)),e= .returned (.tuple #[.slice A n c,.slice B m d])∧Ws w' A n c a∧Ws w' B m d b∧aM a b=q∧Gr w w'
theorem wN.nil {w w':World} (g:Gr w w'):wN w 0 (.returned (.tuple #[.slice none 0 0,.slice none 0 0])) w':=⟨none,none,0,0,0,0,[],[],rfl,Sl.nil _ _,Sl.nil _ _,rfl,g⟩
theorem QD (s t:List UInt8) (w:World) (hs:s.length≤100000) (ht:t.length≤100000) (hT:U8 w) (hM:gL w):Calls Tryz.prog 226 #[ak s,ak t] w (wN w (cmpL s t)):=by
 have H1:Hid (∀wr,Gr w wr→aB s=false→Calls Tryz.prog 289 #[ak s] wr fun e w'=>e= .returned (.slice none 0 0)∧Gr wr w'):=fun wr g h=>yU s wr hs (hT.mono g) h
 have H2:Hid (∀wr,Gr w wr→aB t=false→Calls Tryz.prog 289 #[ak t] wr fun e w'=>e= .returned (.slice none 0 0)∧Gr wr w'):=fun wr g h=>yU t wr ht (hT.mono g) h
 have H3:Hid (∀wr,Gr w wr→aB s=true→Calls Tryz.prog 289 #[ak s] wr (Lp wr (pcL s))):=fun wr g h=>zX s wr hs (hT.mono g) (hM.mono g) h
 have H4:Hid (∀wr,Gr w wr→aB t=true→Calls Tryz.prog 289 #[ak t] wr (Lp wr (pcL t))):=fun wr g h=>zX t wr ht (hT.mono g) (hM.mono g) h
 obtain⟨q,hq⟩:∃q,q=cmpL s t:=⟨_,rfl⟩
 rw[←hq]
 have HQ:Hid (q=if aB s=true∧aB t=true then aM (pcL s) (pcL t) else 0):=hq
 obtain⟨sx,hsx⟩:∃sx:ByteArray,ak s= .string sx:=⟨_,rfl⟩
 obtain⟨tx,htx⟩:∃tx:ByteArray,ak t= .string tx:=⟨_,rfl⟩
 rw[hsx] at H1 H3 ⊢
 rw[htx] at H2 H4 ⊢
 clear hq hsx htx hT hM
 have hn0:=fun w=>run_eql_slice_nil (P:=Tryz.prog) w 51 9 none 0 0 Tryz.underlying51
 have hns:=fun w b o n c=>run_eql_slice_nil (P:=Tryz.prog) w 51 9 (some ⟨b,o,none⟩) n c Tryz.underlying51
 cases hrs:aB s with
 |false=>
  have HF:Hid (q=0):=by show _=_;rw[HQ.out,hrs];rfl
  rw[hrs] at H1
  cases hrt:aB t with
  |false=>
   rw[hrt] at H2
   clear hrs hrt
   go_in
   go_wp2_with fail
   refine (H1.out _ (Gr.refl _) trivial).mono ?_
   rintro e w1 ⟨rfl,g1⟩
   have G1:=Xh g1;clear g1
   go_wp2_with fail
   refine (H2.out _ G1.out trivial).mono ?_
   rintro e w2 ⟨rfl,g2⟩
   have G2:=Xh (Gr.trans G1.out g2);clear g2
   go_wp2_with fail
   go_ret2
   rw[HF.out]
   exact wN.nil G2.out
  |true=>
   rw[hrt] at H4
   clear hrs hrt
   go_in
   go_wp2_with fail
   refine (H1.out _ (Gr.refl _) trivial).mono ?_
   rintro e w1 ⟨rfl,g1⟩
   have G1:=Xh g1;clear g1
   go_wp2_with fail
   refine (H4.out _ G1.out trivial).mono ?_
   rintro e w2 ⟨b,o,c,rfl,s2,g2⟩
   have G2:=Xh (Gr.trans G1.out g2);clear g2 s2
   go_wp2_with fail
   go_ret2
   rw[HF.out]
   exact wN.nil G2.out
 |true=>
  rw[hrs] at H3
  cases hrt:aB t with
  |false=>
   rw[hrt] at H2
   have HF:Hid (q=0):=by show _=_;rw[HQ.out,hrs,hrt];rfl
   clear hrs hrt
   go_in
   go_wp2_with fail
   refine (H3.out _ (Gr.refl _) trivial).mono ?_
   rintro e w1 ⟨b,o,c,rfl,s1,g1⟩
   have G1:=Xh g1;clear g1 s1
   go_wp2_with fail
   refine (H2.out _ G1.out trivial).mono ?_
   rintro e w2 ⟨rfl,g2⟩
   have G2:=Xh (Gr.trans G1.out g2);clear g2
   go_wp2_with fail
   go_ret2
   rw[HF.out]
   exact wN.nil G2.out
  |true=>
   rw[hrt] at H4
   have HF:Hid (q=aM (pcL s) (pcL t)):=by show _=_;rw[HQ.out,hrs,hrt,if_pos ⟨rfl,rfl⟩]
   clear hrs hrt
   go_in
   go_wp2_with fail
   refine (H3.out _ (Gr.refl _) trivial).mono ?_
   rintro e w1 ⟨b,o,c,rfl,s1,g1⟩
   have G1:=Xh g1;have S1:=Xh s1;clear g1 s1
   go_wp2_with fail
   refine (H4.out _ G1.out trivial).mono ?_
   rintro e w2 ⟨b2,o2,c2,rfl,s2,g2⟩
   have G2:=Xh (Gr.trans G1.out g2);have S2:=Xh s2
   have S12:=Xh (Sl.gr S1.out g2)
   clear g2 s2
   go_wp2_with fail
   go_ret2
   exact⟨_,_,_,_,_,_,_,_,rfl,S12.out,S2.out,HF.out.symm,G2.out⟩
theorem UU (s t:List UInt8) (w:World) (hs:s.length≤100000) (ht:t.length≤100000) (hT:U8 w) (hM:gL w):Calls Tryz.prog 143 #[ak s,ak t] w fun e w'=>e= .returned (.int .i64 (cmpL s t))∧Gr w w':=by
 have HB:=Xh (QD s t w hs ht hT hM)
 obtain⟨sx,hsx⟩:∃sx:ByteArray,ak s= .string sx:=⟨_,rfl⟩
 obtain⟨tx,htx⟩:∃tx:ByteArray,ak t= .string tx:=⟨_,rfl⟩
 rw[hsx,htx] at HB ⊢
 clear hsx htx hT hM
 generalize cmpL s t=q at *
 go_in
 go_wp2_with fail
 refine HB.out.mono ?_
 rintro e w1 ⟨A,B,n,m,c,d,a,b,rfl,ha,hb,hq,g1⟩
 have HC:=Xh (JE A B n m c d a b w1 ha hb)
 rw[hq] at HC
 have G1:=Xh g1;clear g1 ha hb hq
 go_wp2_with fail
 refine HC.out.mono ?_
 rintro e w2 ⟨rfl,g2⟩
 have G2:=Xh (Gr.trans G1.out g2);clear g2
 go_wp2_with fail
 go_ret
 exact⟨rfl,G2.out⟩
end
end Go.Proofs.YtipdlnejmcmbbaaGreatDoor
namespace Go.Proofs.YtipdlnejmcmbbaaGreatDoor.Drw
section
open Go Go.RowKit
def Vk {α:Type}:Result α→Nat
 | .ok _ w=>w.drawn
 | .halt _ w=>w.drawn
theorem Nw {α:Type} (a:Ask α):∀w:World,w.drawn≤(w.ask a).2.drawn:=by
 induction a with
 |done a=>intro w;exact Nat.le_refl _
 |ask what range k ih=>
  intro w
  simp only[World.ask]
  split
  · exact ih _ w
  · exact Nat.le_trans (Nat.le_succ _) (ih _ {w with drawn:=w.drawn+1})
theorem Du (w:World) (c:Sys):w.drawn≤(w.sys c).2.drawn:=by
 have h:=Nw (Kernel.perform c w.os) w
 unfold World.sys
 split
 · exact Nat.le_refl _
 · rename_i e;rw[e] at h;exact h
theorem zl {p:Program} {w w':World} {at_:Addr} {u:TypeId} {k:Addr} {v:Value} {atomic:Bool} {t:List Addr}
 (h:w.viewStore p at_ u k v atomic= .ok (w',t)):w'.drawn=w.drawn:=by
 unfold World.viewStore at h
 simp only[bind,Except.bind,pure,Except.pure] at h
 repeat' split at h
 all_goals first
  |(injection h with h;injection h with h1 h2;rw[←h1])
  |cases h
theorem qW {p:Program} {w w':World} {a:Addr} {v:Value} {atomic:Bool} {t:List Addr}
 (h:w.farStore p a v atomic= .ok (w',t)):w'.drawn=w.drawn:=by
 unfold World.farStore at h
 split at h
 · split at h
   · rename_i r e;injection h with h;subst h;exact zl e
   · cases h
 · cases h
theorem uG (w:World) (a:Addr) (n:Nat):(w.freeze a n).drawn=w.drawn:=by
 unfold World.freeze;split<;>rfl
theorem Cb {α:Type} (p:Program) (s:Sem α):∀w:World,w.drawn≤Vk (s.run p w):=by
 induction s with
 |pure a=>intro w;exact Nat.le_refl _
 |load m a k ih=>
  intro w;simp only[Sem.run]
  split
  · exact ih _ w
  · split
    · exact ih _ w
    · exact Nat.le_refl _
 |store m a v k ih=>
  intro w
  cases v
  case agg=>exact Nat.le_refl _
  case tuple=>exact Nat.le_refl _
  all_goals
   simp only[Sem.run]
   split
   · split
     · exact Nat.le_refl _
     · exact ih (w.setCell a _)
   · split
     · rename_i e;have :=qW e;rw[←this];exact ih _
     · exact Nat.le_refl _
 |new o k ih=>intro w;exact ih _ {w with heap:=w.heap.push o}
 |shape r k ih=>intro w;exact ih _ w
 |freeze a n k ih=>intro w;simp only[Sem.run];rw[←uG w a n];exact ih _
 |frozen a k ih=>intro w;exact ih _ w
 |getObj r k ih=>
  intro w;simp only[Sem.run]
  split
  · exact Nat.le_refl _
  · exact ih _ w
  · exact Nat.le_refl _
 |setObj r o k ih=>
  intro w;simp only[Sem.run]
  split
  · exact Nat.le_refl _
  · exact ih {w with heap:=w.heap.setIfInBounds r o}
  · exact Nat.le_refl _
 |choose q k ih=>
  intro w;simp only[Sem.run]
  split
  · exact ih _ w
  · exact Nat.le_trans (Nat.le_succ _) (ih _ {w with drawn:=w.drawn+1})
 |sys c k ih=>intro w;simp only[Sem.run];exact Nat.le_trans (Du w c) (ih _ _)
 |program k ih=>intro w;exact ih _ w
 |mark m k ih=>intro w;exact ih w
 |halt h=>intro w;exact Nat.le_refl _
theorem zR {α:Type} (p:Program) (s:Sem α):∀(w:World) (es:Array Event),w.drawn≤Vk (s.runT p w es).1:=by
 induction s with
 |pure a=>intro w es;exact Nat.le_refl _
 |load m a k ih=>
  intro w es;simp only[Sem.runT]
  split
  · exact ih _ w _
  · split
    · exact ih _ w _
    · exact Nat.le_refl _
 |store m a v k ih=>
  intro w es
  cases v
  case agg=>exact Nat.le_refl _
  case tuple=>exact Nat.le_refl _
  all_goals
   simp only[Sem.runT]
   split
   · split
     · exact Nat.le_refl _
     · exact ih (w.setCell a _) _
   · split
     · rename_i e;have :=qW e;rw[←this];exact ih _ _
     · exact Nat.le_refl _
 |new o k ih=>intro w es;exact ih _ {w with heap:=w.heap.push o} _
 |shape r k ih=>intro w es;exact ih _ w _
 |freeze a n k ih=>intro w es;simp only[Sem.runT];rw[←uG w a n];exact ih _ _
 |frozen a k ih=>intro w es;exact ih _ w _
 |getObj r k ih=>
  intro w es;simp only[Sem.runT]
  split
  · exact Nat.le_refl _
  · exact ih _ w _
  · exact Nat.le_refl _
 |setObj r o k ih=>
  intro w es;simp only[Sem.runT]
  split
  · exact Nat.le_refl _
  · exact ih {w with heap:=w.heap.setIfInBounds r o} _
  · exact Nat.le_refl _
 |choose q k ih=>
  intro w es;simp only[Sem.runT]
  split
  · exact ih _ w _
  · exact Nat.le_trans (Nat.le_succ _) (ih _ {w with drawn:=w.drawn+1} _)
 |sys c k ih=>intro w es;simp only[Sem.runT];exact Nat.le_trans (Du w c) (ih _ _ _)
 |program k ih=>intro w es;exact ih _ w _
 |mark m k ih=>intro w es;exact ih w _
 |halt h=>intro w es;exact Nat.le_refl _
section
variable {α:Type} {p:Program} {s:Sem α} {w w':World} {v:α} {h:Halt} {es es':Array Event}
theorem fG (e:s.run p w= .ok v w'):w.drawn≤w'.drawn:=by have :=Cb p s w;rwa[e] at this
theorem run_halt (e:s.run p w= .halt h w'):w.drawn≤w'.drawn:=by have :=Cb p s w;rwa[e] at this
theorem Au (e:s.runT p w es=(.ok v w',es')):w.drawn≤w'.drawn:=by have :=zR p s w es;rwa[e] at this
theorem uW (e:s.runT p w es=(.halt h w',es')):w.drawn≤w'.drawn:=by have :=zR p s w es;rwa[e] at this
theorem Dj {l:Bool} (e:(if l=true then s.runT p w es else (s.run p w,es))=(.ok v w',es')):w.drawn≤w'.drawn:=by
 cases l
 · injection e with e;exact fG e
 · exact Au e
theorem wY {l:Bool} (e:(if l=true then s.runT p w es else (s.run p w,es))=(.halt h w',es')):w.drawn≤w'.drawn:=by
 cases l
 · injection e with e;exact run_halt e
 · exact uW e
theorem QO (e:(s.runT p w es).1= .ok v w'):w.drawn≤w'.drawn:=Au (es':=(s.runT p w es).2) (Prod.ext e rfl)
theorem Lv (e:(s.runT p w es).1= .halt h w'):w.drawn≤w'.drawn:=uW (es':=(s.runT p w es).2) (Prod.ext e rfl)
theorem MZ {l:Bool} (e:(if l=true then s.runT p w es else (s.run p w,es)).1= .ok v w'):w.drawn≤w'.drawn:=Dj (l:=l) (es':=(if l=true then s.runT p w es else (s.run p w,es)).2) (Prod.ext e rfl)
theorem FC {l:Bool} (e:(if l=true then s.runT p w es else (s.run p w,es)).1= .halt h w'):w.drawn≤w'.drawn:=wY (l:=l) (es':=(if l=true then s.runT p w es else (s.run p w,es)).2) (Prod.ext e rfl)
end
theorem lv {a b:Nat} (h:a≤b:=by first|exact Nat.le_refl _|(apply fG;assumption)|(apply run_halt;assumption)|(apply Au;assumption)|(apply uW;assumption)|(apply QO;assumption)|(apply Lv;assumption)|(apply Dj;assumption)|(apply wY;assumption)|(apply MZ;assumption)|(apply FC;assumption)):a≤b:=h
def Up (d:Nat):GStep→Prop
 | .go _ w _| .comm _ _ _ _ w _| .spawn _ _ w _| .count _ w _| .timer _ _ w _| .alone _ _ w _| .newcoro _ _ _ w _| .coroswitch _ _ _ w _| .collect _ w _| .watch _ w _=>d≤w.drawn
 | .ended ..=>True
theorem jL {d:Nat} {es:Array Event} {s:GStep} (h:Up d s):Up d (s.after es):=by cases s<;>exact h
theorem Up.mono {d d':Nat} {s:GStep} (h:Up d s) (k:d'≤d):Up d' s:=by
 cases s<;>first|exact trivial|exact Nat.le_trans k h
theorem QS (fr:Frame) (a:List ByteArray) (m:String) (b:Bool) (w:World):Up w.drawn (dieOf fr a m b w):=Nat.le_refl _
theorem xK (fr:Frame) (m:String) (w:World):Up w.drawn (endThrow fr m w):=Nat.le_refl _
theorem endWith_ended (w:World) (fd:Nat) (t:ByteArray) (o:Outcome) (d:Nat):Up d (endWith w fd t o):=by
 unfold endWith
 dsimp only
 repeat' split
 all_goals exact trivial
theorem qP (p:Program) (fr:Frame) (v:Value) (w:World):Up w.drawn (endPrinting p fr v w):=by
 unfold endPrinting
 dsimp only
 split
 · exact xK _ _ _
 · exact trivial
theorem IV (p:Program) (fr:Frame) (cs:List Frame) (dy:Option Dying) (m:String) (w:World):Up w.drawn (endFatal p fr cs dy m w):=by
 unfold endFatal
 dsimp only
 split
 · exact Up.mono (QS _ _ _ _ _) lv
 · exact trivial
 · exact trivial
theorem MW (p:Program) (fr:Frame) (d:Dying) (f:Fatal) (w:World):Up w.drawn (writeOn p fr d f w):=by
 unfold writeOn
 dsimp only
 split
 · exact trivial
 · split
   · show _≤_;(exact lv)
   · show _≤_;(exact lv)
   · exact trivial
   · exact trivial
theorem Pv (p:Program) (fr:Frame) (d:Dying) (w:World):Up w.drawn (die p fr d w):=by
 unfold die
 dsimp only
 split
 · exact MW _ _ _ _ _
 · split
   · split
     · exact Nat.le_refl _
     · exact endWith_ended _ _ _ _ _
   · split
     · exact Nat.le_refl _
     · split
       · show _≤_;(exact lv)
       · exact trivial
     · apply jL
       split
       · show _≤_;(exact lv)
       · show _≤_;(exact lv)
       · exact trivial
       · exact Up.mono (qP _ _ _ _) lv
       · exact trivial
     · exact trivial
theorem Jw (p:Program) (b:Bool) (fr:Frame) (cs:List Frame) (dy:Option Dying) (v:Value) (w:World):Up w.drawn (doReturn p b fr cs dy v w):=by
 unfold doReturn
 dsimp only
 repeat' split
 all_goals first|exact trivial|exact Nat.le_refl _
theorem uv {d:Nat} {s:GStep} (h:Up d s:=by first|exact trivial|(show _≤_;exact lv)|exact Up.mono (qP _ _ _ _) lv|exact Up.mono (IV _ _ _ _ _ _) lv|exact Up.mono (xK _ _ _) lv|exact Up.mono (Jw _ _ _ _ _ _ _) lv|exact Up.mono (Pv _ _ _ _) lv):Up d s:=h
theorem ru {d:Nat} {c:Prop} [Decidable c] {a b:GStep} (h:Up d a) (k:Up d b):Up d (if c then a else b):=by split<;>assumption
theorem zS (p:Program) (fr:Frame) (cs:List Frame) (dy:Option Dying) (d:Deferred) (w:World):Up w.drawn (callDeferred p fr cs dy d w):=by
 unfold callDeferred
 refine ru trivial ?_
 · dsimp only
   apply jL
   split
   all_goals first|(exact uv)|(split<;>(exact uv))
theorem PS (p:Program) (b:Bool) (fr:Frame) (cs:List Frame) (dy:Option Dying) (w:World):Up w.drawn (unwind p b fr cs dy w):=by
 unfold unwind
 dsimp only
 split
 · apply jL
   split<;>(exact uv)
 · exact zS _ _ _ _ _ _
 · split
   · exact trivial
   · split
     · exact trivial
     · split
       · (exact uv)
       · split
         · split
           · (exact uv)
           · split<;>(exact uv)
         · split<;>(exact uv)
   · split
     · (exact uv)
     · apply jL
       split<;>(exact uv)
theorem Sn (p:Program) (fr:Frame) (cs:List Frame) (dy:Option Dying) (g:Nat) (w:World):Up w.drawn (early p fr cs dy g w):=by
 have ny:∀w1:World,w.drawn≤w1.drawn→Up w.drawn (match w1.heap[g]? with
  |some (.pending c elem)=> .go {frame:=fr,callers:=cs,status:= .running,dying:=dy} {w1 with heap:=w1.heap.setIfInBounds g (.cells c elem)}
  |_=> .ended (.stuck "early: the variable does not wait" (fr.pos p)) w1):=by
  intro w1 h;split
  · exact h
  · exact trivial
 unfold early
 dsimp only
 split
 · exact ny w (Nat.le_refl _)
 · split
   · exact trivial
   · split
     · exact ny w (Nat.le_refl _)
     · split
       · exact ny w (Nat.le_refl _)
       · split
         · exact trivial
         · (exact uv)
         · exact trivial
         · exact ny w (Nat.le_refl _)
         · split
           · (exact uv)
           · split
             · exact ny w (Nat.le_refl _)
             · split
               · exact ny _ lv
               · (exact uv)
               · exact trivial
theorem sP (p:Program) (l:Bool) (fr:Frame) (cs:List Frame) (dy:Option Dying) (s:Sem Next) (w:World):Up w.drawn (stepG.apply p l fr cs dy s w):=by
 unfold stepG.apply
 dsimp only
 apply jL
 split
 all_goals first
  |(exact uv)
  |exact Up.mono (Sn _ _ _ _ _ _) lv
  |(apply ru<;>(exact uv))
  |(split<;>first|(exact uv)|(apply ru<;>(exact uv)))
theorem Ve (p:Program) (l:Bool) (fr:Frame) (cs:List Frame) (dy:Option Dying) (w:World):Up w.drawn (stepG.oper p l fr cs dy w):=by
 unfold stepG.oper
 split
 · exact trivial
 · split<;>exact sP _ _ _ _ _ _ _
theorem JX {α:Type} {d:Nat} {o:Option α} {a:GStep} {f:α→GStep} (h:Up d a) (k:∀x,Up d (f x)):Up d (o.elim a f):=by cases o;exact h;exact k _
theorem UQ (p:Program) (b l:Bool) (fr:Frame) (cs:List Frame) (dy:Option Dying) (w:World):Up w.drawn (stepG.exec p b l fr cs dy w):=by
 obtain⟨fn,tmps,todo,defers,mode,kind,ro⟩:=fr
 cases ro
 all_goals
  unfold stepG.exec
  dsimp only
  split
 all_goals first
  |(exact uv)
  |exact sP _ _ _ _ _ _ _
  |(apply ru<;>first|(exact uv)|exact Ve _ _ _ _ _ _)
  |(apply JX;(first|(exact uv)|(apply ru<;>(exact uv)));intro x;first|(exact uv)|exact sP _ _ _ _ _ _ _)
  |(apply jL;split<;>(exact uv))
  |(apply jL;split<;>first|(exact uv)|exact Up.mono (sP _ _ _ _ _ _ _) lv)
  |(apply JX;(apply jL;split<;>(exact uv));intro x;(exact uv))
  |(split<;>(exact uv))
  |(apply ru;(exact uv);split<;>(exact uv))
theorem Qz (p:Program) (b:Bool) (g:Goroutine) (w:World) (l:Bool):Up w.drawn (stepG p b g w l):=by
 unfold stepG
 split
 split
 · exact Pv _ _ _ _
 · exact UQ _ _ _ _ _ _ _
 · exact PS _ _ _ _ _ _
def UpS (d:Nat):Stepped→Prop
 | .next m=>d≤m.world.drawn
 | .ended ..=>True
theorem UpS.mono {d d':Nat} {s:Stepped} (h:UpS d s) (k:d'≤d):UpS d' s:=by
 cases s
 · exact Nat.le_trans k h
 · exact trivial
theorem KS {d:Nat} {c:Prop} [Decidable c] {a b:Stepped} (h:UpS d a) (k:UpS d b):UpS d (if c then a else b):=by split<;>assumption
theorem yt {d:Nat} {c:Prop} [Decidable c] {a b:Stepped×Array MemOp} (h:UpS d a.1) (k:UpS d b.1):UpS d (if c then a else b).1:=by split<;>assumption
theorem ze {rest:Rest} {cs:Array CommCase} {w w':World} (h:waitingAt rest cs w=some w'):w'.drawn=w.drawn:=by
 unfold waitingAt at h
 split at h
 · split at h
   · injection h with h;rw[←h]
   · cases h
 · injection h with h;rw[h]
theorem Bw (p:Program) (rest:Rest) (gs:Array Goroutine) (i:Nat) (g:Goroutine) (cases:Array CommCase) (blocking:Bool) (shape:CommShape) (w:World):
 UpS w.drawn (communicate p rest gs i g cases blocking shape w).1:=by
 unfold communicate
 dsimp only
 refine yt trivial ?_
 refine yt ?_ ?_
 · refine yt ?_ ?_
   · split
     · rename_i e;show _≤_;rw[ze e];exact Nat.le_refl _
     · exact trivial
   · exact Nat.le_refl _
 · split
   · exact trivial
   · rename_i e
     have hd:=fG e
     split
     · split
       · rename_i e2;exact Nat.le_trans hd (run_halt e2)
       · exact trivial
     · exact hd
     · exact hd
     · split
       · exact hd
       · split
         · rename_i e2;have h2:=fG e2;exact Nat.le_trans hd h2
         · exact trivial
     · exact hd
     · exact hd
     · exact trivial
theorem Sz (p:Program) (m:Machine) (k:Nat):UpS m.world.drawn (serve p m k):=by
 unfold serve
 split
 · exact trivial
 · exact Nat.le_refl _
 · dsimp only
   split
   · exact trivial
   · exact Nat.le_refl _
theorem Dz {m m':Machine} {op:TimerOp} {v:Value} (h:timerOp m op= .ok (v,m')):m'.world.drawn=m.world.drawn:=by
 have rt:∀(m1:Machine) (k:Nat) (t:Timer) (a b:Nat),(retime m1 k t a b).2.world.drawn=m1.world.drawn:=by
  intro m1 k t a b
  unfold retime
  dsimp only
  split
  · unfold drain;split<;>rfl
  · rfl
 cases op with
 |new t=>
  simp only[timerOp] at h
  split at h
  · injection h with h;injection h with h1 h2;rw[←h2];rfl
  · split at h
    · split at h
      · cases h
      · injection h with h;injection h with h1 h2;rw[←h2]
    · cases h
 |stop var=>
  simp only[timerOp,timerOp.named] at h
  split at h
  · injection h with h;have :=congrArg (·.2.world.drawn) h;rw[←this];exact rt _ _ _ _ _
  · cases h
 |reset var a b=>
  simp only[timerOp,timerOp.named,timerOp.opened] at h
  split at h
  · rename_i m1 e
    have hm:m1.world.drawn=m.world.drawn:=by
     split at e
     · split at e
       · injection e with e;rw[←e]
       · cases e
     · injection e with e;rw[e]
    split at h
    · injection h with h;have :=congrArg (·.2.world.drawn) h;rw[←this,←hm];exact rt _ _ _ _ _
    · cases h
  · cases h
 |deadline a b c d=>
  simp only[timerOp] at h
  injection h with h;injection h with h1 h2;rw[←h2];rfl
theorem Kt (p:Program) (gs:Array Goroutine) (rest:Rest) (w:World):UpS w.drawn (look p gs rest w):=by
 unfold look
 split
 · dsimp only
   refine KS trivial ?_
   split
   · exact trivial
   · split
     · rename_i e;have h2:=fG e;exact h2
     · exact trivial
     · exact trivial
 · exact trivial
theorem xE {fr:Frame} {m:String} {w w':World} {g:Goroutine} {es:Array Event} (h:endThrow fr m w= .go g w' es):w'.drawn=w.drawn:=by
 unfold endThrow dieOf at h;injection h with h1 h2;rw[h2]
theorem Uo (p:Program) (m:Machine) (i:Nat) (l:Bool):UpS m.world.drawn (runT p m i l).1:=by
 unfold runT
 dsimp only
 have hs:=fun g=>Qz p (i==0) g m.world l
 generalize hg:(m.gs.swapAt! i _)=sw
 obtain⟨g,gs⟩:=sw
 dsimp only
 have hg:=hs g
 split<;>rename_i e<;>rw[e] at hg
 · exact trivial
 · exact UpS.mono (Bw _ _ _ _ _ _ _ _ _) hg
 · exact hg
 · exact hg
 · exact KS (d:=m.world.drawn) trivial hg
 · exact hg
 · exact UpS.mono (Kt _ _ _ _) hg
 · exact hg
 · exact hg
 · split
   · exact hg
   · split
     · rename_i e2;show _≤_;rw[xE e2];exact hg
     · exact trivial
   · exact trivial
 · split
   · rename_i e2;show _≤_;have :=Dz e2;show _≤World.drawn _;rw[this];exact hg
   · split
     · rename_i e2;show _≤_;rw[xE e2];exact hg
     · exact trivial
   · exact trivial
   · exact trivial
def UpM (d:Nat):Move→Prop
 | .goroutine m _=>d≤m.world.drawn
 | .machine s _=>UpS d s
theorem UpM.mono {d d':Nat} {s:Move} (h:UpM d s) (k:d'≤d):UpM d' s:=by
 cases s
 · exact Nat.le_trans k h
 · exact UpS.mono h k
theorem kW {d:Nat} {c:Prop} [Decidable c] {a b:Move} (h:UpM d a) (k:UpM d b):UpM d (if c then a else b):=by split<;>assumption
theorem yP (p:Program) (m:Machine):UpM m.world.drawn (askOn p m):=by
 unfold askOn
 dsimp only
 split
 · exact trivial
 · rename_i e
   have h1:=fG e
   refine kW ?_ ?_
   · exact UpS.mono (Sz _ _ _) h1
   · split
     · split
       · exact h1
       · refine kW h1 ?_
         split
         · exact trivial
         · exact trivial
     · split
       · split
         · exact trivial
         · rename_i e3
           have h5:=fG e3
           have h3:=Nat.le_trans (h1) h5
           refine kW h3 ?_
           split
           · exact trivial
           · rename_i e4;exact Nat.le_trans h3 (fG e4)
       · split
         · exact trivial
         · rename_i e2
           split
           · exact trivial
           · rename_i e3
             have h5:=fG e3
             have h3:=Nat.le_trans (Nat.le_trans h1 (fG e2)) h5
             refine kW h3 ?_
             split
             · exact trivial
             · rename_i e4;exact Nat.le_trans h3 (fG e4)
         · rename_i e2;have h2:=fG e2;exact Nat.le_trans h1 h2
         · rename_i e2;have h2:=fG e2
           split
           · exact trivial
           · rename_i e3
             have h5:=fG e3
             have h3:=Nat.le_trans (Nat.le_trans h1 h2) h5
             refine kW h3 ?_
             split
             · exact trivial
             · rename_i e4;exact Nat.le_trans h3 (fG e4)
theorem Qk (p:Program) (m:Machine):UpM m.world.drawn (ask p m):=by
 unfold ask
 refine kW ?_ (yP _ _)
 split
 · exact trivial
 · rename_i w1 e
   have h1:=fG e
   have h2:=Kt p m.gs m.rest w1
   split
   · rename_i m2 e2
     exact UpM.mono (yP _ _) (by rw[e2] at h2;exact Nat.le_trans h1 h2)
   · exact UpS.mono h2 h1
 · rename_i e;exact UpM.mono (yP _ _) (fG e)
theorem UH (p:Program) (m:Machine):UpM m.world.drawn (move p m):=by
 unfold move
 split
 · exact kW (Nat.le_refl _) trivial
 · split
   · exact kW (Nat.le_refl _) (Qk _ _)
   · exact Qk _ _
theorem U7 (p:Program) (m:Machine):UpS m.world.drawn (step p m):=by
 unfold step Go.stepT
 have h:=UH p m
 split
 · rename_i e;rw[e] at h;exact UpS.mono (Uo _ _ _ _) h
 · rename_i e;rw[e] at h;exact h
theorem J6 (p:Program):∀(n:Nat) (m:Machine),UpS m.world.drawn (runN p n m)
 |0,m=>Nat.le_refl _
 |n+1,m=>by
  unfold runN
  have h:=U7 p m
  split
  · rename_i e;rw[e] at h;exact UpS.mono (J6 p n _) h
  · exact UpS.mono h (Nat.le_refl _)
theorem xJ {p:Program} {m m':Machine} (h:Steps p m m'):m.world.drawn≤m'.world.drawn:=by
 obtain⟨n,e⟩:=h
 have :=J6 p n m
 rw[e] at this
 exact this
end
end Go.Proofs.YtipdlnejmcmbbaaGreatDoor.Drw
namespace Go.Proofs.YtipdlnejmcmbbaaGreatDoor
section
open Go Go.RowKit Drw
theorem Iw {P:Program} {f:FuncId} {args:Array Value} {w:World} {R:Ending→World→Prop} (h:Calls P f args w R):
 Calls P f args w fun e w'=>R e w'∧(e≠ .outgrown→w.drawn≤w'.drawn):=by
 intro cs
 obtain⟨e,w',fr,hR,hC,hf,hl⟩:=h cs
 refine⟨e,w',fr,⟨hR,fun he=> ?_⟩,hC,hf,hl⟩
 cases e with
 |returned v=>exact xJ hC
 |panicked c=>exact xJ hC
 |outgrown=>exact absurd rfl he
theorem UL {w w':World} (h:Go.RowKit.Below w.heap.size w w') (hd:w.drawn≤w'.drawn):∃q os,w'=Go.Sort.grow (w.drewN q) os:=by
 refine⟨w'.drawn - w.drawn,w'.heap.extract w.heap.size w'.heap.size,?_⟩
 obtain⟨ho,ht,hp,hs,hb⟩:=h
 obtain⟨heap,tape,drawn,os,output⟩:=w
 obtain⟨heap',tape',drawn',os',output'⟩:=w'
 simp only at ho ht hp hs hb hd
 subst ho ht hp
 simp only[Go.Sort.grow,World.drewN]
 have e:drawn+(drawn' - drawn)=drawn':=by omega
 rw[e]
 congr 1
 apply Array.ext'
 apply List.ext_getElem?
 intro i
 by_cases hi:i<heap.size
 · have :=hb i hi
   simp only[Array.toList_append,List.getElem?_append,Array.length_toList,hi,if_true,Array.getElem?_toList]
   exact this
 · simp only[Array.toList_append,List.getElem?_append,Array.length_toList,hi,if_false,Array.getElem?_toList,Array.getElem?_extract]
   by_cases h2:i - heap.size<heap'.size - heap.size
   · simp[h2];congr 1;omega
   · simp[h2];omega
theorem Nf {P:Program} {f:FuncId} {args:Array Value} {w:World} {v:Value} (h:Calls P f args w fun e w'=>e= .returned v∧Go.RowKit.Below w.heap.size w w'):
 Calls P f args w fun e w'=>e= .returned v∧∃q os,w'=Go.Sort.grow (w.drewN q) os:=
 (Iw h).mono fun e w' ⟨⟨he,hb⟩,hd⟩=>⟨he,UL hb (hd (by rw[he];intro c;cases c))⟩
end
end Go.Proofs.YtipdlnejmcmbbaaGreatDoor
