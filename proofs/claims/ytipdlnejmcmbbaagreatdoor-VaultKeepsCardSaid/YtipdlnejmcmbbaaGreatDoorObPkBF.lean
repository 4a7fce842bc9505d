/- Own texts, one behind the other. No condition. -/
import Derived.Test.YtipdlnejmcmbbaaGreatDoorObPkBE
set_option linter.unusedVariables false
set_option maxRecDepth 100000
set_option maxHeartbeats 8000000
set_option linter.unusedSimpArgs false
namespace Go.Proofs.YtipdlnejmcmbbaaGreatDoor
section
open Go.RowKit
def Sd (T:List Nd) (key text b:List UInt8):Prop:=∃id pa pb,∀T',Onto T T'→T'.length≤100000→Tn T' id pa pb key text b
theorem Sd.onto {T T':List Nd} {k t b:List UInt8} (h:Sd T k t b) (o:Onto T T'):Sd T' k t b:=by
 obtain⟨i,p,q,h⟩:=h
 exact⟨i,p,q,fun U hu=>h U (o.trans hu)⟩
theorem Sd.own {T:List Nd} (hn:T.length≤90000) (k t:List UInt8):Sd (bI T k t).1 k t (gX T k t):=Rf hn k t
theorem Sd.len {T:List Nd} {k t b:List UInt8} (h:Sd T k t b) (hT:T.length≤100000):b.length=t.length+48:=by
 obtain⟨i,p,q,h⟩:=h
 exact (h T (Onto.refl T) hT).bl
theorem Sd.opn {T:List Nd} {k t b:List UInt8} (h:Sd T k t b) (hT:T.length≤100000) (ht:t.length≤60000):eP T k b=some t:=by
 obtain⟨i,p,q,h⟩:=h
 have s:=h T (Onto.refl T) hT
 have hb:=s.bl
 unfold eP
 rw[if_neg Xf,s.tm,if_neg (by rw[s.kd];exact fun e=>e.elim (fun e=>e rfl) (fun e=>e s.hb)),s.pr]
 simp only
 rw[if_pos ⟨s.ha,by rw[s.ht];omega⟩,s.ht]
def Sub (a p q:Nat):Prop:=p∈upL a q
section
variable {a p q k j:Nat}
theorem jw (hq:0<q):Sub a p q↔p=q∨Sub a p ((q - 1) / a):=by
 unfold Sub
 rw[mo a q hq,List.mem_cons]
theorem dY (a p:Nat):Sub a p p:=by
 rcases Nat.eq_zero_or_pos p with e|e
 · subst e;unfold Sub;rw[lY];exact List.mem_cons_self
 · exact (jw e).2 (.inl rfl)
theorem sub_le (h:Sub a p q):p≤q:=rY h
theorem sI (hk:k<a):(a*p+1+k - 1) / a=p:=by
 rw[show a*p+1+k - 1=k+a*p by omega,Nat.add_mul_div_left _ _ Xf,Nat.div_eq_of_lt hk,Nat.zero_add]
theorem oO (hk:k<a):p<a*p+1+k:=by
 have :1*p≤a*p:=Nat.mul_le_mul_right p Xf
 omega
theorem qp (ha:0<a) (hq:0<q):(q - 1) / a<q:=Nat.lt_of_le_of_lt (Nat.div_le_self _ _) Xf
theorem kT (hk:k<a) (h:Sub a (a*p+1+k) q):Sub a p q:=by
 induction q using Nat.strongRecOn with
 |ind q ih=>
  have hq:0<q:=by have :=sub_le h;omega
  rcases (jw hq).1 h with e|e
  · rw[jw hq,←e,sI hk]
    exact .inr (dY a p)
  · exact (jw hq).2 (.inr (ih _ (qp Xf hq) e))
theorem CW (ha:0<a) (h:Sub a p q):q=p∨∃k,k<a∧Sub a (a*p+1+k) q:=by
 induction q using Nat.strongRecOn with
 |ind q ih=>
  rcases Nat.eq_zero_or_pos q with e|hq
  · subst e;have :=sub_le h;exact .inl Xf
  · rcases (jw hq).1 h with e|e
    · exact .inl e.symm
    · rcases ih _ (qp ha hq) e with e| ⟨k,hk,e⟩
      · refine .inr ⟨(q - 1) % a,Nat.mod_lt _ ha,?_⟩
        have :=Nat.div_add_mod (q - 1) a
        rw[e] at this
        rw[show a*p+1+(q - 1) % a=q by omega]
        exact dY a q
      · exact .inr ⟨k,hk,(jw hq).2 (.inr e)⟩
theorem FB (hk:k<a) (hj:j<a) (h:Sub a (a*p+1+k) q) (h':Sub a (a*p+1+j) q):k=j:=by
 induction q using Nat.strongRecOn with
 |ind q ih=>
  have hq:0<q:=by have :=sub_le h;omega
  rcases (jw hq).1 h with e|e<;>rcases (jw hq).1 h' with e'|e'
  · omega
  · rw[←e,sI hk] at e';have :=sub_le e';have :=oO (p:=p) hj;omega
  · rw[←e',sI hj] at e;have :=sub_le e;have :=oO (p:=p) hk;omega
  · exact ih _ (qp Xf hq) e e'
theorem Vj (hk:k<a) (h:Sub a (a*p+1+k) q):q≠p:=by have :=sub_le h;have :=oO (p:=p) hk;omega
end
structure Cg where
 h:List UInt8
 v:List UInt8
 g:Bool
abbrev TS:=List Nd×List (Nat×List UInt8)
def pI (c:Cg) (q:Nat) (s:TS):List UInt8×TS:=
 if c.g then ([],(s.1,s.2++ [(q,[])]))
 else (aC (aG s.1).2,((bI (aG s.1).1 (aC (aG s.1).2) c.v).1,s.2++ [(q,aJ c.h++aJ (gX (aG s.1).1 (aC (aG s.1).2) c.v))]))
def jF (ch:Nat→List UInt8→TS→Option (List UInt8×TS)) (nxt:List UInt8):Nat→List (List UInt8)→TS→Option (List (List UInt8)×TS)
 |_,[],s=>some ([],s)
 |k,r::rs,s=>(ch k r s).bind fun x=>if x.1=[] then (jF ch nxt (k+1) rs x.2).map fun y=>([]::y.1,y.2)
  else if x.1.length=32 then (jF ch nxt (k+1) rs ((bI x.2.1 nxt x.1).1,x.2.2)).map fun y=>(gX x.2.1 nxt x.1::y.1,y.2) else none
def jq (NN:Nat) (M:Nat→Option Cg) (tou:Nat→Bool) (node:Nat→List UInt8→List UInt8→TS→Option TS) (key:List UInt8) (q:Nat) (row:List UInt8) (s:TS):Option (List UInt8×TS):=
 (if row=[] then some [] else eP s.1 key row).bind fun was=>
  if tou q=false then some (was,s)
  else if NN≤q then (M (q - NN)).map fun c=>pI c q s
  else (node q was (aC (aG s.1).2) ((aG s.1).1,s.2)).map fun s'=>(aC (aG s.1).2,s')
def gU (a NN:Nat) (Q:Nat→List UInt8) (M:Nat→Option Cg) (tou:Nat→Bool):Nat→Nat→List UInt8→List UInt8→TS→Option TS
 |0,_,_,_,_=>none
 |f+1,p,key,nxt,s=>(EI a (Q p)).bind fun rows=>(jF (fun k=>jq NN M tou (gU a NN Q M tou f) key (a*p+1+k)) nxt 0 rows s).map fun y=>(y.2.1,y.2.2++ [(p,dI y.1)])
def jZ (Q:Nat→List UInt8):List (Nat×List UInt8)→Nat→List UInt8
 | []=>Q
 |x::l=>jZ (fun q=>if q=x.1 then x.2 else Q q) l
section
variable {Q:Nat→List UInt8} {q:Nat}
theorem sF:∀{l:List (Nat×List UInt8)} {Q:Nat→List UInt8},(∀x∈l,x.1≠q)→jZ Q l q=Q q
 | [],_,_=>rfl
 |x::l,Q,h=>by
  show jZ _ l q=_
  rw[sF (fun y hy=>h y (List.mem_cons_of_mem _ hy)),if_neg (fun e=>h x List.mem_cons_self e.symm)]
theorem mE:∀(l k:List (Nat×List UInt8)) (Q:Nat→List UInt8),jZ Q (l++k)=jZ (jZ Q l) k
 | [],_,_=>rfl
 |_::l,k,_=>mE l k _
theorem uJ:∀{l:List (Nat×List UInt8)} {Q Q':Nat→List UInt8},Q q=Q' q→jZ Q l q=jZ Q' l q
 | [],_,_,h=>h
 |x::l,Q,Q',h=>uJ (l:=l) (by show (if q=x.1 then x.2 else Q q)=(if q=x.1 then x.2 else Q' q);rw[h])
theorem Le {l k:List (Nat×List UInt8)} (h:∀x∈l,x.1≠q):jZ Q (l++k) q=jZ Q k q:=by
 rw[mE]
 exact uJ (sF h)
theorem wZ {l k:List (Nat×List UInt8)} (h:∀x∈k,x.1≠q):jZ Q (l++k) q=jZ Q l q:=by
 rw[mE]
 exact sF h
theorem vL (l:List (Nat×List UInt8)) (b:List UInt8):jZ Q (l++ [(q,b)]) q=b:=by
 rw[mE]
 exact if_pos rfl
end
def jQ (T:List Nd) (kp kq r:List UInt8):Prop:=(kq=[]∧r=[])∨(kq.length=32∧kp.length=32∧Sd T kp kq r)
def lI (T:List Nd) (k b:List UInt8) (c:Option (List UInt8×List UInt8)):Prop:=match c with
 |none=>k=[]∧b=[]
 |some (h,v)=>∃z,k.length=32∧b=aJ h++aJ z∧0<h.length∧h.length≤60∧aB h=true∧v.length≤350∧Sd T k v z
def iZ (a NN:Nat) (T:List Nd) (Q:Nat→List UInt8) (K:Nat→List UInt8) (c:Nat→Option (List UInt8×List UInt8)) (q:Nat):Prop:=
 if q<NN then ∃rows,rows.length=a∧Q q=dI rows∧∀j r,rows[j]?=some r→jQ T (K q) (K (a*q+1+j)) r else lI T (K q) (Q q) (c (q - NN))
theorem jQ.onto {T T':List Nd} {kp kq r:List UInt8} (h:jQ T kp kq r) (o:Onto T T'):jQ T' kp kq r:=h.imp id (fun h=>⟨h.1,h.2.1,h.2.2.onto o⟩)
theorem lI.onto {T T':List Nd} {k b:List UInt8} {c:Option (List UInt8×List UInt8)} (h:lI T k b c) (o:Onto T T'):lI T' k b c:=by
 cases c with
 |none=>exact h
 |some x=>
  obtain⟨z,h1,h2,h3,h4,h5,h6,h7⟩:=h
  exact⟨z,h1,h2,h3,h4,h5,h6,h7.onto o⟩
section
variable {a NN:Nat} {T T':List Nd} {Q Q' K K':Nat→List UInt8} {c c':Nat→Option (List UInt8×List UInt8)} {q:Nat}
theorem iZ.to (h:iZ a NN T Q K c q) (o:Onto T T') (hQ:Q' q=Q q) (hK:K' q=K q) (hc:∀j,j<a→q<NN→K' (a*q+1+j)=K (a*q+1+j)) (hs:NN≤q→c' (q - NN)=c (q - NN)):iZ a NN T' Q' K' c' q:=by
 unfold iZ at *
 by_cases hq:q<NN
 · rw[if_pos hq] at h ⊢
   obtain⟨rows,h1,h2,h3⟩:=h
   refine⟨rows,h1,by rw[hQ,h2],fun j r hr=> ?_⟩
   have hj:j<a:=by rw[←h1];exact (List.getElem?_eq_some_iff.1 hr).1
   rw[hK,hc j hj hq]
   exact (h3 j r hr).onto o
 · rw[if_neg hq] at h ⊢
   rw[hK,hQ,hs Xf]
   exact h.onto o
theorem jQ.ok {kp kq r:List UInt8} (h:jQ T kp kq r) (hT:T.length≤100000):rowOk r=true:=by
 rcases h with⟨_,rfl⟩| ⟨h1,_,h2⟩
 · rfl
 · have :=h2.len hT
   unfold rowOk
   rw[this,h1]
   rfl
theorem iZ.rows (h:iZ a NN T Q K c q) (hq:q<NN) (hT:T.length≤100000):∃rows,rows.length=a∧Q q=dI rows∧EI a (Q q)=some rows∧(∀x∈rows,rowOk x=true)∧∀j r,rows[j]?=some r→jQ T (K q) (K (a*q+1+j)) r:=by
 unfold iZ at h
 rw[if_pos hq] at h
 obtain⟨rows,h1,h2,h3⟩:=h
 have hr:∀x∈rows,rowOk x=true:=fun x hx=>by
  obtain⟨j,hj⟩:=List.mem_iff_getElem?.1 hx
  exact (h3 j x hj).ok hT
 refine⟨rows,h1,h2,?_,hr,h3⟩
 rw[h2,←h1]
 exact Ca hr
theorem jQ.was {kp kq r:List UInt8} (h:jQ T kp kq r) (hT:T.length≤100000):(if r=[] then some [] else eP T kp r)=some kq:=by
 rcases h with⟨rfl,rfl⟩| ⟨h1,_,h2⟩
 · rfl
 · have :=h2.len hT
   rw[if_neg (fun e=>by rw[e] at this;simp at this),h2.opn hT Xf]
theorem vF {a p q r:Nat} (h:Sub a p q) (k:Sub a q r):Sub a p r:=by
 induction r using Nat.strongRecOn with
 |ind r ih=>
  rcases Nat.eq_zero_or_pos r with e|hr
  · subst e
    have :=sub_le k
    rwa[show q=0 by omega] at h
  · rcases (jw hr).1 k with e|e
    · rwa[←e]
    · refine (jw hr).2 (.inr (ih _ ?_ e))
      rcases Nat.eq_zero_or_pos a with ha|ha
      · subst ha;simp;omega
      · exact qp ha hr
end
instance (a p q:Nat):Decidable (Sub a p q):=inferInstanceAs (Decidable (p∈upL a q))
def grM:Nat→Nat
 |0=>0
 |f+1=>4*(grM f+7)
def In (a NN p q:Nat):Prop:=Sub a p q∧q<a*NN+1
theorem KE {a NN p q:Nat} (ha:0<a) (hp:NN≤p) (h:In a NN p q):q=p:=by
 rcases CW ha h.1 with e| ⟨k,hk,e⟩
 · exact e
 · have :=sub_le e
   have :=Nat.mul_le_mul_left a hp
   have :=h.2
   omega
theorem oN {a NN p q k:Nat} (hp:p<NN) (hk:k<a):a*p+1+k<a*NN+1:=by
 have :=Nat.mul_le_mul_left a (show p+1≤NN from hp)
 rw[Nat.mul_add] at this
 omega
structure Chs (a NN:Nat) (M:Nat→Option Cg) (tou:Nat→Bool) (c c':Nat→Option (List UInt8×List UInt8)):Prop where
 leaf:∀s,tou (NN+s)=true→∃g,M s=some g∧c' s=(if g.g then none else some (g.h,g.v))∧(g.g=false→0<g.h.length∧g.h.length≤60∧aB g.h=true∧g.v.length≤350)
 off:∀s,tou (NN+s)=false→c' s=c s
 up:∀p q,Sub a p q→tou q=true→tou p=true
structure Res (a NN:Nat) (Q K:Nat→List UInt8) (tou:Nat→Bool) (c':Nat→Option (List UInt8×List UInt8)) (D:Nat→Prop) (T:List Nd) (B:Nat) (T':List Nd) (P:List (Nat×List UInt8)) (K1:Nat→List UInt8):Prop where
 on:Onto T T'
 ln:T'.length≤T.length+B
 sz:SzT T→SzT T'
 pg:∀x∈P,D x.1∧tou x.1=true∧x.2.length≤473
 ct:∀q,D q→tou q=true→(P.map Prod.fst).count q=1
 kk:∀q,¬D q→K1 q=K q
 ok:∀q,D q→iZ a NN T' (jZ Q P) K1 c' q
section
variable {a NN:Nat} {Q K:Nat→List UInt8} {M:Nat→Option Cg} {tou:Nat→Bool} {c c':Nat→Option (List UInt8×List UInt8)} {f:Nat} {node:Nat→List UInt8→List UInt8→TS→Option TS}
def Ni (a NN:Nat) (Q K:Nat→List UInt8) (tou:Nat→Bool) (c c':Nat→Option (List UInt8×List UInt8)) (f:Nat) (node:Nat→List UInt8→List UInt8→TS→Option TS) (p:Nat):Prop:=
 ∀nxt T P,nxt.length=32→T.length+grM f≤90000→(∀q,In a NN p q→iZ a NN T Q K c q)→∃T' P1 K1,node p (K p) nxt (T,P)=some (T',P++P1)∧K1 p=nxt∧Res a NN Q K tou c' (In a NN p) T (grM f) T' P1 K1
theorem nH {P:List (Nat×List UInt8)} {q:Nat} (h:∀x∈P,x.1≠q):(P.map Prod.fst).count q=0:=List.count_eq_zero.2 (fun hm=>by
 obtain⟨x,hx,e⟩:=List.mem_map.1 hm
 exact h x hx e)
theorem Rk (ha:0<a) (hc:Chs a NN M tou c c') {q0:Nat} (hq0:q0<a*NN+1) (hn:q0<NN→tou q0=true→Ni a NN Q K tou c c' f node q0) {T:List Nd} {P:List (Nat×List UInt8)} {kp r:List UInt8} (hr:jQ T kp (K q0) r) (hT:T.length+grM f+4≤90000) (hok:∀q,In a NN q0 q→iZ a NN T Q K c q):
 ∃T' P1 K1,jq NN M tou node kp q0 r (T,P)=some (K1 q0,(T',P++P1))∧(K1 q0=[]∨(K1 q0).length=32)∧Res a NN Q K tou c' (In a NN q0) T (grM f+4) T' P1 K1:=by
 unfold jq
 rw[hr.was Xf,Option.bind_some]
 cases ht:tou q0 with
 |false=>
  have hno:∀q,In a NN q0 q→tou q=false:=fun q hq=>by
   cases hh:tou q with
   |false=>rfl
   |true=>rw[hc.up q0 q hq.1 hh] at ht;cases ht
  refine⟨T,[],K,by rw[if_pos rfl,List.append_nil],?_,Onto.refl T,Xf,id,fun x hx=>(by cases hx),fun q hq h=>(by rw[hno q hq] at h;cases h),fun _ _=>rfl,fun q hq=> ?_⟩
  · exact hr.imp (fun h=>h.1) (fun h=>h.1)
  · refine (hok q hq).to (Onto.refl T) rfl rfl (fun _ _ _=>rfl) (fun h=>hc.off _ ?_)
    rw[Nat.add_sub_cancel' h]
    exact hno q hq
 |true=>
  rw[if_neg Xg]
  by_cases hl:NN≤q0
  · have hs:NN+(q0 - NN)=q0:=by omega
    obtain⟨g,hg,hcs,hgo⟩:=hc.leaf (q0 - NN) (by rw[hs];exact ht)
    rw[if_pos hl,hg,Option.map_some]
    have hone:∀q,In a NN q0 q→q=q0:=fun q h=>KE ha hl h
    unfold pI
    have hct:∀b:List UInt8,∀q,In a NN q0 q→tou q=true→(([(q0,b)]:List (Nat×List UInt8)).map Prod.fst).count q=1:=fun b q h _=>by
     rw[hone q h];simp
    cases hgg:g.g with
    |true=>
     rw[hgg] at hcs
     refine⟨T,[(q0,[])],fun q=>if q=q0 then [] else K q,by simp,.inl (if_pos rfl),Onto.refl T,Xf,id,fun x hx=> ?_,hct _,fun q hq=> ?_,fun q hq=> ?_⟩
     · rw[List.mem_singleton.1 hx]
       exact⟨⟨dY a q0,hq0⟩,ht,Nat.zero_le _⟩
     · exact if_neg (fun e=>hq (by rw[e];exact⟨dY a q0,hq0⟩))
     · rw[hone q hq]
       unfold iZ
       rw[if_neg Xf,hcs,if_pos rfl]
       exact⟨if_pos rfl,vL [] []⟩
    |false=>
     obtain⟨h1,h2,h3,h4⟩:=hgo hgg
     rw[hgg] at hcs
     have hlen:=Hq (aG T).1 (aC (aG T).2) g.v
     have hat:(aG T).1.length=T.length+1:=by unfold aG;simp
     have hS:=Sd.own (T:=(aG T).1) Xf (aC (aG T).2) g.v
     have hkl:=cO (aG T).2
     refine⟨(bI (aG T).1 (aC (aG T).2) g.v).1,[(q0,aJ g.h++aJ (gX (aG T).1 (aC (aG T).2) g.v))],fun q=>if q=q0 then aC (aG T).2 else K q,by simp,.inr (by simpa using hkl),(kS T).trans (lF _ _ _),Xf,fun z=>(z.atom).seal Xf Xf,fun x hx=> ?_,hct _,fun q hq=> ?_,fun q hq=> ?_⟩
     · rw[List.mem_singleton.1 hx]
       refine⟨⟨dY a q0,hq0⟩,ht,?_⟩
       show (aJ g.h++aJ _).length≤473
       rw[List.length_append,fLn,fLn,hS.len Xf]
       omega
     · exact if_neg (fun e=>hq (by rw[e];exact⟨dY a q0,hq0⟩))
     · rw[hone q hq]
       unfold iZ
       rw[if_neg Xf,hcs,if_neg Xg]
       exact⟨_,by simpa using hkl,vL [] _,h1,h2,h3,h4,by simpa using hS⟩
  · rw[if_neg hl]
    have hat:(aG T).1.length=T.length+1:=by unfold aG;simp
    obtain⟨T',P1,K1,e,hk,R⟩:=hn Xf ht (aC (aG T).2) (aG T).1 P (cO _) Xf (fun q hq=>(hok q hq).to (kS T) rfl rfl (fun _ _ _=>rfl) (fun _=>rfl))
    refine⟨T',P1,K1,by rw[e,Option.map_some,hk],.inr (by rw[hk];exact cO _),(kS T).trans R.on,by have :=R.ln;omega,fun z=>R.sz z.atom,R.pg,R.ct,R.kk,R.ok⟩
theorem Kh (ha:0<a) (hc:Chs a NN M tou c c') {p:Nat} (hp:p<NN) (hn:∀k,k<a→a*p+1+k<NN→tou (a*p+1+k)=true→Ni a NN Q K tou c c' f node (a*p+1+k)) {nxt:List UInt8} (hx:nxt.length=32):∀(rs:List (List UInt8)) (k:Nat) (T:List Nd) (P:List (Nat×List UInt8)),k+rs.length=a→(∀j r,rs[j]?=some r→jQ T (K p) (K (a*p+1+(k+j))) r)→T.length+rs.length*(grM f+7)≤90000→(∀q,In a NN p q→iZ a NN T Q K c q)→
 ∃rs' T' P1 K1,jF (fun k=>jq NN M tou node (K p) (a*p+1+k)) nxt k rs (T,P)=some (rs',(T',P++P1))∧rs'.length=rs.length∧(∀j r,rs'[j]?=some r→jQ T' nxt (K1 (a*p+1+(k+j))) r)∧Res a NN Q K tou c' (fun q=>∃j,k≤j∧j<a∧In a NN (a*p+1+j) q) T (rs.length*(grM f+7)) T' P1 K1
 | [],k,T,P,hk,_,_,_=>⟨[],T,[],K,by rw[List.append_nil];rfl,rfl,fun j r h=>(by cases h),Onto.refl T,Xf,id,fun x h=>(by cases h),fun q ⟨j,h1,h2,_⟩=>(by simp at hk;omega),fun _ _=>rfl,fun q ⟨j,h1,h2,_⟩=>(by simp at hk;omega)⟩
 |r::rs,k,T,P,hk,hr,hT,hok=>by
  rw[List.length_cons] at hk hT
  have hka:k<a:=by omega
  have hmul:(rs.length+1)*(grM f+7)=rs.length*(grM f+7)+(grM f+7):=Nat.succ_mul _ _
  have hq0:a*p+1+k<a*NN+1:=oN (q:=0) hp hka
  have hsub:∀{j q},j<a→In a NN (a*p+1+j) q→In a NN p q:=fun hj h=>⟨kT hj h.1,h.2⟩
  obtain⟨T1,P1,K1,e1,hk1,R1⟩:=Rk (M:=M) ha hc hq0 (hn k hka) (P:=P) (hr 0 r rfl) Xf (fun q h=>hok q (hsub hka h))
  obtain⟨T2,hT2⟩:∃T2,T2=if K1 (a*p+1+k)=[] then T1 else (bI T1 nxt (K1 (a*p+1+k))).1:=⟨_,rfl⟩
  have o12:Onto T1 T2:=by rw[hT2];split;exact Onto.refl _;exact lF _ _ _
  have l12:T2.length≤T1.length+3:=by rw[hT2];split;omega;exact Hq _ _ _
  have z12:SzT T1→SzT T2:=fun z=>by
   rw[hT2]
   split
   · exact z
   · rename_i hne
     exact z.seal Xf (by rw[hk1.resolve_left hne];omega)
  have o02:=R1.on.trans o12
  have h1l:=R1.ln
  obtain⟨rs3,T3,P3,K3,e3,hl3,hr3,R3⟩:=Kh ha hc hp hn hx rs (k+1) T2 (P++P1) Xf (fun j r h=>by
   have :=(hr (j+1) r h).onto o02
   rwa[show k+(j+1)=k+1+j by omega] at this) Xf (fun q h=>(hok q h).to o02 rfl rfl (fun _ _ _=>rfl) (fun _=>rfl))
  have hdis:∀{q},In a NN (a*p+1+k) q→¬∃j,k+1≤j∧j<a∧In a NN (a*p+1+j) q:=fun h ⟨j,h1,h2,h3⟩=>by
   have :=FB hka h2 h.1 h3.1
   omega
  have hT3:T3.length≤100000:=by have :=R3.ln;omega
  obtain⟨K',hy,hz⟩:∃K':Nat→List UInt8,(∀q,In a NN (a*p+1+k) q→K' q=K1 q)∧∀q,¬In a NN (a*p+1+k) q→K' q=K3 q:=⟨fun q=>if Sub a (a*p+1+k) q∧q<a*NN+1 then K1 q else K3 q,fun q h=>if_pos h,fun q h=>if_neg h⟩
  refine⟨(if K1 (a*p+1+k)=[] then [] else gX T1 nxt (K1 (a*p+1+k)))::rs3,T3,P1++P3,K',?_,?_,?_,o02.trans R3.on,by have :=R3.ln;rw[List.length_cons];omega,fun z=>R3.sz (z12 (R1.sz z)),fun x hx=> ?_,fun q hq ht=> ?_,fun q hq=> ?_,fun q hq=> ?_⟩
  · rw[jF,e1,Option.bind_some]
    simp only
    rw[←List.append_assoc]
    by_cases hne:K1 (a*p+1+k)=[]
    · rw[if_pos hne,if_pos hne]
      rw[if_pos hne] at hT2
      rw[←hT2,e3,Option.map_some]
    · rw[if_neg hne,if_pos (hk1.resolve_left hne),if_neg hne]
      rw[if_neg hne] at hT2
      rw[←hT2,e3,Option.map_some]
  · rw[List.length_cons,List.length_cons,hl3]
  · intro j r' h
    cases j with
    |zero=>
     simp only[List.getElem?_cons_zero,Option.some.injEq] at h
     subst h
     simp only[Nat.add_zero]
     rw[hy _ ⟨dY _ _,hq0⟩]
     by_cases hne:K1 (a*p+1+k)=[]
     · rw[if_pos hne]
       exact .inl ⟨hne,rfl⟩
     · rw[if_neg hne]
       rw[if_neg hne] at hT2
       have :=Sd.own (T:=T1) Xf nxt (K1 (a*p+1+k))
       rw[←hT2] at this
       exact .inr ⟨hk1.resolve_left hne,hx,this.onto R3.on⟩
    |succ j=>
     have hja:k+1+j<a:=by
      have :=(List.getElem?_eq_some_iff.1 (show rs3[j]?=some r' from h)).1
      omega
     have :=hr3 j r' h
     rw[show k+1+j=k+(j+1) by omega] at this
     rw[hz _ (fun e=>by have :=FB hka (j:=k+(j+1)) Xf e.1 (dY _ _);omega)]
     exact this
  · rcases List.mem_append.1 hx with h|h
    · obtain⟨h1,h2,h3⟩:=R1.pg x h
      exact⟨⟨k,Nat.le_refl _,hka,h1⟩,h2,h3⟩
    · obtain⟨⟨j,h0,h1,h4⟩,h2,h3⟩:=R3.pg x h
      exact⟨⟨j,Xf,h1,h4⟩,h2,h3⟩
  · rw[List.map_append,List.count_append]
    obtain⟨j,h0,h1,h2⟩:=hq
    by_cases hj:j=k
    · subst hj
      rw[R1.ct q h2 ht,nH (q:=q) (fun x hx e=>hdis h2 (e▸(R3.pg x hx).1))]
    · have hin:∃j,k+1≤j∧j<a∧In a NN (a*p+1+j) q:=⟨j,Xf,h1,h2⟩
      rw[R3.ct q hin ht,nH (q:=q) (fun x hx e=>hdis (e▸(R1.pg x hx).1) hin)]
  · rw[hz _ (fun e=>hq ⟨k,Nat.le_refl _,hka,e⟩)]
    exact R3.kk q (fun⟨j,h0,h1,h2⟩=>hq ⟨j,Xf,h1,h2⟩)
  · obtain⟨j,h0,h1,h2⟩:=hq
    have hch:∀{q i},q<NN→i<a→a*q+1+i<a*NN+1:=fun h h'=>oN (q:=0) h h'
    by_cases hj:j=k
    · subst hj
      refine (R1.ok q h2).to (o12.trans R3.on) (wZ (fun x hx e=>hdis h2 (e▸(R3.pg x hx).1))) (hy _ h2) (fun i hi hqn=>hy _ ⟨vF h2.1 (kT hi (dY _ _)),hch hqn hi⟩) (fun _=>rfl)
    · have hin:∃j,k+1≤j∧j<a∧In a NN (a*p+1+j) q:=⟨j,Xf,h1,h2⟩
      have hnk:∀{q},(∃j,k+1≤j∧j<a∧In a NN (a*p+1+j) q)→¬(Sub a (a*p+1+k) q∧q<a*NN+1):=fun h e=>hdis e h
      refine (R3.ok q hin).to (Onto.refl _) (Le (fun x hx e=>hdis (e▸(R1.pg x hx).1) hin)) (hz _ (hnk hin)) (fun i hi hqn=>hz _ (hnk ⟨j,Xf,h1,vF h2.1 (kT hi (dY _ _)),hch hqn hi⟩)) (fun _=>rfl)
theorem Oc {rows:List (List UInt8)} (h:∀x∈rows,rowOk x=true) (hl:rows.length≤4):(dI rows).length≤473:=by
 unfold dI
 split
 · have :=mP rows (fun x hx=>by have :=h x hx;unfold rowOk at this;rw[Bool.or_eq_true,decide_eq_true_eq,decide_eq_true_eq] at this;omega)
   omega
 · exact Nat.zero_le _
theorem Pe {p k:Nat} (hk:k<a):(upL a (a*p+1+k)).length=(upL a p).length+1:=by
 rw[mo a _ Xf,List.length_cons,sI hk]
theorem JZ (ha:0<a) (ha4:a≤4) (hc:Chs a NN M tou c c'):∀(f p:Nat),p<NN→tou p=true→(∀q,Sub a p q→q<NN→(upL a q).length<(upL a p).length+f)→Ni a NN Q K tou c c' f (gU a NN Q M tou f) p
 |0,p,hp,_,hf=>fun _ _ _ _ _ _=>absurd (hf p (dY _ _) hp) Xf
 |f+1,p,hp,htp,hf=>fun nxt T P hx hT hok=>by
  have hgr:grM (f+1)=4*(grM f+7):=rfl
  have hpin:In a NN p p:=⟨dY _ _,by have :=Nat.mul_le_mul_right NN (show 1≤a from ha);omega⟩
  obtain⟨rows,hl,hQ,hD,hro,hri⟩:=(hok p hpin).rows hp Xf
  have hm4:a*(grM f+7)≤4*(grM f+7):=Nat.mul_le_mul_right _ ha4
  obtain⟨rs',T',P1,K1,e,hl',hr',R⟩:=Kh (M:=M) (node:=gU a NN Q M tou f) ha hc hp (fun k hk hkn ht=>JZ ha ha4 hc f _ hkn ht (fun q hq hqn=>by
   have :=hf q (kT hk hq) hqn
   rw[Pe hk]
   omega)) hx rows 0 T P Xf (fun j r h=>by rw[Nat.zero_add];exact hri j r h) (by rw[hl];omega) hok
  rw[hl] at R hl'
  have hln:=R.ln
  have hdin:∀{q},(∃j,0≤j∧j<a∧In a NN (a*p+1+j) q)→In a NN p q∧q≠p:=fun⟨j,_,h1,h2⟩=>⟨⟨kT h1 h2.1,h2.2⟩,Vj h1 h2.1⟩
  have hcas:∀{q},In a NN p q→q≠p→∃j,0≤j∧j<a∧In a NN (a*p+1+j) q:=fun h hne=>by
   rcases CW ha h.1 with e| ⟨k,hk,e⟩
   · exact absurd e hne
   · exact⟨k,Nat.zero_le _,hk,e,h.2⟩
  have hrok:∀x∈rs',rowOk x=true:=fun x hx=>by
   obtain⟨j,hj⟩:=List.mem_iff_getElem?.1 hx
   exact (hr' j x hj).ok Xf
  have hnp:∀x∈P1,x.1≠p:=fun x hx=>(hdin (R.pg x hx).1).2
  refine⟨T',P1++ [(p,dI rs')],fun q=>if q=p then nxt else K1 q,?_,if_pos rfl,R.on,Xf,R.sz,fun x hx=> ?_,fun q hq ht=> ?_,fun q hq=> ?_,fun q hq=> ?_⟩
  · unfold gU
    rw[hD,Option.bind_some,e,Option.map_some,List.append_assoc]
  · rcases List.mem_append.1 hx with h|h
    · obtain⟨h1,h2,h3⟩:=R.pg x h
      exact⟨(hdin h1).1,h2,h3⟩
    · rw[List.mem_singleton.1 h]
      exact⟨hpin,htp,Oc hrok Xf⟩
  · rw[List.map_append,List.count_append]
    by_cases hne:q=p
    · subst hne
      rw[nH hnp]
      simp
    · rw[R.ct q (hcas hq hne) ht,nH (fun x hx e=>by rw[List.mem_singleton.1 hx] at e;exact hne e.symm)]
  · show (if q=p then nxt else K1 q)=_
    rw[if_neg (fun e=>hq (by rw[e];exact hpin))]
    exact R.kk q (fun h=>hq (hdin h).1)
  · by_cases hne:q=p
    · subst hne
      unfold iZ
      rw[if_pos hp]
      refine⟨rs',hl',vL _ _,fun j r h=> ?_⟩
      show jQ T' (if q=q then nxt else K1 q) (if a*q+1+j=q then nxt else K1 (a*q+1+j)) r
      have hj:j<a:=by rw[←hl'];exact (List.getElem?_eq_some_iff.1 h).1
      rw[if_pos rfl,if_neg (by have :=oO (p:=q) hj;omega)]
      have :=hr' j r h
      rwa[Nat.zero_add] at this
    · refine (R.ok q (hcas hq hne)).to (Onto.refl _) (wZ (fun x hx e=>by rw[List.mem_singleton.1 hx] at e;exact hne e.symm)) (if_neg hne) (fun i hi _=>if_neg ?_) (fun _=>rfl)
      have :=oO (p:=q) hi
      have :=sub_le hq.1
      omega
end
end
section
open Go.RowKit
structure OpI (L:Pl) (a d l:Int) (x:Spr) (vl vp:Value) (next:Nat) (due dead:Bool) (ps pv pd pS pg:Nat) (w:World):Prop where
 fd:Blk w pd 28 [.pointer (some ⟨L.dp,0,none⟩)]
 fs:Blk w pS 33 [.pointer (some ⟨L.p,0,none⟩)]
 fg:Blk w pg 23 [.int .i64 a,.int .i64 d,.int .i64 l]
 fv:Blk w pv 90 [.pointer (some ⟨ps,0,none⟩)]
 fx:Blk w ps 150 (aI L a d l x vl next vp due dead)
section
variable {w0 w w':World} {L:Pl} {m:Mc} {n:Nat} {a d l:Int} {x y:Spr} {vl vp vl' vp':Value} {next next':Nat} {due dead due' dead':Bool} {ps pv pd pS pg:Nat}
theorem OpI.gr (h:OpI L a d l x vl vp next due dead ps pv pd pS pg w) (k:Gr w w'):OpI L a d l x vl vp next due dead ps pv pd pS pg w':=⟨k.blk h.fd,k.blk h.fs,k.blk h.fg,k.blk h.fv,k.blk h.fx⟩
theorem OpI.to (h:OpI L a d l x vl vp next due dead ps pv pd pS pg w) (T:Tch (fun z=>z=ps) w w') (hs:Blk w' ps 150 (aI L a d l y vl' next' vp' due' dead')):OpI L a d l y vl' vp' next' due' dead' ps pv pd pS pg w':=
 ⟨h.fd.tch T (fun e=>by have :=h.fd;rw[e] at this;exact absurd (bTy this h.fx) Xg),h.fs.tch T (fun e=>by have :=h.fs;rw[e] at this;exact absurd (bTy this h.fx) Xg),h.fg.tch T (fun e=>by have :=h.fg;rw[e] at this;exact absurd (bTy this h.fx) Xg),h.fv.tch T (fun e=>by have :=h.fv;rw[e] at this;exact absurd (bTy this h.fx) Xg),hs⟩
theorem OpI.cells (h:OpI L a d l x vl vp next due dead ps pv pd pS pg w):w.cell? ⟨pd,0,none⟩=some (.pointer (some ⟨L.dp,0,none⟩))∧w.cell? ⟨pS,0,none⟩=some (.pointer (some ⟨L.p,0,none⟩))∧w.cell? ⟨pg,0,none⟩=some (.int .i64 a)∧w.cell? ⟨pg,1,none⟩=some (.int .i64 d)∧w.cell? ⟨pg,2,none⟩=some (.int .i64 l)∧w.cell? ⟨pv,0,none⟩=some (.pointer (some ⟨ps,0,none⟩))∧w.cell? ⟨ps,5,none⟩=some (.int .u64 (x.life:Int))∧w.cell? ⟨ps,6,none⟩=some (.int .i64 (x.base:Int)):=
 ⟨h.fd.cell 0,h.fs.cell 0,h.fg.cell 0,h.fg.cell 1,h.fg.cell 2,h.fv.cell 0,h.fx.cell 5,h.fx.cell 6⟩
theorem PD (h:MSt w0 L m w) (f:Fit m a d l) (ho:m.Ok n) (hn:n≤90000) (hd:m.d.down=false) (hp:m.d.pend=[]) (hge:w0.heap.size≤ps) (hb:OpI L a d l x vl vp next due dead ps pv pd pS pg w):
 Calls Tryz.prog 146 #[.pointer (some ⟨pd,0,none⟩),.pointer (some ⟨pS,0,none⟩),.pointer (some ⟨pg,0,none⟩),.pointer (some ⟨pv,0,none⟩)] w fun e w'=>e= .returned (.int .i64 (if (fP m.S a d l m.d.kept).isSome=true then 0 else 11))∧MSt w0 L m w'∧OpI L a d l ((fP m.S a d l m.d.kept).getD bO) vl vp next due dead ps pv pd pS pg w'∧Tch (fun z=>z=ps) w w':=by
 have HC:=Xh (fun wr (g:Gr w wr)=>(hb.gr g).cells)
 have HB:=Xh hb;have HH:=Xh h
 have HR:=Xh (fun wr (g:Gr w wr)=>D7 (h.mono g) f ho hn hd hp)
 obtain⟨X,hX⟩:∃X,X=(fP m.S a d l m.d.kept).getD bO:=⟨_,rfl⟩
 obtain⟨q,hq⟩:∃q:Int,q=if (fP m.S a d l m.d.kept).isSome=true then 0 else 11:=⟨_,rfl⟩
 rw[←hX,←hq] at HR ⊢
 clear h f ho hd hp hb hX hq
 go_in
 go_upto_region 1 with fail
 refine wrG Xe [0,0,0,0,14,30,62,62,127,383,895,2047] [.q 0,.q 1,.q 2,.q 3,.c 4,.p 5,.p 6,.p 7,.p 8,.p 9,.s 10,.p 11] Xe (trivial) ?_
 refine gQ (fun wq hq=>HC.out wq (Xk hq)) ?_
 refine gQ (fun wq hq=>HC.out wq (Xk hq)) ?_
 refine gQ (fun wq hq=>HC.out wq (Xk hq)) ?_
 refine gQ (fun wq hq=>HC.out wq (Xk hq)) ?_
 refine gC ?_
 intro w3 g3 K hK
 refine (HR.out w3 ((Gr.drew _).trans g3)).mono ?_
 rintro e wn ⟨rfl,g4⟩
 refine hK _ _ g4 ?_;have G4:=Xh (((Gr.drew w).trans g3).trans g4);clear g3 g4 hK
 go_simp
 refine gP ?_
 refine gP ?_
 refine gP ?_
 refine gP ?_
 refine gP ?_
 refine dV rfl rfl ?_
 intro wa ga K hK
 have Ga:=Xh (G4.out.trans ga)
 have Ba:=Xh (HB.out.gr Ga.out)
 have TH:wa.there ps 5 3:=fun j hj=>by
  rcases (show j=0∨j=1∨j=2 by omega) with e|e|e<;>subst e
  · exact⟨by rw[show wa.cell? ⟨ps,5+0,none⟩=_ from Ba.out.fx.cell 5];rfl,Blk.free Ba.out.fx 5⟩
  · exact⟨by rw[show wa.cell? ⟨ps,5+1,none⟩=_ from Ba.out.fx.cell 6];rfl,Blk.free Ba.out.fx 6⟩
  · exact⟨by rw[show wa.cell? ⟨ps,5+2,none⟩=_ from Ba.out.fx.cell 7];rfl,Blk.free Ba.out.fx 7⟩
 clear ga
 refine wp_store_mid 147 (.tmp 14) (.tmp 11) rfl ps 5 (aH X) rfl rfl TH iw (kC X) ?_
 refine hK _ _ ?_
 clear hK TH
 go_simp
 obtain⟨wb,hwb⟩:∃wb,wb=wa.setCells ps 5 (aH X).toList:=⟨_,rfl⟩
 have Sb:Blk wb ps 150 (aI L a d l X vl next vp due dead):=by rw[hwb];exact ((Ba.out.fx.set 5 (.int .u64 (X.life:Int))).set 6 (.int .i64 (X.base:Int))).set 7 (.int .u64 (X.gen:Int))
 have Tb:Tch (fun z=>z=ps) wa wb:=by rw[hwb];exact Tch.puts (S:=fun z=>z=ps) rfl _ _ _
 rw[←hwb]
 clear hwb
 refine gP ?_
 refine wNi fun wc gc=> ?_
 have Tc:Hid (Tch (fun z=>z=ps) w wc):=((Tch.gr Ga.out).trans Tb).trans (Tch.gr gc)
 have Sc:=Xh (Sb.mono gc)
 have Hc:Hid (MSt w0 L m wc):=HH.out.off Tc.out (fun z e=>e▸hge) (fun z e=>e▸⟨_,_,HB.out.fx,gI⟩)
 clear Sb Tb gc
 go_wp2_with fail
 go_ret
 exact⟨rfl,Hc.out,HB.out.to Tc.out Sc.out,Tc.out⟩
theorem Pn (h:MSt w0 L m w) (f:Fit m a d l) (ho:m.Ok n) (hn:n≤90000) (hd:m.d.down=false) (hp:m.d.pend=[]) (hge:w0.heap.size≤ps) (hb:OpI L a d l x vl vp next due dead ps pv pd pS pg w) (hl:x.life<18446744073709551616) (N:Nat) (hN0:0<N) (hN:(N:Int)=au a d l) (hall:∀k,k<N→jW m a d l x.life k=true):
 Calls Tryz.prog 148 #[.pointer (some ⟨pd,0,none⟩),.pointer (some ⟨pS,0,none⟩),.pointer (some ⟨pg,0,none⟩),.pointer (some ⟨pv,0,none⟩)] w fun e w'=>e= .returned (.int .i64 0)∧∃b c R,MSt w0 L m w'∧OpI L a d l x vl (.slice (some ⟨b,0,none⟩) N c) next due dead ps pv pd pS pg w'∧Pgo w0 L.kb w' b c N R∧R.map aj.l=(List.range N).map (fun i=>(pgR m a d l x.life i).1.body)∧N≤c∧c≤9223372036854775807∧w.heap.size≤b∧Tch (fun z=>z=ps) w w':=by
 have HC:=Xh (fun wr (g:Gr w wr)=>(hb.gr g).cells)
 have HB:=Xh hb;have HH:=Xh h
 have HR:=Xh (fun wr (g:Gr w wr)=>Il (h.mono g) f ho hn hd hp x.life hl N hN hall)
 obtain⟨Z,hZ⟩:∃Z,Z=(List.range N).map (fun i=>(pgR m a d l x.life i).1.body):=⟨_,rfl⟩
 rw[←hZ] at HR ⊢
 clear h f ho hd hp hb hall hN hZ
 go_in
 go_upto_region 1 with fail
 refine wrG Xe [0,0,0,0,0,16,48,112,240,510,1022,2046,2046,4095,12287,28671,65535] [.q 0,.q 1,.q 2,.q 3,.q 4,.p 5,.p 6,.p 7,.q 8,.c 9,.p 10,.p 11,.p 12,.p 13,.p 14,.s 15,.p 16] Xe (trivial) ?_
 refine gQ (fun wq hq=>HC.out wq (Xk hq)) ?_
 refine gQ (fun wq hq=>HC.out wq (Xk hq)) ?_
 refine gQ (fun wq hq=>HC.out wq (Xk hq)) ?_
 refine gQ (fun wq hq=>HC.out wq (Xk hq)) ?_
 refine gQ (fun wq hq=>HC.out wq (Xk hq)) ?_
 refine gP ?_
 refine gP ?_
 refine gP ?_
 refine gQ (fun wq hq=>HC.out wq (Xk hq)) ?_
 refine gC ?_
 intro w3 g3 K hK
 refine (HR.out w3 ((Gr.drew _).trans g3)).mono ?_
 rintro e wn ⟨A,c,R,rfl,o4,h4,q4⟩
 refine hK _ _ o4.below ?_;have G4:=Xh (((Gr.drew w).trans g3).trans o4.below);have G3:=Xh ((Gr.drew w).trans g3);have O4:=Xh o4;have H4:=Xh h4;have Q4:=Xh q4;clear g3 o4 h4 q4 hK
 go_simp
 refine gP ?_
 refine gP ?_
 refine gP ?_
 refine gP ?_
 refine gP ?_
 refine dV rfl rfl ?_
 intro wa ga K hK
 have Ga:=Xh (G4.out.trans ga)
 have Ba:=Xh (HB.out.gr Ga.out)
 have Oa:=Xh (O4.out.mono ga)
 have Qa:Hid (∀r∈R,QB L.kb wa r.a r.n r.c r.l):=fun r hr=>(Q4.out r hr).mono ga
 have x10:=Ba.out.fx.cell 10
 have f10:=Blk.free Ba.out.fx 10
 clear ga
 go_simp
 refine hK _ _ ?_
 clear hK x10 f10
 go_simp
 obtain⟨wb,hwb⟩:∃wb,wb=wa.setCell ⟨ps,10,none⟩ (.slice A N c):=⟨_,rfl⟩
 have Sb:Blk wb ps 150 (aI L a d l x vl next (.slice A N c) due dead):=by rw[hwb];exact Ba.out.fx.set 10 _
 have Tb:Tch (fun z=>z=ps) wa wb:=by rw[hwb];exact Tch.set ⟨ps,10,none⟩ _ rfl
 rw[←hwb]
 clear hwb
 refine gP ?_
 refine wNi fun wc gc=> ?_
 have Tac:Hid (Tch (fun z=>z=ps) wa wc):=Tb.trans (Tch.gr gc)
 have Tc:Hid (Tch (fun z=>z=ps) w wc):=(Tch.gr Ga.out).trans Tac.out
 have Sc:=Xh (Sb.mono gc)
 have Hc:Hid (MSt w0 L m wc):=HH.out.off Tc.out (fun z e=>e▸hge) (fun z e=>e▸⟨_,_,HB.out.fx,gI⟩)
 clear Sb Tb gc
 go_wp2_with fail
 go_ret
 have Ow:Own w0 wa 43 1 (.slice A N c) N (R.map aj.v):=(Oa.out.base G3.out).base HH.out.below
 obtain⟨g,cap,rest,hv,hg1,_⟩:=Oa.out.opened hN0
 obtain⟨A',c',hv',sl⟩:=Oa.out.slice
 injection hv' with e1 _ e2
 subst e1 e2
 injection hv with e3 _ e4
 subst e3
 refine⟨rfl,g,c,R,Hc.out,HB.out.to Tc.out Sc.out,Pgo.kx ⟨Ow,Qa.out⟩ (KX.tch Tac.out) Hc.out.below (fun z e=>⟨?_,150,(aI L a d l x vl next vp due dead),by rw[e];exact Ba.out.fx,by unfold tyB;decide⟩),H4.out,Sl.cap sl,Sl.max sl,?_,Tc.out⟩
 · intro q
   obtain⟨cs,z2⟩:=Oa.out.aA (b:=g) rfl
   rw[←q,e] at z2
   exact absurd (bTy z2 Ba.out.fx) Xg
 · exact Nat.le_trans G3.out.size (Oa.out.ge rfl)
end
end
end Go.Proofs.YtipdlnejmcmbbaaGreatDoor
