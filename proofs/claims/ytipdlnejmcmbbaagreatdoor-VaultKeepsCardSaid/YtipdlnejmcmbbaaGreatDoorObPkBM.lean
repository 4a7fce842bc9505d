/- Own texts, one behind the other. No condition. -/
import Derived.Test.YtipdlnejmcmbbaaGreatDoorObPkBL
set_option linter.unusedVariables false
set_option maxRecDepth 100000
set_option maxHeartbeats 8000000
set_option linter.unusedSimpArgs false
namespace Go.Proofs.YtipdlnejmcmbbaaGreatDoor
section
open Go.RowKit
theorem yZ:∀x y z:List UInt8,Op.bytesLess x y=true→Op.bytesLess y z=true→Op.bytesLess x z=true
 |x,[],z,h,_=>by cases x<;>simp[Op.bytesLess] at h
 |x,_::_,[],_,h=>by simp[Op.bytesLess] at h
 | [],_::_,_::_,_,_=>rfl
 |a::x,b::y,c::z,h,k=>by
  rw[Op.bytesLess] at h k ⊢
  simp only[Bool.or_eq_true,Bool.and_eq_true,decide_eq_true_eq,beq_iff_eq] at h k ⊢
  rcases h with h| ⟨rfl,h⟩<;>rcases k with k| ⟨rfl,k⟩
  · exact .inl (UInt8.lt_trans h k)
  · exact .inl h
  · exact .inl k
  · exact .inr ⟨rfl,yZ x y z h k⟩
theorem uP {x y:List UInt8}:dN x y= -1↔Op.bytesLess x y=true:=by
 unfold dN
 by_cases h:Op.bytesLess x y=true
 · rw[if_pos h];exact⟨fun _=>h,fun _=>rfl⟩
 · rw[if_neg h]
   refine⟨fun e=> ?_,fun e=>absurd e h⟩
   split at e<;>omega
theorem qb {x y:List UInt8} (h:dN x y=0):x=y:=by
 unfold dN at h
 split at h
 · omega
 · split at h
   · omega
   · next h1 h2=>
     rw[Bool.not_eq_false,Bool.or_eq_true] at h2
     rcases h2 with h2|h2
     · exact absurd h2 h1
     · exact beq_iff_eq.1 h2
theorem Aj {x y z:List UInt8} (h:dN x y= -1) (k:dN y z= -1):dN x z= -1:=uP.2 (yZ x y z (uP.1 h) (uP.1 k))
theorem vJ:∀xs,aM xs xs=0
 | []=>rfl
 |x::xs=>by unfold aM;rw[if_pos (CQ x)];exact vJ xs
theorem vg:∀{xs ys},aM xs ys=0→xs=ys
 | [],[],_=>rfl
 | [],_::_,h=>by simp[aM] at h
 |_::_,[],h=>by simp[aM] at h
 |x::xs,y::ys,h=>by
  unfold aM at h
  split at h
  · next h1=>rw[qb h1,vg h]
  · next h1=>exact absurd h h1
theorem tO:∀{xs ys zs},aM xs ys= -1→aM ys zs= -1→aM xs zs= -1
 | [],[],_,h,_=>by simp[aM] at h
 |_::_,[],_,h,_=>by simp[aM] at h
 |_,_::_,[],_,k=>by simp[aM] at k
 | [],_::_,_::_,_,_=>rfl
 |x::xs,y::ys,z::zs,h,k=>by
  unfold aM at h k ⊢
  by_cases h1:dN x y=0
  · rw[if_pos h1] at h
    have hxy:=qb h1
    subst hxy
    by_cases k1:dN x z=0
    · rw[if_pos k1] at k ⊢
      exact tO h k
    · rw[if_neg k1] at k ⊢
      exact k
  · rw[if_neg h1] at h
    by_cases k1:dN y z=0
    · have hyz:=qb k1
      subst hyz
      rw[if_neg h1]
      exact h
    · rw[if_neg k1] at k
      have hx:=Aj h k
      rw[if_neg (by rw[hx];omega)]
      exact hx
theorem NJ {s t:List UInt8} (hs:aB s=true) (ht:aB t=true) (h:cmpL s t=0):s=t:=by
 unfold cmpL at h
 rw[if_pos ⟨hs,ht⟩] at h
 have :=vg h
 rw[←qy s,←qy t,this]
theorem PK (s:List UInt8):cmpL s s=0:=by
 unfold cmpL
 split
 · exact vJ _
 · rfl
def dD (a b:List UInt8):Int:=if aB a=true then (if aB b=true then cmpL a b else 1) else if aB b=true then -1 else dN a b
theorem xD (a b:List UInt8):dD a b= -1∨dD a b=0∨dD a b=1:=by
 unfold dD
 split
 · split
   · exact Nh a b
   · exact .inr (.inr rfl)
 · split
   · exact .inl rfl
   · exact yT a b
theorem yV (a b:List UInt8):dD b a= - dD a b:=by
 unfold dD
 by_cases ha:aB a=true<;>by_cases hb:aB b=true
 · rw[if_pos ha,if_pos hb,if_pos ha,if_pos hb];exact Oh a b
 · simp only[ha,hb,if_true,if_false,Bool.false_eq_true]
 · simp only[ha,hb,if_true,if_false,Bool.false_eq_true];rfl
 · simp only[ha,hb,if_true,if_false,Bool.false_eq_true];exact BZ a b
theorem Ld (a:List UInt8):dD a a=0:=by
 unfold dD
 split
 · exact PK a
 · exact CQ a
theorem MU {a b:List UInt8} (h:dD a b=0):a=b:=by
 unfold dD at h
 split at h
 · next ha=>
   split at h
   · next hb=>exact NJ ha hb h
   · omega
 · split at h
   · omega
   · exact qb h
theorem mF {a b c:List UInt8} (h:dD a b= -1) (k:dD b c= -1):dD a c= -1:=by
 unfold dD at *
 by_cases ha:aB a=true<;>by_cases hb:aB b=true<;>by_cases hc:aB c=true
 all_goals simp only[ha,hb,hc,if_true,if_false,Bool.false_eq_true] at h k ⊢
 · unfold cmpL at *
   rw[if_pos ⟨ha,hb⟩] at h
   rw[if_pos ⟨hb,hc⟩] at k
   rw[if_pos ⟨ha,hc⟩]
   exact tO h k
 all_goals first|omega|exact Aj h k
abbrev LtH (a b:List UInt8):Prop:=dD a b= -1
theorem UM {a b:List UInt8} (h:LtH a b):¬LtH b a:=fun k=>by
 have :=yV a b
 unfold LtH at h k
 omega
theorem zC {a b:List UInt8} (h:LtH a b):a≠b:=fun e=>by
 subst e
 have :=Ld a
 unfold LtH at h
 omega
theorem pJ (a b:List UInt8):LtH a b∨a=b∨LtH b a:=by
 rcases xD a b with h|h|h
 · exact .inl h
 · exact .inr (.inl (MU h))
 · right;right
   have :=yV a b
   unfold LtH
   omega
def iR (L:List (List UInt8)):Prop:=L.Pairwise LtH
def jU (hs N:List (List UInt8)):Prop:=iR N∧∀x,x∈N↔x∈hs∧x≠[]
theorem zY:∀{L M:List (List UInt8)},iR L→iR M→(∀x,x∈L↔x∈M)→L=M
 | [],[],_,_,_=>rfl
 | [],m::M,_,_,h=>by have :=(h m).2 List.mem_cons_self;cases this
 |l::L,[],_,_,h=>by have :=(h l).1 List.mem_cons_self;cases this
 |l::L,m::M,hL,hM,h=>by
  unfold iR at hL hM
  rw[List.pairwise_cons] at hL hM
  have e:l=m:=by
   rcases List.mem_cons.1 ((h l).1 List.mem_cons_self) with e|hl
   · exact e
   rcases List.mem_cons.1 ((h m).2 List.mem_cons_self) with e|hm
   · exact e.symm
   exact absurd (hM.1 l hl) (UM (hL.1 m hm))
  subst e
  rw[zY (L:=L) (M:=M) hL.2 hM.2 (fun x=>⟨fun hx=> ?_,fun hx=> ?_⟩)]
  · rcases List.mem_cons.1 ((h x).1 (List.mem_cons_of_mem _ hx)) with e|hx'
    · exact absurd e.symm (zC (hL.1 x hx))
    · exact hx'
  · rcases List.mem_cons.1 ((h x).2 (List.mem_cons_of_mem _ hx)) with e|hx'
    · exact absurd e.symm (zC (hM.1 x hx))
    · exact hx'
theorem sH {hs N M:List (List UInt8)} (h:jU hs N) (k:jU hs M):N=M:=zY h.1 k.1 fun x=>(h.2 x).trans (k.2 x).symm
def aV:List (List UInt8)→List (List UInt8)
 | []=>[]
 | [x]=>[x]
 |x::y::l=>if x=y then aV (y::l) else x::aV (y::l)
theorem qL:∀(l:List (List UInt8)) (x:List UInt8),x∈aV l↔x∈l
 | [],x=>Iff.rfl
 | [a],x=>Iff.rfl
 |a::b::l,x=>by
  have ih:=qL (b::l) x
  unfold aV
  split
  · next h=>
    subst h
    rw[ih]
    simp
  · rw[List.mem_cons,ih,List.mem_cons (l:=b::l)]
theorem qA:∀(l:List (List UInt8)),(aV l).length≤l.length
 | []=>Nat.le_refl _
 | [a]=>Nat.le_refl _
 |a::b::l=>by
  have ih:=qA (b::l)
  unfold aV
  split
  · simp at ih ⊢;omega
  · simp at ih ⊢;omega
def Weak (L:List (List UInt8)):Prop:=L.Pairwise fun a b=>¬LtH b a
theorem uj:∀{l:List (List UInt8)},Weak l→iR (aV l)
 | [],_=>List.Pairwise.nil
 | [a],_=>List.pairwise_singleton _ _
 |a::b::l,h=>by
  unfold Weak at h
  rw[List.pairwise_cons] at h
  have ih:=uj (l:=b::l) h.2
  unfold aV
  split
  · exact ih
  · next hne=>
    unfold iR
    rw[List.pairwise_cons]
    refine⟨fun x hx=> ?_,ih⟩
    rw[qL] at hx
    have hab:LtH a b:=by
     rcases pJ a b with h1|h1|h1
     · exact h1
     · exact absurd h1 hne
     · exact absurd h1 (h.1 b List.mem_cons_self)
    rcases List.mem_cons.1 hx with rfl|hx
    · exact hab
    · rw[List.pairwise_cons] at h
      rcases pJ b x with h1|h1|h1
      · exact mF hab h1
      · rw[←h1];exact hab
      · exact absurd h1 (h.2.1 x hx)
def fU (hs:List (List UInt8)):List (List UInt8):=hs.filter fun x=> !(x==[])
theorem D5 {hs S:List (List UInt8)} (hp:S.Perm (fU hs)) (hw:Weak S):jU hs (aV S):=by
 refine⟨uj hw,fun x=> ?_⟩
 rw[qL,hp.mem_iff]
 unfold fU
 rw[List.mem_filter]
 simp
def yB (h:List UInt8):List (List UInt8)→List (List UInt8)
 | []=>[h]
 |x::l=>if dD x h= -1 then x::yB h l else h::x::l
def MH (out:List (List UInt8)) (h:List UInt8):List (List UInt8):=if h=[]∨h∈out then out else yB h out
theorem put_mem (h:List UInt8):∀(l:List (List UInt8)) (x:List UInt8),x∈yB h l↔x=h∨x∈l
 | [],x=>by simp[yB]
 |a::l,x=>by
  unfold yB
  split
  · rw[List.mem_cons,put_mem h l x,List.mem_cons]
    constructor
    · rintro (h1|h1|h1)
      · exact .inr (.inl h1)
      · exact .inl h1
      · exact .inr (.inr h1)
    · rintro (h1|h1|h1)
      · exact .inr (.inl h1)
      · exact .inl h1
      · exact .inr (.inr h1)
  · rw[List.mem_cons]
theorem Ci {h:List UInt8}:∀{l:List (List UInt8)},iR l→h∉l→iR (yB h l)
 | [],_,_=>List.pairwise_singleton _ _
 |a::l,hl,hn=>by
  unfold iR at hl
  have hl0:=hl
  rw[List.pairwise_cons] at hl
  have hne:a≠h:=fun e=>hn (by rw[e];exact List.mem_cons_self)
  unfold yB
  split
  · next h1=>
    unfold iR
    rw[List.pairwise_cons]
    refine⟨fun x hx=> ?_,Ci hl.2 (fun hm=>hn (List.mem_cons_of_mem _ hm))⟩
    rcases (put_mem h l x).1 hx with rfl|hx
    · exact h1
    · exact hl.1 x hx
  · next h1=>
    have hha:LtH h a:=by
     rcases pJ h a with h2|h2|h2
     · exact h2
     · exact absurd h2.symm hne
     · exact absurd h2 h1
    unfold iR
    rw[List.pairwise_cons]
    refine⟨fun x hx=> ?_,hl0⟩
    rcases List.mem_cons.1 hx with rfl|hx
    · exact hha
    · exact mF hha (hl.1 x hx)
theorem Lx {hs out:List (List UInt8)} (h:jU hs out) (x:List UInt8):jU (hs++ [x]) (MH out x):=by
 unfold MH
 split
 · next h1=>
   refine⟨h.1,fun y=> ?_⟩
   rw[h.2 y,List.mem_append,List.mem_singleton]
   constructor
   · rintro⟨h2,h3⟩;exact⟨.inl h2,h3⟩
   · rintro⟨h2|h2,h3⟩
     · exact⟨h2,h3⟩
     · subst h2
       rcases h1 with h1|h1
       · exact absurd h1 h3
       · exact (h.2 y).1 h1
 · next h1=>
   have hx0:x≠[]:=fun e=>h1 (.inl e)
   have hxo:x∉out:=fun e=>h1 (.inr e)
   refine⟨Ci h.1 hxo,fun y=> ?_⟩
   rw[put_mem,h.2 y,List.mem_append,List.mem_singleton]
   constructor
   · rintro (h2| ⟨h2,h3⟩)
     · subst h2;exact⟨.inr rfl,hx0⟩
     · exact⟨.inl h2,h3⟩
   · rintro⟨h2|h2,h3⟩
     · exact .inr ⟨h2,h3⟩
     · exact .inl h2
theorem Dv:jU [] []:=⟨List.Pairwise.nil,fun x=>by simp⟩
def bW (hs:List (List UInt8)) (s:List UInt8):Int:=if s=[] then -1 else match hs.findIdx? (·==s) with
 |some i=>(i:Int)
 |none=> -1
def jE (hs:List (List UInt8)):Int:=match hs.findIdx? (·==[]) with
 |some i=>(i:Int)
 |none=> -1
def fA (hs:List (List UInt8)):Nat:=(fU hs).length
theorem vT {hs:List (List UInt8)} {s:List UInt8} (h:s∈hs) (h0:s≠[]):0≤bW hs s:=by
 unfold bW
 rw[if_neg h0]
 cases hf:hs.findIdx? (·==s) with
 |some i=>simp
 |none=>
  rw[List.findIdx?_eq_none_iff] at hf
  have :=hf s h
  simp at this
theorem Dt {hs:List (List UInt8)} {s:List UInt8} (h:¬(s∈hs∧s≠[])):bW hs s= -1:=by
 unfold bW
 by_cases h0:s=[]
 · rw[if_pos h0]
 · rw[if_neg h0]
   have :hs.findIdx? (·==s)=none:=by
    rw[List.findIdx?_eq_none_iff]
    intro x hx
    rw[beq_eq_false_iff_ne]
    rintro rfl
    exact h ⟨hx,h0⟩
   rw[this]
end
section
open Go.RowKit
structure ChD where
 n:List UInt8
 v:List UInt8
 g:Bool
structure TcD where
 s:Nat
 h:List UInt8
 v:List UInt8
 g:Bool
def eO (now:List (List UInt8)) (c:ChD):Int:=if bW now c.n<0 then jE now else bW now c.n
def aP (M:Nat) (now:List (List UInt8)) (c:ChD):Nat:=
 if aB c.n=false∨(c.g=false∧M<c.v.length) then 2 else if bW now c.n<0∧c.g=true then 7 else if eO now c<0 then 5 else 0
def fT (c:ChD):List UInt8:=if c.g=true then [] else c.n
def oz (slot:Nat) (c:ChD):TcD:=if c.g=true then⟨slot,[],[],true⟩ else⟨slot,c.n,c.v,false⟩
def doC (st:List (List UInt8)×List TcD) (c:ChD):List (List UInt8)×List TcD:=(st.1.set (eO st.1 c).toNat (fT c),st.2++ [oz (eO st.1 c).toNat c])
def aD (M:Nat) (st:List (List UInt8)×List TcD):List ChD→(List (List UInt8)×List TcD)×Nat
 | []=>(st,0)
 |c::l=>if aP M st.1 c=0 then aD M (doC st c) l else (st,aP M st.1 c)
def lastOf (log:List TcD) (s:Nat):Option TcD:=log.reverse.find? fun t=>t.s==s
def slotsOf (log:List TcD):List Int:=gV (log.map fun t=>(t.s:Int))
def iN (log:List TcD):List TcD:=(slotsOf log).filterMap fun s=>lastOf log s.toNat
def Once (now:List (List UInt8)):Prop:=∀i j (hi:i<now.length) (hj:j<now.length),now[i]=now[j]→now[i]≠[]→i=j
theorem rR {now:List (List UInt8)} {s:List UInt8} (h:0≤bW now s):∃i:Nat,bW now s=i∧∃hi:i<now.length,now[i]=s∧s≠[]:=by
 unfold bW at *
 by_cases h0:s=[]
 · rw[if_pos h0] at h;omega
 · rw[if_neg h0] at h ⊢
   cases hf:now.findIdx? (·==s) with
   |none=>rw[hf] at h;simp at h
   |some i=>
    rw[List.findIdx?_eq_some_iff_getElem] at hf
    obtain⟨hi,h1,_⟩:=hf
    exact⟨i,rfl,hi,by simpa using h1,h0⟩
theorem JU {now:List (List UInt8)} (h:0≤jE now):∃i:Nat,jE now=i∧∃hi:i<now.length,now[i]=[]:=by
 unfold jE at *
 cases hf:now.findIdx? (·==[]) with
 |none=>rw[hf] at h;simp at h
 |some i=>
  rw[List.findIdx?_eq_some_iff_getElem] at hf
  obtain⟨hi,h1,_⟩:=hf
  exact⟨i,rfl,hi,by simpa using h1⟩
theorem FQ {now:List (List UInt8)} {s:List UInt8}:bW now s<0↔¬(s∈now∧s≠[]):=by
 constructor
 · rintro h ⟨h1,h2⟩
   have :=vT h1 h2
   omega
 · intro h
   rw[Dt h];omega
theorem sN {s:List UInt8} (h:aB s=true):s≠[]:=by rintro rfl;revert h;decide
theorem rD {M:Nat} {now:List (List UInt8)} {c:ChD} (h:aP M now c=0):aB c.n=true∧∃i:Nat,eO now c=i∧∃hi:i<now.length,(now[i]=c.n∨(now[i]=[]∧c.n∉now∧c.g=false)):=by
 unfold aP at h
 split at h
 · omega
 next h1=>
 have hr:aB c.n=true:=by
  cases hq:aB c.n with
  |true=>rfl
  |false=>exact absurd (.inl hq) h1
 refine⟨hr,?_⟩
 split at h
 · omega
 next h2=>
 split at h
 · omega
 next h3=>
 unfold eO at *
 by_cases hf:bW now c.n<0
 · rw[if_pos hf] at h3 ⊢
   obtain⟨i,hi,hl,he⟩:=JU (by omega:0≤jE now)
   refine⟨i,hi,hl,.inr ⟨he,fun hm=> ?_,?_⟩⟩
   · exact FQ.1 hf ⟨hm,sN hr⟩
   · cases hg:c.g with
     |false=>rfl
     |true=>exact absurd ⟨hf,hg⟩ h2
 · rw[if_neg hf] at h3 ⊢
   obtain⟨i,hi,hl,he,_⟩:=rR (by omega:0≤bW now c.n)
   exact⟨i,hi,hl,.inl he⟩
theorem SB {now:List (List UInt8)} {i:Nat} (hi:i<now.length) (h:Once now) {x:List UInt8} (hx:x=[]∨now[i]=x∨x∉now):Once (now.set i x):=by
 intro a b ha hb he hn
 rw[List.length_set] at ha hb
 rw[List.getElem_set,List.getElem_set] at he
 rw[List.getElem_set] at hn
 by_cases h1:i=a<;>by_cases h2:i=b
 · omega
 · rw[if_pos h1,if_neg h2] at he
   rw[if_pos h1] at hn
   rcases hx with hx|hx|hx
   · exact absurd hx hn
   · have :=h i b hi hb (hx.trans he) (by rw[hx];exact hn)
     omega
   · exact absurd (by rw[he];exact List.getElem_mem hb) hx
 · rw[if_neg h1,if_pos h2] at he
   rw[if_neg h1] at hn
   rcases hx with hx|hx|hx
   · exact absurd (he.trans hx) hn
   · have :=h a i ha hi (he.trans hx.symm) hn
     omega
   · exact absurd (by rw[←he];exact List.getElem_mem ha) hx
 · rw[if_neg h1,if_neg h2] at he
   rw[if_neg h1] at hn
   exact h a b ha hb he hn
theorem Uk {M:Nat} {st:List (List UInt8)×List TcD} {c:ChD} (h:Once st.1) (hf:aP M st.1 c=0):Once (doC st c).1:=by
 obtain⟨hr,i,he,hi,hc⟩:=rD hf
 show Once (st.1.set (eO st.1 c).toNat (fT c))
 rw[he]
 refine SB hi h ?_
 unfold fT
 by_cases hg:c.g=true
 · rw[if_pos hg];exact .inl rfl
 · rw[if_neg hg]
   rcases hc with h1|h1
   · exact .inr (.inl h1)
   · exact .inr (.inr h1.2.1)
theorem Pg {M:Nat} {st:List (List UInt8)×List TcD} {c:ChD} (h:Once st.1) (hf:aP M st.1 c=0) (x:List UInt8) (hx:x≠[]):x∈(doC st c).1↔(if x=c.n then c.g=false else x∈st.1):=by
 obtain⟨hr,i,he,hi,hc⟩:=rD hf
 show x∈(st.1.set (eO st.1 c).toNat (fT c))↔_
 rw[he]
 show x∈(st.1.set i (fT c))↔_
 rw[List.mem_iff_getElem]
 by_cases hxc:x=c.n
 · rw[if_pos hxc]
   constructor
   · rintro⟨j,hj,hj2⟩
     rw[List.length_set] at hj
     rw[List.getElem_set] at hj2
     by_cases hij:i=j
     · rw[if_pos hij] at hj2
       unfold fT at hj2
       by_cases hg:c.g=true
       · rw[if_pos hg] at hj2;exact absurd hj2.symm hx
       · simpa using hg
     · rw[if_neg hij] at hj2
       rcases hc with h1|h1
       · exact absurd (h i j hi hj (by rw[h1,hj2,hxc]) (by rw[h1,←hxc];exact hx)) hij
       · exact absurd (by rw[←hxc,←hj2];exact List.getElem_mem hj) h1.2.1
   · intro hg
     refine⟨i,by rw[List.length_set];exact hi,?_⟩
     rw[List.getElem_set,if_pos rfl]
     unfold fT
     rw[if_neg (by rw[hg];decide)]
     exact hxc.symm
 · rw[if_neg hxc]
   constructor
   · rintro⟨j,hj,hj2⟩
     rw[List.length_set] at hj
     rw[List.getElem_set] at hj2
     by_cases hij:i=j
     · rw[if_pos hij] at hj2
       unfold fT at hj2
       split at hj2
       · exact absurd hj2.symm hx
       · exact absurd hj2.symm hxc
     · rw[if_neg hij] at hj2
       rw[←hj2];exact List.getElem_mem hj
   · intro hm
     obtain⟨j,hj,hj2⟩:=List.mem_iff_getElem.1 hm
     have hij:i≠j:=by
      rintro rfl
      rcases hc with h1|h1
      · exact hxc (hj2.symm.trans h1)
      · exact hx (hj2.symm.trans h1.1)
     refine⟨j,by rw[List.length_set];exact hj,?_⟩
     rw[List.getElem_set,if_neg hij]
     exact hj2
def vC (hs:List (List UInt8)) (st:List (List UInt8)×List TcD):Prop:=
 st.1.length=hs.length∧(∀t∈st.2,t.s<hs.length)∧∀s (h:s<st.1.length) (h':s<hs.length),st.1[s]=match lastOf st.2 s with
  |some t=>t.h
  |none=>hs[s]
theorem Lr (hs:List (List UInt8)):vC hs (hs,[]):=⟨rfl,(fun t h=>by cases h),fun s h h'=>rfl⟩
theorem Cz (log:List TcD) (t:TcD) (s:Nat):lastOf (log++ [t]) s=if t.s=s then some t else lastOf log s:=by
 unfold lastOf
 rw[List.reverse_append,List.reverse_singleton,List.singleton_append,List.find?_cons]
 by_cases h:t.s=s
 · rw[if_pos h];simp[h]
 · rw[if_neg h]
   have :(t.s==s)=false:=by simpa using h
   rw[this]
theorem Ih (i:Nat) (c:ChD):(oz i c).s=i∧(oz i c).h=fT c:=by unfold oz fT;split<;>exact⟨rfl,rfl⟩
theorem Pm {M:Nat} {hs:List (List UInt8)} {st:List (List UInt8)×List TcD} {c:ChD} (h:vC hs st) (hf:aP M st.1 c=0):vC hs (doC st c):=by
 obtain⟨hr,i,he,hi,_⟩:=rD hf
 obtain⟨h1,h2,h3⟩:=h
 have e:doC st c=(st.1.set i (fT c),st.2++ [oz i c]):=by unfold doC;rw[he];rfl
 rw[e]
 refine⟨by rw[List.length_set];exact h1,fun t ht=> ?_,fun s hs1 hs2=> ?_⟩
 · rcases List.mem_append.1 ht with ht|ht
   · exact h2 t ht
   · simp only[List.mem_singleton] at ht
     subst ht
     rw[(Ih i c).1];omega
 · rw[List.length_set] at hs1
   show (st.1.set i (fT c))[s]=match lastOf (st.2++ [oz i c]) s with|some t=>t.h|none=>hs[s]
   rw[Cz,(Ih i c).1,List.getElem_set]
   by_cases his:i=s
   · rw[if_pos his,if_pos his]
     exact (Ih i c).2.symm
   · rw[if_neg his,if_neg his]
     exact h3 s hs1 hs2
structure EW (hs:List (List UInt8)) (l:List ChD) (st:List (List UInt8)×List TcD):Prop where
 log:vC hs st
 once:Once hs→Once st.1
 last:Once hs→∀i (hi:i<l.length),(∀k (hk:k<l.length),i<k→l[k].n≠l[i].n)→aB l[i].n=true∧(l[i].n∈st.1↔l[i].g=false)
theorem gD (M:Nat) (st:List (List UInt8)×List TcD) (c:ChD) (l:List ChD):aD M st (c::l)=if aP M st.1 c=0 then aD M (doC st c) l else (st,aP M st.1 c):=by rw[aD]
theorem pR {M:Nat}:∀(l:List ChD) (c:ChD) (st:List (List UInt8)×List TcD),aD M st (l++ [c])=if (aD M st l).2=0 then aD M (aD M st l).1 [c] else aD M st l
 | [],c,st=>by rw[List.nil_append,show aD M st []=(st,0) by rw[aD],if_pos rfl]
 |a::l,c,st=>by
  rw[List.cons_append,gD,gD]
  by_cases h:aP M st.1 a=0
  · rw[if_pos h,if_pos h]
    exact pR l c (doC st a)
  · rw[if_neg h,if_neg h,if_neg h]
theorem FP {M:Nat} {st:List (List UInt8)×List TcD}:∀(a b:List ChD),(aD M st a).2≠0→aD M st (a++b)=aD M st a
 | [],b,h=>absurd (by rw[aD]) h
 |x::a,b,h=>by
  rw[List.cons_append,gD,gD]
  rw[gD] at h
  by_cases hf:aP M st.1 x=0
  · rw[if_pos hf] at h ⊢
    rw[if_pos hf]
    exact FP a b h
  · rw[if_neg hf,if_neg hf]
theorem OV {M:Nat} {hs:List (List UInt8)} {l:List ChD} {st:List (List UInt8)×List TcD} {c:ChD} (h:EW hs l st) (hf:aP M st.1 c=0):EW hs (l++ [c]) (doC st c):=by
 refine⟨Pm h.log hf,fun ho=>Uk (h.once ho) hf,fun ho i hi hlast=> ?_⟩
 rw[List.length_append,List.length_singleton] at hi
 obtain⟨hr,_⟩:=rD hf
 by_cases hil:i<l.length
 · have e:(l++ [c])[i]'(by rw[List.length_append];omega)=l[i]:=List.getElem_append_left hil
   have hne:l[i].n≠c.n:=by
    have h1:=hlast l.length (by rw[List.length_append,List.length_singleton];omega) hil
    rw[List.getElem_append_right (Nat.le_refl _),e] at h1
    simpa using fun q=>h1 (by simpa using q.symm)
   have h2:=h.last ho i hil (fun k hk hik=>by
    have h1:=hlast k (by rw[List.length_append,List.length_singleton];omega) hik
    rw[List.getElem_append_left hk,e] at h1
    exact h1)
   rw[e]
   refine⟨h2.1,?_⟩
   rw[Pg (h.once ho) hf l[i].n (sN h2.1),if_neg hne]
   exact h2.2
 · have hie:i=l.length:=by omega
   subst hie
   have e:(l++ [c])[l.length]'(by rw[List.length_append,List.length_singleton];omega)=c:=by rw[List.getElem_append_right (Nat.le_refl _)];simp
   rw[e]
   refine⟨hr,?_⟩
   rw[Pg (h.once ho) hf c.n (sN hr),if_pos rfl]
theorem Ay {M:Nat} {hs:List (List UInt8)}:∀(n:Nat) (l:List ChD),l.length=n→(aD M (hs,[]) l).2=0→EW hs l (aD M (hs,[]) l).1
 |0,l,hl,_=>by
  obtain rfl:l=[]:=List.length_eq_zero_iff.1 hl
  rw[show aD M (hs,[]) []=((hs,[]),0) by rw[aD]]
  exact⟨Lr hs,id,fun _ i hi=>by simp at hi⟩
 |n+1,l,hl,h=>by
  obtain⟨a,c,rfl⟩:∃a c,l=a++ [c]:=by
   rcases List.eq_nil_or_concat l with h| ⟨a,c,h⟩
   · rw[h] at hl;simp at hl
   · exact⟨a,c,by simpa using h⟩
  rw[pR] at h ⊢
  by_cases h0:(aD M (hs,[]) a).2=0
  · rw[if_pos h0] at h ⊢
    rw[gD] at h ⊢
    by_cases hf:aP M (aD M (hs,[]) a).1.1 c=0
    · rw[if_pos hf]
      rw[show aD M (doC (aD M (hs,[]) a).1 c) []=(doC (aD M (hs,[]) a).1 c,0) by rw[aD]]
      exact OV (Ay n a (by simpa using hl) h0) hf
    · rw[if_neg hf] at h
      exact absurd h hf
  · rw[if_neg h0] at h
    exact absurd h h0
theorem nK {log:List TcD} {s:Nat} {t:TcD} (h:lastOf log s=some t):t.s=s∧t∈log:=by
 unfold lastOf at h
 have h1:=List.find?_some h
 have h2:=List.mem_of_find?_eq_some h
 exact⟨by simpa using h1,by simpa using h2⟩
theorem Uz {log:List TcD} {s:Nat} (h:∃t∈log,t.s=s):∃t,lastOf log s=some t:=by
 cases hl:lastOf log s with
 |some t=>exact⟨t,rfl⟩
 |none=>
  unfold lastOf at hl
  rw[List.find?_eq_none] at hl
  obtain⟨t,ht,hs⟩:=h
  exact absurd (by simpa using hs) (hl t (by simpa using ht))
theorem AY {log:List TcD} {t:TcD} (h:t∈iN log):lastOf log t.s=some t:=by
 unfold iN at h
 rw[List.mem_filterMap] at h
 obtain⟨s,hs,hl⟩:=h
 have :=(nK hl).1
 rw[this];exact hl
theorem Vs (log:List TcD):(iN log).Pairwise fun a b=>a.s<b.s:=by
 unfold iN
 have hup:=nV (log.map fun t=>(t.s:Int))
 have hmem:∀x∈slotsOf log,∃t∈log,(t.s:Int)=x:=fun x hx=>by
  unfold slotsOf at hx
  rw[gG] at hx
  obtain⟨t,ht,he⟩:=List.mem_map.1 hx
  exact⟨t,ht,he⟩
 unfold slotsOf at hmem ⊢
 generalize gV (log.map fun t=>(t.s:Int))=S at *
 induction S with
 |nil=>exact List.Pairwise.nil
 |cons s S ih=>
  rw[List.pairwise_cons] at hup
  have ih:=ih hup.2 (fun x hx=>hmem x (List.mem_cons_of_mem _ hx))
  obtain⟨t0,h0,he⟩:=hmem s List.mem_cons_self
  obtain⟨t,ht⟩:=Uz (log:=log) (s:=s.toNat) ⟨t0,h0,Xf⟩
  rw[List.filterMap_cons,ht]
  show List.Pairwise _ (t::List.filterMap _ S)
  rw[List.pairwise_cons]
  refine⟨fun y hy=> ?_,ih⟩
  rw[List.mem_filterMap] at hy
  obtain⟨s',hs',hl'⟩:=hy
  have h1:=hup.1 s' hs'
  have h2:=(nK ht).1
  have h3:=(nK hl').1
  omega
theorem Wh {hs:List (List UInt8)} {st:List (List UInt8)×List TcD} (h:vC hs st):∀t∈iN st.2,t.s<hs.length:=fun t ht=>h.2.1 t (nK (AY ht)).2
end
section
open Go.RowKit
structure ChV where
 d:ChD
 a:Option Addr
 m:Nat
 c:Nat
instance:Inhabited ChV:=⟨⟨⟨[],[],false⟩,none,0,0⟩⟩
def ChV.cells (x:ChV):List Value:=[ak x.d.n,.slice x.a x.m x.c,.bool x.d.g]
theorem ChV.eX (x:ChV):x.cells.length=3:=rfl
def Chg (w:World) (A:Option Addr) (n c:Nat) (L:List ChV):Prop:=L.length=n∧Sl w A n c 3 (L.flatMap ChV.cells)∧∀x∈L,Bs w x.a x.m x.c x.d.v∧x.d.n.length≤9223372036854775807
theorem Chg.mono {w w':World} {A:Option Addr} {n c:Nat} {L:List ChV} (h:Chg w A n c L) (hb:Gr w w'):Chg w' A n c L:=⟨h.1,h.2.1.mono hb,fun x hx=>⟨(h.2.2 x hx).1.mono hb,(h.2.2 x hx).2⟩⟩
theorem Chg.max {w:World} {A:Option Addr} {n c:Nat} {L:List ChV} (h:Chg w A n c L):n≤9223372036854775807:=Nat.le_trans h.2.1.cap h.2.1.max
theorem Chg.row {w:World} {A:Option Addr} {n c:Nat} {L:List ChV} (h:Chg w A n c L) {k:Nat} (hk:k<L.length):
 ∃b o,A=some ⟨b,o,none⟩∧w.cell? ⟨b,o+k*3,none⟩=some (ak L[k].d.n)∧w.cell? ⟨b,o+k*3+1,none⟩=some (.slice L[k].a L[k].m L[k].c)∧w.cell? ⟨b,o+k*3+2,none⟩=some (.bool L[k].d.g)∧Bs w L[k].a L[k].m L[k].c L[k].d.v∧L[k].d.n.length≤9223372036854775807:=by
 obtain⟨hl,hs,hx⟩:=h
 obtain⟨b,o,e,hc⟩:=hs.addr Xf
 have hr:L[k]?=some L[k]:=List.getElem?_eq_getElem hk
 have h0:=kY (s:=3) ChV.eX L k 0 Xg _ hr
 have h1:=kY (s:=3) ChV.eX L k 1 Xg _ hr
 have h2:=kY (s:=3) ChV.eX L k 2 Xg _ hr
 exact⟨b,o,e,hc _ _ (h0.trans rfl),by rw[Nat.add_assoc];exact hc _ _ (h1.trans rfl),by rw[Nat.add_assoc];exact hc _ _ (h2.trans rfl),hx _ (List.getElem_mem _)⟩
structure oW (hs:List (List UInt8)) (L:List ChV):Prop where
 h:hs.length≤70
 l:L.length≤40
 hh:∀p∈hs,p.length≤100
 hl:∀x∈L,x.d.n.length≤100∧x.d.v.length≤400
theorem yL {α:Type} {l:List α} {k:Nat} {P:α→Prop} (hk:k<l.length) (h:∀p∈l.take k,P p) (hn:P l[k]):∀p∈l.take (k+1),P p:=fun p hp=>by
 rw[List.take_succ_eq_append_getElem hk,List.mem_append,List.mem_singleton] at hp
 rcases hp with hp|rfl
 · exact h p hp
 · exact hn
theorem Jg (A B:Option Addr) (n c m d:Nat) (hs:List (List UInt8)) (L:List ChV) (w:World) (h:Ws w A n c hs) (hz:∀p∈hs,p.length≤9223372036854775807) (hL:Chg w B m d L):
 Calls Tryz.prog 21 #[.slice A n c,.slice B m d] w fun e w'=>∃b,e= .returned (.bool b)∧(b=true→oW hs L)∧Gr w w':=by
 have hmax:=h.max
 have hcap:=h.cap
 have hmm:=hL.max
 have HL:=Xh h.len
 have HL2:=Xh hL.1
 have HH:=Xh h;have HC:=Xh hL;have HZ:=Xh hz
 clear h hL hz
 by_cases h70:70<n
 · have t1:decide ((70:Int)<(n:Int))=true:=decide_eq_true Xf
   go_in
   go_wp2_with fail
   go_ret
   exact⟨false,rfl,(fun q=>by cases q),Gr.refl _⟩
 have t1:decide ((70:Int)<(n:Int))=false:=decide_eq_false Xf
 by_cases h40:40<m
 · have t2:decide ((40:Int)<(m:Int))=true:=decide_eq_true Xf
   go_in
   go_wp2_with fail
   go_ret
   exact⟨false,rfl,(fun q=>by cases q),Gr.refl _⟩
 have t2:decide ((40:Int)<(m:Int))=false:=decide_eq_false Xf
 go_in
 go_wp2_with fail
 go_loopw [5] (fun i wr=>∃k:Nat,k≤n∧i= .int .i64 k∧wr=w∧∀p∈hs.take k,p.length≤100) (fun i _=>n - (intOf i).toNat)
 case atStart=>exact⟨0,Nat.zero_le _,rfl,rfl,by simp⟩
 case round=>
  obtain⟨k,hk,rfl,rfl,hall⟩:=hrel
  have HA:=Xh hall;clear hall
  by_cases hlt:k<n
  · have hkl:k<hs.length:=by rw[HL.out];exact hlt
    obtain⟨b,o,rfl,hc⟩:=Ws.addr HH.out Xf
    have c1:=hc k hkl
    have hzk:=HZ.out _ (List.getElem_mem hkl)
    have HTK:Hid (hs[k].length≤100→∀p∈hs.take (k+1),p.length≤100):=fun h=>yL (P:=fun p:List UInt8=>p.length≤100) hkl HA.out h
    clear hc
    generalize hs[k]=x at *
    obtain⟨xs,hxs⟩:∃xs:ByteArray,xs=⟨x.toArray⟩:=⟨_,rfl⟩
    have hxz:xs.size=x.length:=by rw[hxs];exact kI x
    rw[←hxs] at c1
    clear hxs
    by_cases h100:100<xs.size
    · have t3:decide ((100:Int)<(xs.size:Int))=true:=decide_eq_true Xf
      clear hxz
      go_wp2_with fail
      go_ret
      exact⟨false,rfl,(fun q=>by cases q),Gr.refl _⟩
    · have t3:decide ((100:Int)<(xs.size:Int))=false:=decide_eq_false Xf
      have HK2:=Xh (HTK.out Xf)
      clear hxz
      go_wp2_with fail
      refine⟨⟨k+1,Xf,by first|trivial|go_num,by first|trivial|rfl,HK2.out⟩,?_⟩
      show n - ((k:Int)+1).toNat<n - (k:Int).toNat
      omega
  · obtain rfl:k=n:=by omega
    have HS:Hid (∀p∈hs,p.length≤100):=by have :=HA.out;rwa[List.take_of_length_le (by rw[HL.out];omega)] at this
    go_wp2_with fail
    go_loopw [6] (fun i wx=>∃j:Nat,j≤m∧i= .int .i64 j∧wx=wr∧∀x∈L.take j,x.d.n.length≤100∧x.d.v.length≤400) (fun i _=>m - (intOf i).toNat)
    case atStart=>exact⟨0,Nat.zero_le _,rfl,rfl,by simp⟩
    case round=>
     obtain⟨j,hj,rfl,rfl,hall⟩:=hrel
     have HB:=Xh hall;clear hall
     by_cases hlt2:j<m
     · have hjl:j<L.length:=by rw[HL2.out];exact hlt2
       obtain⟨b,o,rfl,c1,c2,c3,hb,hzj⟩:=HC.out.row hjl
       have hvl:=hb.len
       have hvc:=hb.cap
       have hvm:=hb.max
       have HTK:Hid (L[j].d.n.length≤100∧L[j].d.v.length≤400→∀x∈L.take (j+1),x.d.n.length≤100∧x.d.v.length≤400):=fun h=>yL (P:=fun x:ChV=>x.d.n.length≤100∧x.d.v.length≤400) hjl HB.out h
       clear hb c3
       generalize L[j]=x at *
       obtain⟨⟨xn,xv,xg⟩,xa,xm,xc⟩:=x
       simp only at c1 c2 hzj hvl hvc hvm HTK
       obtain⟨xs,hxs⟩:∃xs:ByteArray,xs=⟨xn.toArray⟩:=⟨_,rfl⟩
       have hxz:xs.size=xn.length:=by rw[hxs];exact kI xn
       replace c1:wr.cell? ⟨b,o+j*3,none⟩=some (.string xs):=by rw[hxs];exact c1
       clear hxs
       by_cases h100:100<xs.size
       · have t3:decide ((100:Int)<(xs.size:Int))=true:=decide_eq_true Xf
         clear hxz hvl HTK
         go_wp2_with fail
         go_ret
         exact⟨false,rfl,(fun q=>by cases q),Gr.refl _⟩
       · have t3:decide ((100:Int)<(xs.size:Int))=false:=decide_eq_false Xf
         by_cases h400:400<xm
         · have t4:decide ((400:Int)<(xm:Int))=true:=decide_eq_true Xf
           clear hxz hvl HTK
           go_wp2_with fail
           go_ret
           exact⟨false,rfl,(fun q=>by cases q),Gr.refl _⟩
         · have t4:decide ((400:Int)<(xm:Int))=false:=decide_eq_false Xf
           have HK2:=Xh (HTK.out ⟨Xf,Xf⟩)
           clear hxz hvl HTK
           go_wp2_with fail
           refine⟨⟨j+1,Xf,by first|trivial|go_num,by first|trivial|rfl,HK2.out⟩,?_⟩
           show m - ((j:Int)+1).toNat<m - (j:Int).toNat
           omega
     · obtain rfl:j=m:=by omega
       have HS2:Hid (∀x∈L,x.d.n.length≤100∧x.d.v.length≤400):=by have :=HB.out;rwa[List.take_of_length_le (by rw[HL2.out];omega)] at this
       go_wp2_with fail
       go_ret
       exact⟨true,rfl,fun _=>⟨by rw[HL.out];omega,by rw[HL2.out];omega,HS.out,HS2.out⟩,Gr.refl _⟩
end
end Go.Proofs.YtipdlnejmcmbbaaGreatDoor
