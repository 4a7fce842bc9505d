/- Own texts, one behind the other. No condition. -/
import Derived.Test.YtipdlnejmcmbbaaGreatDoorObPkAG
import Derived.ProofKit
import Derived.Deep.Slices
import Derived.Deep.Fields
import Derived.Lib.SmallJoins
import Derived.Laws.StructEq
set_option linter.unusedVariables false
set_option maxRecDepth 100000
set_option maxHeartbeats 8000000
set_option linter.unusedSimpArgs false
namespace Go.Proofs.YtipdlnejmcmbbaaGreatDoor
section
open Go.RowKit Go.ChangeShapes Go.WideShapes Go.Deep
section
variable {H:Type} {enc:TypeId×Value→H} {P:Program} {W:World}
theorem su {α:Type} [Inhabited α] {t e:TypeId} {C fuel:Nat} {y:DataW H×List MemPlace} {a:Option Addr} {len cap:Nat} (ht:P.underlying t=some (.slice e)) (hC:P.cellsOf e=C) (hpos:0<C)
 (h:DataW.trod enc P W 0 (fun _=>true) true fuel t [.slice a len cap]=some y)
 (f:α→List Value) (hf:∀x,(f x).length=C) (good:α→Prop)
 (hel:∀n cs z,cs.length=C→DataW.trod enc P W 0 (fun _=>true) true n e cs=some z→∃x,cs=f x∧good x):
 ∃L:List α,L.length=len∧Sl W a len cap C (L.flatMap f)∧∀x∈L,good x:=by
 rcases open_slice ht h with⟨hcs,_⟩| ⟨ad,len',cap',m,n,D,Pl,hcs,_,hl,hm,hmm,_,hx⟩
 · simp at hcs
   obtain⟨rfl,rfl,rfl⟩:=hcs
   exact⟨[],rfl,Sl.nil _ _,by simp⟩
 · simp at hcs
   obtain⟨rfl,rfl,rfl⟩:=hcs
   rw[hC] at hx
   obtain⟨V,hV⟩:=choose_lt (α:=α) (n:=len) (p:=fun i x=>good x∧∀j,j<C→W.cell? (ad.add (i*C+j))=(f x)[j]?) (fun i hi=>by
    obtain⟨cs',h1,h2⟩:=hx i (by simp at hmm;omega)
    obtain⟨_,hlen,hat⟩:=World.cells?_some h1
    obtain⟨x,rfl,hg⟩:=hel _ _ _ hlen h2
    exact⟨x,hg,fun j hj=>by rw[←Go.Deep.add_add];exact hat j hj⟩)
   refine⟨(List.range len).map V,by simp,⟨by rw[xu hf];simp,hl,hm,fun hn=> ?_⟩,?_⟩
   · have h0:=(hV 0 hn).2 0 hpos
     rw[Nat.zero_mul,Nat.zero_add,List.getElem?_eq_getElem (by rw[hf];exact hpos)] at h0
     obtain⟨b,o,sp⟩:=ad
     have hsp:sp=none:=by simpa [Addr.add] using World.cell?_spot h0
     subst hsp
     refine⟨b,o,rfl,fun j u hu=> ?_⟩
     have hj:j<len*C:=by
      have :=(List.getElem?_eq_some_iff.1 hu).1
      rw[xu hf] at this
      simpa using this
     have hdiv:j / C<len:=by rw[Nat.div_lt_iff_lt_mul hpos];exact hj
     have hmod:=Nat.mod_lt j hpos
     have e:j / C*C+j % C=j:=Nat.div_add_mod' j C
     rw[←e,kY hf _ (j / C) (j % C) hmod (V (j / C)) (by simp[hdiv])] at hu
     rw[←sQ,←e,(hV (j / C) hdiv).2 (j % C) hmod]
     exact hu
   · intro x hx
     simp at hx
     obtain⟨i,hi,rfl⟩:=hx
     exact (hV i hi).1
theorem IX {t:TypeId} {fs:Array Field} {fuel:Nat} {cs:List Value} {x:DataW H×List MemPlace} (ht:P.underlying t=some (.struct fs)) (hone:oneCellFields P fs=true) (hC:P.cellsOf t=fs.size)
 (h:DataW.trod enc P W 0 (fun _=>true) true fuel t cs=some x):
 cs.length=fs.size∧∃n,∀(j:Nat) (fd:Field),fs[j]?=some fd→∃v y,cs[j]?=some v∧DataW.trod enc P W 0 (fun _=>true) true n fd.type [v]=some y:=by
 obtain⟨xs,n,_,_,hlen,hxl,hf⟩:=DataW.trod_struct ht h
 refine⟨hlen.trans hC,n,fun j fd hj=> ?_⟩
 obtain⟨ho,hk⟩:=hone_of hone j fd hj
 have hjl:j<fs.size:=(Array.getElem?_eq_some_iff.1 hj).1
 have h1:=hf j fd hj
 rw[ho,hk] at h1
 have hjc:j<cs.length:=by rw[hlen,hC];exact hjl
 have hone':(cs.drop j).take 1=[cs[j]]:=by rw[List.drop_eq_getElem_cons hjc];rfl
 rw[hone',List.getElem?_eq_getElem (show j<xs.length by omega)] at h1
 exact⟨_,_,List.getElem?_eq_getElem hjc,h1⟩
theorem Jk {t e:TypeId} {a:Option Addr} {len cap fuel:Nat} {y:DataW H×List MemPlace} (ht:P.underlying t=some (.slice e)) (he:P.underlying e=some (.int .u8)) (hc:P.cellsOf e=1)
 (h:DataW.trod enc P W 0 (fun _=>true) true fuel t [.slice a len cap]=some y):∃l,Bs W a len cap l:=by
 obtain⟨L,_,hs,_⟩:=su (α:=UInt8) ht hc Xg h (fun x=>[u8c x]) (fun _=>rfl) (fun _=>True) (fun n cs z hl hz=>by
  obtain⟨v,rfl,_,hw⟩:=DataW.trod_int he hz
  have :=bounds_u8 hw
  exact⟨UInt8.ofNat v.toNat,by rw[EA v Xf Xf],trivial⟩)
 refine⟨L,?_⟩
 have e:L.flatMap (fun x=>[u8c x])=L.map u8c:=Gh _ L
 rw[e] at hs
 exact hs
end
end
section
open Go.RowKit
def Rs {α:Type} (f:α→List Value) (s:Nat) (w:World) (A:Option Addr) (n c:Nat) (L:List α):Prop:=L.length=n∧Sl w A n c s (L.flatMap f)
section
variable {α:Type} {f:α→List Value} {s:Nat} {w w':World} {A:Option Addr} {n c:Nat} {L:List α}
theorem Rs.mono (h:Rs f s w A n c L) (hb:Below w.heap.size w w'):Rs f s w' A n c L:=⟨h.1,h.2.mono hb⟩
theorem Rs.cap (h:Rs f s w A n c L):n≤c:=h.2.cap
theorem Rs.max (h:Rs f s w A n c L):c≤9223372036854775807:=h.2.max
theorem Rs.row (h:Rs f s w A n c L) (hf:∀x,(f x).length=s) {k:Nat} (hk:k<n):
 ∃b o x,A=some ⟨b,o,none⟩∧L[k]?=some x∧∀j u,(f x)[j]?=some u→w.cell? ⟨b,o+k*s+j,none⟩=some u:=by
 obtain⟨hl,hs⟩:=h
 obtain⟨b,o,e,hc⟩:=hs.addr Xf
 have hr:L[k]?=some (L[k]' Xf):=List.getElem?_eq_getElem Xf
 refine⟨b,o,_,e,hr,fun j u hu=> ?_⟩
 have hj:j<s:=by have :=(List.getElem?_eq_some_iff.1 hu).1;rw[hf] at this;exact this
 rw[Nat.add_assoc]
 exact hc _ _ ((kY hf L k j hj _ hr).trans hu)
end
structure Cm where
 g:List UInt8
 e:Int
 i:List UInt8
instance:Inhabited Cm:=⟨⟨[],0,[]⟩⟩
def hit (g:List UInt8) (e:Int) (c:Cm):Bool:=c.g==g && c.e==e
end
section
open Go.RowKit Go.ChangeShapes Go.WideShapes Go.Deep
structure Ac where
 k:Int
 a:Int
 b:Int
 s:ByteArray
instance:Inhabited Ac:=⟨⟨0,0,0,ByteArray.empty⟩⟩
section
variable {H:Type} {enc:TypeId×Value→H} {P:Program} {W:World}
end
end
section
open Go.RowKit
end
section
open Go.RowKit
def WQ (T:List Nd) (x:Nd):List Nd×Nat:=match jS T x with
 |some j=>(T,j+1)
 |none=>(T++ [x],T.length+1)
end
section
open Go.RowKit
def Li (T:List Nd) (k:Nat) (a b:Int) (s:ByteArray):List Nd×Nat:=if (3≤k∧outside T.length a=true)∨(4≤k∧outside T.length b=true) then (T,0) else WQ T ⟨k,a.toNat,b.toNat,s,0⟩
end
section
open Go.RowKit
def stepT (T:List Nd) (x:Ac):List Nd:=(doT T x.k x.a x.b x.s).1
end
section
open Go.RowKit
end
section
open Go.RowKit
theorem zN {P:Program} {X:TypeId} {fs:Array Field} (hu:P.underlying X=some (.struct fs)) (xT:TypeId) (v:Value) (w:World):(Instr.typeAssert (.iface X v) xT X false).run P w= .ok v w:=by
 simp[Instr.typeAssert,run_underlying hu]
def lJ (T:List Nd) (id:Int):ByteArray:=if outside T.length id then⟨#[]⟩ else match T[id.toNat - 1]? with
 |some x=>if x.k=2∨x.k=3 then x.s else⟨#[]⟩
 |none=>⟨#[]⟩
theorem OB (g:Nat) (T:List Nd) (id:Int) (w:World) (h:TRd w g T) (hk:Kinds T) (hid: -9223372036854775808≤id∧id≤9223372036854775807):
 Calls Tryz.prog 214 #[.pointer (some ⟨g,0,none⟩),.int .i64 id] w fun e w'=>e= .returned (.string (lJ T id))∧Gr w w':=by
 have HKC:=Xh (sU g T id w h hk hid)
 unfold lJ
 unfold kindOf at HKC
 cases ho:outside T.length id with
 |true=>
  rw[ho] at HKC
  clear ho h hk
  simp only[if_true] at HKC
  go_in
  go_wp2_with fail
  refine HKC.out.mono ?_
  rintro e w1 ⟨rfl,g1⟩
  have G1:=Xh g1;clear g1
  go_wp2_with fail
  go_ret
  exact⟨rfl,G1.out⟩
 |false=>
  rw[ho] at HKC
  have hin:1≤id∧id≤T.length:=by unfold outside at ho;simp at ho;omega
  obtain⟨i,hi⟩:∃i:Nat,id=(i:Int)+1:=⟨(id - 1).toNat,Xf⟩
  subst hi
  have hit:i<T.length:=by omega
  obtain⟨x,hx⟩:∃x,T[i]?=some x:=⟨T[i],List.getElem?_eq_getElem hit⟩
  have e2:((i:Int)+1).toNat - 1=i:=by omega
  rw[e2,hx] at HKC ⊢
  obtain⟨A,c,hc,hs⟩:=h
  obtain⟨b,o,rfl,hcc⟩:=Sl.addr hs Xf
  have hcell:w.cell? ⟨b,o+i,none⟩=some x.cell:=hcc i _ (by rw[List.getElem?_map,hx];rfl)
  have hkx:=hk x (List.mem_of_getElem? hx)
  have HF:Hid (∀wq,Gr w wq→wq.cell? ⟨g,0,none⟩=some (.slice (some ⟨b,o,none⟩) T.length c)∧wq.cell? ⟨b,o+i,none⟩=some x.cell):=fun wq hq=>⟨(Below.cell hq (World.block_lt_of_cell? w _ hc)).trans hc,(Below.cell hq (World.block_lt_of_cell? w _ hcell)).trans hcell⟩
  have hmx:=hs.max
  have hcp:=hs.cap
  clear hs hcc hc hcell hx e2 ho hk
  unfold Nd.cell at HF
  obtain⟨xk,xa,xb,xs,xn⟩:=x
  simp only[Bool.false_eq_true,if_false] at HF hkx HKC ⊢
  have a2:=fun v w=>zN (P:=Tryz.prog) Tryz.underlying249 20 v w
  have a3:=fun v w=>zN (P:=Tryz.prog) Tryz.underlying252 20 v w
  have q2:∀w,(Instr.field 249 (.agg #[.string xs]) 0).run Tryz.prog w= .ok (.string xs) w:=fun w=>by kernel_rfl
  have q3:∀w,(Instr.field 252 (.agg #[.int .i64 (xa:Int),.string xs]) 1).run Tryz.prog w= .ok (.string xs) w:=fun w=>by kernel_rfl
  have hkk:xk=1∨xk=2∨xk=3∨xk=4∨xk=5:=by omega
  rcases hkk with rfl|rfl|rfl|rfl|rfl
  all_goals
   simp only[reduceIte,Nat.reduceEqDiff,or_false,or_self] at HF ⊢
   clear hkx hin hid
   go_in
   go_wp2_with fail
   refine HKC.out.mono ?_
   rintro e w1 ⟨rfl,g1⟩
   obtain⟨f0,f1⟩:=HF.out w1 g1
   have G1:=Xh g1;clear g1
   go_wp2_with fail
   go_ret
   exact⟨rfl,G1.out⟩
end
section
open Go.RowKit
def fJ (T:List Nd) (id:Nat):List UInt8:=if kindOf T id=2 then (lJ T id).data.toList else aC id
def bI (T:List Nd) (key text:List UInt8):List Nd×Nat:=pairT (ofT (ofT T key).1 text).1 5 ((ofT T key).2:Int) ((ofT (ofT T key).1 text).2:Int)
def gX (T:List Nd) (key text:List UInt8):List UInt8:=gy (aC (bI T key text).2) (text.length+48)
def eP (T:List Nd) (key b:List UInt8):Option (List UInt8):=
 if b.length<48∨60048<b.length then none
 else if kindOf T (bD T (b.take 32))≠5∨b≠gy (aC (bD T (b.take 32))) b.length then none
 else match partsOf T (bD T (b.take 32)) with
  | [p,q]=>if fJ T p=key∧(fJ T q).length+48=b.length then some (fJ T q) else none
  |_=>none
def Onto (T T':List Nd):Prop:=∃U,T'=T++U
theorem Onto.refl (T:List Nd):Onto T T:=⟨[],(List.append_nil T).symm⟩
theorem Onto.trans {a b c:List Nd} (h:Onto a b) (k:Onto b c):Onto a c:=by
 obtain⟨u,rfl⟩:=h;obtain⟨v,rfl⟩:=k;exact⟨u++v,by rw[List.append_assoc]⟩
theorem Onto.len {a b:List Nd} (h:Onto a b):a.length≤b.length:=by obtain⟨u,rfl⟩:=h;rw[List.length_append];omega
theorem Onto.at {a b:List Nd} (h:Onto a b) {i:Nat} (hi:i<a.length):b[i]?=a[i]?:=by obtain⟨u,rfl⟩:=h;exact List.getElem?_append_left hi
theorem Ib (T:List Nd) (x:Nd) (ids:List Int):Onto T (fZ T x ids).1:=by
 unfold fZ
 split
 · exact Onto.refl T
 · split
   · exact Onto.refl T
   · exact⟨[x],rfl⟩
theorem wI (T:List Nd) (b:List UInt8):Onto T (ofT T b).1:=by
 unfold ofT
 split
 · exact Onto.refl T
 · exact Ib T _ _
theorem uV (T:List Nd) (k:Nat) (a b:Int):Onto T (pairT T k a b).1:=by
 unfold pairT
 split
 · exact Onto.refl T
 · exact Ib T _ _
theorem lF (T:List Nd) (key text:List UInt8):Onto T (bI T key text).1:=(wI T key).trans ((wI _ text).trans (uV _ _ _ _))
theorem kS (T:List Nd):Onto T (aG T).1:=⟨_,rfl⟩
def At (T:List Nd) (id:Nat) (x:Nd):Prop:=1≤id∧id≤T.length∧T[id - 1]?=some x
theorem At.onto {T T':List Nd} {id:Nat} {x:Nd} (h:At T id x) (k:Onto T T'):At T' id x:=⟨h.1,Nat.le_trans h.2.1 k.len,by have :=h.1;have :=h.2.1;rw[k.at Xf];exact h.2.2⟩
theorem At.out {T:List Nd} {id:Nat} {x:Nd} (h:At T id x):outside T.length (id:Int)=false:=by
 have :=h.1;have :=h.2.1
 unfold outside
 simp only[Bool.or_eq_false_iff,decide_eq_false_iff_not]
 omega
theorem At.kind {T:List Nd} {id:Nat} {x:Nd} (h:At T id x):kindOf T (id:Int)=x.k:=by
 unfold kindOf
 rw[h.out,if_neg Xg,show (id:Int).toNat - 1=id - 1 by rw[Int.toNat_natCast],h.2.2]
theorem At.parts {T:List Nd} {id:Nat} {x:Nd} (h:At T id x):partsOf T (id:Int)=x.parts:=by
 unfold partsOf
 rw[h.out,if_neg Xg,show (id:Int).toNat - 1=id - 1 by rw[Int.toNat_natCast],h.2.2]
theorem At.label {T:List Nd} {id:Nat} {x:Nd} (h:At T id x) (hk:x.k=2):lJ T (id:Int)=x.s:=by
 unfold lJ
 rw[h.out,if_neg Xg,show (id:Int).toNat - 1=id - 1 by rw[Int.toNat_natCast],h.2.2]
 simp[hk]
theorem At.held {T:List Nd} {id:Nat} {x:Nd} (h:At T id x):fJ T id=if x.k=2 then x.s.data.toList else aC id:=by
 unfold fJ
 rw[h.kind]
 split
 · next hk=>rw[h.label hk]
 · rfl
theorem At.Cn {T T':List Nd} {id:Nat} {x:Nd} (h:At T id x) (k:Onto T T'):fJ T' id=fJ T id:=by rw[h.held,(h.onto k).held]
theorem Qq {T:List Nd} {x:Nd} {ids:List Int} (h:ids.any (outside T.length)=false) (hx:x.k≠1):∃y,At (fZ T x ids).1 (fZ T x ids).2 y∧y.same x=true:=by
 unfold fZ
 rw[h,if_neg Xg]
 cases hf:jS T x with
 |none=>exact⟨x,⟨by show 1≤T.length+1;omega,by show T.length+1≤(T++ [x]).length;rw[List.length_append];exact Nat.le_refl _,by show (T++ [x])[T.length+1 - 1]?=some x;rw[Nat.add_sub_cancel,List.getElem?_append_right (Nat.le_refl _)];simp⟩,by simp[Nd.same]⟩
 |some j=>
  unfold jS at hf
  rw[List.findIdx?_eq_some_iff_getElem] at hf
  obtain⟨hj,h1,_⟩:=hf
  refine⟨T[j],⟨by show 1≤j+1;omega,by show j+1≤T.length;omega,by show T[j+1 - 1]?=_;rw[Nat.add_sub_cancel];exact List.getElem?_eq_getElem hj⟩,?_⟩
  simpa using (Bool.and_eq_true _ _▸h1:_∧_).2
theorem Ka {x y:Nd} (h:x.same y=true):x.k=y.k∧x.a=y.a∧x.b=y.b∧x.s=y.s:=by unfold Nd.same at h;exact of_decide_eq_true h
theorem Rh {T:List Nd} {b:List UInt8} (h:0<bD T b):∃x,At T (bD T b) x∧x.k≠2∧x.k≠0∧b=aC (bD T b):=by
 unfold bD at h ⊢
 split at h
 · next h1=>
   rw[if_pos h1]
   split at h
   · next h2=>
     rw[if_pos h2]
     have hl:cu ((b.drop 8).take 8) - 1<T.length:=by omega
     have ha:At T (cu ((b.drop 8).take 8)) (T[cu ((b.drop 8).take 8) - 1]):=⟨h2.1,h2.2.1,List.getElem?_eq_getElem hl⟩
     have hb:=h2.2.2.1
     unfold oV at hb
     rw[ha.kind] at hb
     simp only[Bool.and_eq_true,decide_eq_true_eq] at hb
     exact⟨_,ha,hb.2,hb.1,h2.2.2.2⟩
   · omega
 · omega
theorem of_held (T:List Nd) (b:List UInt8):∃x,At (ofT T b).1 (ofT T b).2 x∧fJ (ofT T b).1 (ofT T b).2=b:=by
 unfold ofT
 split
 · next h=>
   obtain⟨x,ha,h2,_,hb⟩:=Rh h
   refine⟨x,ha,?_⟩
   show fJ T (bD T b)=b
   rw[ha.held,if_neg h2]
   exact hb.symm
 · obtain⟨y,ha,hs⟩:=Qq (T:=T) (x:=⟨2,0,0,⟨b.toArray⟩,0⟩) (ids:=[]) rfl (show (2:Nat)≠1 by decide)
   have hq:=Ka hs
   refine⟨y,ha,?_⟩
   rw[ha.held,if_pos hq.1,hq.2.2.2]
theorem xL (id:Nat):(aC id).take 8=jv∧(((aC id).drop 8).take 8)=be id 8:=by
 rw[Mv]
 constructor
 · rw[List.append_assoc];exact List.take_left' rfl
 · rw[List.append_assoc,show 8=jv.length from rfl,List.drop_left,show jv.length=8 from rfl]
   exact List.take_left' (wL id)
theorem LX {id:Nat} (h:id<18446744073709551616):cu (((aC id).drop 8).take 8)=id:=by
 rw[(xL id).2]
 exact rO 8 id (by have :(256:Nat) ^ 8=18446744073709551616:=by decide
                   omega)
theorem Jr {T:List Nd} {id:Nat} {x:Nd} (h:At T id x) (hn:T.length≤100000) (h2:x.k≠2) (h0:x.k≠0):bD T (aC id)=id:=by
 have :=h.2.1
 have hb:oV T (id:Int)=true:=by
  unfold oV
  rw[h.kind]
  simp[h2,h0]
 unfold bD
 rw[if_pos ⟨cO id,(xL id).1⟩,LX Xf,if_pos ⟨h.1,h.2.1,hb,rfl⟩]
theorem KJ (T:List Nd) (x:Nd) (ids:List Int):(fZ T x ids).1.length≤T.length+1:=by
 unfold fZ
 split
 · exact Nat.le_succ _
 · split
   · exact Nat.le_succ _
   · show (T++ [x]).length≤_
     rw[List.length_append]
     exact Nat.le_refl _
theorem Nz (T:List Nd) (b:List UInt8):(ofT T b).1.length≤T.length+1:=by
 unfold ofT
 split
 · exact Nat.le_succ _
 · exact KJ T _ _
theorem Sq (T:List Nd) (k:Nat) (a b:Int):(pairT T k a b).1.length≤T.length+1:=by
 unfold pairT
 split
 · exact Nat.le_succ _
 · exact KJ T _ _
theorem Hq (T:List Nd) (key text:List UInt8):(bI T key text).1.length≤T.length+3:=by
 have h1:=Nz T key
 have h2:=Nz (ofT T key).1 text
 have h3:=Sq (ofT (ofT T key).1 text).1 5 ((ofT T key).2:Int) ((ofT (ofT T key).1 text).2:Int)
 unfold bI
 omega
theorem QX (l:List UInt8) (n:Nat) (h:l.length≤n):(gy l n).take l.length=l:=by
 unfold gy
 rw[List.take_of_length_le h]
 exact List.take_left' rfl
end
section
open Go.RowKit
section
variable {w0 w:World} {p g bm bs:Nat} {T:List Nd}
end
theorem tN (w:World):Calls Tryz.prog 9 #[] w fun e w'=>∃p g bm bs,e= .returned (.pointer (some ⟨p,0,none⟩))∧bF w w' p g bm bs []∧w.heap.size≤p∧bs≠bm∧w'.heap[bs]?=some (.map #[] 0)∧w.heap.size≤bs:=by
 have hmm:=@run_makeMap Tryz.prog
 go_in
 go_wp2_with fail
 refine (Jv w).mono ?_
 rintro e w1 ⟨g,bm,rfl,hf0,hg0⟩
 have HF:=Xh hf0;have HG:=Xh hg0
 clear hf0 hg0
 go_wp2_with fail
 go_ret
 have h1:=Gr.alloc w1 (.map #[] 0)
 have h2:=Gr.alloc (w1.alloc (.map #[] 0)) (.cells #[.pointer (some ⟨g,0,none⟩),.map (some w1.heap.size),.pointer none] 66)
 refine⟨w1.heap.size+1,g,bm,w1.heap.size,rfl,⟨heap_alloc2_new w1 _ _,⟨_,_,HF.out.gr (h1.trans h2)⟩,TIn.nil⟩,by have :=HG.out.size;omega,by have :=HF.out.m.lt;omega,(h2.block w1.heap.size (by simp)).trans (heap_alloc_new w1 _),HG.out.size⟩
end
section
open Go.RowKit
theorem iM (n:Nat) (w:World) (h:n≤1000000):Calls Tryz.prog 130 #[.int .i64 (n:Int)] w fun e w'=>e= .returned (.int .i64 ((n+48:Nat):Int))∧w'=w:=by
 have t1:max (n:Int) 0=n:=by omega
 go_in
 go_wp2_with fail
 go_ret
 exact⟨by first|rfl|(congr 2;push_cast;omega)|simp,rfl⟩
theorem UJ (T:List Nd) (a b:Int):doT T 5 a b ByteArray.empty=pairT T 5 a b:=by
 unfold doT
 rw[if_neg Xg,if_neg Xg,if_neg Xg,if_neg Xg]
theorem RL {T:List Nd} (h:TIn T) (hn:T.length≤90000) (key text:List UInt8) (hk:key.length≤maxLen) (ht:text.length≤maxLen):TIn (bI T key text).1:=by
 have h1:=uE h Xf key hk
 have h2:=uE h1.1 Xf text ht
 have h3:=EN h2.1 Xf 5 ((ofT T key).2:Int) ((ofT (ofT T key).1 text).2:Int) ByteArray.empty Xg
 rw[UJ] at h3
 exact h3.1
section
variable {w0 w:World} {p g bm bs:Nat} {T:List Nd}
end
end
section
open Go.RowKit
def NT (g:Nat) (w:World) (b:Nat):Prop:=∃cs,Blk w g 87 cs∧∀v∈cs,v.ownBlock≠some b
structure KZ (g bm:Nat) (w w':World):Prop where
 s:w.heap.size≤w'.heap.size
 k:∀b,b<w.heap.size→b≠bm→(∀t cs,Blk w b t cs→t≠87∧t≠20∧t≠3)→w'.heap[b]?=w.heap[b]?
 n:∀b cs,NT g w b→Blk w b 3 cs→Blk w' b 3 cs∧NT g w' b
theorem NT.gr {g b:Nat} {w w':World} (h:NT g w b) (k:Gr w w'):NT g w' b:=by obtain⟨cs,q,r⟩:=h;exact⟨cs,q.mono k,r⟩
theorem KZ.gr {g bm:Nat} {w w':World} (h:Gr w w'):KZ g bm w w':=⟨h.size,fun b hb _ _=>h.block b hb,fun b cs q k=>⟨k.mono h,q.gr h⟩⟩
theorem KZ.trans {g bm:Nat} {a b c:World} (h:KZ g bm a b) (k:KZ g bm b c):KZ g bm a c:=⟨Nat.le_trans h.1 k.1,fun x hx hm ht=>by
 have e:=h.2 x hx hm ht
 refine (k.2 x (Nat.lt_of_lt_of_le hx h.1) hm (fun t cs q=>ht t cs ?_)).trans e
 unfold Blk at q ⊢
 rwa[e] at q,fun x cs q z=>by obtain⟨h1,h2⟩:=h.n x cs q z;exact k.n x cs h2 h1⟩
theorem Own.aA {w0 w:World} {e:TypeId} {s n:Nat} {v:Value} {xs:List Value} (h:Own w0 w e s v n xs) {b:Nat} (hb:v.ownBlock=some b):∃cs,Blk w b e cs:=by
 rcases h.1.2 with⟨q,_⟩| ⟨g',cap,cur,hv',_,hh,_⟩
 · rw[q] at hb;cases hb
 · have e1:g'=b:=by rw[hv'] at hb;exact Option.some.inj hb
   subst e1
   exact⟨cur.toList,by unfold Blk;rw[Array.toArray_toList];exact hh⟩
theorem KZ.tbl {bm g:Nat} {w0 w w':World} {T:List Nd} {vl vs vl' vs':Value} {T':List Nd} (h:TbF w0 w g T vl vs bm) (h':TbF w0 w' g T' vl' vs' bm) (c:dH w w' g bm vl vs vl' vs'):KZ g bm w w':=⟨c.size,fun b hb hm ht=>by
 refine c.keep b hb (fun e=> ?_) hm (fun e=> ?_) (fun e=> ?_)
 · subst e;exact (ht _ _ h.x.blk).1 rfl
 · obtain⟨cs,k⟩:=h.x.l.aA e;exact (ht _ _ k).2.1 rfl
 · obtain⟨cs,k⟩:=h.x.s.aA e;exact (ht _ _ k).2.2 rfl,fun b cs q z=>by
 obtain⟨cs',q1,q2⟩:=q
 have e1:w.heap[g]?=some (.cells cs'.toArray 87):=q1
 have e2:w.heap[g]?=some (.cells _ 87):=h.x.blk
 rw[e1] at e2
 have e3:cs'=[vl,vs,.map (some bm),.int .i64 (aY T:Int)]:=by injection e2 with e2;injection e2 with e2;exact congrArg Array.toList e2
 subst e3
 have nl:=q2 vl List.mem_cons_self;have ns:=q2 vs (List.mem_cons_of_mem _ List.mem_cons_self)
 refine⟨(c.keep b z.lt (fun e=> ?_) (fun e=> ?_) nl ns).trans z,_,h'.x.blk,fun v hv=> ?_⟩
 · subst e
   have z':w.heap[b]?=some (.cells cs.toArray 3):=z
   rw[e1] at z'
   cases z'
 · subst e
   obtain⟨es,ck,hb,_⟩:=h.m
   have z':w.heap[b]?=some (.cells cs.toArray 3):=z
   rw[hb] at z'
   cases z'
 · simp only[List.mem_cons,List.not_mem_nil,or_false] at hv
   have :=z.lt
   rcases hv with e|e|e|e<;>subst e<;>intro q
   · rcases c.ol b q with q|q
     · exact nl q
     · omega
   · rcases c.os b q with q|q
     · exact ns q
     · omega
   · cases q
   · cases q⟩
section
variable {w0 w:World} {p g bm bs:Nat} {T:List Nd}
def RU (w0 w:World) (p g bm bs:Nat) (T:List Nd) (key text:List UInt8) (e:Ending) (w':World):Prop:=
 (∃v,e= .returned v∧Own w0 w' 5 1 v (text.length+48) ((gX T key text).map u8c))∧bF w0 w' p g bm bs (bI T key text).1∧FSt w w'∧KZ g bm w w'
theorem bF.of3 (h:bF w0 w p g bm bs T) (hn:T.length≤100000) (A:Option Addr) (n c:Nat) (b:List UInt8) (hb:Bs w A n c b):
 Calls Tryz.prog 191 #[.pointer (some ⟨p,0,none⟩),.slice A n c] w (fun e w'=>Wv w0 w p g bm bs (ofT T b) e w'∧KZ g bm w w'):=by
 have HT:=Xh (h.term hn A n c b hb)
 have hl:b.length=n:=by have :=hb.len;simpa using this
 have hcp:=hb.cap;have hmx:=hb.max
 have hbl:b.length≤maxLen:=by simp only[maxLen];omega
 have HIN:=Xh (uE h.i hn b hbl)
 have HS:=Xh h;have HB:=Xh hb
 unfold ofT
 by_cases h0:0<bD T b
 · rw[if_pos h0]
   have t0:decide (0<(bD T b:Int))=true:=decide_eq_true Xf
   clear h hb HIN
   generalize bD T b=q at *
   go_in
   go_wp2_with fail
   refine HT.out.mono ?_
   rintro e w1 ⟨rfl,g1⟩
   have G1:=Xh g1;clear g1
   go_wp2_with fail
   go_ret
   exact⟨⟨rfl,HS.out.gr G1.out,FSt.gr G1.out⟩,KZ.gr G1.out⟩
 · have hin:=HIN.out
   unfold ofT at hin
   rw[if_neg h0] at hin ⊢
   replace HIN:=Xh hin
   have e0:bD T b=0:=by omega
   rw[e0] at HT
   clear h hb hin h0 e0
   go_in
   go_wp2_with fail
   refine HT.out.mono ?_
   rintro e w1 ⟨rfl,g1⟩
   have S1:=Xh (HS.out.gr g1)
   have F1:=Xh (FSt.gr g1)
   have K1:=Xh (KZ.gr (g:=g) (bm:=bm) g1)
   have c0:w1.cell? ⟨p,0,none⟩=some (.pointer (some ⟨g,0,none⟩)):=(S1.out.blk.cell 0).trans rfl
   have hcv:=cZ Tryz.underlying43 Tryz.underlying5 Tryz.underlying9 (HB.out.mono (g1.trans (Gr.drew _)))
   clear g1
   go_upto_region 4 with fail
   refine wrP Xe (fun w'=>w'=w1.drew) (fun i=>i==4 || i==6) (fun i=>Nat.ble 7 i) [0,1,2,3,5,4,6] 2 Xe Xe Xe rfl ?_
   refine rP ?_
   refine rP ?_
   refine rP ?_
   refine rP ?_
   refine rP ?_
   refine rQ (fun _ hq=>hq) ?_
   refine rQ (fun _ hq=>hq) ?_
   refine dQ ?_
   clear c0 hcv
   obtain⟨vl,vs,ht⟩:=(S1.out.gr (Gr.drew _)).t
   have HTX:=Xh (Ry w0 g T vl vs bm ⟨b.toArray⟩ w1.drew ht (HS.out.i.ok hn) hbl)
   have HTB:=Xh ht
   clear ht
   refine wR1 (i:=7) Xe rfl rfl ?_
   intro K hK
   go_simp
   go_at_call 269
   refine HTX.out.mono ?_
   rintro e w2 ⟨vl',vs',rfl,t2,c2⟩
   have SF:=Xh ((S1.out.gr (Gr.drew _)).turn HTB.out t2 c2 HIN.out.1)
   have K2:=Xh (KZ.tbl HTB.out t2 c2)
   refine hK _ _ (fun q=>by cases q) ?_
   clear hK t2 c2
   go_simp
   refine wR1 (i:=8) Xe rfl rfl ?_
   intro K hK
   go_simp
   refine hK _ _ (fun h=>by cases h) ?_
   clear hK
   go_simp
   refine aR Xe ?_
   go_wp2_with fail
   go_ret
   exact⟨⟨rfl,SF.out.1,F1.out.trans ((FSt.gr (Gr.drew _)).trans SF.out.2)⟩,K1.out.trans ((KZ.gr (Gr.drew _)).trans K2.out)⟩
theorem bF.Wy (h:bF w0 w p g bm bs T) (hn:T.length≤99990):
 Calls Tryz.prog 41 #[.pointer (some ⟨p,0,none⟩)] w (fun e w'=>Ww w0 w p g bm bs (aG T) e w'∧KZ g bm w w'):=by
 have HN:=Xh h.isNone;have HR:=Xh h.ET
 have c0:=h.c0
 obtain⟨vl,vs,ht⟩:=h.t
 have HA:=Xh (QW w0 g T vl vs bm w ht Xf)
 have HT:=Xh ht;have HS:=Xh h
 have hl:(aG T).2=T.length+1:=rfl
 clear h ht
 go_in
 go_wp2_with fail
 refine HN.out.mono ?_
 rintro e w1 ⟨rfl,h1⟩
 subst h1
 go_wp2_with fail
 refine HR.out.mono ?_
 rintro e w1 ⟨rfl,h1⟩
 subst h1
 go_wp2_with fail
 refine HA.out.mono ?_
 rintro e w2 ⟨vl',vs',rfl,t2,c2⟩
 have SF:=Xh (HS.out.turn HT.out t2 c2 (Sr HS.out.i Xf))
 have K2:=Xh (KZ.tbl HT.out t2 c2)
 clear t2 c2
 go_wp2_with fail
 refine (lS (aG T).2 w2 Xf).mono ?_
 rintro e w3 ⟨v3,rfl,o3⟩
 rw[cO] at o3
 have O3:=Xh (o3.base SF.out.1.below)
 have S3:=Xh (SF.out.1.gr o3.below)
 have F3:=Xh (SF.out.2.trans (FSt.gr o3.below))
 have K3:=Xh (K2.out.trans (KZ.gr o3.below))
 clear o3
 go_wp2_with fail
 go_ret
 exact⟨⟨v3,rfl,O3.out,S3.out,F3.out⟩,K3.out⟩
theorem bF.Wz (h:bF w0 w p g bm bs T) (hn:T.length≤90000) (A B:Option Addr) (n c m d:Nat) (key text:List UInt8) (ha:Bs w A n c key) (hb:Bs w B m d text) (hn32:n=32) (hm:m≤20000) (HBK:∀w',KZ g bm w w'→Below w0.heap.size w0 w'→Bs w' B m d text):
 Calls Tryz.prog 115 #[.pointer (some ⟨p,0,none⟩),.slice A n c,.slice B m d] w (RU w0 w p g bm bs T key text):=by
 subst hn32
 have hl:key.length=32:=by have :=ha.len;simpa using this
 have hl2:text.length=m:=by have :=hb.len;simpa using this
 have hcp:=ha.cap;have hmx:=ha.max;have hcp2:=hb.cap;have hmx2:=hb.max
 have hal:key.length≤maxLen:=by simp only[maxLen];omega
 have hbl:text.length≤maxLen:=by simp only[maxLen];omega
 have HN:=Xh h.isNone;have HR:=Xh h.ET
 have HOF:=Xh (h.of3 Xf A 32 c key ha)
 have HIN:=Xh (uE h.i Xf key hal)
 have HIN1:=Xh (uE HIN.out.1 (by have :=HIN.out.2.2;omega) text hbl)
 have HIN2:=Xh (RL h.i hn key text hal hbl)
 have HK:=Xh HBK
 have hid:=RJ (ofT (ofT T key).1 text).1 5 ((ofT T key).2:Int) ((ofT (ofT T key).1 text).2:Int)
 have hid2:(bI T key text).2<9223372036854775808:=by have :=HIN.out.2.2;have :=HIN1.out.2.2;unfold bI;omega
 have HSZ:=Xh (fun wr=>iM m wr Xf)
 have t60:decide ((60000:Int)<(m:Int))=false:=decide_eq_false Xf
 have HPB:Hid (qN (aC (bI T key text).2) ((m+48:Nat):Int)=gX T key text):=by
  show _=_
  unfold qN gX
  rw[if_pos ⟨Xf,Xf⟩,hl2]
  rfl
 have HLB:Hid ((gX T key text).length=m+48):=by show _=_;rw[←hl2];exact iL _ _
 clear h ha hb hid HBK
 go_in
 go_wp2_with fail
 refine HN.out.mono ?_
 rintro e w1 ⟨rfl,h1⟩
 subst h1
 go_wp2_with fail
 refine HR.out.mono ?_
 rintro e w1 ⟨rfl,h1⟩
 subst h1
 go_wp2_with fail
 refine HOF.out.mono ?_
 rintro e w2 ⟨⟨rfl,s2,f2⟩,k2⟩
 have S2:=Xh s2;have F2:=Xh f2;have K2:=Xh k2
 have HOF2:=Xh ((s2.gr (Gr.drew _)).of3 (by have :=HIN.out.2.2;omega) B m d text ((HK.out w2 k2 s2.below).mono (Gr.drew _)))
 have c0:=s2.c0
 clear s2 f2 k2
 go_upto_region 7 with fail
 refine wrP Xe (fun w'=>w'.cell? ⟨p,0,none⟩=some (.pointer (some ⟨g,0,none⟩))) (fun i=>i==4) (fun _=>false) [0,1,2,3,5,6,7,11,12,4] 6 Xe Xe Xe c0 ?_
 refine rP ?_
 refine rP ?_
 refine rP ?_
 refine rP ?_
 refine rP ?_
 refine rP ?_
 refine rP ?_
 refine rP ?_
 refine rP ?_
 refine rQ (fun _ hq=>hq) ?_
 refine dQ ?_
 clear c0
 refine wR1 (i:=8) Xe rfl rfl ?_
 intro K hK
 go_simp
 go_at_call 191
 refine HOF2.out.mono ?_
 rintro e w3 ⟨⟨rfl,s3,f3⟩,k3⟩
 have S3:=Xh s3
 have F3:=Xh (F2.out.trans ((FSt.gr (Gr.drew _)).trans f3))
 have K3:=Xh (K2.out.trans ((KZ.gr (Gr.drew _)).trans k3))
 refine hK _ _ (fun _=>s3.c0) ?_
 clear hK s3 f3 k3
 go_simp
 refine wR1 (i:=9) Xe rfl rfl ?_
 intro K hK
 go_simp
 go_at_call 192
 obtain⟨vl,vs,ht⟩:=S3.out.t
 have hok:TOk (ofT (ofT T key).1 text).1:=HIN1.out.1.ok (by have :=HIN.out.2.2;have :=HIN1.out.2.2;omega)
 refine (Ur w0 g (ofT (ofT T key).1 text).1 vl vs bm ((ofT T key).2:Int) ((ofT (ofT T key).1 text).2:Int) w3 ht hok).mono ?_
 rintro e w4 ⟨vl',vs',rfl,t4,c4⟩
 have SF:=Xh (S3.out.turn ht t4 c4 HIN2.out)
 have K4:=Xh (K3.out.trans (KZ.tbl ht t4 c4))
 refine hK _ _ (fun _=>SF.out.1.c0) ?_
 clear hK t4 c4 ht
 go_simp
 refine wR1 (i:=10) Xe rfl rfl ?_
 intro K hK
 go_simp
 go_at_call 90
 refine (lS (bI T key text).2 w4 hid2).mono ?_
 rintro e w5 ⟨v5,rfl,o5⟩
 rw[cO] at o5
 obtain⟨A5,c5,rfl,s5⟩:=o5.slice
 have B5:Hid (Bs w5 A5 32 c5 (aC (bI T key text).2)):=s5
 have S5:=Xh (SF.out.1.gr o5.below)
 have F5:=Xh (F3.out.trans (SF.out.2.trans (FSt.gr o5.below)))
 have K5:=Xh (K4.out.trans (KZ.gr o5.below))
 refine hK _ _ (fun _=>S5.out.c0) ?_
 clear hK o5 s5
 go_simp
 refine wR1 (i:=13) Xe rfl rfl ?_
 intro K hK
 go_simp
 go_at_call 130
 refine (HSZ.out _).mono ?_
 rintro e w6 ⟨rfl,rfl⟩
 refine hK _ _ (fun _=>S5.out.c0) ?_
 clear hK
 go_simp
 refine wR1 (i:=14) Xe rfl rfl ?_
 intro K hK
 go_simp
 go_at_call 136
 refine (nR A5 32 c5 (aC (bI T key text).2) ((m+48:Nat):Int) w6 B5.out).mono ?_
 rintro e w7 ⟨v7,rfl,o7⟩
 rw[HPB.out,HLB.out] at o7
 have O7:=Xh (o7.base S5.out.below)
 have S7:=Xh (S5.out.gr o7.below)
 have F7:=Xh (F5.out.trans (FSt.gr o7.below))
 have K7:=Xh (K5.out.trans (KZ.gr o7.below))
 refine hK _ _ (fun _=>S7.out.c0) ?_
 clear hK o7
 go_simp
 refine wR1 (i:=15) Xe rfl rfl ?_
 intro K hK
 go_simp
 refine hK _ _ (fun _=>S7.out.c0) ?_
 clear hK
 go_simp
 refine aR Xe ?_
 go_wp2_with fail
 go_ret
 exact⟨⟨v7,rfl,by rw[hl2];exact O7.out⟩,S7.out,F7.out,K7.out⟩
end
end
end Go.Proofs.YtipdlnejmcmbbaaGreatDoor
