/- Own texts, one behind the other. No condition. -/
import Derived.Test.YtipdlnejmcmbbaaGreatDoorObPkAB
import Derived.Test.YtipdlnejmcmbbaaGreatDoorObPkAC
import Derived.Lib.AppendZerosOnto
import Derived.Lib.LazyBuf
import Derived.Lib.Walk
import Derived.Deep.DeepMust
import Init
import Derived.Maps.Own
import Derived.Maps.OwnSet
import Derived.Maps.Views
import Derived.Deep.Cut
set_option linter.unusedVariables false
set_option maxRecDepth 100000
set_option maxHeartbeats 8000000
set_option linter.unusedSimpArgs false
namespace Go.Proofs.YtipdlnejmcmbbaaGreatDoor
section
open Go.RowKit
structure Tch (S:Nat→Prop) (w w':World):Prop where
 bel:Below 0 w w'
 keep:∀b,b<w.heap.size→¬S b→w'.heap[b]?=w.heap[b]?
theorem Tch.size {S:Nat→Prop} {w w':World} (h:Tch S w w'):w.heap.size≤w'.heap.size:=h.bel.size
theorem Tch.gr {S:Nat→Prop} {w w':World} (h:Gr w w'):Tch S w w':=⟨Below.mono h (Nat.zero_le _),fun b hb _=>h.block b hb⟩
theorem Tch.refl {S:Nat→Prop} (w:World):Tch S w w:=Tch.gr (Gr.refl w)
theorem Tch.trans {S:Nat→Prop} {a b c:World} (h:Tch S a b) (k:Tch S b c):Tch S a c:=
 ⟨h.bel.trans k.bel,fun x hx hs=>(k.keep x (Nat.lt_of_lt_of_le hx h.size) hs).trans (h.keep x hx hs)⟩
instance (pp:Nat):LtO (Tch (fun b=>b=pp)):=⟨Tch.refl,Tch.trans,Tch.size,Tch.gr⟩
theorem Tch.trans' {S S':Nat→Prop} {a b c:World} (h:Tch S a b) (k:Tch S' b c) (hs:∀x,x<a.heap.size→S' x→S x):Tch S a c:=
 ⟨h.bel.trans k.bel,fun x hx hn=>(k.keep x (Nat.lt_of_lt_of_le hx h.size) (fun q=>hn (hs x hx q))).trans (h.keep x hx hn)⟩
theorem Tch.mono {S S':Nat→Prop} {w w':World} (h:Tch S w w') (hs:∀b,b<w.heap.size→S b→S' b):Tch S' w w':=⟨h.bel,fun b hb hn=>h.keep b hb (fun q=>hn (hs b hb q))⟩
theorem Tch.below {S:Nat→Prop} {B:Nat} {a w w':World} (hb:Below B a w) (h:Tch S w w') (hB:B≤w.heap.size) (hS:∀b,S b→B≤b):Below B a w':=
 hb.trans ⟨h.bel.os,h.bel.tape,h.bel.output,h.size,fun k hk=>h.keep k Xf (fun q=>by have :=hS k q;omega)⟩
theorem Tch.set {S:Nat→Prop} {w:World} (p:Addr) (u:Value) (hS:S p.block):Tch S w (w.setCell p u):=
 ⟨(Below.refl 0 w).setCell (Nat.zero_le _) u,fun b _ hn=>Below.heap_setCell w p u b (fun e=>hn (e▸hS))⟩
theorem Tch.grown {S:Nat→Prop} {w w':World} {row:Option Nat} (hg:w.grownBy w' row) (hr:∀k,row=some k→S k):Tch S w w':=
 ⟨(Below.refl 0 w).grown hg (Nat.zero_le _) (fun _ _=>Nat.zero_le _),fun b hb hn=>hg.block b hb (fun e=>hn (hr b e.symm))⟩
section
variable {S:Nat→Prop} {w w':World}
theorem Blk.tch {g:Nat} {t:TypeId} {cs:List Value} (h:Blk w g t cs) (k:Tch S w w') (hn:¬S g):Blk w' g t cs:=(k.keep g h.lt hn).trans h
theorem Sl.lt {A:Option Addr} {n c s:Nat} {xs:List Value} (h:Sl w A n c s xs) (hs:0<s) (hn:0<n) {b o:Nat} (e:A=some ⟨b,o,none⟩):b<w.heap.size:=by
 obtain⟨h1,_,_,h4⟩:=h
 obtain⟨b',o',e',hc⟩:=h4 hn
 rw[e] at e'
 injection e' with e'
 injection e' with e1 e2
 subst e1
 have hl:0<xs.length:=by rw[h1];exact Nat.mul_pos hn hs
 have hcell:=hc 0 _ (List.getElem?_eq_getElem hl)
 exact World.block_lt_of_cell? w _ hcell
theorem Sl.tch {A:Option Addr} {n c s:Nat} {xs:List Value} (h:Sl w A n c s xs) (hs:0<s) (k:Tch S w w') (hn:0<n→∀b o,A=some ⟨b,o,none⟩→¬S b):Sl w' A n c s xs:=by
 refine⟨h.1,h.2.1,h.2.2.1,fun h0=> ?_⟩
 obtain⟨b,o,e,hc⟩:=h.2.2.2 h0
 refine⟨b,o,e,fun j u hu=> ?_⟩
 rw[World.cell?_of_block (w:=w) (a:=⟨b,o+j,none⟩) (k.keep b (Sl.lt h hs h0 e) (hn h0 b o e))]
 exact hc j u hu
theorem Own.tch {w0:World} {e:TypeId} {s n:Nat} {v:Value} {xs:List Value} (h:Own w0 w e s v n xs) (k:Tch S w w') (hB:∀b,S b→w0.heap.size≤b) (hn:∀b,v.ownBlock=some b→¬S b):Own w0 w' e s v n xs:=by
 have hb:Below w0.heap.size w0 w':=k.below h.2 h.2.size hB
 obtain⟨⟨hl,ho⟩,_⟩:=h
 refine⟨⟨hl,?_⟩,hb⟩
 rcases ho with h| ⟨g,cap,cur,hv,hg,hh,r⟩
 · exact .inl h
 · exact .inr ⟨g,cap,cur,hv,hg,by rw[k.keep g (Array.getElem?_eq_some_iff.1 hh).1 (hn g (by rw[hv];rfl))];exact hh,r⟩
theorem Sl.iV {A:Option Addr} {n c s:Nat} {xs cs:List Value} {g:Nat} {t:TypeId} (h:Sl w A n c s xs) (hs:0<s) (hb:Blk w g t cs) (hk:∀u∈cs,∀x,xs[0]?=some x→u≠x) (hn:0<n) {b o:Nat} (e:A=some ⟨b,o,none⟩):b≠g:=by
 rintro rfl
 obtain⟨h1,_,_,h4⟩:=h
 obtain⟨b',o',e',hc⟩:=h4 hn
 rw[e] at e'
 injection e' with e'
 injection e' with e1 e2
 subst e1 e2
 have hl:0<xs.length:=by rw[h1];exact Nat.mul_pos hn hs
 have hcell:=hc 0 _ (List.getElem?_eq_getElem hl)
 rw[Nat.add_zero,hb.cell] at hcell
 exact hk _ (List.mem_of_getElem? hcell) _ (List.getElem?_eq_getElem hl) rfl
theorem Sl.Ko {A:Option Addr} {n c s:Nat} {xs:List Value} {g:Nat} {es:Array MapEntry} {clock:Nat} (h:Sl w A n c s xs) (hs:0<s) (hm:w.heap[g]?=some (.map es clock)) (hn:0<n) {b o:Nat} (e:A=some ⟨b,o,none⟩):b≠g:=by
 rintro rfl
 obtain⟨h1,_,_,h4⟩:=h
 obtain⟨b',o',e',hc⟩:=h4 hn
 rw[e] at e'
 injection e' with e'
 injection e' with e1 e2
 subst e1 e2
 have hl:0<xs.length:=by rw[h1];exact Nat.mul_pos hn hs
 have hcell:=hc 0 _ (List.getElem?_eq_getElem hl)
 simp[World.cell?,hm] at hcell
theorem Own.iV {w0:World} {e t:TypeId} {s n g:Nat} {v:Value} {xs cs:List Value} (h:Own w0 w e s v n xs) (hb:Blk w g t cs) (he:e≠t):v.ownBlock≠some g:=by
 intro hv
 rcases h.1.2 with⟨h1,_⟩| ⟨g',cap,cur,hv',_,hh,_⟩
 · rw[h1] at hv;cases hv
 · have e1:g'=g:=by rw[hv'] at hv;exact Option.some.inj hv
   rw[e1,hb] at hh
   injection hh with hh
   injection hh with _ h3
   exact he h3.symm
end
theorem Own.opened {w0 w:World} {e:TypeId} {s n:Nat} {v:Value} {xs:List Value} (h:Own w0 w e s v n xs) (h0:0<n):∃g cap rest,v= .slice (some ⟨g,0,none⟩) n cap∧w0.heap.size≤g∧Blk w g e (xs++rest)∧n≤cap∧cap≤9223372036854775807∧(xs++rest).length=cap*s:=by
 rcases h.1.2 with⟨_,h1⟩| ⟨g,cap,cur,hv,hg,hh,hn,hm,hc,hx⟩
 · omega
 · have e1:xs++cur.toList.drop (n*s)=cur.toList:=by rw[←hx,List.take_append_drop]
   refine⟨g,cap,cur.toList.drop (n*s),hv,hg,?_,hn,hm,?_⟩
   · unfold Blk
     rw[e1]
     simpa using hh
   · rw[e1];simpa using hc
end
section
open Go.RowKit
theorem sD:eB Tryz.prog 85 3 (.int .i64 0) 1 8:=⟨Tryz.underlying85,by kernel_rfl,rfl,Xg,Xg⟩
def wM (w:World) (l:List Int) (e:Ending) (w':World):Prop:=∃v,e= .returned v∧Own w w' 3 1 v l.length (l.map eD)
theorem Is.len {w:World} {A:Option Addr} {n c:Nat} {l:List Int} (h:Is w A n c l):l.length=n:=by have :=Sl.len h;simpa using this
theorem Is.addr {w:World} {A:Option Addr} {n c:Nat} {l:List Int} (h:Is w A n c l) (hn:0<n):
 ∃b o,A=some ⟨b,o,none⟩∧∀j,j<n→w.cell? ⟨b,o+j,none⟩=some (.int .i64 (iAt l j)):=by
 obtain⟨b,o,e,hc⟩:=Sl.addr h hn
 exact⟨b,o,e,fun j hj=>hc j _ (by
  have :j<l.length:=by rw[h.len];exact hj
  rw[List.getElem?_map,List.getElem?_eq_getElem this];simp[eD,iAt,this])⟩
end
section
open Go.RowKit
theorem Own.base {w0 w1 w:World} {e:TypeId} {size n:Nat} {v:Value} {xs:List Value} (h:Own w1 w e size v n xs) (hb:Below w0.heap.size w0 w1):Own w0 w e size v n xs:=by
 refine⟨⟨h.1.1,?_⟩,hb.trans (h.2.mono hb.size)⟩
 rcases h.1.2 with h'| ⟨g,cap,cur,hv,hg,r⟩
 · exact .inl h'
 · exact .inr ⟨g,cap,cur,hv,Nat.le_trans hb.size hg,r⟩
theorem oM {P:Program} {t e:TypeId} {z:Value} {size bytes:Nat} (ht:eB P t e z size bytes) (A:Option Addr) (n c k:Nat) (hk:k≤c) (w:World):
 (Instr.slice t (.slice A n c) none (some (.int .i64 (k:Int))) none).run P w= .ok (.slice A k c) w:=by
 obtain⟨i,hi,hz,hsz,hby⟩:=info_parts ht.info
 have hu:P.underlying t=some (.slice (P.elem t)):=by
  have :=ht.und
  simp[Program.elem,this]
 rw[run_slice_h w t A n c hu .i64 k Xf Xf]
 have he:P.elem t=e:=by simp[Program.elem,ht.und]
 simp[sizeOf,typeInfo,he,hi,Result.andThen,sliced]
 cases A<;>simp[Addr.add]
theorem og {P:Program} {t e:TypeId} {z:Value} {size bytes:Nat} (ht:eB P t e z size bytes) (A:Option Addr) (n c k:Nat) (hk:k≤n) (hc:n≤c):
 ∃A',(k<n→∀b o,A=some ⟨b,o,none⟩→A'=some ⟨b,o+k*size,none⟩)∧∀w:World,(Instr.slice t (.slice A n c) (some (.int .i64 (k:Int))) none none).run P w= .ok (.slice A' (n - k) (c - k)) w:=by
 obtain⟨i,hi,hz,hsz,hby⟩:=info_parts ht.info
 have hu:P.underlying t=some (.slice (P.elem t)):=by
  have :=ht.und
  simp[Program.elem,this]
 have he:P.elem t=e:=by simp[Program.elem,ht.und]
 refine⟨if c=k then A else A.map (·.add (k*size)),fun hlt b o hA=> ?_,fun w=> ?_⟩
 · rw[if_neg Xf,hA]
   simp only[Option.map_some]
   rw[sQ]
 · rw[run_slice_l w t A n c hu .i64 k Xf Xf]
   simp[sizeOf,typeInfo,he,hi,Result.andThen,sliced,hsz]
theorem jd (A:Option Addr) (n c:Nat) (a:List UInt8) (w:World) (ha:Bs w A n c a) (hn:n≤1048576):
 Calls Tryz.prog 106 #[.slice A n c] w (fK w a):=by
 have hla:=ha.len
 have HL:=Xh hla;clear hla
 have HN:=Xh hn;clear hn
 have HA:=Xh ha;clear ha
 cases A with
 |none=>
  have hnil:=fun w=>run_eql_slice_nil (P:=Tryz.prog) w 43 5 none n c Tryz.underlying43
  go_in
  go_wp2
  go_ret
  have :n=0:=by
   rcases Nat.eq_zero_or_pos n with h|h
   · exact h
   · obtain⟨_,_,h,_⟩:=HA.out.addr h;cases h
  have :a=[]:=List.eq_nil_of_length_eq_zero (by rw[HL.out];exact this)
  subst this
  exact⟨_,rfl,Own.nil _ _ _⟩
 |some ad=>
  have hnil:=fun w=>run_eql_slice_nil (P:=Tryz.prog) w 43 5 (some ad) n c Tryz.underlying43
  have hblk:∀w:World,Own w (w.alloc (.cells #[] 5)) 5 1 (.slice (some ⟨w.heap.size,0,none⟩) 0 0) 0 []:=fun w=>
   (Blk.new w 5 #[]).own (Nat.le_refl _) ((Below.refl _ _).alloc (Nat.le_refl _) _) rfl (Nat.zero_le _)
  have HB:=Xh hblk;clear hblk
  go_in
  go_wp2_with (at_builtin;refine iJ rfl (.tmp 5) (.tmp 6) 43 rfl bC rfl (HB.out w) rfl (HA.out.mono ((Below.refl _ _).alloc (Nat.le_refl _) _)) (eT _) (by have :=HN.out;omega) ?_;intro v1 w1 o1)
  go_ret
  exact⟨_,rfl,by rw[HL.out];simpa using o1⟩
end
section
structure Nd where
 k:Nat
 a:Nat
 b:Nat
 s:ByteArray
 n:Nat
deriving DecidableEq
def Nd.parts (x:Nd):List Nat:=if x.k=3 then [x.a] else if x.k<3 then [] else [x.a,x.b]
def OG (T:List Nd):Prop:=∀i x,T[i]?=some x→(1≤x.k∧x.k≤5)∧∀p∈x.parts,1≤p∧p≤i
end
section
open Go.RowKit Go.Maps
theorem Qo (w:World) (cs:List Int):Is (w.alloc (.cells (cs.map eD).toArray 3)) (some ⟨w.heap.size,0,none⟩) cs.length cs.length cs∨maxLen<cs.length:=by
 rcases Nat.lt_or_ge maxLen cs.length with h|h
 · exact .inr h
 · refine .inl ⟨by simp,Nat.le_refl _,h,fun _=>⟨_,_,rfl,fun j u hu=> ?_⟩⟩
   rw[Nat.zero_add,(Blk.new w _ _).cell]
   exact hu
theorem wJ {l:List Int} {k:Nat} (hk:k<l.length):iAt l k=l[k]:=by unfold iAt;rw[List.getD_eq_getElem?_getD,List.getElem?_eq_getElem hk];rfl
theorem Eo (q:Int→Bool) (l:List Int) (k:Nat) (hk:k<l.length):(l.take (k+1)).any q=((l.take k).any q || q (iAt l k)):=by
 rw[List.take_succ_eq_append_getElem hk,List.any_append,wJ hk];simp
theorem Qr (q:Int→Bool) (l:List Int) (k:Nat) (hk:k<l.length) (h:q (iAt l k)=true):l.any q=true:=List.any_eq_true.2 ⟨l[k],List.getElem_mem hk,by rw[←wJ hk];exact h⟩
theorem TK {l:List Int} {k:Nat} (hk:k<l.length):iAt l k∈l:=by rw[wJ hk];exact List.getElem_mem hk
theorem LU (C:Value) (A:Option Addr) (n c:Nat) (l:List Int) (q:Int→Bool) (w:World) (h:Is w A n c l) (hq:∀x∈l,∀w',Gr w w'→Calls Tryz.prog 283 #[.int .i64 x,C] w' fun e w''=>e= .returned (.bool (q x))∧Gr w' w''):
 Calls Tryz.prog 321 #[.slice A n c,.func (.func 283) #[] #[C]] w fun e w'=>∃r,e= .returned (.int .i64 r)∧decide (0≤r)=l.any q∧Gr w w':=by
 have hmax:=h.max
 have hcap:=h.cap
 have hll:=h.len
 have HL:=Xh h.len
 have HH:=Xh h;have HQ:=Xh hq;clear h hq hll
 go_in
 go_wp2
 go_loopw [8] (fun i wr=>∃k:Nat,k≤n∧i= .int .i64 k∧Gr w wr∧(l.take k).any q=false) (fun i _=>n - (Go.RowKit.intOf i).toNat)
 case atStart=>exact⟨0,Nat.zero_le _,rfl,Gr.refl _,rfl⟩
 case round=>
  obtain⟨k,hk,rfl,hbel,hall⟩:=hrel
  have HA:=Xh hall;have HB:=Xh hbel;clear hall
  by_cases hlt:k<n
  · obtain⟨b,o,rfl,hcc⟩:=Is.addr (l:=l) (HH.out.mono hbel) Xf
    have c1:=hcc k hlt
    have hkl:k<l.length:=by rw[HL.out];exact hlt
    have HC:=Xh (HQ.out (iAt l k) (TK hkl) wr hbel)
    have HS:=Xh (Eo q l k hkl)
    have HT:Hid (q (iAt l k)=true→l.any q=true):=fun hh=>Qr q l k hkl hh
    clear hcc hkl hbel
    generalize iAt l k=x at *
    cases he:q x
    · have HT2:Hid ((l.take (k+1)).any q=false):=by show _=_;rw[HS.out,HA.out,he];rfl
      rw[he] at HC
      clear he
      go_wp2_with (go_at_call 283;refine HC.out.mono ?_;rintro e w1 ⟨rfl,b1⟩)
      go_roundw
      case rel=>exact⟨k+1,Xf,by go_num,HB.out.trans b1,HT2.out⟩
      case measure=>simp[Go.RowKit.intOf];omega
    · have HF:Hid (l.any q=true):=HT.out he
      rw[he] at HC
      clear he
      go_wp2_with (go_at_call 283;refine HC.out.mono ?_;rintro e w1 ⟨rfl,b1⟩)
      go_ret
      exact⟨k,rfl,by rw[HF.out,decide_eq_true_iff];omega,HB.out.trans b1⟩
  · obtain rfl:n=k:=by omega
    have HF:Hid (l.any q=false):=by have :=HA.out;rwa[List.take_of_length_le (by rw[HL.out];omega)] at this
    clear hbel
    go_wp2
    go_ret
    exact⟨-1,rfl,by rw[HF.out];rfl,HB.out⟩
theorem DU (C:Value) (A:Option Addr) (n c:Nat) (l:List Int) (q:Int→Bool) (w:World) (h:Is w A n c l) (hq:∀x∈l,∀w',Gr w w'→Calls Tryz.prog 283 #[.int .i64 x,C] w' fun e w''=>e= .returned (.bool (q x))∧Gr w' w''):
 Calls Tryz.prog 282 #[.slice A n c,.func (.func 283) #[] #[C]] w fun e w'=>e= .returned (.bool (l.any q))∧Gr w w':=by
 have HI:=Xh (LU C A n c l q w h hq)
 clear h hq
 go_in
 go_wp2_with fail
 refine HI.out.mono ?_
 rintro e w1 ⟨r,rfl,hr,g1⟩
 have HR:=Xh hr;have G1:=Xh g1;clear hr g1
 go_wp2_with fail
 go_ret
 exact⟨bV HR.out,G1.out⟩
def outside (n:Nat) (id:Int):Bool:=decide (id<1) || decide ((n:Int)<id)
def Aw (w:World) (g n:Nat):Prop:=∃A c,w.cell? ⟨g,0,none⟩=some (.slice A n c)
theorem Aw.mono {w w':World} {g n:Nat} (h:Aw w g n) (hb:Gr w w'):Aw w' g n:=by
 obtain⟨A,c,h⟩:=h
 exact⟨A,c,(Below.cell hb (World.block_lt_of_cell? w _ h)).trans h⟩
theorem MQ (p g n:Nat) (id:Int) (w:World) (hp:w.cell? ⟨p,0,none⟩=some (.pointer (some ⟨g,0,none⟩))) (h:Aw w g n):
 Calls Tryz.prog 283 #[.int .i64 id,.pointer (some ⟨p,0,none⟩)] w fun e w'=>e= .returned (.bool (outside n id))∧Gr w w':=by
 obtain⟨A,c,h⟩:=h
 unfold outside
 by_cases h1:id<1
 · rw[decide_eq_true h1]
   go_in
   go_wp2_with fail
   go_ret
   exact⟨rfl,Gr.refl _⟩
 · rw[decide_eq_false h1,Bool.false_or]
   go_in
   go_wp2_with fail
   go_ret
   exact⟨rfl,Gr.refl _⟩
theorem pV (g n:Nat) (A:Option Addr) (m c:Nat) (l:List Int) (w:World) (ht:Aw w g n) (h:Is w A m c l):
 Calls Tryz.prog 212 #[.pointer (some ⟨g,0,none⟩),.slice A m c] w fun e w'=>e= .returned (.bool (!l.any (outside n)))∧Gr w w':=by
 obtain⟨W,hW⟩:∃W,W=w.alloc (.cells #[.pointer (some ⟨g,0,none⟩)] 59):=⟨_,rfl⟩
 have hg:Gr w W:=by rw[hW];exact Gr.alloc _ _
 have hp:W.cell? ⟨w.heap.size,0,none⟩=some (.pointer (some ⟨g,0,none⟩)):=by rw[hW,(Blk.new w _ _).cell];rfl
 have HC:=Xh (DU (.pointer (some ⟨w.heap.size,0,none⟩)) A m c l (outside n) W (h.mono hg) (fun x _ w' hw=>MQ w.heap.size g n x w' ((Below.cell hw (World.block_lt_of_cell? W _ hp)).trans hp) ((ht.mono hg).mono hw)))
 have HG:=Xh hg;have HW:=Xh hW;have HP:=Xh hp
 clear ht h hg hW hp
 go_in
 go_wp2_with fail
 rw[←HW.out]
 refine HC.out.mono ?_
 rintro e w1 ⟨rfl,g1⟩
 have G1:=Xh g1;clear g1
 go_wp2_with fail
 go_ret
 exact⟨rfl,HG.out.trans G1.out⟩
theorem fF {P:Program} {X:TypeId} {fs:Array Field} (hu:P.underlying X=some (.struct fs)) (xT:TypeId) (v:Value) (w:World):(Instr.typeAssert (.iface X v) xT X true).run P w= .ok (.tuple #[v,.bool true]) w:=by
 simp[Instr.typeAssert,run_underlying hu]
theorem eF {P:Program} {X:TypeId} {fs:Array Field} {z:Value} (hu:P.underlying X=some (.struct fs)) (hz:∀w,(zeroValue X).run P w= .ok z w) (xT D:TypeId) (hD:(D=X)=False) (v:Value) (w:World):(Instr.typeAssert (.iface D v) xT X true).run P w= .ok (.tuple #[z,.bool false]) w:=by
 simp[Instr.typeAssert,run_underlying hu,hD,hz]
theorem SC (w:World):(zeroValue 204).run Tryz.prog w= .ok (.agg #[.int .i64 0]) w:=by kernel_rfl
theorem SE (w:World):(zeroValue 249).run Tryz.prog w= .ok (.agg #[.string ByteArray.empty]) w:=by kernel_rfl
theorem Wo (w:World):(zeroValue 252).run Tryz.prog w= .ok (.agg #[.int .i64 0,.string ByteArray.empty]) w:=by kernel_rfl
theorem VK (w:World):(zeroValue 255).run Tryz.prog w= .ok (.agg #[.int .i64 0,.int .i64 0]) w:=by kernel_rfl
theorem VX (w:World):(zeroValue 258).run Tryz.prog w= .ok (.agg #[.int .i64 0,.int .i64 0]) w:=by kernel_rfl
end
section
open Go.RowKit Go.Maps
def nX (n:Nat):Value:= .int .i64 (n:Int)
def Nd.cell (x:Nd):Value:=
 if x.k=1 then .iface 204 (.agg #[.int .i64 (x.n:Int)])
 else if x.k=2 then .iface 249 (.agg #[.string x.s])
 else if x.k=3 then .iface 252 (.agg #[.int .i64 (x.a:Int),.string x.s])
 else if x.k=4 then .iface 255 (.agg #[.int .i64 (x.a:Int),.int .i64 (x.b:Int)])
 else .iface 258 (.agg #[.int .i64 (x.a:Int),.int .i64 (x.b:Int)])
def Kinds (T:List Nd):Prop:=∀x∈T,1≤x.k∧x.k≤5
def TRd (w:World) (g:Nat) (T:List Nd):Prop:=∃A c,w.cell? ⟨g,0,none⟩=some (.slice A T.length c)∧Sl w A T.length c 1 (T.map Nd.cell)
theorem TRd.mono {w w':World} {g:Nat} {T:List Nd} (h:TRd w g T) (hb:Gr w w'):TRd w' g T:=by
 obtain⟨A,c,h,hs⟩:=h
 exact⟨A,c,(Below.cell hb (World.block_lt_of_cell? w _ h)).trans h,hs.mono hb⟩
theorem TRd.len {w:World} {g:Nat} {T:List Nd} (h:TRd w g T):Aw w g T.length:=by
 obtain⟨A,c,h,_⟩:=h
 exact⟨A,c,h⟩
def kindOf (T:List Nd) (id:Int):Nat:=if outside T.length id then 0 else match T[id.toNat - 1]? with
 |some x=>x.k
 |none=>0
def partsOf (T:List Nd) (id:Int):List Nat:=if outside T.length id then [] else match T[id.toNat - 1]? with
 |some x=>x.parts
 |none=>[]
theorem Im (w:World) (x:Int):Is (w.alloc (.cells #[.int .i64 x] 3)) (some ⟨w.heap.size,0,none⟩) 1 1 [x]:=(Qo w [x]).resolve_right (by simp[maxLen])
theorem UG (g:Nat) (T:List Nd) (w:World) (h:TRd w g T):Calls Tryz.prog 210 #[.pointer (some ⟨g,0,none⟩)] w fun e w'=>e= .returned (.int .i64 (T.length:Int))∧w=w':=by
 obtain⟨A,c,h,_⟩:=h
 go_in
 go_wp2_with fail
 go_ret
 exact⟨rfl,rfl⟩
theorem sU (g:Nat) (T:List Nd) (id:Int) (w:World) (h:TRd w g T) (hk:Kinds T) (hid: -9223372036854775808≤id∧id≤9223372036854775807):
 Calls Tryz.prog 134 #[.pointer (some ⟨g,0,none⟩),.int .i64 id] w fun e w'=>e= .returned (.int .i64 (kindOf T id:Int))∧Gr w w':=by
 have HT:=Xh (pV g T.length (some ⟨w.heap.size,0,none⟩) 1 1 [id] _ ((h.mono (Gr.alloc w (.cells #[.int .i64 id] 3))).len) (Im w id))
 have HG:=Xh (Gr.alloc w (.cells #[.int .i64 id] 3))
 have e1:[id].any (outside T.length)=outside T.length id:=by simp
 rw[e1] at HT
 clear e1
 unfold kindOf
 cases ho:outside T.length id with
 |true=>
  rw[ho] at HT
  clear ho
  go_in
  go_wp2_with fail
  refine HT.out.mono ?_
  rintro e w1 ⟨rfl,g1⟩
  have G1:=Xh (HG.out.trans g1);clear g1
  go_wp2_with fail
  go_ret
  exact⟨rfl,G1.out⟩
 |false=>
  rw[ho] at HT
  have hin:1≤id∧id≤T.length:=by unfold outside at ho;simp at ho;omega
  obtain⟨i,hi⟩:∃i:Nat,id=(i:Int)+1:=⟨(id - 1).toNat,Xf⟩
  subst hi
  have hit:i<T.length:=by omega
  obtain⟨x,hx⟩:∃x,T[i]?=some x:=⟨T[i],List.getElem?_eq_getElem hit⟩
  have e2:((i:Int)+1).toNat - 1=i:=by omega
  rw[e2,hx]
  obtain⟨A,c,hc,hs⟩:=h
  obtain⟨b,o,rfl,hcc⟩:=Sl.addr hs Xf
  have hcell:w.cell? ⟨b,o+i,none⟩=some x.cell:=hcc i _ (by rw[List.getElem?_map,hx];rfl)
  have hkx:=hk x (List.mem_of_getElem? hx)
  have HF:Hid (∀wq,Gr w wq→wq.cell? ⟨g,0,none⟩=some (.slice (some ⟨b,o,none⟩) T.length c)∧wq.cell? ⟨b,o+i,none⟩=some x.cell):=fun wq hq=>⟨(Below.cell hq (World.block_lt_of_cell? w _ hc)).trans hc,(Below.cell hq (World.block_lt_of_cell? w _ hcell)).trans hcell⟩
  have hmx:=hs.max
  have hcp:=hs.cap
  clear hs hcc hc hcell hx e2 ho hk
  unfold Nd.cell at HF
  obtain⟨xk,xa,xb,xs,xn⟩:=x
  simp only at HF hkx ⊢
  have hkk:xk=1∨xk=2∨xk=3∨xk=4∨xk=5:=by omega
  rcases hkk with rfl|rfl|rfl|rfl|rfl
  all_goals
   simp only[reduceIte,Nat.reduceEqDiff] at HF
   clear hkx hin hid
   have ahatom:=fun xT v w=>fF (P:=Tryz.prog) Tryz.underlying204 xT v w
   have amatom:=fun xT D hD v w=>eF (P:=Tryz.prog) Tryz.underlying204 SC xT D hD v w
   have ahtext:=fun xT v w=>fF (P:=Tryz.prog) Tryz.underlying249 xT v w
   have amtext:=fun xT D hD v w=>eF (P:=Tryz.prog) Tryz.underlying249 SE xT D hD v w
   have ahkdf:=fun xT v w=>fF (P:=Tryz.prog) Tryz.underlying252 xT v w
   have amkdf:=fun xT D hD v w=>eF (P:=Tryz.prog) Tryz.underlying252 Wo xT D hD v w
   have ahmix:=fun xT v w=>fF (P:=Tryz.prog) Tryz.underlying255 xT v w
   have ammix:=fun xT D hD v w=>eF (P:=Tryz.prog) Tryz.underlying255 VK xT D hD v w
   have ahenc:=fun xT v w=>fF (P:=Tryz.prog) Tryz.underlying258 xT v w
   have amenc:=fun xT D hD v w=>eF (P:=Tryz.prog) Tryz.underlying258 VX xT D hD v w
   go_in
   go_wp2_with fail
   refine HT.out.mono ?_
   rintro e w1 ⟨rfl,g1⟩
   obtain⟨f0,f1⟩:=HF.out w1 (HG.out.trans g1)
   have G1:=Xh (HG.out.trans g1);clear g1
   go_wp2_with fail
   go_ret
   refine⟨rfl,?_⟩
   repeat (first|exact G1.out|refine Gr.trans ?_ (Gr.alloc _ _))
def nC (w:World) (A:Option Addr):Prop:=∀b o,A=some ⟨b,o,none⟩→w.heap.size≤b
theorem nC.nil (w:World):nC w none:=fun b o e=>by cases e
theorem nC.mk1 {w w1:World} (h:Gr w w1) (k:Nat):nC w (some ⟨w1.heap.size+k,0,none⟩):=fun b o e=>by
 injection e with e
 injection e with e1 _
 have :=h.size
 omega
def xZ (w:World) (A:Option Addr) (l:List Int):Prop:=l=[]∨∃q,A=some ⟨q,0,none⟩∧Blk w q 3 (l.map eD)
theorem xZ.one (W:World) (o:Obj) (x:Int):xZ ((W.alloc o).alloc (.cells #[.int .i64 x] 3)) (some ⟨W.heap.size+1,0,none⟩) [x]:=by
 have h:=Blk.new (W.alloc o) 3 #[.int .i64 x]
 rw[show (W.alloc o).heap.size=W.heap.size+1 by simp] at h
 exact .inr ⟨_,rfl,h⟩
theorem xZ.two (W:World) (o:Obj) (x y:Int):xZ ((W.alloc o).alloc (.cells #[.int .i64 x,.int .i64 y] 3)) (some ⟨W.heap.size+1,0,none⟩) [x,y]:=by
 have h:=Blk.new (W.alloc o) 3 #[.int .i64 x,.int .i64 y]
 rw[show (W.alloc o).heap.size=W.heap.size+1 by simp] at h
 exact .inr ⟨_,rfl,h⟩
def Vb (w:World) (l:List Int) (e:Ending) (w':World):Prop:=∃A c,e= .returned (.slice A l.length c)∧Is w' A l.length c l∧Gr w w'∧nC w A∧xZ w' A l
theorem GV (w:World) (x y:Int):Is (w.alloc (.cells #[.int .i64 x,.int .i64 y] 3)) (some ⟨w.heap.size,0,none⟩) 2 2 [x,y]:=(Qo w [x,y]).resolve_right (by simp[maxLen])
theorem Ot (g:Nat) (T:List Nd) (id:Int) (w:World) (h:TRd w g T) (hk:Kinds T) (hid: -9223372036854775808≤id∧id≤9223372036854775807):
 Calls Tryz.prog 137 #[.pointer (some ⟨g,0,none⟩),.int .i64 id] w fun e w'=>Vb w ((partsOf T id).map Int.ofNat) e w':=by
 have HT:=Xh (pV g T.length (some ⟨w.heap.size,0,none⟩) 1 1 [id] _ ((h.mono (Gr.alloc w (.cells #[.int .i64 id] 3))).len) (Im w id))
 have HG:=Xh (Gr.alloc w (.cells #[.int .i64 id] 3))
 have e1:[id].any (outside T.length)=outside T.length id:=by simp
 rw[e1] at HT
 clear e1
 unfold partsOf
 cases ho:outside T.length id with
 |true=>
  rw[ho] at HT
  clear ho
  go_in
  go_wp2_with fail
  refine HT.out.mono ?_
  rintro e w1 ⟨rfl,g1⟩
  have G1:=Xh (HG.out.trans g1);clear g1
  go_wp2_with fail
  go_ret
  exact⟨none,0,rfl,Sl.nil _ _,G1.out,nC.nil _,.inl rfl⟩
 |false=>
  rw[ho] at HT
  have hin:1≤id∧id≤T.length:=by unfold outside at ho;simp at ho;omega
  obtain⟨i,hi⟩:∃i:Nat,id=(i:Int)+1:=⟨(id - 1).toNat,Xf⟩
  subst hi
  have hit:i<T.length:=by omega
  obtain⟨x,hx⟩:∃x,T[i]?=some x:=⟨T[i],List.getElem?_eq_getElem hit⟩
  have e2:((i:Int)+1).toNat - 1=i:=by omega
  rw[e2,hx]
  obtain⟨A,c,hc,hs⟩:=h
  obtain⟨b,o,rfl,hcc⟩:=Sl.addr hs Xf
  have hcell:w.cell? ⟨b,o+i,none⟩=some x.cell:=hcc i _ (by rw[List.getElem?_map,hx];rfl)
  have hkx:=hk x (List.mem_of_getElem? hx)
  have HF:Hid (∀wq,Gr w wq→wq.cell? ⟨g,0,none⟩=some (.slice (some ⟨b,o,none⟩) T.length c)∧wq.cell? ⟨b,o+i,none⟩=some x.cell):=fun wq hq=>⟨(Below.cell hq (World.block_lt_of_cell? w _ hc)).trans hc,(Below.cell hq (World.block_lt_of_cell? w _ hcell)).trans hcell⟩
  have hmx:=hs.max
  have hcp:=hs.cap
  clear hs hcc hc hcell hx e2 ho hk
  unfold Nd.cell at HF
  obtain⟨xk,xa,xb,xs,xn⟩:=x
  simp only at HF hkx ⊢
  have N1:Hid (∀(W:World) (o:Obj) (x:Int),Is ((W.alloc o).alloc (.cells #[.int .i64 x] 3)) (some ⟨W.heap.size+1,0,none⟩) 1 1 [x]):=fun W o x=>by have h:=Im (W.alloc o) x;rw[show (W.alloc o).heap.size=W.heap.size+1 by simp] at h;exact h
  have N2:Hid (∀(W:World) (o:Obj) (x y:Int),Is ((W.alloc o).alloc (.cells #[.int .i64 x,.int .i64 y] 3)) (some ⟨W.heap.size+1,0,none⟩) 2 2 [x,y]):=fun W o x y=>by have h:=GV (W.alloc o) x y;rw[show (W.alloc o).heap.size=W.heap.size+1 by simp] at h;exact h
  have hkk:xk=1∨xk=2∨xk=3∨xk=4∨xk=5:=by omega
  rcases hkk with rfl|rfl|rfl|rfl|rfl
  all_goals
   simp only[reduceIte,Nat.reduceEqDiff] at HF
   clear hkx hin hid
   have ahatom:=fun xT v w=>fF (P:=Tryz.prog) Tryz.underlying204 xT v w
   have amatom:=fun xT D hD v w=>eF (P:=Tryz.prog) Tryz.underlying204 SC xT D hD v w
   have ahtext:=fun xT v w=>fF (P:=Tryz.prog) Tryz.underlying249 xT v w
   have amtext:=fun xT D hD v w=>eF (P:=Tryz.prog) Tryz.underlying249 SE xT D hD v w
   have ahkdf:=fun xT v w=>fF (P:=Tryz.prog) Tryz.underlying252 xT v w
   have amkdf:=fun xT D hD v w=>eF (P:=Tryz.prog) Tryz.underlying252 Wo xT D hD v w
   have ahmix:=fun xT v w=>fF (P:=Tryz.prog) Tryz.underlying255 xT v w
   have ammix:=fun xT D hD v w=>eF (P:=Tryz.prog) Tryz.underlying255 VK xT D hD v w
   have ahenc:=fun xT v w=>fF (P:=Tryz.prog) Tryz.underlying258 xT v w
   have amenc:=fun xT D hD v w=>eF (P:=Tryz.prog) Tryz.underlying258 VX xT D hD v w
   go_in
   go_wp2_with fail
   refine HT.out.mono ?_
   rintro e w1 ⟨rfl,g1⟩
   obtain⟨f0,f1⟩:=HF.out w1 (HG.out.trans g1)
   have G1:=Xh (HG.out.trans g1);clear g1
   go_wp2_with fail
   go_ret
   first
    |exact⟨none,0,rfl,Sl.nil _ _,G1.out,nC.nil _,.inl rfl⟩
    |exact⟨_,_,rfl,N1.out _ _ _,(G1.out.trans (Gr.alloc _ _)).trans (Gr.alloc _ _),nC.mk1 G1.out 1,xZ.one _ _ _⟩
    |exact⟨_,_,rfl,N2.out _ _ _ _,(G1.out.trans (Gr.alloc _ _)).trans (Gr.alloc _ _),nC.mk1 G1.out 1,xZ.two _ _ _ _⟩
end
end Go.Proofs.YtipdlnejmcmbbaaGreatDoor
