/- Own texts, one behind the other. No condition. -/
import Derived.WalkKit
import Derived.Lib.Hide
import Derived.Deep.Draws
import Derived.Maps.AppendAt
import Derived.OpenShut
import Derived.Laws.BitsAllLaws
import Derived.Test.YtipdlnejmcmbbaaGreatDoorProg
import Derived.Outline
import Derived.Deep.QuietTactic
import Derived.BigQuiet
import Derived.Laws.BytesArg
import Derived.Laws.CopyOwn
import Derived.StillTailTactics
import Derived.RegionTactic
import Derived.Deep.RegionLaw
set_option linter.unusedVariables false
set_option maxRecDepth 100000
set_option maxHeartbeats 8000000
set_option linter.unusedSimpArgs false
namespace Go.Proofs.YtipdlnejmcmbbaaGreatDoor
section
open Go.RowKit
theorem Xc {α:Type} {a b:α} (h:a=b:=by kernel_rfl):some a=some b:=congrArg some h
theorem Xd {a b:Prop} (h:¬a:=by decide):a→b:=fun e=>absurd e h
theorem Xe {p:Prop} (h:p:=by kernel_rfl):p:=h
theorem Xf {p:Prop} (h:p:=by omega):p:=h
theorem Xg {p:Prop} (h:p:=by decide):p:=h
theorem Xh {p:Prop} (h:p):Hid p:=h
end
section
open Go.RowKit
theorem wrap_u8 {x:Int} (h:0≤x) (h':x<256):IntKind.u8.wrap x=x:=by
 rw[IntKind.wrap_u8];omega
theorem bV {a b:Bool} (h:a=b):Ending.returned (.bool a)= .returned (.bool b):=by rw[h]
theorem dx {k:IntKind} {a b:Int} (h:a=b):Ending.returned (.int k a)= .returned (.int k b):=by rw[h]
theorem dG {B:Nat} {a w:World} (h:Below B a w) (n:Nat):Below B a (w.drewN n):=h.trans ⟨rfl,rfl,rfl,Nat.le_refl _,fun _ _=>rfl⟩
theorem bBo {a b c:World} (h:Below a.heap.size a b) (k:Below b.heap.size b c):Below a.heap.size a c:=h.trans (k.mono h.size)
def Sl (w:World) (A:Option Addr) (n c size:Nat) (xs:List Value):Prop:=
 xs.length=n*size∧n≤c∧c≤maxLen∧(0<n→∃b o,A=some ⟨b,o,none⟩∧∀j u,xs[j]?=some u→w.cell? ⟨b,o+j,none⟩=some u)
section
variable {w w':World} {A:Option Addr} {n c size:Nat} {xs:List Value}
theorem Sl.nil (w:World) (size:Nat):Sl w none 0 0 size []:=⟨by simp,Nat.le_refl _,Nat.zero_le _,fun h=>absurd h Xf⟩
theorem Sl.mono (h:Sl w A n c size xs) (hb:Below w.heap.size w w'):Sl w' A n c size xs:=by
 obtain⟨h1,h2,h3,h4⟩:=h
 refine⟨h1,h2,h3,fun hn=> ?_⟩
 obtain⟨b,o,rfl,hc⟩:=h4 hn
 refine⟨b,o,rfl,fun j u hu=> ?_⟩
 have h:=hc j u hu
 rw[hb.cell (World.block_lt_of_cell? w _ h)]
 exact h
theorem Sl.len (h:Sl w A n c 1 xs):xs.length=n:=by have :=h.1;omega
theorem Sl.cap (h:Sl w A n c size xs):n≤c:=h.2.1
theorem Sl.max (h:Sl w A n c size xs):c≤9223372036854775807:=h.2.2.1
theorem Sl.addr (h:Sl w A n c size xs) (hn:0<n):∃b o,A=some ⟨b,o,none⟩∧∀j u,xs[j]?=some u→w.cell? ⟨b,o+j,none⟩=some u:=h.2.2.2 hn
end
def bAt (l:List UInt8) (j:Nat):Int:=((l.getD j 0).toNat:Int)
theorem VJ (l:List UInt8) (j:Nat):0≤bAt l j:=by unfold bAt;omega
theorem Vw (l:List UInt8) (j:Nat):bAt l j<256:=by unfold bAt;have :=(l.getD j 0).toNat_lt;omega
def u8c (c:UInt8):Value:= .int .u8 (c.toNat:Int)
abbrev Bs (w:World) (A:Option Addr) (n c:Nat) (l:List UInt8):Prop:=Sl w A n c 1 (l.map u8c)
theorem Qj {l:List UInt8} {j:Nat} (h:j<l.length):(l.map u8c)[j]?=some (.int .u8 (bAt l j)):=by
 simp[h,u8c,bAt]
theorem Bs.len {w:World} {A:Option Addr} {n c:Nat} {l:List UInt8} (h:Bs w A n c l):l.length=n:=by have :=Sl.len h;simpa using this
theorem Bs.addr {w:World} {A:Option Addr} {n c:Nat} {l:List UInt8} (h:Bs w A n c l) (hn:0<n):
 ∃b o,A=some ⟨b,o,none⟩∧∀j,j<n→w.cell? ⟨b,o+j,none⟩=some (.int .u8 (bAt l j)):=by
 obtain⟨b,o,e,hc⟩:=Sl.addr h hn
 exact⟨b,o,e,fun j hj=>hc j _ (Qj (by rw[h.len];exact hj))⟩
theorem EA (e:Int) (h0:0≤e) (h1:e<256):Value.int .u8 e=u8c (UInt8.ofNat e.toNat):=by
 unfold u8c
 rw[UInt8.toNat_ofNat_of_lt' (by show e.toNat<256;omega)]
 congr 1
 omega
section
variable {α:Type} {s:Nat} {f:α→List Value}
theorem xu (hf:∀x,(f x).length=s) (L:List α):(L.flatMap f).length=L.length*s:=by
 induction L with
 |nil=>simp
 |cons x L ih=>simp[ih,hf,Nat.add_mul,Nat.add_comm]
theorem kY (hf:∀x,(f x).length=s) (L:List α) (i j:Nat) (hj:j<s) (x:α) (hx:L[i]?=some x):(L.flatMap f)[i*s+j]?=(f x)[j]?:=by
 induction L generalizing i with
 |nil=>simp at hx
 |cons y L ih=>
  rw[List.flatMap_cons]
  cases i with
  |zero=>
   simp at hx
   subst hx
   rw[Nat.zero_mul,Nat.zero_add,List.getElem?_append_left (by rw[hf];exact hj)]
  |succ i=>
   rw[List.getElem?_append_right (by rw[hf,Nat.add_mul];omega),hf]
   have :(i+1)*s+j - s=i*s+j:=by rw[Nat.add_mul];omega
   rw[this]
   exact ih i (by simpa using hx)
end
theorem Gh {α:Type} (g:α→Value) (L:List α):L.flatMap (fun x=>[g x])=L.map g:=by induction L<;>simp_all
theorem sQ (b o j:Nat):(Addr.mk b o none).add j=⟨b,o+j,none⟩:=by unfold Addr.add;split<;>simp_all
structure aj where
 a:Option Addr
 n:Nat
 c:Nat
 l:List UInt8
instance:Inhabited aj:=⟨⟨none,0,0,[]⟩⟩
def aj.v (r:aj):Value:= .slice r.a r.n r.c
def iAt (l:List Int) (j:Nat):Int:=l.getD j 0
def eD (n:Int):Value:= .int .i64 n
abbrev Is (w:World) (A:Option Addr) (n c:Nat) (l:List Int):Prop:=Sl w A n c 1 (l.map eD)
theorem nJ (k:IntKind) (x:Int):∀u∈[Value.int k x],u.oneCell'=true:=by intro u hu;simp at hu;subst hu;rfl
def Own (w0 w:World) (e:TypeId) (size:Nat) (v:Value) (n:Nat) (xs:List Value):Prop:=
 w.ownsRow w0.heap.size e size v n xs∧Below w0.heap.size w0 w
structure eB (P:Program) (t e:TypeId) (z:Value) (size bytes:Nat):Prop where
 und:P.underlying t=some (.slice e)
 info:(P.info? e).map (fun i=>(i.zero,i.size,i.bytes))=some (some z,size,bytes)
 cells:z.cells.size=size
 pos:0<size
 bpos:0<bytes
section
variable {w0 w w':World} {e:TypeId} {size n:Nat} {v:Value} {xs:List Value}
theorem Own.nil (w:World) (e:TypeId) (size:Nat):Own w w e size (.slice none 0 0) 0 []:=⟨World.ownsRow_nil _ _ _ _,Below.refl _ _⟩
theorem Own.nil' (hb:Below w0.heap.size w0 w) (e:TypeId) (size:Nat):Own w0 w e size (.slice none 0 0) 0 []:=⟨World.ownsRow_nil _ _ _ _,hb⟩
theorem Own.below (h:Own w0 w e size v n xs):Below w0.heap.size w0 w:=h.2
theorem Own.mono (h:Own w0 w e size v n xs) (hb:Below w.heap.size w w'):Own w0 w' e size v n xs:=by
 refine⟨⟨h.1.1,?_⟩,h.2.trans (hb.mono h.2.size)⟩
 rcases h.1.2 with h| ⟨g,cap,cur,hv,hg,hh,r⟩
 · exact .inl h
 · exact .inr ⟨g,cap,cur,hv,hg,by rw[hb.block g (Array.getElem?_eq_some_iff.1 hh).1];exact hh,r⟩
theorem Own.slice (h:Own w0 w e size v n xs):∃A c,v= .slice A n c∧Sl w A n c size xs:=by
 obtain⟨⟨hl,h⟩,_⟩:=h
 rcases h with⟨rfl,rfl⟩| ⟨g,cap,cur,rfl,hg,hh,hn,hc,hs,ht⟩
 · refine⟨none,0,rfl,hl,Nat.le_refl _,Nat.zero_le _,fun h=>absurd h Xf⟩
 · refine⟨_,cap,rfl,hl,hn,hc,fun _=>⟨g,0,rfl,fun j u hu=> ?_⟩⟩
   have hj:j<xs.length:=(List.getElem?_eq_some_iff.1 hu).1
   rw[←ht,List.getElem?_take_of_lt Xf] at hu
   simp only[World.cell?,hh,Nat.zero_add]
   simpa using hu
end
theorem Own.alloc {w0 w:World} {e:TypeId} {size n:Nat} {v:Value} {xs:List Value} (h:Own w0 w e size v n xs) (o:Obj):Own w0 (w.alloc o) e size v n xs:=h.mono ((Below.refl _ _).alloc (Nat.le_refl _) _)
theorem UW {P:Program} {o:Oper} {a:Act} {K:Act→World→Prop} {Q:Exit→Act→World→Prop} (s x:Operand) (t:TypeId)
 (ho:o.op= .call {callee:= .builtin .append,args:=#[s,x],argTypes:=#[t,t]})
 {e:TypeId} {z:Value} {size bytes:Nat} (ht:eB P t e z size bytes) {w0 w:World} {v:Value} {n:Nat} {xs:List Value} (hs:a.eval s=v) (hown:Own w0 w e size v n xs)
 (g c:Nat) (cs:List Value) (hx:a.eval x= .slice (some ⟨g,0,none⟩) 1 c) (hl:cs.length=size) (h1:∀u∈cs,u.oneCell'=true)
 (hc:∀j u,cs[j]?=some u→w.cell? ⟨g,j,none⟩=some u)
 (hroom:(n+1)*bytes≤140737488355328)
 (h:∀v' w',Own w0 w' e size v' (n+1) (xs++cs)→K (a.put o.dst v') w'):o.wp P a w K Q:=by
 obtain⟨i,hi,hz,hsz,hby⟩:=info_parts ht.info
 have hb1:n+1≤(n+1)*bytes:=Nat.le_mul_of_pos_right _ ht.bpos
 obtain⟨v',w',hrun,h2,h3,_,_⟩:=run_append_own_at (P:=P) w w0.heap.size t o.type e i z size bytes ht.und hi hz hsz hby ht.cells ht.pos v n xs hown.1 ⟨g,0,none⟩ 1 c cs (by simp[hl])
  (fun j u hu=>by
   have he:(Addr.mk g 0 none).add j=⟨g,j,none⟩:=by unfold Addr.add;split<;>simp_all
   rw[he];exact hc j u hu) h1 (by simp only[maxLen];omega) hroom hown.2.size
 unfold Oper.wp execOp
 simp only[ho,resolve,invoke,builtin,Sem.run_bind,Sem.run_pure,Result.andThen_ok,List.map_toArray,List.map_cons,List.map_nil,hs,hx,hrun]
 exact h v' w' ⟨h2,hown.2.grown h3 hown.2.size (fun k hk=>(hown.1.lt k hk).1)⟩
theorem jy {P:Program} {ops:Array Oper} {rest:List Oper} {o:Oper} {a:Act} {Q:Exit→Act→World→Prop} (hgd:o.guard=none) (s x:Operand) (t:TypeId)
 (ho:o.op= .call {callee:= .builtin .append,args:=#[s,x],argTypes:=#[t,t]})
 {e:TypeId} {z:Value} {size bytes:Nat} (ht:eB P t e z size bytes) {w0 w:World} {v:Value} {n:Nat} {xs:List Value} (hs:a.eval s=v) (hown:Own w0 w e size v n xs)
 (cs:Array Value) (hx:a.eval x= .slice (some ⟨w.heap.size,0,none⟩) 1 1) (hl:cs.size=size) (h1:∀u∈cs.toList,u.oneCell'=true)
 (hroom:(n+1)*bytes≤140737488355328)
 (h:∀v' w',Own w0 w' e size v' (n+1) (xs++cs.toList)→wpList P ops Q rest (a.put o.dst v') w'):wpList P ops Q (o::rest) a (w.alloc (.cells cs e)):=
 wpList_plain hgd fun _ hK=>UW s x t ho ht hs (hown.alloc _) w.heap.size 1 cs.toList hx (by simpa using hl) h1 (fun j u hu=>by
  have hj:(w.alloc (.cells cs e)).heap[w.heap.size]?=some (.cells cs e):=heap_alloc_new w _
  simp only[World.cell?,hj]
  simpa using hu) hroom fun v' w' h2=>hK _ _ (h v' w' h2)
theorem run_append_nothing {P:Program} (w:World) {base:Nat} {t ty e:TypeId} {i:TypeInfo} {size:Nat} (ht:P.underlying t=some (.slice e)) (hi:P.info? e=some i)
 {v:Value} {n:Nat} {xs:List Value} (hown:w.ownsRow base e size v n xs) (A:Option Addr) (c:Nat):(Builtin.append_ #[t,t] ty #[v,.slice A 0 c]).run P w= .ok v w:=by
 rcases hown.2 with⟨rfl,rfl⟩| ⟨g,cap,cur,rfl,_,_,hnc,_⟩
 · cases A<;>simp[Builtin.append_,run_underlying ht,sizeOf,typeInfo,hi,Builtin.lenOf,Builtin.firstCells,loadCells,loadCellsFrom]
 · cases A<;>simp[Builtin.append_,run_underlying ht,sizeOf,typeInfo,hi,Builtin.lenOf,Builtin.firstCells,hnc,storeCells,loadCells,loadCellsFrom]
theorem VO {P:Program} {o:Oper} {a:Act} {K:Act→World→Prop} {Q:Exit→Act→World→Prop} (s x:Operand) (t:TypeId)
 (ho:o.op= .call {callee:= .builtin .append,args:=#[s,x],argTypes:=#[t,t]})
 {e:TypeId} {z:Value} {size bytes:Nat} (ht:eB P t e z size bytes) {w0 w:World} {v:Value} {n:Nat} {xs:List Value} (hs:a.eval s=v) (hown:Own w0 w e size v n xs)
 {A:Option Addr} {m c:Nat} {news:List Value} (hx:a.eval x= .slice A m c) (hsl:Sl w A m c size news) (h1:∀u∈news,u.oneCell'=true)
 (hroom:(n+m)*bytes≤140737488355328)
 (h:∀v' w',Own w0 w' e size v' (n+m) (xs++news)→K (a.put o.dst v') w'):o.wp P a w K Q:=by
 obtain⟨i,hi,hz,hsz,hby⟩:=info_parts ht.info
 have hb1:n+m≤(n+m)*bytes:=Nat.le_mul_of_pos_right _ ht.bpos
 have :∃v' w',(Builtin.append_ #[t,t] o.type #[v,.slice A m c]).run P w= .ok v' w'∧Own w0 w' e size v' (n+m) (xs++news):=by
  rcases Nat.eq_zero_or_pos m with hm|hm
  · subst hm
    have hn:news=[]:=List.eq_nil_of_length_eq_zero (by simpa using hsl.1)
    subst hn
    exact⟨v,w,run_append_nothing w ht.und hi hown.1 A c,by simpa using hown⟩
  · obtain⟨b,off,rfl,hc⟩:=hsl.addr hm
    obtain⟨v',w',hrun,h2,h3,_,_⟩:=run_append_own_at (P:=P) w w0.heap.size t o.type e i z size bytes ht.und hi hz hsz hby ht.cells ht.pos v n xs hown.1 ⟨b,off,none⟩ m c news hsl.1
     (fun j u hu=>by
      have he:(Addr.mk b off none).add j=⟨b,off+j,none⟩:=by unfold Addr.add;split<;>simp_all
      rw[he];exact hc j u hu) h1 (by simp only[maxLen];omega) hroom hown.2.size
    exact⟨v',w',hrun,h2,hown.2.grown h3 hown.2.size (fun k hk=>(hown.1.lt k hk).1)⟩
 obtain⟨v',w',hrun,h2⟩:=this
 unfold Oper.wp execOp
 simp only[ho,resolve,invoke,builtin,Sem.run_bind,Sem.run_pure,Result.andThen_ok,List.map_toArray,List.map_cons,List.map_nil,hs,hx,hrun]
 exact h v' w' h2
theorem iJ {P:Program} {ops:Array Oper} {rest:List Oper} {o:Oper} {a:Act} {Q:Exit→Act→World→Prop} (hgd:o.guard=none) (s x:Operand) (t:TypeId)
 (ho:o.op= .call {callee:= .builtin .append,args:=#[s,x],argTypes:=#[t,t]})
 {e:TypeId} {z:Value} {size bytes:Nat} (ht:eB P t e z size bytes) {w0 w:World} {v:Value} {n:Nat} {xs:List Value} (hs:a.eval s=v) (hown:Own w0 w e size v n xs)
 {A:Option Addr} {m c:Nat} {news:List Value} (hx:a.eval x= .slice A m c) (hsl:Sl w A m c size news) (h1:∀u∈news,u.oneCell'=true)
 (hroom:(n+m)*bytes≤140737488355328)
 (h:∀v' w',Own w0 w' e size v' (n+m) (xs++news)→wpList P ops Q rest (a.put o.dst v') w'):wpList P ops Q (o::rest) a w:=
 wpList_plain hgd fun _ hK=>VO s x t ho ht hs hown hx hsl h1 hroom fun v' w' h2=>hK _ _ (h v' w' h2)
theorem eT (l:List UInt8):∀u∈l.map u8c,u.oneCell'=true:=by intro u hu;obtain⟨x,_,rfl⟩:=List.mem_map.1 hu;rfl
theorem Sl.upto {w:World} {A:Option Addr} {n c:Nat} {xs:List Value} (h:Sl w A n c 1 xs) {k:Nat} (hk:k≤n):Sl w A k c 1 (xs.take k):=by
 have hl:=h.len
 refine⟨by simp;omega,by have :=h.cap;omega,h.2.2.1,fun hn=> ?_⟩
 obtain⟨b,o,rfl,hc⟩:=h.addr Xf
 exact⟨b,o,rfl,fun j u hu=>hc j u (by
  have hj:j<k:=by have :=(List.getElem?_eq_some_iff.1 hu).1;simp at this;omega
  rw[List.getElem?_take_of_lt hj] at hu;exact hu)⟩
theorem Sl.from {w:World} {A A':Option Addr} {n c:Nat} {xs:List Value} (h:Sl w A n c 1 xs) {k:Nat} (hk:k≤n) (hA:k<n→∀b o,A=some ⟨b,o,none⟩→A'=some ⟨b,o+k,none⟩):Sl w A' (n - k) (c - k) 1 (xs.drop k):=by
 have hl:=h.len
 refine⟨by simp;omega,by have :=h.cap;omega,by have :=h.2.2.1;omega,fun hn=> ?_⟩
 obtain⟨b,o,rfl,hc⟩:=h.addr Xf
 exact⟨b,o+k,hA Xf b o rfl,fun j u hu=>by
  rw[List.getElem?_drop] at hu
  have :=hc _ u hu
  rw[Nat.add_assoc];exact this⟩
def Blk (w:World) (g:Nat) (t:TypeId) (cs:List Value):Prop:=w.heap[g]?=some (.cells cs.toArray t (0,0))
section
variable {w w':World} {g:Nat} {t:TypeId} {cs:List Value}
theorem Blk.lt (h:Blk w g t cs):g<w.heap.size:=(Array.getElem?_eq_some_iff.1 h).1
theorem Blk.cell (h:Blk w g t cs) (i:Nat):w.cell? ⟨g,i,none⟩=cs[i]?:=by
 unfold Blk at h
 simp[World.cell?,h]
theorem Blk.free (h:Blk w g t cs) (i:Nat):w.frozen? ⟨g,i,none⟩=false:=by
 unfold Blk at h
 simp[World.frozen?,h]
theorem Blk.new (w:World) (t:TypeId) (cs:Array Value):Blk (w.alloc (.cells cs t)) w.heap.size t cs.toList:=heap_alloc_new w _
theorem Blk.set (h:Blk w g t cs) (i:Nat) (u:Value):Blk (w.setCell ⟨g,i,none⟩ u) g t (cs.set i u):=by
 unfold Blk at h ⊢
 simp[World.setCell,Array.getElem?_modify,h]
theorem Blk.far (h:Blk w g t cs) {p:Addr} (hp:g≠p.block) (u:Value):Blk (w.setCell p u) g t cs:=(Below.heap_setCell w p u g hp).trans h
theorem Blk.mono (h:Blk w g t cs) (hb:Below w.heap.size w w'):Blk w' g t cs:=(hb.block g h.lt).trans h
theorem Blk.alloc (h:Blk w g t cs) (o:Obj):Blk (w.alloc o) g t cs:=(Below.heap_alloc w o g h.lt).trans h
theorem Blk.own {w0:World} {size n:Nat} (h:Blk w g t cs) (hg:w0.heap.size≤g) (hb:Below w0.heap.size w0 w) (hn:cs.length=n*size) (hm:n≤maxLen):
 Own w0 w t size (.slice (some ⟨g,0,none⟩) n n) n cs:=
 ⟨⟨hn,.inr ⟨g,n,cs.toArray,rfl,hg,h,Nat.le_refl _,hm,by simp[hn],by simp[←hn]⟩⟩,hb⟩
end
def dX (n:Nat) (z:Value):List Value:=List.replicate n z
theorem qF (n:Nat) (z:Value):(dX n z).length=n:=by simp[dX]
theorem run_mk {P:Program} {t e:TypeId} {z:Value} {bytes:Nat} (ht:eB P t e z 1 bytes) (hz1:z.cells=#[z]) (n:Nat) (h:n*bytes≤281474976710656) (w:World):
 (Instr.makeSlice t (.int .i64 (n:Int)) (.int .i64 (n:Int))).run P w= .ok (.slice (some ⟨w.heap.size,0,none⟩) n n) (w.alloc (.cells (dX n z).toArray e)):=by
 obtain⟨i,hi,hz,hsz,hby⟩:=info_parts ht.info
 have hb:=ht.bpos
 have hn:n≤n*bytes:=Nat.le_mul_of_pos_right _ hb
 have hr:=run_make (P:=P) w t e i z ht.und hi hz .i64 .i64 n n Xf Xf (by rw[hby,Int.mul_comm];omega) Xf
 simp only[Int.toNat_natCast,hsz,Nat.mul_one] at hr
 rw[hr]
 have hc:madeCells z.cells n=(dX n z).toArray:=by
  unfold madeCells dX
  rw[hz1]
  apply Array.ext
  · simp
  · intro j hj1 hj2
    simp only[Array.getElem_map,Array.getElem_range,List.getElem_toArray,List.getElem_replicate]
    have :(#[z]:Array Value).size=1:=rfl
    rw[this,Nat.mod_one];rfl
 rw[hc]
end
section
def cu (l:List UInt8):Nat:=l.foldl (fun n c=>n*256+c.toNat) 0
theorem Cw (l:List UInt8) (c:UInt8):cu (l++ [c])=cu l*256+c.toNat:=by simp[cu]
theorem QC (l:List UInt8) (a:Nat):l.foldl (fun n c=>n*256+c.toNat) a<(a+1)*256 ^ l.length:=by
 induction l generalizing a with
 |nil=>simp
 |cons c l ih=>
  simp only[List.foldl_cons,List.length_cons,Nat.pow_succ]
  have :=ih (a*256+c.toNat)
  have hc:=c.toNat_lt
  refine Nat.lt_of_lt_of_le this ?_
  rw[Nat.mul_comm (256 ^ l.length) 256,←Nat.mul_assoc]
  exact Nat.mul_le_mul_right _ Xf
theorem kU (l:List UInt8):cu l<256 ^ l.length:=by simpa [cu] using QC l 0
theorem uX (l:List UInt8) (k:Nat) (h:k<l.length):l.take (k+1)=l.take k++ [l.getD k 0]:=by
 rw[List.take_succ_eq_append_getElem h];simp[h]
theorem NK (l:List UInt8) (k:Nat) (h:k<l.length):(cu (l.take (k+1)):Int)=cu (l.take k)*256+bAt l k:=by
 rw[uX l k h,Cw];unfold bAt;omega
theorem Ig (l:List UInt8) (k:Nat) (hk:k<8):cu (l.take k)<72057594037927936:=by
 refine Nat.lt_of_lt_of_le (kU _) ?_
 have :(l.take k).length≤7:=by simp;omega
 exact Nat.le_trans (Nat.pow_le_pow_right Xf this) Xg
def be (n:Nat):Nat→List UInt8
 |0=>[]
 |s+1=>be (n / 256) s++ [UInt8.ofNat n]
theorem aQ (s:Nat):∀n,(be n s).length=s:=by
 induction s with
 |zero=>intro n;rfl
 |succ s ih=>intro n;simp[be,ih]
theorem rO (s:Nat):∀n,n<256 ^ s→cu (be n s)=n:=by
 induction s with
 |zero=>intro n h;simp at h;subst h;rfl
 |succ s ih=>
  intro n h
  rw[be,Cw,ih _ (by rw[Nat.pow_succ] at h;omega)]
  simp only[UInt8.toNat_ofNat']
  omega
def pU (n size k:Nat):List UInt8:=be (n / 256 ^ (size - k)) k
theorem Lm (n size k:Nat) (h:k<size):pU n size (k+1)=pU n size k++ [UInt8.ofNat (n / 256 ^ (size - 1 - k))]:=by
 unfold pU
 rw[be,Nat.div_div_eq_div_mul,←Nat.pow_succ]
 have h1:size - (k+1)+1=size - k:=by omega
 have h2:size - (k+1)=size - 1 - k:=by omega
 rw[Nat.succ_eq_add_one,h1,h2]
theorem OQ (n size:Nat):pU n size size=be n size:=by simp[pU]
theorem Qs (m:Nat):u8c (UInt8.ofNat m)= .int .u8 ((m:Int) % 256):=by
 unfold u8c
 rw[UInt8.toNat_ofNat']
 rfl
theorem Nj (n size k:Nat) (h:k<size):
 (pU n size (k+1)).map u8c=(pU n size k).map u8c++ [.int .u8 ((n:Int) / 2 ^ (8*(size - 1 - k)) % 256)]:=by
 rw[Lm n size k h,List.map_append,List.map_singleton,Qs]
 have :(256:Nat) ^ (size - 1 - k)=2 ^ (8*(size - 1 - k)):=by rw[Nat.pow_mul]
 rw[this]
 simp
theorem TA {a b:List UInt8} {k:Nat} (h:bAt a k=bAt b k):a.getD k 0=b.getD k 0:=by
 unfold bAt at h
 exact UInt8.toNat_inj.1 Xf
theorem take_same {a b:List UInt8} {k:Nat} (ha:k<a.length) (hb:k<b.length) (h:a.take k=b.take k) (he:bAt a k=bAt b k):a.take (k+1)=b.take (k+1):=by
 rw[uX a k ha,uX b k hb,h,TA he]
theorem NU {a b:List UInt8} {k:Nat} (h:bAt a k≠bAt b k):(a==b)=false:=by
 rw[beq_eq_false_iff_ne]
 rintro rfl
 exact h rfl
end
section
theorem qm (k a:Nat) (ha:a<2 ^ k):(BitVec.ofInt k (a:Int)).toNat=a:=by
 rw[BitVec.ofInt_natCast,BitVec.toNat_ofNat];exact Nat.mod_eq_of_lt ha
theorem u64_or (a b:Nat) (ha:a<2 ^ 64) (hb:b<2 ^ 64):bits .or .u64 (a:Int) (b:Int)=((a ||| b:Nat):Int):=by
 have hx:a ||| b<2 ^ 64:=Nat.or_lt_two_pow ha hb
 show IntKind.u64.wrap ((BitVec.ofInt 64 (a:Int) ||| BitVec.ofInt 64 (b:Int)).toNat:Int)=_
 rw[BitVec.toNat_or,qm 64 a ha,qm 64 b hb,IntKind.wrap_u64]
 omega
theorem Vv (x b:Nat) (hb:b<256):x*256 ||| b=x*256+b:=by
 rw[Nat.mul_comm,←Nat.two_pow_add_eq_or_of_lt (i:=8) hb x]
theorem IQ (x:Nat) (b:Int) (h0:0≤b) (hb:b<256) (hx:x<72057594037927936):bits .or .u64 ((x:Int)*256) b=(x:Int)*256+b:=by
 obtain⟨b,rfl⟩:=Int.eq_ofNat_of_zero_le h0
 have :=u64_or (x*256) b Xf Xf
 rw[Vv x b Xf] at this
 simpa using this
end
section
open Go.RowKit
theorem bC:eB Tryz.prog 43 5 (.int .u8 0) 1 1:=⟨Tryz.underlying43,by kernel_rfl,rfl,Xg,Xg⟩
def fK (w:World) (l:List UInt8) (e:Ending) (w':World):Prop:=∃v,e= .returned v∧Own w w' 5 1 v l.length (l.map u8c)
theorem J7 (A:Option Addr) (n c:Nat) (l:List UInt8) (w:World) (h:Bs w A n c l) (h1:1≤n) (h8:n≤8):
 Calls Tryz.prog 209 #[.slice A n c] w fun e w'=>e= .returned (.tuple #[.int .u64 (cu l),.int .i64 0])∧w=w':=by
 have hc:=h.cap
 have hm:=h.max
 have HL:=Xh h.len
 obtain⟨b,o,rfl,hcell⟩:=h.addr Xf
 have HC:=Xh hcell;clear hcell h
 have t1:((n:Int)==0)=false:=by simp;omega
 have t2:decide (8<(n:Int))=false:=by simp;omega
 go_in
 go_wp2
 clear t1 t2
 go_loop [2,16] (fun a i=>∃k:Nat,k≤n∧i= .int .i64 k∧a= .int .u64 (cu (l.take k))) (fun _ i=>n - (intOf i).toNat)
 case atStart=>exact⟨0,Nat.zero_le _,rfl,rfl⟩
 case round=>
  obtain⟨k,hk,rfl,rfl⟩:=hrel
  by_cases hlt:k<n
  · have hcell:=HC.out k hlt
    have hb:=Ig l k Xf
    have hb2:=VJ l k
    have hb3:=Vw l k
    have HS:=Xh (NK l k (by rw[HL.out];exact hlt))
    go_wp2
    go_round
    case rel=>exact⟨k+1,Xf,by go_num,by rw[HS.out,IQ _ _ hb2 hb3 hb]⟩
    case measure=>simp[intOf];omega
  · obtain rfl:k=n:=by omega
    go_wp2
    go_ret2
    refine⟨?_,rfl⟩
    show Ending.returned (.tuple #[.int .u64 (cu (l.take k)),.int .i64 0])=_
    rw[List.take_of_length_le (by rw[HL.out];omega)]
theorem Wn (A:Option Addr) (n c:Nat) (w:World) (hm:n≤9223372036854775807) (h:n<1∨8<n):
 Calls Tryz.prog 209 #[.slice A n c] w fun e w'=>e= .returned (.tuple #[.int .u64 0,.int .i64 4])∧w=w':=by
 rcases h with h|h
 · have t1:((n:Int)==0)=true:=by simp;omega
   go_in
   go_wp2
   go_ret2
   exact⟨rfl,rfl⟩
 · have t1:((n:Int)==0)=false:=by simp;omega
   have t2:decide (8<(n:Int))=true:=by simp;omega
   go_in
   go_wp2
   go_ret2
   exact⟨rfl,rfl⟩
theorem wG (n:Nat) (size:Nat) (w:World) (hn:n<18446744073709551616) (h1:1≤size) (h8:size≤8):
 Calls Tryz.prog 162 #[.int .u64 n,.int .i64 size] w (fK w (be n size)):=by
 have t1:decide ((size:Int)<1)=false:=by simp;omega
 have t2:decide (8<(size:Int))=false:=by simp;omega
 go_in
 go_wp2
 go_step3
 go_wp2
 go_step3
 go_wp2
 clear t1 t2
 go_loopw [4,5] (fun v i wr=>∃k:Nat,k≤size∧i= .int .i64 (size - 1 - k:Int)∧Own w wr 5 1 v k ((pU n size k).map u8c)) (fun _ i _=>(intOf i+1).toNat)
 case atStart=>exact⟨0,Nat.zero_le _,by go_num,Own.nil _ _ _⟩
 case round=>
  obtain⟨k,hk,rfl,hown⟩:=hrel
  by_cases hlt:k<size
  · go_wp2_with (at_builtin;refine jy rfl _ _ 43 rfl bC rfl hown #[_] rfl rfl (by intro u hu;simp at hu;subst hu;rfl) Xf ?_;intro v1 w1 hown1)
    go_roundw
    case rel=>
     exact⟨k+1,Xf,by go_num,by rw[Nj _ _ _ hlt];exact hown1⟩
    case measure=>simp[intOf];omega
  · obtain rfl:k=size:=by omega
    go_wp2
    rw[Exit.noGoto_ret]
    go_ret
    rw[OQ] at hown
    exact⟨_,rfl,by rw[aQ];exact hown⟩
theorem VH (n size:Int) (w:World) (h:size<1∨8<size):
 Calls Tryz.prog 162 #[.int .u64 n,.int .i64 size] w (fK w []):=by
 have fin:fK w [] (.returned (.slice none 0 0)) w:=⟨_,rfl,Own.nil _ _ _⟩
 rcases h with h|h
 · have t1:decide (size<1)=true:=by simpa using h
   go_in
   go_wp2
   go_step3
   go_wp2
   rw[Exit.noGoto_ret]
   go_ret
   exact fin
 · have t1:decide (size<1)=false:=by simp;omega
   have t2:decide (8<size)=true:=by simpa using h
   go_in
   go_wp2
   go_step3
   go_wp2
   rw[Exit.noGoto_ret]
   go_ret
   exact fin
theorem JK (A B:Option Addr) (n m c d:Nat) (a b:List UInt8) (w:World) (ha:Bs w A n c a) (hb:Bs w B m d b):
 Calls Tryz.prog 15 #[.slice A n c,.slice B m d] w fun e w'=>e= .returned (.bool (a==b))∧∃k,w'=w.drewN k:=by
 have hla:=ha.len
 have hlb:=hb.len
 have ma:=ha.max
 have mb:=hb.max
 have ca:=ha.cap
 have cb:=hb.cap
 by_cases hnm:n=m
 · subst hnm
   have HA:=Xh ha;have HB:=Xh hb;clear ha hb
   have HLA:=Xh hla;have HLB:=Xh hlb;clear hla hlb
   have t1:((n:Int) !=(n:Int))=false:=by simp
   go_in
   go_wp2
   clear t1
   go_loopw [5] (fun i wr=>∃k q:Nat,k≤n∧i= .int .i64 k∧wr=w.drewN q∧a.take k=b.take k) (fun i _=>n - (intOf i).toNat)
   case atStart=>exact⟨0,0,Nat.zero_le _,rfl,rfl,rfl⟩
   case round=>
    obtain⟨k,q,hk,rfl,rfl,hsame⟩:=hrel
    have HSM:=Xh hsame;clear hsame
    by_cases hlt:k<n
    · obtain⟨b1,o1,rfl,hc1⟩:=HA.out.addr Xf
      obtain⟨b2,o2,rfl,hc2⟩:=HB.out.addr Xf
      have c1:w.cell? ⟨b1,o1+k,none⟩=some _:=hc1 k hlt
      have c2:w.cell? ⟨b2,o2+k,none⟩=some _:=hc2 k hlt
      have HC1:=Xh hc1;have HC2:=Xh hc2;clear hc1 hc2
      by_cases he:bAt a k=bAt b k
      · have t1:(bAt a k !=bAt b k)=false:=by simp[he]
        have HE:=Xh he;clear he
        go_wp2
        go_quiet (fail)
        go_wp2
        go_roundw
        case rel=>exact⟨k+1,_,Xf,by go_num,rfl,take_same (by rw[HLA.out];exact hlt) (by rw[HLB.out];exact hlt) HSM.out HE.out⟩
        case measure=>simp[intOf];omega
      · have t1:(bAt a k !=bAt b k)=true:=by simpa using he
        have HE:=Xh (NU he);clear he
        go_wp2
        go_quiet (fail)
        go_wp2
        go_ret
        exact⟨bV HE.out.symm,_,World.drewN_drewN _ _ _⟩
    · obtain rfl:k=n:=by omega
      have HE:Hid ((a==b)=true):=by
       have h:=HSM.out
       rw[List.take_of_length_le (by rw[HLA.out];omega),List.take_of_length_le (by rw[HLB.out];omega)] at h
       exact beq_iff_eq.2 h
      go_wp2
      go_ret
      exact⟨bV HE.out.symm,_,rfl⟩
 · have t1:((n:Int) !=(m:Int))=true:=by rw[bne_iff_ne];omega
   have HE:Hid ((a==b)=false):=by
    apply beq_eq_false_iff_ne.2
    rintro rfl
    omega
   clear ha hb
   go_in
   go_wp2
   go_ret
   exact⟨bV HE.out.symm,0,rfl⟩
theorem C9 (A B:Option Addr) (n m c d:Nat) (a b:List UInt8) (w:World) (ha:Bs w A n c a) (hb:Bs w B m d b):
 Calls Tryz.prog 15 #[.slice A n c,.slice B m d] w fun e w'=>e= .returned (.bool (a==b))∧Below w.heap.size w w':=
 (JK A B n m c d a b w ha hb).mono fun _ _ ⟨he,k,hk⟩=>⟨he,by rw[hk];exact dG (Below.refl _ _) k⟩
def mV (n size:Int):List UInt8:=if 1≤size∧size≤8 then be n.toNat size.toNat else []
def u7 (l:List UInt8):Nat:=if 1≤l.length∧l.length≤8 then cu l else 0
def Ij (l:List UInt8):Int:=if 1≤l.length∧l.length≤8 then 0 else 4
theorem kV (n size:Int) (w:World) (h0:0≤n) (hn:n<18446744073709551616):Calls Tryz.prog 162 #[.int .u64 n,.int .i64 size] w (fK w (mV n size)):=by
 unfold mV
 by_cases h:1≤size∧size≤8
 · rw[if_pos h]
   obtain⟨n,rfl⟩:=Int.eq_ofNat_of_zero_le h0
   obtain⟨s,rfl⟩:=Int.eq_ofNat_of_zero_le (show 0≤size by omega)
   exact wG n s w Xf Xf Xf
 · rw[if_neg h]
   exact VH n size w Xf
theorem nN (A:Option Addr) (n c:Nat) (l:List UInt8) (w:World) (h:Bs w A n c l):
 Calls Tryz.prog 209 #[.slice A n c] w fun e w'=>e= .returned (.tuple #[.int .u64 (u7 l),.int .i64 (Ij l)])∧w=w':=by
 unfold u7 Ij
 rw[h.len]
 by_cases h1:1≤n∧n≤8
 · rw[if_pos h1,if_pos h1]
   exact J7 A n c l w h h1.1 h1.2
 · rw[if_neg h1,if_neg h1]
   exact Wn A n c w (by have :=h.max;have :=h.cap;omega) Xf
end
section
def gy (l:List UInt8) (size:Nat):List UInt8:=l.take size++List.replicate (size - l.length) 0
theorem iL (l:List UInt8) (size:Nat):(gy l size).length=size:=by simp[gy];omega
def qN (l:List UInt8) (size:Int):List UInt8:=if 1≤size∧size≤65536 then gy l size.toNat else []
def ED (l:List UInt8) (size k:Nat):List Value:=(l.take k).map u8c++dX (size - k) (.int .u8 0)
theorem OD (l:List UInt8) (size k:Nat) (h:k=min size l.length):ED l size k=(gy l size).map u8c:=by
 unfold ED gy dX
 rw[List.map_append,List.map_replicate]
 have e1:l.take k=l.take size:=by
  rw[h];by_cases hs:size≤l.length
  · rw[Nat.min_eq_left hs]
  · rw[Nat.min_eq_right Xf,List.take_of_length_le (Nat.le_refl _),List.take_of_length_le Xf]
 have e2:size - k=size - l.length:=by omega
 rw[e1,e2];rfl
end
section
open Go.RowKit
theorem cZ {P:Program} {src e dst:TypeId} (hs:P.underlying src=some (.slice e)) (he:P.underlying e=some (.int .u8)) (hd:P.underlying dst=some .string)
 {w:World} {A:Option Addr} {n c:Nat} {l:List UInt8} (h:Bs w A n c l):(convert src dst (.slice A n c)).run P w= .ok (.string ⟨l.toArray⟩) w:=by
 have hl:=h.len
 rcases Nat.eq_zero_or_pos n with hn|hn
 · subst hn
   obtain rfl:l=[]:=List.eq_nil_of_length_eq_zero hl
   rw[run_convert_bytes_string w src dst e _ 0 c hs he hd]
   cases A<;>simp[Conv.bytesToString,loadCells]<;>rfl
 · obtain⟨b,o,rfl,hc⟩:=h.addr hn
   have :=run_convert_bytes_arg (P:=P) w src e hs he b o n c (l.map fun x=>(x.toNat:Int)) (by simpa using hl) (fun i hi=>by
    rw[hc i hi];unfold bAt
    simp[List.getD_eq_getElem?_getD,List.getElem?_eq_getElem (show i<l.length by omega)]) dst hd
   rw[this]
   congr 2
   simp only[strOfNums,List.map_map]
   congr 2
   have :((fun n:Int=>UInt8.ofNat n.toNat)∘fun x:UInt8=>(x.toNat:Int))=id:=by funext x;simp
   rw[this,List.map_id]
theorem jM (A B:Option Addr) (n m c d:Nat) (a b:List UInt8) (w:World) (ha:Bs w A n c a) (hb:Bs w B m d b):
 Calls Tryz.prog 135 #[.slice A n c,.slice B m d] w fun e w'=>e= .returned (.bool (a==b))∧w=w':=by
 have h1:=cZ Tryz.underlying43 Tryz.underlying5 Tryz.underlying9 ha
 have h2:=cZ Tryz.underlying43 Tryz.underlying5 Tryz.underlying9 hb
 clear ha hb
 go_in
 go_wp2
 go_ret
 exact⟨bV rfl,rfl⟩
theorem TF (A:Option Addr) (n c:Nat) (l:List UInt8) (size:Nat) (w:World) (h:Bs w A n c l) (h1:1≤size) (h2:size≤65536):
 Calls Tryz.prog 136 #[.slice A n c,.int .i64 size] w (fK w (gy l size)):=by
 have t1:decide ((size:Int)<1)=false:=by simp;omega
 have t2:decide (65536<(size:Int))=false:=by simp;omega
 have hl:=h.len
 have HL:=Xh hl;clear hl
 obtain⟨cs,hcs⟩:∃cs,cs=(l.take size).map u8c:=⟨_,rfl⟩
 have HCS:=Xh hcs;clear hcs
 have hcl:cs.length=Nat.min n size:=by rw[HCS.out];simp[HL.out];exact Nat.min_comm _ _
 have HCL:=Xh hcl;clear hcl
 have HH:=Xh h;clear h
 have hmk:=fun w=>run_mk bC rfl size Xf w
 go_in
 go_wp2_with (with_reducible refine wpList_copy_splice rfl (.tmp 14) (.tmp 15) 43 43 rfl 5 Tryz.underlying43 Xe (some ⟨w.heap.size,0,none⟩) A size size n c rfl rfl w.heap.size 0 (dX size (.int .u8 0)) 5 ?_ cs HCL.out ?_ ?_ ?_ w.heap.size w ?_ (Nat.le_refl _) ?_)
 · exact heap_alloc_new w _
 · intro hpos
   obtain⟨b,o,rfl,hc⟩:=Sl.addr HH.out (by have :=HCL.out;have :Nat.min n size≤n:=Nat.min_le_left _ _;omega)
   refine⟨_,rfl,fun j v hv=> ?_⟩
   rw[HCS.out,List.map_take] at hv
   have hj:j<size:=by
    have :=(List.getElem?_eq_some_iff.1 hv).1
    simp at this;omega
   rw[List.getElem?_take_of_lt hj] at hv
   have h:=hc j v hv
   have he:(Addr.mk b o none).add j=⟨b,o+j,none⟩:=by unfold Addr.add;split<;>simp_all
   rw[he,World.cell?_alloc_lt _ _ _ (World.block_lt_of_cell? w _ h)]
   exact h
 · rw[qF,HCL.out];have :Nat.min n size≤size:=Nat.min_le_right _ _;omega
 · rw[HCS.out];intro v hv;obtain⟨x,_,rfl⟩:=List.mem_map.1 hv;rfl
 · exact (Below.refl _ _).alloc (Nat.le_refl _) _
 · intro w2 HG hB
   go_wp2
   go_ret
   have hblk:Blk w2 w.heap.size 5 (ED l size (min size n)):=by
    have h:=HG.out
    rw[HCS.out] at h
    unfold Blk ED
    have e:splice (dX size (.int .u8 0)) 0 ((l.take size).map u8c)=(l.take (min size n)).map u8c++dX (size - min size n) (.int .u8 0):=by
     unfold splice dX
     simp[HL.out]
    rw[e] at h
    exact h
   rw[OD l size _ (by rw[HL.out])] at hblk
   exact⟨_,rfl,by rw[iL];exact hblk.own (Nat.le_refl _) hB (by simp[iL]) (by simp only[maxLen];omega)⟩
theorem VI (A:Option Addr) (n c:Nat) (size:Int) (w:World) (h:size<1∨65536<size):
 Calls Tryz.prog 136 #[.slice A n c,.int .i64 size] w (fK w []):=by
 have fin:fK w [] (.returned (.slice none 0 0)) w:=⟨_,rfl,Own.nil _ _ _⟩
 rcases h with h|h
 · have t1:decide (size<1)=true:=by simpa using h
   go_in
   go_wp2
   go_ret
   exact fin
 · have t1:decide (size<1)=false:=by simp;omega
   have t2:decide (65536<size)=true:=by simpa using h
   go_in
   go_wp2
   go_ret
   exact fin
theorem nR (A:Option Addr) (n c:Nat) (l:List UInt8) (size:Int) (w:World) (h:Bs w A n c l):
 Calls Tryz.prog 136 #[.slice A n c,.int .i64 size] w (fK w (qN l size)):=by
 unfold qN
 by_cases h1:1≤size∧size≤65536
 · rw[if_pos h1]
   obtain⟨s,rfl⟩:=Int.eq_ofNat_of_zero_le (show 0≤size by omega)
   exact TF A n c l s w h Xf Xf
 · rw[if_neg h1]
   exact VI A n c size w Xf
end
end Go.Proofs.YtipdlnejmcmbbaaGreatDoor
