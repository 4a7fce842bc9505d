/- Own texts, one behind the other. No condition. -/
import Derived.Test.YtipdlnejmcmbbaaGreatDoorObPkAA
set_option linter.unusedVariables false
set_option maxRecDepth 100000
set_option maxHeartbeats 8000000
set_option linter.unusedSimpArgs false
namespace Go.Proofs.YtipdlnejmcmbbaaGreatDoor
section
open Go.RowKit
def Kept (w w':World) (v v':Value):Prop:=(∀b,b<w.heap.size→v.ownBlock≠some b→w'.heap[b]?=w.heap[b]?)∧w.heap.size≤w'.heap.size∧(v'.ownBlock=v.ownBlock∨v'.ownBlock=some w.heap.size)
theorem Bs.lt {w:World} {r:aj} (h:Bs w r.a r.n r.c r.l) (hn:0<r.n) (b o:Nat) (e:r.a=some ⟨b,o,none⟩):b<w.heap.size:=by
 obtain⟨h1,h2,h3,h4⟩:=h
 obtain⟨b',o',e',hc⟩:=h4 hn
 rw[e'] at e
 injection e with e
 injection e with e1 e2
 subst e1
 have hl:0<(r.l.map u8c).length:=by have :=h1;omega
 exact World.block_lt_of_cell? w _ (hc 0 _ (List.getElem?_eq_getElem hl))
theorem fO {P:Program} {o:Oper} {a:Act} {K:Act→World→Prop} {Q:Exit→Act→World→Prop} (s x:Operand) (t:TypeId)
 (ho:o.op= .call {callee:= .builtin .append,args:=#[s,x],argTypes:=#[t,t]})
 {e:TypeId} {z:Value} {size bytes:Nat} (ht:eB P t e z size bytes) {w0 w:World} {v:Value} {n:Nat} {xs:List Value} (hs:a.eval s=v) (hown:Own w0 w e size v n xs)
 (g c:Nat) (cs:List Value) (hx:a.eval x= .slice (some ⟨g,0,none⟩) 1 c) (hl:cs.length=size) (h1:∀u∈cs,u.oneCell'=true)
 (hc:∀j u,cs[j]?=some u→w.cell? ⟨g,j,none⟩=some u)
 (hroom:(n+1)*bytes≤140737488355328)
 (h:∀v' w',Own w0 w' e size v' (n+1) (xs++cs)→Kept w w' v v'→K (a.put o.dst v') w'):o.wp P a w K Q:=by
 obtain⟨i,hi,hz,hsz,hby⟩:=info_parts ht.info
 have hb1:n+1≤(n+1)*bytes:=Nat.le_mul_of_pos_right _ ht.bpos
 obtain⟨v',w',hrun,h2,h3,_,h5⟩:=run_append_own_at (P:=P) w w0.heap.size t o.type e i z size bytes ht.und hi hz hsz hby ht.cells ht.pos v n xs hown.1 ⟨g,0,none⟩ 1 c cs (by simp[hl])
  (fun j u hu=>by
   have he:(Addr.mk g 0 none).add j=⟨g,j,none⟩:=by unfold Addr.add;split<;>simp_all
   rw[he];exact hc j u hu) h1 (by simp only[maxLen];omega) hroom hown.2.size
 unfold Oper.wp execOp
 simp only[ho,resolve,invoke,builtin,Sem.run_bind,Sem.run_pure,Result.andThen_ok,List.map_toArray,List.map_cons,List.map_nil,hs,hx,hrun]
 refine h v' w' ⟨h2,hown.2.grown h3 hown.2.size (fun k hk=>(hown.1.lt k hk).1)⟩ ⟨fun b hb hne=> ?_,h3.size,h5⟩
 exact h3.block b hb (fun e=>hne e.symm)
theorem nW {P:Program} {ops:Array Oper} {rest:List Oper} {o:Oper} {a:Act} {Q:Exit→Act→World→Prop} (hgd:o.guard=none) (s x:Operand) (t:TypeId)
 (ho:o.op= .call {callee:= .builtin .append,args:=#[s,x],argTypes:=#[t,t]})
 {e:TypeId} {z:Value} {size bytes:Nat} (ht:eB P t e z size bytes) {w0 w:World} {v:Value} {n:Nat} {xs:List Value} (hs:a.eval s=v) (hown:Own w0 w e size v n xs)
 (cs:Array Value) (hx:a.eval x= .slice (some ⟨w.heap.size,0,none⟩) 1 1) (hl:cs.size=size) (h1:∀u∈cs.toList,u.oneCell'=true)
 (hroom:(n+1)*bytes≤140737488355328)
 (h:∀v' w',Own w0 w' e size v' (n+1) (xs++cs.toList)→Kept (w.alloc (.cells cs e)) w' v v'→wpList P ops Q rest (a.put o.dst v') w'):wpList P ops Q (o::rest) a (w.alloc (.cells cs e)):=
 wpList_plain hgd fun _ hK=>fO s x t ho ht hs (hown.alloc _) w.heap.size 1 cs.toList hx (by simpa using hl) h1 (fun j u hu=>by
  have hj:(w.alloc (.cells cs e)).heap[w.heap.size]?=some (.cells cs e):=heap_alloc_new w _
  simp only[World.cell?,hj]
  simpa using hu) hroom fun v' w' h2 h3=>hK _ _ (h v' w' h2 h3)
theorem Kept.refl (w:World) (v:Value):Kept w w v v:=⟨fun _ _ _=>rfl,Nat.le_refl _,.inl rfl⟩
theorem Kc {P:Program} {o:Oper} {a:Act} {K:Act→World→Prop} {Q:Exit→Act→World→Prop} (s x:Operand) (t:TypeId)
 (ho:o.op= .call {callee:= .builtin .append,args:=#[s,x],argTypes:=#[t,t]})
 {e:TypeId} {z:Value} {size bytes:Nat} (ht:eB P t e z size bytes) {w0 w:World} {v:Value} {n:Nat} {xs:List Value} (hs:a.eval s=v) (hown:Own w0 w e size v n xs)
 {A:Option Addr} {m c:Nat} {news:List Value} (hx:a.eval x= .slice A m c) (hsl:Sl w A m c size news) (h1:∀u∈news,u.oneCell'=true)
 (hroom:(n+m)*bytes≤140737488355328)
 (h:∀v' w',Own w0 w' e size v' (n+m) (xs++news)→Kept w w' v v'→K (a.put o.dst v') w'):o.wp P a w K Q:=by
 obtain⟨i,hi,hz,hsz,hby⟩:=info_parts ht.info
 have hb1:n+m≤(n+m)*bytes:=Nat.le_mul_of_pos_right _ ht.bpos
 have :∃v' w',(Builtin.append_ #[t,t] o.type #[v,.slice A m c]).run P w= .ok v' w'∧Own w0 w' e size v' (n+m) (xs++news)∧Kept w w' v v':=by
  rcases Nat.eq_zero_or_pos m with hm|hm
  · subst hm
    have hn:news=[]:=List.eq_nil_of_length_eq_zero (by simpa using hsl.1)
    subst hn
    exact⟨v,w,run_append_nothing w ht.und hi hown.1 A c,by simpa using hown,Kept.refl w v⟩
  · obtain⟨b,off,rfl,hc⟩:=hsl.addr hm
    obtain⟨v',w',hrun,h2,h3,_,h5⟩:=run_append_own_at (P:=P) w w0.heap.size t o.type e i z size bytes ht.und hi hz hsz hby ht.cells ht.pos v n xs hown.1 ⟨b,off,none⟩ m c news hsl.1
     (fun j u hu=>by
      have he:(Addr.mk b off none).add j=⟨b,off+j,none⟩:=by unfold Addr.add;split<;>simp_all
      rw[he];exact hc j u hu) h1 (by simp only[maxLen];omega) hroom hown.2.size
    exact⟨v',w',hrun,⟨h2,hown.2.grown h3 hown.2.size (fun k hk=>(hown.1.lt k hk).1)⟩,fun b hb hne=>h3.block b hb (fun e=>hne e.symm),h3.size,h5⟩
 obtain⟨v',w',hrun,h2,h3⟩:=this
 unfold Oper.wp execOp
 simp only[ho,resolve,invoke,builtin,Sem.run_bind,Sem.run_pure,Result.andThen_ok,List.map_toArray,List.map_cons,List.map_nil,hs,hx,hrun]
 exact h v' w' h2 h3
theorem qx {P:Program} {ops:Array Oper} {rest:List Oper} {o:Oper} {a:Act} {Q:Exit→Act→World→Prop} (hgd:o.guard=none) (s x:Operand) (t:TypeId)
 (ho:o.op= .call {callee:= .builtin .append,args:=#[s,x],argTypes:=#[t,t]})
 {e:TypeId} {z:Value} {size bytes:Nat} (ht:eB P t e z size bytes) {w0 w:World} {v:Value} {n:Nat} {xs:List Value} (hs:a.eval s=v) (hown:Own w0 w e size v n xs)
 {A:Option Addr} {m c:Nat} {news:List Value} (hx:a.eval x= .slice A m c) (hsl:Sl w A m c size news) (h1:∀u∈news,u.oneCell'=true)
 (hroom:(n+m)*bytes≤140737488355328)
 (h:∀v' w',Own w0 w' e size v' (n+m) (xs++news)→Kept w w' v v'→wpList P ops Q rest (a.put o.dst v') w'):wpList P ops Q (o::rest) a w:=
 wpList_plain hgd fun _ hK=>Kc s x t ho ht hs hown hx hsl h1 hroom fun v' w' h2 h3=>hK _ _ (h v' w' h2 h3)
end
end Go.Proofs.YtipdlnejmcmbbaaGreatDoor
