/- Own texts, one behind the other. No condition. -/
import Derived.Test.YtipdlnejmcmbbaaGreatDoorObPkAI
import Derived.Laws.MakeOwn
import Derived.WalkMore
import Derived.ScopeJumps
import Derived.Great.BuildSlice
import Derived.Deep.MidRow
import Derived.Laws.CopyRow
set_option linter.unusedVariables false
set_option maxRecDepth 100000
set_option maxHeartbeats 8000000
set_option linter.unusedSimpArgs false
namespace Go.Proofs.YtipdlnejmcmbbaaGreatDoor
section
open Go.RowKit
def tyM (t:TypeId):Prop:=t=87∨t=20∨t=3∨t=58∨t=304∨t=346
theorem Xi {p:Prop} (h:p:=by unfold tyM;decide):p:=h
def KQ (kb:Nat) (w w':World):Prop:=w.heap.size≤w'.heap.size∧∀(b:Nat) (a:Array Value) (t:TypeId) (m:Nat×Nat),w.heap[b]?=some (.cells a t m)→¬tyM t→(t=302→b≠kb)→w'.heap[b]?=some (.cells a t m)
section
variable {kb:Nat} {w w' w'':World}
theorem KQ.refl (w:World):KQ kb w w:=⟨Nat.le_refl _,fun _ _ _ _ h _ _=>h⟩
theorem KQ.trans (h:KQ kb w w') (k:KQ kb w' w''):KQ kb w w'':=⟨Nat.le_trans h.1 k.1,fun b a t m e h1 h2=>k.2 b a t m (h.2 b a t m e h1 h2) h1 h2⟩
theorem KQ.gr (g:Gr w w'):KQ kb w w':=⟨g.size,fun b a t m e _ _=>(g.block b (fV e)).trans e⟩
theorem KQ.blk (h:KQ kb w w') {b:Nat} {t:TypeId} {cs:List Value} (hb:Blk w b t cs) (h1:¬tyM t) (h2:t=302→b≠kb):Blk w' b t cs:=h.2 b _ t _ hb h1 h2
end
def tyB (t:TypeId):Prop:=t=5∨t=302
theorem tyB.no {t:TypeId} (h:tyB t):¬tyM t:=by
 rcases h with e|e<;>subst e<;>unfold tyM<;>decide
structure QB (kb:Nat) (w:World) (A:Option Addr) (n c:Nat) (l:List UInt8):Prop where
 b:Bs w A n c l
 u:∀b o,0<n→A=some ⟨b,o,none⟩→∃a t m,w.heap[b]?=some (.cells a t m)∧tyB t∧(t=302→b≠kb)
theorem QB.nil (kb:Nat) (w:World):QB kb w none 0 0 []:=⟨Sl.nil _ _,fun b o h=>absurd h Xf⟩
theorem QB.kq {kb:Nat} {w w':World} {A:Option Addr} {n c:Nat} {l:List UInt8} (h:QB kb w A n c l) (k:KQ kb w w'):QB kb w' A n c l:=by
 have hu:∀b o,0<n→A=some ⟨b,o,none⟩→w'.heap[b]?=w.heap[b]?:=fun b o h0 e=>by
  obtain⟨a,t,m,q,h1,h2⟩:=h.u b o h0 e
  exact (k.2 b a t m q h1.no h2).trans q.symm
 refine⟨⟨h.b.1,h.b.2.1,h.b.2.2.1,fun h0=> ?_⟩,fun b o h0 e=> ?_⟩
 · obtain⟨b,o,e,hc⟩:=h.b.2.2.2 h0
   exact⟨b,o,e,fun j x hx=>(World.cell?_of_block (w:=w) (a:=⟨b,o+j,none⟩) (hu b o h0 e)).trans (hc j x hx)⟩
 · obtain⟨a,t,m,q,h1,h2⟩:=h.u b o h0 e
   exact⟨a,t,m,k.2 b a t m q h1.no h2,h1,h2⟩
theorem QB.mono {kb:Nat} {w w':World} {A:Option Addr} {n c:Nat} {l:List UInt8} (h:QB kb w A n c l) (g:Gr w w'):QB kb w' A n c l:=h.kq (KQ.gr g)
theorem QB.own {kb:Nat} {w w':World} {A:Option Addr} {n c:Nat} {l:List UInt8} (h:Own w w' 5 1 (.slice A n c) n (l.map u8c)):QB kb w' A n c l:=by
 refine⟨?_,fun b o h0 e=> ?_⟩
 · obtain⟨A',c',hv,s⟩:=h.slice
   injection hv with h1 _ h3
   subst h1 h3
   exact s
 · obtain⟨g,cap,rest,hv,_,hk,_⟩:=h.opened h0
   injection hv with h1 _ _
   rw[h1] at e
   injection e with e
   injection e with e1 _
   subst e1
   exact⟨_,_,_,hk,.inl rfl,fun q=>absurd q Xg⟩
structure Dk where
 kept:List (List UInt8)
 pend:List (Nat×List UInt8)
 all:Nat
 fuse:Int
 calls:Nat
 down:Bool
def aZ (K:List (List UInt8)):List Value:=K.flatMap fun l=>l.map u8c
def bK (x:Nat×List UInt8):List Value:= .int .i64 (x.1:Int)::x.2.map u8c
structure DkM (w0 W:World) (dp kb:Nat) (vP vA:Value) (d:Dk):Prop where
 blk:Blk W dp 58 [.slice (some ⟨kb,0,none⟩) d.kept.length d.kept.length,vP,vA,.int .i64 d.fuse,.int .i64 (d.calls:Int),.bool d.down]
 kept:Blk W kb 302 (aZ d.kept)
 k512:∀l∈d.kept,l.length=512
 pend:Own w0 W 304 513 vP d.pend.length (d.pend.flatMap bK)
 p512:∀x∈d.pend,x.2.length=512∧x.1<d.kept.length
 all:∃xs,Own w0 W 346 2 vA d.all xs
 gd:w0.heap.size≤dp
 gk:w0.heap.size≤kb
def DkS (w0 W:World) (dp kb:Nat) (d:Dk):Prop:=∃vP vA,DkM w0 W dp kb vP vA d
section
variable {w0 W W':World} {dp kb:Nat} {vP vA:Value} {d:Dk}
theorem DkM.mono (h:DkM w0 W dp kb vP vA d) (g:Gr W W'):DkM w0 W' dp kb vP vA d:=by
 obtain⟨xs,ha⟩:=h.all
 exact⟨g.blk h.blk,g.blk h.kept,h.k512,h.pend.mono g,h.p512,⟨xs,ha.mono g⟩,h.gd,h.gk⟩
theorem DkS.mono (h:DkS w0 W dp kb d) (g:Gr W W'):DkS w0 W' dp kb d:=by
 obtain⟨vP,vA,h⟩:=h
 exact⟨vP,vA,h.mono g⟩
theorem DkM.below (h:DkM w0 W dp kb vP vA d):Below w0.heap.size w0 W:=h.pend.below
theorem DkM.ne (h:DkM w0 W dp kb vP vA d):dp≠kb:=by
 intro e
 have h1:=h.blk;have h2:=h.kept
 unfold Blk at h1 h2
 rw[e,h2] at h1
 injection h1 with h1
 injection h1 with _ h1 _
 exact absurd h1 Xg
end
theorem vW {K:List (List UInt8)} (h:∀l∈K,l.length=512):(aZ K).length=K.length*512:=by
 induction K with
 |nil=>rfl
 |cons x K ih=>
  unfold aZ at ih ⊢
  rw[List.flatMap_cons,List.length_append,List.length_map,h x List.mem_cons_self,ih (fun l hl=>h l (List.mem_cons_of_mem _ hl)),List.length_cons,Nat.add_mul]
  omega
theorem mR {x:Nat×List UInt8} (h:x.2.length=512):(bK x).length=513:=by unfold bK;rw[List.length_cons,List.length_map,h]
section
variable {w0 W W':World} {dp kb:Nat} {vP vA vP' vA':Value} {d d':Dk}
theorem KQ.kz {g bm:Nat} {es:Array MapEntry} {ck:Nat} (h:KZ g bm W W') (hm:W.heap[bm]?=some (.map es ck)):KQ kb W W':=⟨h.1,fun b a t m e ht _=>(h.2 b (fV e) (fun q=>by subst q;rw[hm] at e;cases e) (fun t' cs' k=>by
 have :t=t':=by
  unfold Blk at k
  rw[e] at k
  injection k with k
  injection k
 subst this
 exact⟨fun q=>ht (.inl q),fun q=>ht (.inr (.inl q)),fun q=>ht (.inr (.inr (.inl q)))⟩)).trans e⟩
theorem KQ.mp {bs:Nat} {es:Array MapEntry} {ck:Nat} (T:Tch (fun b=>b=bs) W W') (hm:W.heap[bs]?=some (.map es ck)):KQ kb W W':=⟨T.size,fun b a t m e _ _=>(T.keep b (fV e) (fun q=>by subst q;rw[hm] at e;cases e)).trans e⟩
theorem mq {w:World} {b:Nat} {a:Array Value} {t u:TypeId} {m:Nat×Nat} {cs:List Value} (e:w.heap[b]?=some (.cells a t m)) (k:Blk w b u cs):t=u:=by
 unfold Blk at k
 rw[e] at k
 injection k with k
 injection k
theorem KQ.td (h:DkM w0 W dp kb vP vA d) (c:dH W W' dp kb vP vA vP' vA'):KQ kb W W':=⟨c.size,fun b a t m e ht hb=>by
 refine (c.keep b (fV e) (fun q=> ?_) (fun q=> ?_) (fun q=> ?_) (fun q=> ?_)).trans e
 · subst q;exact ht (.inr (.inr (.inr (.inl (mq e h.blk)))))
 · subst q;exact hb (mq e h.kept) rfl
 · obtain⟨cs,k⟩:=h.pend.aA q
   exact ht (.inr (.inr (.inr (.inr (.inl (mq e k))))))
 · obtain⟨xs,ha⟩:=h.all
   obtain⟨cs,k⟩:=ha.aA q
   exact ht (.inr (.inr (.inr (.inr (.inr (mq e k))))))⟩
theorem DkM.kz {g bm:Nat} {es:Array MapEntry} {ck:Nat} (h:DkM w0 W dp kb vP vA d) (k:KZ g bm W W') (hm:W.heap[bm]?=some (.map es ck)) (hb:Below w0.heap.size w0 W'):DkM w0 W' dp kb vP vA d:=by
 obtain⟨xs,ha⟩:=h.all
 have st:∀b t cs,Blk W b t cs→t≠87→t≠20→t≠3→W'.heap[b]?=W.heap[b]?:=fun b t cs q h1 h2 h3=>k.2 b q.lt (fun x=>by subst x;unfold Blk at q;rw[hm] at q;cases q) (fun t' cs' k'=>by
  have :=bTy q k'
  subst this
  exact⟨h1,h2,h3⟩)
 refine⟨(st _ _ _ h.blk Xg Xg Xg).trans h.blk,(st _ _ _ h.kept Xg Xg Xg).trans h.kept,h.k512,h.pend.stay hb k.1 (fun b q=> ?_),h.p512,⟨xs,ha.stay hb k.1 (fun b q=> ?_)⟩,h.gd,h.gk⟩
 · obtain⟨cs,z⟩:=h.pend.aA q
   exact st _ _ _ z Xg Xg Xg
 · obtain⟨cs,z⟩:=ha.aA q
   exact st _ _ _ z Xg Xg Xg
theorem DkM.mp {bs:Nat} {es:Array MapEntry} {ck:Nat} (h:DkM w0 W dp kb vP vA d) (T:Tch (fun b=>b=bs) W W') (hm:W.heap[bs]?=some (.map es ck)) (hb:Below w0.heap.size w0 W'):DkM w0 W' dp kb vP vA d:=by
 obtain⟨xs,ha⟩:=h.all
 have st:∀b t cs,Blk W b t cs→W'.heap[b]?=W.heap[b]?:=fun b t cs q=>T.keep b q.lt (fun x=>by subst x;unfold Blk at q;rw[hm] at q;cases q)
 refine⟨(st _ _ _ h.blk).trans h.blk,(st _ _ _ h.kept).trans h.kept,h.k512,h.pend.stay hb T.size (fun b q=> ?_),h.p512,⟨xs,ha.stay hb T.size (fun b q=> ?_)⟩,h.gd,h.gk⟩
 · obtain⟨cs,z⟩:=h.pend.aA q;exact st _ _ _ z
 · obtain⟨cs,z⟩:=ha.aA q;exact st _ _ _ z
end
structure MS (w0:World) (p g bm bs dp kb:Nat) (T:List Nd) (S:List (List UInt8)) (d:Dk) (W:World):Prop where
 sy:bF w0 W p g bm bs T
 sm:eZ W bs S
 nb:bs≠bm
 ge:w0.heap.size≤bs
 dk:DkS w0 W dp kb d
section
variable {w0 W W':World} {p g bm bs dp kb:Nat} {T T':List Nd} {S S':List (List UInt8)} {d d':Dk}
theorem MS.mono (q:MS w0 p g bm bs dp kb T S d W) (h:Gr W W'):MS w0 p g bm bs dp kb T S d W':=⟨q.sy.gr h,q.sm.gr h,q.nb,q.ge,q.dk.mono h⟩
theorem MS.below (q:MS w0 p g bm bs dp kb T S d W):Below w0.heap.size w0 W:=q.sy.below
theorem MS.tab (q:MS w0 p g bm bs dp kb T S d W) (s:bF w0 W' p g bm bs T') (k:KZ g bm W W'):MS w0 p g bm bs dp kb T' S d W'∧KQ kb W W':=by
 obtain⟨es,ck,hm⟩:=q.sy.Mk
 obtain⟨vP,vA,hd⟩:=q.dk
 exact⟨⟨s,q.sm.kz q.nb k,q.nb,q.ge,vP,vA,hd.kz k hm s.below⟩,KQ.kz k hm⟩
theorem MS.sum (q:MS w0 p g bm bs dp kb T S d W) (s:eZ W' bs S') (k:Tch (fun b=>b=bs) W W'):MS w0 p g bm bs dp kb T S' d W'∧KQ kb W W':=by
 obtain⟨es,ck,hm⟩:=q.sm.map
 obtain⟨vP,vA,hd⟩:=q.dk
 have hS:∀b,b=bs→w0.heap.size≤b:=fun b h=>h▸q.ge
 have sy:bF w0 W' p g bm bs T:=q.sy.off k hS q.nb hm (fun b h=> .inr h)
 exact⟨⟨sy,s,q.nb,q.ge,vP,vA,hd.mp k hm sy.below⟩,KQ.mp k hm⟩
theorem MS.disk (q:MS w0 p g bm bs dp kb T S d W) {vP vA vP' vA':Value} (h:DkM w0 W dp kb vP vA d) (h':DkM w0 W' dp kb vP' vA' d') (c:dH W W' dp kb vP vA vP' vA'):MS w0 p g bm bs dp kb T S d' W'∧KQ kb W W':=by
 obtain⟨es,ck,hm⟩:=q.sm.map
 obtain⟨xs,ha⟩:=h.all
 have hb:=h'.below
 have tc:Tch (fun b=>b=dp∨b=kb∨vP.ownBlock=some b∨vA.ownBlock=some b) W W':=⟨gJ h.below hb c.size,fun b hl hn=>c.keep b hl (fun e=>hn (.inl e)) (fun e=>hn (.inr (.inl e))) (fun e=>hn (.inr (.inr (.inl e)))) (fun e=>hn (.inr (.inr (.inr e))))⟩
 have hS:∀b,(b=dp∨b=kb∨vP.ownBlock=some b∨vA.ownBlock=some b)→w0.heap.size≤b:=fun b hs=>by
  rcases hs with e|e|e|e
  · rw[e];exact h.gd
  · rw[e];exact h.gk
  · exact h.pend.ge e
  · exact ha.ge e
 have hbl:∀b,(b=dp∨b=kb∨vP.ownBlock=some b∨vA.ownBlock=some b)→∃t cs,Blk W b t cs∧t≠66∧t≠87∧t≠20∧t≠3:=fun b hs=>by
  rcases hs with e|e|e|e
  · rw[e];exact⟨_,_,h.blk,Xg,Xg,Xg,Xg⟩
  · rw[e];exact⟨_,_,h.kept,Xg,Xg,Xg,Xg⟩
  · obtain⟨cs,z⟩:=h.pend.aA e;exact⟨_,_,z,Xg,Xg,Xg,Xg⟩
  · obtain⟨cs,z⟩:=ha.aA e;exact⟨_,_,z,Xg,Xg,Xg,Xg⟩
 have nbs:¬(bs=dp∨bs=kb∨vP.ownBlock=some bs∨vA.ownBlock=some bs):=fun hs=>by
  obtain⟨t,cs,z,_⟩:=hbl bs hs
  exact q.sm.iV _ _ z
 exact⟨⟨q.sy.off tc hS q.nb hm (fun b hs=> .inl (hbl b hs)),q.sm.keep (tc.keep bs q.sm.lt nbs),q.nb,q.ge,vP',vA',h'⟩,KQ.td h c⟩
end
end
section
open Go.RowKit
structure Sec where
 kind:Nat
 life:Nat
 seq:Nat
 gen:Nat
 body:List UInt8
def Sec.right (place:Nat) (x:Sec):Bool:=decide (1≤x.kind) && decide (x.kind≤5) && decide (place≤1023) && decide (x.seq≤1073741824) && decide (x.body.length≤479)
def WB (place:Nat) (x:Sec):List UInt8:=be x.kind 1++be place 2++be x.life 8++be x.seq 4++be x.gen 8++be x.body.length 2
def ji (place:Nat) (x:Sec):List UInt8:=gy (WB place x++x.body) 504
theorem Gw (place:Nat) (x:Sec):(ji place x).length=504:=iL _ _
def encS (S:List (List UInt8)) (place:Nat) (x:Sec):List UInt8:=ji place x++jC (nU S (ji place x))
theorem Qw (S:List (List UInt8)) (place:Nat) (x:Sec):(encS S place x).length=512:=by unfold encS;rw[List.length_append,Gw,jf]
def aK:List UInt8:=List.replicate 512 0
def kH (b:List UInt8):Option Sec:=
 if cu ((b.drop 23).take 2) > 479 then none
 else some ⟨cu (b.take 1),cu ((b.drop 3).take 8),cu ((b.drop 11).take 4),cu ((b.drop 15).take 8),(b.drop 25).take (cu ((b.drop 23).take 2))⟩
def AV (S:List (List UInt8)) (place:Nat) (b:List UInt8):Nat ⊕ Sec:=
 if b=aK then .inl 7
 else match kH b with
  |none=> .inl 11
  |some x=>if x.right place=true∧ji place x=b.take 504∧mO S (b.take 504) (b.drop 504)=true then .inr x else .inl 11
theorem Nk {l:List UInt8} {n:Nat} (h:l.length≤n):gy l n=l++List.replicate (n - l.length) 0:=by
 unfold gy
 rw[List.take_of_length_le h]
end
section
open Go.RowKit
def Dk.new (n:Nat):Dk:=⟨List.replicate n aK,[],0, -1,0,false⟩
def Dk.bB (d:Dk):Dk×Int:=
 if d.fuse=0 then ({d with calls:=d.calls+1,down:=true},12)
 else if 0<d.fuse then ({d with calls:=d.calls+1,fuse:=d.fuse - 1},0)
 else ({d with calls:=d.calls+1},0)
def Dk.small (d:Dk):Prop:=d.calls≤1000000000000∧d.all≤1000000000∧d.pend.length≤1000000∧d.kept.length≤1024∧ -1≤d.fuse∧d.fuse≤9223372036854775807
section
variable {w0 w:World} {dp kb:Nat} {vP vA:Value} {d:Dk}
theorem DkM.c0 (h:DkM w0 w dp kb vP vA d):w.cell? ⟨dp,0,none⟩=some (.slice (some ⟨kb,0,none⟩) d.kept.length d.kept.length):=h.blk.cell 0
theorem DkM.c4 (h:DkM w0 w dp kb vP vA d):w.cell? ⟨dp,4,none⟩=some (.int .i64 (d.calls:Int)):=h.blk.cell 4
theorem DkM.c5 (h:DkM w0 w dp kb vP vA d):w.cell? ⟨dp,5,none⟩=some (.bool d.down):=h.blk.cell 5
theorem Gv (h:DkM w0 w dp kb vP vA d):Calls Tryz.prog 85 #[.pointer (some ⟨dp,0,none⟩)] w fun e w'=>e= .returned (.int .i64 (d.kept.length:Int))∧w=w':=by
 have c0:=h.c0
 clear h
 go_in
 go_wp2_with fail
 go_ret
 exact⟨rfl,rfl⟩
theorem nZ (h:DkM w0 w dp kb vP vA d):Calls Tryz.prog 245 #[.pointer (some ⟨dp,0,none⟩)] w fun e w'=>e= .returned (.bool d.down)∧w=w':=by
 have c5:=h.c5
 clear h
 go_in
 go_wp2_with fail
 go_ret
 exact⟨rfl,rfl⟩
theorem mX (h:DkM w0 w dp kb vP vA d) (place:Int):Calls Tryz.prog 246 #[.pointer (some ⟨dp,0,none⟩),.int .i64 place] w fun e w'=>e= .returned (.int .i64 (if 0≤place∧place<(d.kept.length:Int) then 0 else 2))∧w=w':=by
 have c0:=h.c0
 clear h
 obtain⟨n,hn⟩:∃n,n=d.kept.length:=⟨_,rfl⟩
 rw[←hn] at c0 ⊢
 clear hn
 by_cases h1:place<0
 · have t1:decide (place<0)=true:=decide_eq_true h1
   rw[if_neg Xf]
   go_in
   go_wp2_with fail
   go_ret
   exact⟨rfl,rfl⟩
 · have t1:decide (place<0)=false:=decide_eq_false h1
   by_cases h2:(n:Int)≤place
   · have t2:decide ((n:Int)≤place)=true:=decide_eq_true h2
     rw[if_neg Xf]
     go_in
     go_wp2_with fail
     go_ret
     exact⟨rfl,rfl⟩
   · have t2:decide ((n:Int)≤place)=false:=decide_eq_false h2
     rw[if_pos Xf]
     go_in
     go_wp2_with fail
     go_ret
     exact⟨rfl,rfl⟩
theorem DkM.turn {W':World} {fuse:Int} {calls:Nat} {down:Bool} (h:DkM w0 w dp kb vP vA d) (T:Tch (fun b=>b=dp) w W') (hb:Blk W' dp 58 [.slice (some ⟨kb,0,none⟩) d.kept.length d.kept.length,vP,vA,.int .i64 fuse,.int .i64 (calls:Int),.bool down]):
 DkM w0 W' dp kb vP vA {d with fuse:=fuse,calls:=calls,down:=down}:=by
 obtain⟨xs,ha⟩:=h.all
 have hS:∀b,b=dp→w0.heap.size≤b:=fun b e=>e▸h.gd
 have n1:=Own.iV h.pend h.blk Xg
 have n2:=Own.iV ha h.blk Xg
 exact⟨hb,h.kept.tch T (fun e=>h.ne e.symm),h.k512,h.pend.tch T hS (fun b q e=>n1 (by rw[q,e])),h.p512,⟨xs,ha.tch T hS (fun b q e=>n2 (by rw[q,e]))⟩,h.gd,h.gk⟩
theorem vQ (h:DkM w0 w dp kb vP vA d) (hs:d.small):Calls Tryz.prog 247 #[.pointer (some ⟨dp,0,none⟩)] w fun e w'=>e= .returned (.int .i64 d.bB.2)∧DkM w0 w' dp kb vP vA d.bB.1∧Tch (fun b=>b=dp) w w':=by
 obtain⟨hc,_,_,_,hf1,hf2⟩:=hs
 have c4:=h.c4
 have ff:=Blk.free h.blk 4
 have hw:IntKind.i64.wrap ((d.calls:Int)+1)=(d.calls:Int)+1:=IntWalk.i64_in _ Xf
 have T1:Hid (Tch (fun b=>b=dp) w (w.setCell ⟨dp,4,none⟩ (.int .i64 ((d.calls:Int)+1)))):=Tch.set ⟨dp,4,none⟩ _ rfl
 have B1:Hid (Blk (w.setCell ⟨dp,4,none⟩ (.int .i64 ((d.calls:Int)+1))) dp 58 [.slice (some ⟨kb,0,none⟩) d.kept.length d.kept.length,vP,vA,.int .i64 d.fuse,.int .i64 ((d.calls+1:Nat):Int),.bool d.down]):=by
  show Blk _ _ _ _
  rw[show ((d.calls+1:Nat):Int)=(d.calls:Int)+1 by omega]
  exact Blk.set h.blk 4 _
 have HH:=Xh h
 clear h
 by_cases h0:d.fuse=0
 · rw[show d.bB=({d with calls:=d.calls+1,down:=true},12) by unfold Dk.bB;rw[if_pos h0]]
   have t0:(d.fuse==0)=true:=by rw[beq_iff_eq];exact h0
   clear h0
   go_in
   go_upto_region 2 with fail
   obtain⟨w1,hw1⟩:∃w1,w1=w.setCell ⟨dp,4,none⟩ (.int .i64 ((d.calls:Int)+1)):=⟨_,rfl⟩
   rw[←hw1] at T1 B1 ⊢
   clear hw1 c4 ff hw
   have c3:w1.cell? ⟨dp,3,none⟩=some (.int .i64 d.fuse):=B1.out.cell 3
   have f5:=Blk.free B1.out 5
   have c5:w1.cell? ⟨dp,5,none⟩=some (.bool d.down):=B1.out.cell 5
   have T2:Hid (Tch (fun b=>b=dp) w (w1.setCell ⟨dp,5,none⟩ (.bool true))):=T1.out.trans (Tch.set ⟨dp,5,none⟩ _ rfl)
   have B2:Hid (Blk (w1.setCell ⟨dp,5,none⟩ (.bool true)) dp 58 [.slice (some ⟨kb,0,none⟩) d.kept.length d.kept.length,vP,vA,.int .i64 d.fuse,.int .i64 ((d.calls+1:Nat):Int),.bool true]):=Blk.set B1.out 5 _
   go_wp2_with fail
   go_ret
   exact⟨rfl,HH.out.turn T2.out B2.out,T2.out⟩
 · have t0:(d.fuse==0)=false:=by rw[beq_eq_false_iff_ne];exact h0
   by_cases h1:0<d.fuse
   · rw[show d.bB=({d with calls:=d.calls+1,fuse:=d.fuse - 1},0) by unfold Dk.bB;rw[if_neg h0,if_pos h1]]
     have t1:decide (0<d.fuse)=true:=decide_eq_true h1
     have hw3:IntKind.i64.wrap (d.fuse - 1)=d.fuse - 1:=IntWalk.i64_in _ Xf
     clear h0 h1
     go_in
     go_upto_region 2 with fail
     obtain⟨w1,hw1⟩:∃w1,w1=w.setCell ⟨dp,4,none⟩ (.int .i64 ((d.calls:Int)+1)):=⟨_,rfl⟩
     rw[←hw1] at T1 B1 ⊢
     clear hw1 c4 ff hw
     have c3:w1.cell? ⟨dp,3,none⟩=some (.int .i64 d.fuse):=B1.out.cell 3
     have f3:=Blk.free B1.out 3
     have T2:Hid (Tch (fun b=>b=dp) w (w1.setCell ⟨dp,3,none⟩ (.int .i64 (d.fuse - 1)))):=T1.out.trans (Tch.set ⟨dp,3,none⟩ _ rfl)
     have B2:Hid (Blk (w1.setCell ⟨dp,3,none⟩ (.int .i64 (d.fuse - 1))) dp 58 [.slice (some ⟨kb,0,none⟩) d.kept.length d.kept.length,vP,vA,.int .i64 (d.fuse - 1),.int .i64 ((d.calls+1:Nat):Int),.bool d.down]):=Blk.set B1.out 3 _
     go_wp2_with fail
     go_ret
     exact⟨rfl,HH.out.turn T2.out B2.out,T2.out⟩
   · rw[show d.bB=({d with calls:=d.calls+1},0) by unfold Dk.bB;rw[if_neg h0,if_neg h1]]
     have t1:decide (0<d.fuse)=false:=decide_eq_false h1
     clear h0 h1
     go_in
     go_upto_region 2 with fail
     obtain⟨w1,hw1⟩:∃w1,w1=w.setCell ⟨dp,4,none⟩ (.int .i64 ((d.calls:Int)+1)):=⟨_,rfl⟩
     rw[←hw1] at T1 B1 ⊢
     clear hw1 c4 ff hw
     have c3:w1.cell? ⟨dp,3,none⟩=some (.int .i64 d.fuse):=B1.out.cell 3
     go_wp2_with fail
     go_ret
     exact⟨rfl,HH.out.turn T1.out B1.out,T1.out⟩
end
theorem tZ:∀n,aZ (List.replicate n aK)=List.replicate (n*512) (Value.int .u8 0)
 |0=>by simp[aZ]
 |n+1=>by
  have ih:=tZ n
  unfold aZ at ih ⊢
  have hb:aK.map u8c=List.replicate 512 (Value.int .u8 0):=by unfold aK;rw[List.map_replicate];rfl
  rw[List.replicate_succ,List.flatMap_cons,ih,hb,List.replicate_append_replicate]
  congr 1
  omega
theorem Pf (n:Nat):madeCells (Array.replicate 512 (Value.int .u8 0)) (n*512)=(List.replicate (n*512) (Value.int .u8 0)).toArray:=by
 apply Array.ext
 · simp[madeCells]
 · intro j h1 h2
   simp only[madeCells,Array.getElem_map,Array.getElem_range,Array.size_replicate,List.getElem_toArray,List.getElem_replicate]
   rw[getElem!_pos _ _ (by rw[Array.size_replicate];exact Nat.mod_lt _ Xg),Array.getElem_replicate]
theorem Er (n:Nat) (hn:n≤1024) (W:World):(Instr.makeSlice 54 (.int .i64 (n:Int)) (.int .i64 (n:Int))).run Tryz.prog W= .ok (.slice (some ⟨W.heap.size,0,none⟩) n n) (W.alloc (.cells (aZ (List.replicate n aK)).toArray 302)):=by
 have hinfo:(Tryz.prog.info? 302).map (fun i=>(i.zero,i.size,i.bytes))=some (some (.agg (Array.replicate 512 (.int .u8 0))),512,512):=by kernel_rfl
 obtain⟨i,hi,hzz⟩:=Option.map_eq_some_iff.1 hinfo
 simp only[Prod.mk.injEq] at hzz
 obtain⟨hz,hsz,hby⟩:=hzz
 have k:=run_make (P:=Tryz.prog) W 54 302 i _ Tryz.underlying54 hi hz .i64 .i64 n n Xf (Int.le_refl _) (by rw[hby];omega) Xf
 rw[Int.toNat_natCast,hsz] at k
 have e:(Value.agg (Array.replicate 512 (.int .u8 0))).cells=Array.replicate 512 (.int .u8 0):=rfl
 rw[e,Pf,←tZ] at k
 exact k
theorem xQ (w0 w:World) (b0:Gr w0 w) (n:Nat) (h1:1≤n) (h2:n≤1024):Calls Tryz.prog 7 #[.int .i64 (n:Int)] w fun e w'=>∃dp kb vP vA,e= .returned (.tuple #[.pointer (some ⟨dp,0,none⟩),.int .i64 0])∧DkM w0 w' dp kb vP vA (Dk.new n)∧Gr w w'∧w.heap.size≤dp∧w.heap.size≤kb:=by
 have hmk:=Er n h2
 have t1:decide ((n:Int)<1)=false:=decide_eq_false Xf
 have t2:decide ((1024:Int)<(n:Int))=false:=decide_eq_false Xf
 obtain⟨Z,hZ⟩:∃Z,Z=(aZ (List.replicate n aK)).toArray:=⟨_,rfl⟩
 rw[←hZ] at hmk
 have HZ:=Xh hZ;have HB:=Xh b0
 clear hZ b0
 go_in
 go_wp2_with fail
 go_ret2
 have g1:Gr w (w.alloc (.cells Z 302)):=Gr.alloc _ _
 have g2:Gr (w.alloc (.cells Z 302)) ((w.alloc (.cells Z 302)).alloc (.cells #[.slice (some ⟨w.heap.size,0,none⟩) n n,.slice none 0 0,.slice none 0 0,.int .i64 (-1),.int .i64 0,.bool false] 58)):=Gr.alloc _ _
 have nl:∀(e:TypeId) (s:Nat),Own w0 ((w.alloc (.cells Z 302)).alloc (.cells #[.slice (some ⟨w.heap.size,0,none⟩) n n,.slice none 0 0,.slice none 0 0,.int .i64 (-1),.int .i64 0,.bool false] 58)) e s (.slice none 0 0) 0 []:=fun e s=>(Own.nil w0 e s).mono (HB.out.trans (g1.trans g2))
 refine⟨w.heap.size+1,w.heap.size,.slice none 0 0,.slice none 0 0,rfl,⟨?_,?_,fun l hl=> ?_,nl _ _,fun x hx=>(by cases hx),⟨_,nl _ _⟩,?_,?_⟩,g1.trans g2,Nat.le_succ _,Nat.le_refl _⟩
 · show Blk _ _ _ [.slice _ (List.replicate n aK).length (List.replicate n aK).length,_,_,_,_,_]
   rw[List.length_replicate]
   exact heap_alloc2_new w _ _
 · have k:=g2.blk (Blk.new w 302 Z)
   rw[HZ.out] at k ⊢
   exact k
 · have :=List.eq_of_mem_replicate hl
   rw[this];unfold aK;rw[List.length_replicate]
 · have :=HB.out.size;omega
 · exact HB.out.size
end
section
open Go.RowKit
def arr (l:List UInt8):Value:= .agg (l.map u8c).toArray
theorem Gu (l:List UInt8):(l.map u8c).toArray.size=l.length:=by simp
theorem KU (l:List UInt8):(l.map u8c).toArray.all (·.oneCell')=true:=by
 rw[List.all_toArray,List.all_eq_true]
 intro x hx
 obtain⟨y,_,rfl⟩:=List.mem_map.1 hx
 rfl
theorem bRb {B:Nat} {w0 w:World} {g:Nat} (h:Below B w0 w) (hg:B≤g) (cs:Array Value):Below B w0 (w.setRow g cs):=
 ⟨h.os,h.tape,h.output,by simpa [World.setRow] using h.size,fun k hk=>by
  have hne:g≠k:=by omega
  rw[←h.block k hk]
  simp[World.setRow,Array.getElem?_modify,hne]⟩
end
section
open Go.RowKit
theorem Kl (g:Nat) (w:World):(Instr.sliceAt 302 (.pointer (some ⟨g,0,none⟩)) none none none).run Tryz.prog w= .ok (.slice (some ⟨g,0,none⟩) 512 512) w:=by kernel_rfl
theorem QB.block {kb b:Nat} {w:World} {l:List UInt8} (h:Blk w b 302 (l.map u8c)) (h5:l.length=512) (hb:b≠kb):QB kb w (some ⟨b,0,none⟩) 512 512 l:=
 ⟨⟨by rw[List.length_map,h5],Nat.le_refl _,by unfold maxLen;omega,fun _=>⟨b,0,rfl,fun j x hx=>by rw[Nat.zero_add,h.cell];exact hx⟩⟩,fun b' o _ e=>by
   injection e with e
   injection e with e _
   subst e
   exact⟨_,_,_,h,.inr rfl,fun _=>hb⟩⟩
section
variable {w0 w:World} {dp kb:Nat} {vP vA:Value} {d:Dk}
theorem DkM.sec (h:DkM w0 w dp kb vP vA d) {place:Nat} {l:List UInt8} (hl:d.kept[place]?=some l):w.rangeAt kb (place*512) (l.map u8c)∧l.length=512:=by
 have hm:=List.mem_of_getElem? hl
 have h5:=h.k512 l hm
 refine⟨fun j v hv=> ?_,h5⟩
 have hj:j<512:=by have :=(List.getElem?_eq_some_iff.1 hv).1;rwa[List.length_map,h5] at this
 rw[h.kept.cell]
 have go:∀(K:List (List UInt8)) (place:Nat),(∀x∈K,x.length=512)→K[place]?=some l→(aZ K)[place*512+j]?=(l.map u8c)[j]?:=by
  intro K
  induction K with
  |nil=>intro place _ q;simp at q
  |cons x K ih=>
   intro place hk q
   have hx:(x.map u8c).length=512:=by rw[List.length_map];exact hk x List.mem_cons_self
   unfold aZ at ih ⊢
   rw[List.flatMap_cons]
   cases place with
   |zero=>
    simp at q
    subst q
    rw[Nat.zero_mul,Nat.zero_add,List.getElem?_append_left Xf]
   |succ p=>
    rw[List.getElem?_append_right (by rw[hx];omega),hx,show (p+1)*512+j - 512=p*512+j by omega]
    exact ih p (fun y hy=>hk y (List.mem_cons_of_mem _ hy)) (by simpa using q)
 rw[go d.kept place h.k512 hl]
 exact hv
theorem Gq (h:DkM w0 w dp kb vP vA d) (hs:d.small) (place:Nat) (l:List UInt8) (hl:d.kept[place]?=some l):
 Calls Tryz.prog 297 #[.pointer (some ⟨dp,0,none⟩),.int .i64 (place:Int)] w fun e w'=>∃A c,e= .returned (.slice A 512 c)∧QB kb w' A 512 c l∧Gr w w':=by
 have hp:place<d.kept.length:=(List.getElem?_eq_some_iff.1 hl).1
 have hk:=hs.2.2.2.1
 have HAS:=Xh (mX h (place:Int))
 rw[if_pos ⟨Xf,Xf⟩] at HAS
 have c0:=h.c0
 obtain⟨hr,h5⟩:=h.sec hl
 have HR:=Xh hr;have H5:=Xh h5
 have hkl:kb<w.heap.size:=h.kept.lt
 have hsz:(Tryz.prog.info? 302).map (·.size)=some (l.map u8c).length:=by rw[List.length_map,h5];kernel_rfl
 have HSZ:=Xh hsz
 obtain⟨n,hn⟩:∃n,n=d.kept.length:=⟨_,rfl⟩
 rw[←hn] at c0 hp hk
 clear h hr h5 hl hn hs hsz
 go_in
 go_wp2_with fail
 refine HAS.out.mono ?_
 rintro e w1 ⟨rfl,h1⟩
 rw[←h1]
 clear h1 w1
 have p0:(0:Int)≤(place:Int):=by omega
 have p1:(place:Int)<(n:Int):=by omega
 have AN:=Xh (heap_alloc_new w (.cells Tryz.zeroCells302 302))
 have HZ:Hid (Tryz.zeroCells302.size=(l.map u8c).toArray.size):=by
  show _=_
  rw[show (l.map u8c).toArray.size=512 by rw[List.size_toArray,List.length_map,H5.out]]
  kernel_rfl
 go_upto_region 4 with (first
  |(refine wpList_load_mid rfl 302 (.tmp 15) rfl kb (place*512) rfl (l.map u8c) _ HR.out Tryz.underlying302 rfl HSZ.out ?_)
  |(refine wpList_store_row rfl 302 (.tmp 5) (.tmp 16) rfl w.heap.size (l.map u8c).toArray rfl rfl 302 _ AN.out (by rw[List.size_toArray];exact HSZ.out) HZ.out (KU _) ?_))
 obtain⟨w1,hw1⟩:∃w1,w1=(w.alloc (.cells Tryz.zeroCells302 302)).setRow w.heap.size (l.map u8c).toArray:=⟨_,rfl⟩
 rw[←hw1]
 have hrun:=fun (W:World)=>Kl w.heap.size W
 go_wp2_with fail
 go_ret
 rw[←hw1]
 have b1:Blk w1 w.heap.size 302 (l.map u8c):=by rw[hw1];exact setRow_heap _ _ _ _ _ _ AN.out
 have g1:Gr w w1:=by
  have g0:Gr w (w.alloc (.cells Tryz.zeroCells302 302)):=Gr.alloc _ _
  rw[hw1];exact bRb g0 (Nat.le_refl _) _
 exact⟨_,_,rfl,QB.block b1 H5.out Xf,g1⟩
end
end
section
open Go.RowKit
theorem EY {P:Program} {o:Oper} {a:Act} {w:World} (ty:TypeId) (x:Operand) (ho:o.op= .load ty x) (b of:Nat) (hx:a.eval x= .pointer (some ⟨b,of,none⟩)) (cs:List Value) (d:TypeDesc) (hc:w.rangeAt b of cs)
 (hu:P.underlying ty=some d) (hd:d.isRow=true) (hi:(P.info? ty).map (·.size)=some cs.length):pLa P o a w (.agg cs.toArray):=by
 unfold pLa execOp
 simp only[ho,hx,Instr.loadAt,Instr.sureAddr,Sem.run_bind,Sem.run_pure,Result.andThen_ok,run_loadVar_mid w b of ty cs d hc hu hd hi]
 simp
end
end Go.Proofs.YtipdlnejmcmbbaaGreatDoor
