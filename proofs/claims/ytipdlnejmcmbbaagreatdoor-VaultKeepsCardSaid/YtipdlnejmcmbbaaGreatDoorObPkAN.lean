/- Own texts, one behind the other. No condition. -/
import Derived.Test.YtipdlnejmcmbbaaGreatDoorObPkAK
import Derived.Test.YtipdlnejmcmbbaaGreatDoorObPkAM
set_option linter.unusedVariables false
set_option maxRecDepth 100000
set_option maxHeartbeats 8000000
set_option linter.unusedSimpArgs false
namespace Go.Proofs.YtipdlnejmcmbbaaGreatDoor
section
open Go.RowKit Go.Shelf
attribute [local go_sem] Oper.semAt_some
theorem I6 (n:Nat) (hn:1≤n) (s t:ByteArray) (w:World):
 CallsIn Fence.wide n Tryz.prog 253 #[.string s,.string t,.int .i64 0] w fun e w'=>e= .returned (.func (.func 303) #[] #[.pointer (some ⟨w.heap.size+1,0,none⟩),.pointer (some ⟨w.heap.size,0,none⟩),.pointer (some ⟨w.heap.size+2,0,none⟩)])∧w'=((w.alloc (.cells #[.string s] 9)).alloc (.cells #[.string t] 9)).alloc (.cells #[.int .i64 0] 3):=by
 refine callsIn_of_wp Tryz.func253 rfl trivial ?_ rfl
 simp only[Tryz.ntmps253,List.size_toArray,List.length_cons,List.length_nil,Nat.reduceAdd,Nat.reduceSub,Array.replicate_succ,Array.replicate_zero,List.push_toArray,List.append_toArray,List.nil_append,List.cons_append]
 gi_wp2
 go_ret
 exact⟨rfl,rfl⟩
theorem JH (n:Nat) (hn:2≤n) (s t:ByteArray) (w:World):
 CallsIn Fence.wide n Tryz.prog 181 #[.string s,.string t] w fun e w'=>e= .returned (.func (.func 303) #[] #[.pointer (some ⟨w.heap.size+1,0,none⟩),.pointer (some ⟨w.heap.size,0,none⟩),.pointer (some ⟨w.heap.size+2,0,none⟩)])∧w'=((w.alloc (.cells #[.string s] 9)).alloc (.cells #[.string t] 9)).alloc (.cells #[.int .i64 0] 3):=by
 have H:=Xh (fun w=>I6 (n - 1) Xf s t w)
 have hn1:1≤n:=by omega
 refine callsIn_of_wp Tryz.func181 rfl trivial ?_ rfl
 simp only[Tryz.ntmps181,List.size_toArray,List.length_cons,List.length_nil,Nat.reduceAdd,Nat.reduceSub,Array.replicate_succ,Array.replicate_zero,List.push_toArray,List.append_toArray,List.nil_append,List.cons_append]
 gi_wp2_with (refine⟨trivial,?_⟩;gi_at_call 253;refine (H.out _).mono ?_;rintro e w6 ⟨rfl,rfl⟩)
 go_ret
 exact⟨rfl,rfl⟩
theorem U8.mono {w w':World} (h:U8 w) (g:Gr w w'):U8 w':=
 ⟨fun c hc=>(g.cell (p:=⟨_,c,none⟩) (World.block_lt_of_cell? w _ (h.1 c hc))).trans (h.1 c hc),
  fun i hi=>⟨(g.cell (p:=⟨_,2*i,none⟩) (World.block_lt_of_cell? w _ (h.2 i hi).1)).trans (h.2 i hi).1,(g.cell (p:=⟨_,2*i+1,none⟩) (World.block_lt_of_cell? w _ (h.2 i hi).2)).trans (h.2 i hi).2⟩⟩
theorem Blk.at {w:World} {g g':Nat} {t:TypeId} {cs:List Value} (h:Blk w g t cs) (e:g=g'):Blk w g' t cs:=e▸h
theorem mK {w W:World} (h:Gr w W) (q:Nat) (o:Obj) (hq:w.heap.size≤q):Gr w (W.putObj q o):=Below.grown h (grownBy_putObj' W q o) (Below.size h) (fun k e=>by cases e;exact hq)
theorem jB {w:World} {g q:Nat} {t:TypeId} {cs:List Value} (h:Blk w g t cs) (hne:g≠q) (o:Obj):Blk (w.putObj q o) g t cs:=(World.putObj_heap_other hne).trans h
theorem kL {W W':World} (h:Gr W W'):KeepsOthers W W':=⟨h.size,fun k o hk _=>(Below.block h k (Array.getElem?_eq_some_iff.1 hk).1).trans hk⟩
theorem oK {w W:World} (h:Gr w W) {b i:Nat} (hb:w.heap.size≤b) (v:Value):Gr w (W.setCell ⟨b,i,none⟩ v):=Below.setCell h (p:=⟨b,i,none⟩) hb v
theorem j6 {fn:Func} {p:Tmp} (h:fn.results=#[.cell p 4]) (tmps:Array Value) (w:World) (g:Nat) (v:Bool) (hp:tmps.getD p undef= .pointer (some ⟨g,0,none⟩)) (hc:w.cell? ⟨g,0,none⟩=some (.bool v)):
 (results fn tmps).run Tryz.prog w= .ok (.bool v) w:=by
 have hp':tmps[p]?.getD undef= .pointer (some ⟨g,0,none⟩):=by simpa using hp
 simp only[results,h]
 simp[hp',asAddr]
 go_simp
structure RI (w:World) (N:Nat) (pre:List (List UInt8)) (W:World):Prop where
 r:Blk W w.heap.size 4 [.bool false]
 p:Blk W (w.heap.size+1) 3 [.int .i64 (pre.length:Int)]
 q:Blk W (w.heap.size+1+1) 3 [.int .i64 (jJ pre:Int)]
 g:Gr w W
 s:N≤W.heap.size
 ok:pre.all iD=true
structure RX (w:World) (pre:List (List UInt8)) (W:World):Prop where
 r:Blk W w.heap.size 4 [.bool false]
 g:Gr w W
 no:pre.all iD=false
theorem NP (ps:List (List UInt8)) (p:List UInt8):jJ (ps++ [p])=jJ ps+((aS p).getD 0+1):=by simp[jJ]
theorem AZ:∀ps:List (List UInt8),ps.all iD=true→jJ ps≤9*ps.length
 | [],_=>by simp[jJ]
 |p::ps,h=>by
  rw[List.all_cons,Bool.and_eq_true] at h
  have ih:=AZ ps h.2
  have hp:=h.1
  unfold iD at hp
  unfold jJ at ih ⊢
  rw[List.map_cons,List.sum_cons,List.length_cons]
  cases hr:aS p with
  |none=>rw[hr] at hp;cases hp
  |some n=>
   rw[hr] at hp
   simp at hp ⊢
   omega
theorem eu (l:List UInt8) (w:World) (hl:l.length≤100000) (hT:U8 w):Calls Tryz.prog 104 #[.string ⟨l.toArray⟩] w fun e w'=>e= .returned (.bool (aB l))∧Gr w w':=by
 obtain⟨s,hs⟩:∃s:ByteArray,s=⟨l.toArray⟩:=⟨_,rfl⟩
 rw[←hs]
 have HS:=Xh hs;clear hs
 have HT:=Xh hT;clear hT
 obtain⟨b,hb⟩:∃b,b=aB l:=⟨_,rfl⟩
 rw[←hb]
 have HB:=Xh hb;clear hb
 have HLL:=Xh hl;clear hl
 refine (callsIn_wide (n:=6)).1 ?_
 refine callsIn_of_wp_marks Tryz.func104 rfl trivial ?_ rfl
 simp only[Tryz.ntmps104,List.size_toArray,List.length_cons,List.length_nil,Nat.reduceAdd,Nat.reduceSub,Array.replicate_succ,Array.replicate_zero,List.push_toArray,List.append_toArray,List.nil_append,List.cons_append]
 gi_wp2_with (first
  |(refine⟨trivial,?_⟩;gi_at_call 181;refine (JH _ Xf _ _ _).mono ?_;rintro e w6 ⟨rfl,rfl⟩)
  |fail)
 obtain⟨W0,hW0⟩:∃W0,W0=(((((w.alloc (Obj.cells #[Value.bool false] 4)).alloc (Obj.cells #[Value.int IntKind.i64 0] 3)).alloc (Obj.cells #[Value.int IntKind.i64 0] 3)).alloc (Obj.cells #[Value.string s] 9)).alloc (Obj.cells #[Value.string {data:=#[46]}] 9)).alloc (Obj.cells #[Value.int IntKind.i64 0] 3):=⟨_,rfl⟩
 have zW:W0.heap.size=w.heap.size+6:=by rw[hW0];simp
 have bR:Blk W0 w.heap.size 4 [.bool false]:=by
  rw[hW0]
  exact (((((Blk.new w 4 #[.bool false]).alloc _).alloc _).alloc _).alloc _).alloc _
 have bP:Blk W0 (w.heap.size+1) 3 [.int .i64 0]:=by
  rw[hW0]
  exact ((((((Blk.new (w.alloc (Obj.cells #[Value.bool false] 4)) 3 #[.int .i64 0]).alloc _).alloc _).alloc _).alloc _)).at (by simp)
 have bQ:Blk W0 (w.heap.size+1+1) 3 [.int .i64 0]:=by
  rw[hW0]
  exact (((((Blk.new ((w.alloc (Obj.cells #[Value.bool false] 4)).alloc (Obj.cells #[Value.int IntKind.i64 0] 3)) 3 #[.int .i64 0]).alloc _).alloc _).alloc _)).at (by simp)
 have bS:Blk W0 (w.heap.size+1+1+1) 9 [ak l]:=by
  have :ak l= .string s:=by unfold ak;rw[HS.out]
  rw[hW0,this]
  exact ((((Blk.new (((w.alloc (Obj.cells #[Value.bool false] 4)).alloc (Obj.cells #[Value.int IntKind.i64 0] 3)).alloc (Obj.cells #[Value.int IntKind.i64 0] 3)) 9 #[.string s]).alloc _).alloc _)).at (by simp)
 have bT:Blk W0 (w.heap.size+1+1+1+1) 9 [ak [46]]:=by
  rw[hW0]
  exact (((Blk.new ((((w.alloc (Obj.cells #[Value.bool false] 4)).alloc (Obj.cells #[Value.int IntKind.i64 0] 3)).alloc (Obj.cells #[Value.int IntKind.i64 0] 3)).alloc (Obj.cells #[Value.string s] 9)) 9 #[ak [46]]).alloc _)).at (by simp)
 have bN:Blk W0 (w.heap.size+1+1+1+2) 3 [.int .i64 0]:=by
  rw[hW0]
  exact ((Blk.new (((((w.alloc (Obj.cells #[Value.bool false] 4)).alloc (Obj.cells #[Value.int IntKind.i64 0] 3)).alloc (Obj.cells #[Value.int IntKind.i64 0] 3)).alloc (Obj.cells #[Value.string s] 9)).alloc (Obj.cells #[Value.string {data:=#[46]}] 9)) 3 #[.int .i64 0])).at (by simp)
 have g0:Gr w W0:=by
  rw[hW0]
  exact (((((Gr.alloc w _).trans (Gr.alloc _ _)).trans (Gr.alloc _ _)).trans (Gr.alloc _ _)).trans (Gr.alloc _ _)).trans (Gr.alloc _ _)
 rw[←hW0]
 clear hW0
 refine OJ Xf (gf:=303) (lb:=#[.pointer (some ⟨w.heap.size+1+1+1+1,0,none⟩),.pointer (some ⟨w.heap.size+1+1+1,0,none⟩),.pointer (some ⟨w.heap.size+1+1+1+2,0,none⟩)]) rfl (enters_of Tryz.func303 Xe rfl)
  ak (K3 (w.heap.size+1+1+1) (w.heap.size+1+1+1+1) (w.heap.size+1+1+1+2)) (fun _ _ _ h k=>K3.trans h k)
  (fun W q o hq c hc=>World.putObj_heap_other Xf)
  (fun xs=>xs=pcL l) (fun pre=>∃rest,pre++rest=pcL l) (w.heap.size+1+1+1) (fun pre x=>∃rest,pre++x::rest=pcL l)
  (fun q J Jx W gW hJs hY h0=>(PN 5 Xf q _ _ _ Xf Xf l HLL.out J Jx hJs hY W (gW.blk bS) (gW.blk bT) (gW.blk bN) h0).mono (fun e W' h=>⟨h.1,h.2.imp (fun k=>⟨_,rfl,k⟩) id⟩))
  (RI w W0.heap.size) (RX w)
  (fun s A o h=>⟨h.r.alloc o,h.p.alloc o,h.q.alloc o,h.g.trans (Gr.alloc _ _),Nat.le_trans h.s (Gr.alloc A o).size,h.ok⟩)
  (fun s A q o o' h hq _ _=>⟨jB h.r Xf _,jB h.p Xf _,jB h.q Xf _,mK h.g q o' Xf,by rw[World.putObj_size];exact h.s,h.ok⟩)
  (fun s A q o o' h hq _ _=>⟨jB h.r Xf _,mK h.g q o' Xf,h.no⟩)
  (fun s A v h=>⟨h.r.far (p:=⟨_,0,none⟩) (by show _≠_+1+1+1;omega) v,h.p.far (p:=⟨_,0,none⟩) (by simp) v,h.q.far (p:=⟨_,0,none⟩) (by simp) v,oK h.g Xf v,by have :=h.s;simp[World.setCell];exact this,h.ok⟩)
  ⟨bR,bP,bQ,g0,Nat.le_refl _,rfl⟩
  (fun x=>{tmps:=#[.string s,undef,.pointer (some ⟨w.heap.size,0,none⟩),.pointer (some ⟨w.heap.size+1,0,none⟩),.pointer (some ⟨w.heap.size+1+1,0,none⟩),ak x,.string s,
   .func (.func 303) #[] #[.pointer (some ⟨w.heap.size+1+1+1+1,0,none⟩),.pointer (some ⟨w.heap.size+1+1+1,0,none⟩),.pointer (some ⟨w.heap.size+1+1+1+2,0,none⟩)],
   ak x,undef,undef,undef,undef,undef,undef,undef,undef,undef,undef,undef,undef,undef,undef,undef,undef,undef],defers:=[]}) ?assign ?body ?done ?stop
 case assign=>
  intro q x W K hK
  gi_wp2
  exact hK
 case body=>
  rintro q pre x W hi ⟨rest,hr⟩
  have hmem:x∈pcL l:=by rw[←hr];simp
  have hxl:x.length≤100000:=Nat.le_trans ((kD l).2 x hmem) HLL.out
  have hpl:pre.length≤100001:=by
   have h:=(kD l).1
   rw[←hr] at h
   simp at h
   have :=HLL.out
   omega
  have hsum:=AZ pre hi.ok
  have HI:=Xh hi
  have HP:Hid (Calls Tryz.prog 182 #[ak x] W fun e w'=>e= .returned (.bool (iD x))∧Gr W w'):=RY x W Xf
  have HSN:=Xh (NP pre x)
  have hsz:=hi.s
  clear hr hmem hi
  cases hpx:iD x with
  |false=>
   have HA:Hid ((pre++ [x]).all iD=false):=by show _=_;rw[List.all_append];simp[hpx]
   rw[hpx] at HP
   clear hpx
   gi_wp2_with (refine⟨trivial,?_⟩;gi_at_call 182;refine (CallsIn.inRound q (callsIn_wide.2 HP.out)).mono ?_;rintro e W1 ⟨rfl,g1⟩;have bR1:=g1.blk HI.out.r;have x0:=bC0 bR1;have y0:=bR1.free 0;have z0:=bR1.lt)
   refine⟨(kL g1).trans (KeepsOthers.setCell _ _ _),bR1.set 0 (.bool false),oK (HI.out.g.trans g1) (Nat.le_refl _) _,HA.out⟩
  |true=>
   have HA:Hid ((pre++ [x]).all iD=true):=by show _=_;rw[List.all_append,HI.out.ok];simp[hpx]
   rw[hpx] at HP
   obtain⟨k,hk,hk8⟩:∃k,aS x=some k∧k≤8:=by
    unfold iD at hpx
    cases hr:aS x with
    |none=>rw[hr] at hpx;cases hpx
    |some k=>rw[hr] at hpx;simp at hpx;exact⟨k,rfl,hpx.2⟩
   have HC:Hid (∀W',Gr w W'→Calls Tryz.prog 183 #[ak x] W' fun e w'=>e= .returned (.int .i64 (k:Int))∧Gr W' w'):=fun W' g'=>EZ x k hk W' Xf (HT.out.mono g')
   have HK:=Xh hk
   clear hpx hk
   have wl:IntKind.i64.wrap ((pre.length:Int)+1)=(pre.length:Int)+1:=by rw[IntKind.wrap_i64];omega
   gi_wp2_with (refine⟨trivial,?_⟩;gi_at_call 182;refine (CallsIn.inRound q (callsIn_wide.2 HP.out)).mono ?_;rintro e W1 ⟨rfl,g1⟩;have bP1:=g1.blk HI.out.p;have x0:=bC0 bP1;have y0:=bP1.free 0;have z0:=bP1.lt)
   have bR1:=g1.blk HI.out.r
   have bQ1:=g1.blk HI.out.q
   have g01:Gr w W1:=HI.out.g.trans g1
   have kb:∀c,c<W0.heap.size→W1.heap[c]?=W.heap[c]?:=fun c hc=>Below.block g1 c Xf
   have ko:=kL g1
   clear x0 y0 z0 g1
   obtain⟨W2,hW2⟩:∃W2,W2=W1.setCell ⟨w.heap.size+1,0,none⟩ (.int .i64 ((pre.length:Int)+1)):=⟨_,rfl⟩
   have bR2:Blk W2 w.heap.size 4 [.bool false]:=by rw[hW2];exact bR1.far (p:=⟨_,0,none⟩) (by show _≠_+1;omega) _
   have bQ2:Blk W2 (w.heap.size+1+1) 3 [.int .i64 (jJ pre:Int)]:=by rw[hW2];exact bQ1.far (p:=⟨_,0,none⟩) (by show _≠_+1;omega) _
   have bP2:Blk W2 (w.heap.size+1) 3 [.int .i64 ((pre.length:Int)+1)]:=by rw[hW2];exact bP1.set 0 _
   have g2:Gr w W2:=by rw[hW2];exact oK g01 Xf _
   have ko2:KeepsOthers W W2:=by rw[hW2];exact ko.trans (KeepsOthers.setCell _ _ _)
   have kb2:∀c,c<W0.heap.size→c≠w.heap.size+1→W2.heap[c]?=W.heap[c]?:=fun c hc hn=>by rw[hW2,Below.heap_setCell _ ⟨_,0,none⟩ _ c hn];exact kb c hc
   have hs2:W0.heap.size≤W2.heap.size:=by have :=ko2.size;omega
   rw[←hW2]
   have BR2:=Xh bR2;have BQ2:=Xh bQ2;have BP2:=Xh bP2;have G2:=Xh g2;have KO2:=Xh ko2;have KB2:=Xh kb2
   have c2:=bC0 bQ2
   clear bR2 bQ2 bP2 g2 ko2 kb2 bR1 bQ1 bP1 g01 kb ko hW2
   have hmix:Tryz.prog.follows .mixedOrders=true:=by kernel_rfl
   have wk:IntKind.i64.wrap ((k:Int)+1)=(k:Int)+1:=by rw[IntKind.wrap_i64];omega
   have ws:IntKind.i64.wrap ((jJ pre:Int)+((k:Int)+1))=(jJ pre:Int)+((k:Int)+1):=by rw[IntKind.wrap_i64];omega
   gi_region_with_o (refine⟨trivial,?_⟩;gi_at_call 183;refine (CallsIn.inRound q (callsIn_wide.2 (HC.out _ (by first|exact G2.out|exact G2.out.trans (Gr.drew _))))).mono ?_;rintro e W3 ⟨rfl,g3⟩;have bQ3:=g3.blk (show Blk _ _ _ _ from BQ2.out);have x3:=bC0 bQ3;have y3:=bQ3.free 0;have z3:=bQ3.lt)
   all_goals
    have G3:Gr W2 W3:=(Gr.drew _).trans g3
    show KeepsOthers W _∧K3 _ _ _ W _∧RI w W0.heap.size (pre++ [x]) _
    refine⟨(KO2.out.trans (kL G3)).trans (KeepsOthers.setCell _ _ _),fun c hc=> ?_,?_⟩
    · have hc':c<W0.heap.size∧c≠w.heap.size+1∧c≠w.heap.size+1+1:=by rcases hc with rfl|rfl|rfl<;>omega
      rw[Below.heap_setCell _ ⟨_,0,none⟩ _ c hc'.2.2,Below.block G3 c Xf]
      exact KB2.out c hc'.1 hc'.2.1
    · have e1:(((pre++ [x]).length:Nat):Int)=(pre.length:Int)+1:=by simp
      have e2:((jJ (pre++ [x]):Nat):Int)=(jJ pre:Int)+((k:Int)+1):=by rw[HSN.out,HK.out];simp
      refine⟨(G3.blk BR2.out).far (p:=⟨_,0,none⟩) (by show _≠_+1+1;omega) _,?_,?_,oK (G2.out.trans G3) Xf _,by have :=G3.size;simp[World.setCell];omega,HA.out⟩
      · rw[e1];exact (G3.blk BP2.out).far (p:=⟨_,0,none⟩) (by show _≠_+1+1;omega) _
      · rw[e2];exact bQ3.set 0 _
 case done=>
  rintro D xs W hD rfl hi hKd
  have HI:=Xh hi
  have cR:=bC0 hi.r
  have fR:=hi.r.free 0
  have lR:=hi.r.lt
  have cP:=bC0 hi.p
  have cQ:=bC0 hi.q
  have hHB:b=(decide ((pcL l).length≤4) && decide (jJ (pcL l)≤25)):=by
   rw[HB.out]
   unfold aB
   rw[hi.ok];rfl
  have hps:=AZ _ hi.ok
  have hpl:(pcL l).length≤100001:=Nat.le_trans (kD l).1 (by have :=HLL.out;omega)
  clear hi
  have fin:∀v,(W.setCell ⟨w.heap.size,0,none⟩ v).heap[D]?=some (.deferred (some [])):=fun v=>(KeepsOthers.setCell W ⟨w.heap.size,0,none⟩ v).same _ _ hKd rfl
  have FIN:=Xh fin;clear fin
  have HGR:Hid (∀v,Gr w ((W.setCell ⟨w.heap.size,0,none⟩ v).putObj D (.deferred none))):=fun v=>mK (oK HI.out.g (Nat.le_refl _) v) D _ Xf
  have HRB:Hid (∀v,Blk ((W.setCell ⟨w.heap.size,0,none⟩ v).putObj D (.deferred none)) w.heap.size 4 [v]):=fun v=>jB (HI.out.r.set 0 v) Xf _
  have HBB:=Xh hHB;clear hHB
  obtain⟨N,hN⟩:∃N,N=(pcL l).length:=⟨_,rfl⟩
  obtain⟨M,hM⟩:∃M,M=jJ (pcL l):=⟨_,rfl⟩
  rw[←hN] at cP hpl hps HBB
  rw[←hM] at cQ hps HBB
  clear hN hM hKd
  have wm:IntKind.i64.wrap ((M:Int) - 1)=(M:Int) - 1:=by rw[IntKind.wrap_i64];omega
  by_cases h4:N≤4
  · have t4:decide ((N:Int)≤4)=true:=decide_eq_true Xf
    have HF:Hid (b=decide ((M:Int) - 1≤24)):=by show _=_;rw[HBB.out,decide_eq_true h4,Bool.true_and];exact decide_eq_decide.2 Xf
    gi_wp2
    refine⟨by simp,.inl ⟨_,_,rfl,run_takeDeferred (FIN.out _),?_⟩⟩
    rw[←HF.out]
    exact⟨_,j6 rfl _ _ w.heap.size b rfl (bC0 (HRB.out _)),rfl,HGR.out _⟩
  · have t4:decide ((N:Int)≤4)=false:=decide_eq_false Xf
    have HF:Hid (b=false):=by show _=_;rw[HBB.out,decide_eq_false h4];rfl
    gi_wp2
    refine⟨by simp,.inl ⟨_,_,rfl,run_takeDeferred (FIN.out _),?_⟩⟩
    rw[HF.out]
    exact⟨_,j6 rfl _ _ w.heap.size false rfl (bC0 (HRB.out _)),rfl,HGR.out _⟩
 case stop=>
  rintro D pre W hD ⟨rest,hr⟩ hx hKd
  have HF:Hid (b=false):=by
   show _=_
   rw[HB.out]
   unfold aB
   have :(pcL l).all iD=false:=by rw[←hr,List.all_append,hx.no];rfl
   rw[this];rfl
  gi_wp2
  refine⟨by simp,.inl ⟨_,_,rfl,run_takeDeferred hKd,?_⟩⟩
  rw[HF.out]
  exact⟨_,j6 rfl _ _ w.heap.size false rfl (bC0 (jB hx.r Xf _)),rfl,mK hx.g D _ Xf⟩
end
section
open Go.RowKit Go.Shelf
attribute [local go_sem] Oper.semAt_some
theorem Lj {P:Program} {g:Operand} {ps:Array Tmp} {assign body:Code} {Q:Exit→Act→World→Prop} {a:Act} {w:World} {n:Nat} (h1:1≤n)
 {gf:Nat} {lb:Array Value} (hg:a.eval g= .func (.func gf) #[] lb) (eg:∀args w,(callFunc gf args).run P w= .ok (.enter gf args) w)
 (hseq:∀(q:Nat) (W:World),Gr w W→CallsIn Fence.wide (n - 1) P gf (#[.func (.yield q) #[] #[]]++lb) W fun e W'=>(∃v,e= .returned v)∧Gr W W')
 (hdone:∀(D:Nat) (W:World),w.heap.size≤D→Gr w W→W.heap[D]?=some (.deferred (some []))→Q .normal {a with defers:={target:= .collected D,args:=#[]}::a.defers} W):
 (Code.rangeFunc g ps assign body).wpIn Fence.wide n P Q a w:=by
 refine wpIn_rangeFunc fun fn hfn=> ?_
 rw[show Fence.wide.round=none from rfl]
 obtain⟨L,hL⟩:∃L,L=w.heap.size:=⟨_,rfl⟩
 obtain⟨rc,hrc⟩:∃rc:LoopState→Option Code→Loop,rc=fun st pe=>{state:=st,pending:=pe,fn,tmps:=a.tmps,params:=ps,assign,body,defers:=L}:=⟨_,rfl⟩
 obtain⟨W1,hW1⟩:∃W1,W1=(w.alloc (.deferred (some []))).alloc (.loop (rc .ready none)):=⟨_,rfl⟩
 have lay:Laid L (rc .ready none) W1:=by
  refine⟨?_,?_⟩
  · rw[hW1,hL]
    have :=World.alloc_heap_new (w.alloc (.deferred (some []))) (.loop (rc .ready none))
    rwa[World.size_alloc] at this
  · rw[hW1,hL]
    exact (Below.heap_alloc _ _ _ (by simp)).trans (World.alloc_heap_new w _)
 have gW1:Gr w W1:=by rw[hW1];exact (Gr.alloc w _).trans (Gr.alloc _ _)
 have call:=hseq (L+1) W1 gW1
 refine⟨L+1,[{target:= .collected L,args:=#[]}],W1,{target:= .fn (.func gf) lb,args:=#[.func (.yield (L+1)) #[] #[]]},W1,gf,
  #[.func (.yield (L+1)) #[] #[]]++lb,W1,?_,?_,?_,?_,?_,?_⟩
 · rw[hW1,hrc,hL];exact run_enterLoop_outer _ _ _ _ _
 · simp only[resolve,hg]
   simp[go_sem]
 · exact fun _ _=>trivial
 · simp[invoke,go_sem,eg]
 · exact fun _=>h1
 · refine call.mono ?_
   rintro e W2 ⟨⟨v,rfl⟩,g2⟩
   have hl:=lay.keep (kL g2)
   refine⟨none,W2.putObj (L+1) (.loop {rc .ready none with state:= .exhausted}),?_,hdone L _ Xf (mK (gW1.trans g2) _ _ Xf) ((World.putObj_heap_other Xf).trans hl.defer)⟩
   have :=run_endLoop (P:=P) hl.loop (by rw[hrc];simp)
   rw[hrc] at this ⊢
   exact this
end
section
open Go.RowKit Go.Shelf
attribute [local go_sem] Oper.semAt_some
theorem QB.keep {kb:Nat} {w w':World} {A:Option Addr} {n c:Nat} {l:List UInt8} (h:QB kb w A n c l) (hk:∀b o a t m,0<n→A=some ⟨b,o,none⟩→w.heap[b]?=some (.cells a t m)→w'.heap[b]?=w.heap[b]?):QB kb w' A n c l:=by
 have hu:∀b o,0<n→A=some ⟨b,o,none⟩→w'.heap[b]?=w.heap[b]?:=fun b o h0 e=>by
  obtain⟨a,t,m,q,_,_⟩:=h.u b o h0 e
  exact hk b o a t m h0 e q
 refine⟨h.b.stay (fun b o h0 e=>hu b o h0 e),fun b o h0 e=> ?_⟩
 obtain⟨a,t,m,q,h1,h2⟩:=h.u b o h0 e
 exact⟨a,t,m,(hu b o h0 e).trans q,h1,h2⟩
theorem QB.put {kb:Nat} {w:World} {A:Option Addr} {n c:Nat} {l:List UInt8} (h:QB kb w A n c l) {D:Nat} {o:Obj} (hD:w.heap[D]?=some o) (ho:o.isCells=false) (o':Obj):QB kb (w.putObj D o') A n c l:=
 h.keep fun b of a t m _ _ e=>World.putObj_heap_other (fun q=>by rw[q,hD] at e;injection e with e;rw[e] at ho;cases ho)
theorem QB.tch {kb:Nat} {S:Nat→Prop} {w w':World} {A:Option Addr} {n c:Nat} {l:List UInt8} (h:QB kb w A n c l) (T:Tch S w w') (hS:∀b,S b→∃t cs,Blk w b t cs∧∀u∈cs,∀x:UInt8,u≠u8c x):QB kb w' A n c l:=by
 refine h.keep fun b o a t m h0 e q=>T.keep b (fV q) (fun hs=> ?_)
 obtain⟨t',cs,hb,hc⟩:=hS b hs
 exact Sl.iV h.b Xg hb (fun u hu x hx=>by
  rw[List.getElem?_map] at hx
  cases hl:l[0]? with
  |none=>rw[hl] at hx;cases hx
  |some y=>rw[hl] at hx;have :u8c y=x:=by simpa using hx
           rw[←this];exact hc u hu y) h0 e rfl
theorem QB.gK {kb:Nat} {S:Nat→Prop} {w w':World} {A:Option Addr} {n c:Nat} {l:List UInt8} (h:QB kb w A n c l) (T:Tch S w w') (hS:∀b,S b→∃t cs,Blk w b t cs∧¬tyB t):QB kb w' A n c l:=by
 refine h.keep fun b o a t m h0 e q=>T.keep b (fV q) (fun hs=> ?_)
 obtain⟨t',cs,hb,hc⟩:=hS b hs
 obtain⟨a2,t2,m2,q2,h1,_⟩:=h.u b o h0 e
 rw[mq q2 hb] at h1
 exact hc h1
section
variable {w0 w:World} {dp kb:Nat} {vP vA:Value} {d:Dk}
theorem JI (n:Nat) (hn:1≤n) (q Bs:Nat) (W:World) (A:Option Addr) (c:Nat) (h:Blk W Bs 55 [.slice A 0 c]):
 CallsIn Fence.wide n Tryz.prog 324 #[.func (.yield q) #[] #[],.pointer (some ⟨Bs,0,none⟩)] W fun e W'=>(∃v,e= .returned v)∧Gr W W':=by
 have c0:=bC0 h
 have HH:=Xh h
 clear h
 refine callsIn_of_wp Tryz.func324 rfl trivial ?_ rfl
 simp only[Tryz.ntmps324,List.size_toArray,List.length_cons,List.length_nil,Nat.reduceAdd,Nat.reduceSub,Array.replicate_succ,Array.replicate_zero,List.push_toArray,List.append_toArray,List.nil_append,List.cons_append]
 gi_wp2
 refine wpIn_loop_once ?_
 gi_wp2
 go_end0
 exact⟨⟨_,rfl⟩,Gr.refl _⟩
theorem Gz (W:World) (A:Option Addr) (n c:Nat):Calls Tryz.prog 296 #[.slice A n c] W fun e W'=>e= .returned (.func (.func 324) #[] #[.pointer (some ⟨W.heap.size,0,none⟩)])∧W'=W.alloc (.cells #[.slice A n c] 55):=by
 have hmf:∀(fn:Fn) (first cap:Array Value) (w:World),(Instr.makeFunc fn first cap).run Tryz.prog w= .ok (.func fn first cap) w:=fun _ _ _ _=>rfl
 go_in
 go_wp2_with fail
 go_ret
 exact⟨rfl,rfl⟩
theorem Jb {fn:Func} {p u:Tmp} (h:fn.results=#[.cell p 43,.cell u 29]) (tmps:Array Value) (w:World) (g g':Nat) (A:Option Addr) (n c:Nat) (q:Int) (hp:tmps.getD p undef= .pointer (some ⟨g,0,none⟩)) (hu:tmps.getD u undef= .pointer (some ⟨g',0,none⟩)) (hc:w.cell? ⟨g,0,none⟩=some (.slice A n c)) (hd:w.cell? ⟨g',0,none⟩=some (.int .i64 q)):
 (results fn tmps).run Tryz.prog w= .ok (.tuple #[.slice A n c,.int .i64 q]) w:=by
 have hp':tmps[p]?.getD undef= .pointer (some ⟨g,0,none⟩):=by simpa using hp
 have hu':tmps[u]?.getD undef= .pointer (some ⟨g',0,none⟩):=by simpa using hu
 simp only[results,h]
 simp[Sem.run_bind,hp',hu',asAddr]
 go_simp
theorem Ii (h:DkM w0 w dp kb vP vA d) (hs:d.small) (hd:d.down=false) (hpn:d.pend=[]) (place:Nat) (l:List UInt8) (hl:d.kept[place]?=some l):
 Calls Tryz.prog 236 #[.pointer (some ⟨dp,0,none⟩),.int .i64 (place:Int)] w fun e w'=>∃A c,e= .returned (.tuple #[.slice A 512 c,.int .i64 0])∧QB kb w' A 512 c l∧Gr w w':=by
 have hp:place<d.kept.length:=(List.getElem?_eq_some_iff.1 hl).1
 have HDN:Hid (∀wr,Gr w wr→Calls Tryz.prog 245 #[.pointer (some ⟨dp,0,none⟩)] wr fun e w'=>e= .returned (.bool false)∧wr=w'):=fun wr g=>by have :=nZ (h.mono g);rwa[hd] at this
 have HAS:Hid (∀wr,Gr w wr→Calls Tryz.prog 246 #[.pointer (some ⟨dp,0,none⟩),.int .i64 (place:Int)] wr fun e w'=>e= .returned (.int .i64 0)∧wr=w'):=fun wr g=>by have :=mX (h.mono g) (place:Int);rwa[if_pos ⟨Xf,Xf⟩] at this
 have HKP:Hid (∀wr,Gr w wr→Calls Tryz.prog 297 #[.pointer (some ⟨dp,0,none⟩),.int .i64 (place:Int)] wr fun e w'=>∃A c,e= .returned (.slice A 512 c)∧QB kb w' A 512 c l∧Gr wr w'):=fun wr g=>Gq (h.mono g) hs place l hl
 have HH:=Xh h
 obtain⟨A,c,hv,_⟩:=h.pend.slice
 rw[hpn] at hv
 subst hv
 have C1:Hid (∀wr,Gr w wr→wr.cell? ⟨dp,1,none⟩=some (.slice A 0 c)):=fun wr g=>(g.blk HH.out.blk).cell 1
 clear h hs hd hpn hl hp
 refine (callsIn_wide (n:=6)).1 ?_
 refine callsIn_of_wp_marks Tryz.func236 rfl trivial ?_ rfl
 simp only[Tryz.ntmps236,List.size_toArray,List.length_cons,List.length_nil,Nat.reduceAdd,Nat.reduceSub,Array.replicate_succ,Array.replicate_zero,List.push_toArray,List.append_toArray,List.nil_append,List.cons_append]
 refine wpIn_wide.2 ?_
 go_upto_region 1 with fail
 have g0:Gr w (((w.alloc (.cells #[.int .i64 (place:Int)] 3)).alloc (.cells #[.slice none 0 0] 43)).alloc (.cells #[.int .i64 0] 29)):=((Gr.alloc w _).trans (Gr.alloc _ _)).trans (Gr.alloc _ _)
 have b3:Blk (((w.alloc (.cells #[.int .i64 (place:Int)] 3)).alloc (.cells #[.slice none 0 0] 43)).alloc (.cells #[.int .i64 0] 29)) w.heap.size 3 [.int .i64 (place:Int)]:=((Blk.new w 3 #[.int .i64 (place:Int)]).alloc _).alloc _
 have b4:Blk (((w.alloc (.cells #[.int .i64 (place:Int)] 3)).alloc (.cells #[.slice none 0 0] 43)).alloc (.cells #[.int .i64 0] 29)) (w.heap.size+1) 43 [.slice none 0 0]:=by
  have :=(Blk.new (w.alloc (.cells #[.int .i64 (place:Int)] 3)) 43 #[.slice none 0 0]).alloc (.cells #[.int .i64 0] 29)
  rwa[World.size_alloc] at this
 have b5:Blk (((w.alloc (.cells #[.int .i64 (place:Int)] 3)).alloc (.cells #[.slice none 0 0] 43)).alloc (.cells #[.int .i64 0] 29)) (w.heap.size+1+1) 29 [.int .i64 0]:=by
  have :=Blk.new ((w.alloc (.cells #[.int .i64 (place:Int)] 3)).alloc (.cells #[.slice none 0 0] 43)) 29 #[.int .i64 0]
  rwa[World.size_alloc,World.size_alloc] at this
 obtain⟨W0,hW0⟩:∃W0,W0=(((w.alloc (.cells #[.int .i64 (place:Int)] 3)).alloc (.cells #[.slice none 0 0] 43)).alloc (.cells #[.int .i64 0] 29)):=⟨_,rfl⟩
 rw[←hW0] at g0 b3 b4 b5 ⊢
 clear hW0
 have c3:=bC0 b3
 have c1:=C1.out W0 g0
 have G0:=Xh g0;have B3:=Xh b3;have B4:=Xh b4;have B5:=Xh b5
 clear g0 b3 b4 b5
 go_step3
 go_wp2_with fail
 refine (HDN.out _ G0.out).mono ?_
 rintro e w6 ⟨rfl,h6⟩
 subst h6
 go_wp2_with fail
 refine (HAS.out _ G0.out).mono ?_
 rintro e w6 ⟨rfl,h6⟩
 subst h6
 go_wp2_with fail
 go_step3
 go_wp2_with fail
 refine (Gz W0 A 0 c).mono ?_
 rintro e w6 ⟨rfl,h6⟩
 have g6:Gr W0 w6:=by rw[h6];exact Gr.alloc _ _
 have k6:Blk w6 W0.heap.size 55 [.slice A 0 c]:=by rw[h6];exact Blk.new W0 55 #[.slice A 0 c]
 have G6:=Xh g6;have K6:=Xh k6
 clear h6 g6 k6
 go_wp2_with fail
 refine (wpIn_wide (n:=6)).1 ?_
 refine Lj Xf (gf:=324) (lb:=#[.pointer (some ⟨W0.heap.size,0,none⟩)]) rfl (enters_of Tryz.func324 Xe rfl)
  (fun q W gW=>JI 5 Xf q W0.heap.size W A c (gW.blk K6.out)) ?_
 intro D W hD gW hKd
 have GW:Hid (Gr W0 W):=G6.out.trans gW
 have D0:W0.heap.size<D:=Nat.lt_of_lt_of_le K6.out.lt hD
 have C3:Hid (∀v,Gr W v→v.cell? ⟨w.heap.size,0,none⟩=some (.int .i64 (place:Int))):=fun v g=>bC0 ((GW.out.trans g).blk B3.out)
 have HKD:=Xh hKd
 have DL:=Xh (show D<W.heap.size from (Array.getElem?_eq_some_iff.1 hKd).1)
 have c3':=C3.out W (Gr.refl _)
 clear hKd gW c3
 simp only[Exit.then,Exit.inBlock]
 go_wp2_with fail
 refine (HKP.out W (G0.out.trans GW.out)).mono ?_
 rintro e w7 ⟨A7,c7,rfl,q7,g7⟩
 have Q7:=Xh q7
 have B47:=Xh ((GW.out.trans g7).blk B4.out)
 have B57:=Xh ((GW.out.trans g7).blk B5.out)
 have KD7:Hid (w7.heap[D]?=some (.deferred (some []))):=(g7.block D DL.out).trans HKD.out
 have G7:=Xh ((G0.out.trans GW.out).trans g7)
 have hs7:W0.heap.size≤w7.heap.size:=Nat.le_trans GW.out.size g7.size
 clear q7 g7
 have c4:=bC0 B47.out
 have f4:=Blk.free B47.out 0
 have c5:=bC0 B57.out
 have f5:=Blk.free B57.out 0
 go_wp2_with fail
 rw[Exit.noGoto_ret]
 obtain⟨w8,hw8⟩:∃w8,w8=(w7.setCell ⟨w.heap.size+1,0,none⟩ (.slice A7 512 c7)).setCell ⟨w.heap.size+1+1,0,none⟩ (.int .i64 0):=⟨_,rfl⟩
 have hz1:w.heap.size+1<W0.heap.size:=B4.out.lt
 have hz2:w.heap.size+1+1<W0.heap.size:=B5.out.lt
 have K8:w8.heap[D]?=some (.deferred (some [])):=by
  rw[hw8]
  exact (KeepsOthers.setCell _ ⟨w.heap.size+1+1,0,none⟩ _).same _ _ ((KeepsOthers.setCell _ ⟨w.heap.size+1,0,none⟩ _).same _ _ KD7.out rfl) rfl
 have G8:Gr w w8:=by rw[hw8];exact oK (oK G7.out (Nat.le_succ _) _) Xf _
 have B48:Blk w8 (w.heap.size+1) 43 [.slice A7 512 c7]:=by rw[hw8];exact (B47.out.set 0 _).far (p:=⟨w.heap.size+1+1,0,none⟩) (by show w.heap.size+1≠w.heap.size+1+1;omega) _
 have B58:Blk w8 (w.heap.size+1+1) 29 [.int .i64 0]:=by rw[hw8];exact (B57.out.far (p:=⟨w.heap.size+1,0,none⟩) (by show w.heap.size+1+1≠w.heap.size+1;omega) _).set 0 _
 rw[←hw8]
 refine⟨by simp,.inl ⟨_,_,rfl,run_takeDeferred K8,?_⟩⟩
 have n1:w.heap.size+1≠D:=by omega
 have n2:w.heap.size+1+1≠D:=by omega
 have n3:w.heap.size≤D:=by omega
 refine⟨_,Jb rfl _ _ (w.heap.size+1) (w.heap.size+1+1) A7 512 c7 0 rfl rfl (bC0 (jB B48 n1 _)) (bC0 (jB B58 n2 _)),?_⟩
 have T8:Tch (fun b=>b=w.heap.size+1∨b=w.heap.size+1+1) w7 w8:=by rw[hw8];exact (Tch.set ⟨w.heap.size+1,0,none⟩ _ (.inl rfl)).trans (Tch.set ⟨w.heap.size+1+1,0,none⟩ _ (.inr rfl))
 refine⟨A7,c7,rfl,?_,mK G8 D _ n3⟩
 refine QB.put (QB.tch Q7.out T8 (fun b hb=> ?_)) K8 rfl _
 rcases hb with e|e
 · rw[e]
   exact⟨_,_,B47.out,fun u hu x=>by rw[List.mem_singleton] at hu;rw[hu];unfold u8c;simp⟩
 · rw[e]
   exact⟨_,_,B57.out,fun u hu x=>by rw[List.mem_singleton] at hu;rw[hu];unfold u8c;simp⟩
end
end
end Go.Proofs.YtipdlnejmcmbbaaGreatDoor
