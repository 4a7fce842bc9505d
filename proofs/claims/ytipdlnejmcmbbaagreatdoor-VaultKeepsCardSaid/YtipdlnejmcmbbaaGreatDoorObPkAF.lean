/- Own texts, one behind the other. No condition. -/
import Derived.Test.YtipdlnejmcmbbaaGreatDoorObPkAD
import Derived.Test.YtipdlnejmcmbbaaGreatDoorObPkAE
import Derived.Deep.RegionHeld3
import Derived.DeepKeys4
set_option linter.unusedVariables false
set_option maxRecDepth 100000
set_option maxHeartbeats 8000000
set_option linter.unusedSimpArgs false
namespace Go.Proofs.YtipdlnejmcmbbaaGreatDoor
section
open Go.RowKit Go.Maps
def great:Nat:=1073741824
def sizeOf' (S:List Nat) (ps:List Nat):Nat:=ps.foldl (fun n p=>min (n+S.getD (p - 1) 0) great) 1
def fH (T:List Nd):List Nat:=T.foldl (fun S x=>S++ [sizeOf' S x.parts]) []
theorem wT (T:List Nd) (x:Nd):fH (T++ [x])=fH T++ [sizeOf' (fH T) x.parts]:=by simp[fH]
theorem Qn (T:List Nd):∀S:List Nat,(T.foldl (fun S x=>S++ [sizeOf' S x.parts]) S).length=S.length+T.length:=by
 induction T with
 |nil=>intro S;rfl
 |cons x T ih=>intro S;rw[List.foldl_cons,ih];simp;omega
theorem zi (T:List Nd):(fH T).length=T.length:=by unfold fH;rw[Qn];simp
theorem sM (S ps:List Nat):sizeOf' S ps≤great:=by
 unfold sizeOf'
 rcases List.eq_nil_or_concat ps with rfl| ⟨l,p,rfl⟩
 · simp[great]
 · rw[List.concat_eq_append,List.foldl_append];simp;omega
def Small (S:List Nat):Prop:=∀s∈S,s≤great
theorem Small.at {S:List Nat} (h:Small S) (i:Nat):S.getD i 0≤great:=by
 rw[List.getD_eq_getElem?_getD]
 cases hi:S[i]? with
 |none=>simp
 |some s=>exact h s (List.mem_of_getElem? hi)
theorem vU (T:List Nd):Small (fH T):=by
 have :∀(T:List Nd) (S:List Nat),Small S→Small (T.foldl (fun S x=>S++ [sizeOf' S x.parts]) S):=by
  intro T
  induction T with
  |nil=>intro S h;exact h
  |cons x T ih=>
   intro S h
   rw[List.foldl_cons]
   refine ih _ (fun s hs=> ?_)
   rcases List.mem_append.1 hs with hs|hs
   · exact h s hs
   · rw[List.mem_singleton.1 hs];exact sM _ _
 exact this T [] (fun s hs=>by cases hs)
theorem RF:eB Tryz.prog 84 20 .nilIface 1 16:=⟨Tryz.underlying84,by kernel_rfl,rfl,Xg,Xg⟩
structure TbX (w0 w:World) (g:Nat) (L:List Value) (S:List Nat) (a:Nat) (vl vs:Value) (bm:Nat):Prop where
 blk:Blk w g 87 [vl,vs,.map (some bm),.int .i64 (a:Int)]
 l:Own w0 w 20 1 vl L.length L
 s:Own w0 w 3 1 vs L.length (S.map nX)
 ge:w0.heap.size≤g
 gm:w0.heap.size≤bm
structure yA (w w':World) (g:Nat) (vl vs vl' vs':Value):Prop where
 size:w.heap.size≤w'.heap.size
 keep:∀b,b<w.heap.size→b≠g→vl.ownBlock≠some b→vs.ownBlock≠some b→w'.heap[b]?=w.heap[b]?
 ol:∀b,vl'.ownBlock=some b→vl.ownBlock=some b∨w.heap.size≤b
 os:∀b,vs'.ownBlock=some b→vs.ownBlock=some b∨w.heap.size≤b
theorem pK {w0 w0' w:World} {e e':TypeId} {s s' n n':Nat} {v v':Value} {xs xs':List Value} (h:Own w0 w e s v n xs) (h':Own w0' w e' s' v' n' xs') (he:e≠e') {b:Nat} (hb:v.ownBlock=some b):v'.ownBlock≠some b:=by
 intro hb'
 rcases h.1.2 with⟨h1,_⟩| ⟨g,cap,cur,hv,_,hh,_⟩
 · rw[h1] at hb;cases hb
 · rcases h'.1.2 with⟨h1',_⟩| ⟨g',cap',cur',hv',_,hh',_⟩
   · rw[h1'] at hb';cases hb'
   · have e1:g=b:=by rw[hv] at hb;exact Option.some.inj hb
     have e2:g'=b:=by rw[hv'] at hb';exact Option.some.inj hb'
     rw[e1] at hh
     rw[e2,hh] at hh'
     injection hh' with hh'
     injection hh' with _ h3
     exact he h3
theorem bZ {w0 w:World} {e t:TypeId} {s n g:Nat} {v:Value} {xs cs:List Value} (h:Own w0 w e s v n xs) (hb:Blk w g t cs) (he:e≠t):v.ownBlock≠some g:=by
 intro hv
 rcases h.1.2 with⟨h1,_⟩| ⟨g',cap,cur,hv',_,hh,_⟩
 · rw[h1] at hv;cases hv
 · have e1:g'=g:=by rw[hv'] at hv;exact Option.some.inj hv
   rw[e1,hb] at hh
   injection hh with hh
   injection hh with _ h3
   exact he h3.symm
theorem UK {S:List Nat} {i:Nat} (hi:i<S.length):(S.map nX)[i]?=some (.int .i64 ((S.getD i 0:Nat):Int)):=by
 rw[List.getElem?_map,List.getD_eq_getElem?_getD,List.getElem?_eq_getElem hi];rfl
theorem Own.nu {w0 w w':World} {e:TypeId} {s n:Nat} {v:Value} {xs:List Value} (h:Own w0 w e s v n xs) (hb:Below w0.heap.size w0 w') (hp:∀b,v.ownBlock=some b→w'.heap[b]?=w.heap[b]?):Own w0 w' e s v n xs:=by
 obtain⟨⟨hl,ho⟩,_⟩:=h
 refine⟨⟨hl,?_⟩,hb⟩
 rcases ho with h| ⟨g,cap,cur,hv,hg,hh,r⟩
 · exact .inl h
 · exact .inr ⟨g,cap,cur,hv,hg,by rw[hp g (by rw[hv];rfl)];exact hh,r⟩
structure Bl (w0 w w1:World) (g:Nat) (L:List Value) (S:List Nat) (a:Nat) (vl vs:Value) (bm:Nat) (x:Value) (v1:Value):Prop where
 l:Own w0 w1 20 1 v1 (L.length+1) (L++ [x])
 s:Own w0 w1 3 1 vs L.length (S.map nX)
 blk:Blk w1 g 87 [vl,vs,.map (some bm),.int .i64 (a:Int)]
 keep:∀b,b<w.heap.size→vl.ownBlock≠some b→w1.heap[b]?=w.heap[b]?
 ol:∀b,v1.ownBlock=some b→vl.ownBlock=some b∨w.heap.size≤b
 size:w.heap.size≤w1.heap.size
structure Bo (w0 w w1:World) (g:Nat) (L:List Value) (S:List Nat) (a:Nat) (vl vs:Value) (bm:Nat) (q:Nat) (v2:Value):Prop where
 l:Own w0 w1 20 1 vl L.length L
 s:Own w0 w1 3 1 v2 (L.length+1) (S.map nX++ [nX q])
 blk:Blk w1 g 87 [vl,vs,.map (some bm),.int .i64 (a:Int)]
 keep:∀b,b<w.heap.size→vs.ownBlock≠some b→w1.heap[b]?=w.heap[b]?
 os:∀b,v2.ownBlock=some b→vs.ownBlock=some b∨w.heap.size≤b
 size:w.heap.size≤w1.heap.size
structure ou (w0 w w1:World) (g:Nat) (L:List Value) (S:List Nat) (a:Nat) (vl vs:Value) (bm:Nat) (x:Value) (q:Nat) (v1 v2:Value):Prop where
 l:Own w0 w1 20 1 v1 (L.length+1) (L++ [x])
 s:Own w0 w1 3 1 v2 (L.length+1) (S.map nX++ [nX q])
 blk:Blk w1 g 87 [vl,vs,.map (some bm),.int .i64 (a:Int)]
 chg:yA w w1 g vl vs v1 v2
section
variable {w0 w wx w1:World} {g:Nat} {L:List Value} {S:List Nat} {a:Nat} {vl vs:Value} {bm:Nat} {x:Value} {q:Nat} {v1 v2:Value}
theorem Kept.own {e e':TypeId} {s s' n n':Nat} {v v' u:Value} {xs xs':List Value} (hk:Kept wx w1 v v') (h:Own w0 wx e s v n xs) (hu:Own w0 wx e' s' u n' xs') (he:e'≠e) (hb:Below w0.heap.size w0 w1):Own w0 w1 e' s' u n' xs':=
 hu.nu hb (fun b hb'=>hk.1 b (hu.1.lt b hb').2 (pK hu h he hb'))
theorem Bl.of (h:TbX w0 w g L S a vl vs bm) (hg:Gr w wx) (hk:Kept wx w1 vl v1) (ho:Own w0 w1 20 1 v1 (L.length+1) (L++ [x])):Bl w0 w w1 g L S a vl vs bm x v1:=by
 have hl:=h.l.mono hg
 have hb:=hg.blk h.blk
 refine⟨ho,hk.own hl (h.s.mono hg) Xg ho.below,(hk.1 g hb.lt (bZ hl hb Xg)).trans hb,fun b h1 h2=>(hk.1 b (Nat.lt_of_lt_of_le h1 hg.size) h2).trans (hg.block b h1),fun b hb'=> ?_,Nat.le_trans hg.size hk.2.1⟩
 rcases hk.2.2 with e|e
 · left;rw[←e];exact hb'
 · right;rw[e] at hb';have :=Option.some.inj hb';have :=hg.size;omega
theorem Bo.of (h:TbX w0 w g L S a vl vs bm) (hg:Gr w wx) (hk:Kept wx w1 vs v2) (ho:Own w0 w1 3 1 v2 (L.length+1) (S.map nX++ [nX q])):Bo w0 w w1 g L S a vl vs bm q v2:=by
 have hl:=h.s.mono hg
 have hb:=hg.blk h.blk
 refine⟨hk.own hl (h.l.mono hg) Xg ho.below,ho,(hk.1 g hb.lt (bZ hl hb Xg)).trans hb,fun b h1 h2=>(hk.1 b (Nat.lt_of_lt_of_le h1 hg.size) h2).trans (hg.block b h1),fun b hb'=> ?_,Nat.le_trans hg.size hk.2.1⟩
 rcases hk.2.2 with e|e
 · left;rw[←e];exact hb'
 · right;rw[e] at hb';have :=Option.some.inj hb';have :=hg.size;omega
theorem ou.ofL {w2:World} (h:Bl w0 w w1 g L S a vl vs bm x v1) (hg:Gr w1 wx) (hk:Kept wx w2 vs v2) (ho:Own w0 w2 3 1 v2 (L.length+1) (S.map nX++ [nX q])):ou w0 w w2 g L S a vl vs bm x q v1 v2:=by
 have hs:=h.s.mono hg
 have hb:=hg.blk h.blk
 refine⟨hk.own hs (h.l.mono hg) Xg ho.below,ho,(hk.1 g hb.lt (bZ hs hb Xg)).trans hb,⟨Nat.le_trans h.size (Nat.le_trans hg.size hk.2.1),fun b h1 _ h3 h4=> ?_,h.ol,fun b hb'=> ?_⟩⟩
 · have hlt:=Nat.lt_of_lt_of_le h1 h.size
   exact (hk.1 b (Nat.lt_of_lt_of_le hlt hg.size) h4).trans ((hg.block b hlt).trans (h.keep b h1 h3))
 · rcases hk.2.2 with e|e
   · left;rw[←e];exact hb'
   · right;rw[e] at hb';have :=Option.some.inj hb';have :=hg.size;have :=h.size;omega
theorem ou.ofR {w2:World} (h:Bo w0 w w1 g L S a vl vs bm q v2) (hg:Gr w1 wx) (hk:Kept wx w2 vl v1) (ho:Own w0 w2 20 1 v1 (L.length+1) (L++ [x])):ou w0 w w2 g L S a vl vs bm x q v1 v2:=by
 have hs:=h.l.mono hg
 have hb:=hg.blk h.blk
 refine⟨ho,hk.own hs (h.s.mono hg) Xg ho.below,(hk.1 g hb.lt (bZ hs hb Xg)).trans hb,⟨Nat.le_trans h.size (Nat.le_trans hg.size hk.2.1),fun b h1 _ h3 h4=> ?_,fun b hb'=> ?_,h.os⟩⟩
 · have hlt:=Nat.lt_of_lt_of_le h1 h.size
   exact (hk.1 b (Nat.lt_of_lt_of_le hlt hg.size) h3).trans ((hg.block b hlt).trans (h.keep b h1 h4))
 · rcases hk.2.2 with e|e
   · left;rw[←e];exact hb'
   · right;rw[e] at hb';have :=Option.some.inj hb';have :=hg.size;have :=h.size;omega
theorem lD {W:World} {b:Nat} {u:Value} (h:W.cell? ⟨b,0,none⟩=some u):∀j v,[u][j]?=some v→W.cell? ⟨b,j,none⟩=some v:=by
 intro j v hj
 cases j with
 |zero=>rw[h];exact hj
 |succ j=>simp at hj
theorem eY {v v' u:Value} {b:Nat} (hk:Kept wx w1 v v') (h:wx.cell? ⟨b,0,none⟩=some u) (hn:v.ownBlock≠some b):w1.cell? ⟨b,0,none⟩=some u:=by
 have e:=hk.1 b (World.block_lt_of_cell? wx _ h) hn
 rw[←h]
 simp only[World.cell?,e]
end
theorem BR {w0 w w2 W9:World} {g:Nat} {L:List Value} {S:List Nat} {a:Nat} {vl vs:Value} {bm:Nat} {x:Value} {q:Nat} {v1 v2:Value} (h:TbX w0 w g L S a vl vs bm) (hm:ou w0 w w2 g L S a vl vs bm x q v1 v2) (hW:W9=(w2.setCell ⟨g,0,none⟩ v1).setCell ⟨g,1,none⟩ v2):
 TbX w0 W9 g (L++ [x]) (S++ [q]) a v1 v2 bm∧yA w W9 g vl vs v1 v2:=by
 have hbk:Blk W9 g 87 [v1,v2,.map (some bm),.int .i64 (a:Int)]:=by rw[hW];exact (hm.blk.set 0 v1).set 1 v2
 have hot:∀b,b≠g→W9.heap[b]?=w2.heap[b]?:=fun b hb=>by rw[hW,Below.heap_setCell _ _ _ b hb,Below.heap_setCell _ _ _ b hb]
 have hbl:Below w0.heap.size w0 W9:=by rw[hW];exact (hm.l.below.setCell (p:=⟨g,0,none⟩) h.ge _).setCell (p:=⟨g,1,none⟩) h.ge _
 have hsz:w2.heap.size≤W9.heap.size:=by
  have :=((Below.refl 0 w2).setCell (p:=⟨g,0,none⟩) (Nat.zero_le _) v1).setCell (p:=⟨g,1,none⟩) (Nat.zero_le _) v2
  rw[hW];exact this.size
 have hl:=hm.l.nu hbl (fun b hb=>hot b (fun e=>bZ hm.l hm.blk Xg (by rw[hb,e])))
 have hs:=hm.s.nu hbl (fun b hb=>hot b (fun e=>bZ hm.s hm.blk Xg (by rw[hb,e])))
 refine⟨⟨hbk,by rw[List.length_append];exact hl,by rw[List.length_append,List.map_append];exact hs,h.ge,h.gm⟩,Nat.le_trans hm.chg.size hsz,fun b h1 h2 h3 h4=>(hot b h2).trans (hm.chg.keep b h1 h2 h3 h4),hm.chg.ol,hm.chg.os⟩
theorem wV (w0:World) (g:Nat) (L:List Value) (S:List Nat) (a:Nat) (vl vs:Value) (bm:Nat) (ty:TypeId) (xv:Value) (P:Option Addr) (m c:Nat) (ps:List Nat) (w:World) (h:TbX w0 w g L S a vl vs bm) (hS:S.length=L.length) (hsm:Small S) (hP:Is w P m c (ps.map Int.ofNat)) (hps:∀p∈ps,1≤p∧p≤L.length) (hn:L.length≤100000):
 Calls Tryz.prog 163 #[.pointer (some ⟨g,0,none⟩),.iface ty xv,.slice P m c] w fun e w'=>e= .returned (.int .i64 ((L.length+1:Nat):Int))∧∃vl' vs',TbX w0 w' g (L++ [.iface ty xv]) (S++ [sizeOf' S ps]) a vl' vs' bm∧yA w w' g vl vs vl' vs':=by
 obtain⟨Al,cl,rfl,sl⟩:=h.l.slice
 obtain⟨As,cs,rfl,ss⟩:=h.s.slice
 have hmax:=hP.max;have hcap:=hP.cap;have hlen:=hP.len
 have hml:ps.length=m:=by simpa using hlen
 have c0:w.cell? ⟨g,0,none⟩=some (.slice Al L.length cl):=(h.blk.cell 0).trans rfl
 have c1:w.cell? ⟨g,1,none⟩=some (.slice As L.length cs):=(h.blk.cell 1).trans rfl
 have hsm1:=ss.max;have hsm2:=ss.cap
 have H:=Xh h;have SS:=Xh ss;have HP:=Xh hP;have HPS:=Xh hps;have HSM:=Xh hsm;have HML:=Xh hml;have HSL:=Xh hS
 clear h sl ss hP hps hsm hlen hml hS
 go_in
 go_wp2_with fail
 go_loop [7,12] (fun v i=>∃k:Nat,k≤m∧i= .int .i64 (k:Int)∧v= .int .i64 ((sizeOf' S (ps.take k):Nat):Int)) (fun _ i=>m - (Go.RowKit.intOf i).toNat)
 case atStart=>exact⟨0,Nat.zero_le _,rfl,rfl⟩
 case round=>
  obtain⟨k,hk,rfl,rfl⟩:=hrel
  by_cases hlt:k<m
  · obtain⟨b,o,rfl,hcc⟩:=Is.addr HP.out (show 0<m by omega)
    have c2:=hcc k hlt
    have hkl:k<ps.length:=by rw[HML.out];exact hlt
    have e1:iAt (ps.map Int.ofNat) k=(ps[k]:Int):=by rw[wJ (by simpa using hkl)];simp
    obtain⟨hp1,hp2⟩:=HPS.out ps[k] (List.getElem_mem hkl)
    have HT:Hid (sizeOf' S (ps.take (k+1))=min (sizeOf' S (ps.take k)+S.getD (ps[k] - 1) 0) great):=by
     show _=_
     unfold sizeOf'
     rw[List.take_succ_eq_append_getElem hkl,List.foldl_append];rfl
    rw[e1] at c2
    have hq1:=sM S (ps.take k)
    have hq2:=HSM.out.at (ps[k] - 1)
    obtain⟨b2,o2,rfl,hcc2⟩:=Sl.addr SS.out Xf
    have c3:=hcc2 (ps[k] - 1) _ (UK (by rw[HSL.out];omega))
    clear hcc hcc2 e1
    generalize ps[k]=p at *
    generalize S.getD (p - 1) 0=s at *
    generalize sizeOf' S (ps.take k)=q at *
    obtain⟨p',rfl⟩:∃p',p=p'+1:=⟨p - 1,Xf⟩
    simp only[Nat.add_sub_cancel] at c3
    have hlt2:(k:Int)<m:=by omega
    unfold great at hq1 hq2
    have hw1:IntKind.i64.wrap ((q:Int)+s)=(q:Int)+s:=IntWalk.i64_in _ Xf
    go_wp2_with fail
    refine⟨⟨k+1,Xf,by go_num,?_⟩,by simp[Go.RowKit.intOf];omega⟩
    rw[HT.out]
    congr 1
    unfold great
    first|(split<;>omega)|omega
  · obtain rfl:k=m:=by omega
    rw[List.take_of_length_le (by rw[HML.out];exact Nat.le_refl _)]
    have hq1:=sM S ps
    obtain⟨q,hq⟩:∃q,q=sizeOf' S ps:=⟨_,rfl⟩
    rw[←hq] at hq1 ⊢
    have HQ:=Xh hq;clear hq
    have OL:=Xh H.out.l;have OS:=Xh H.out.s;have BK:=Xh H.out.blk
    have hgl:g<w.heap.size:=BK.out.lt
    have NL:Hid ((Value.slice Al L.length cl).ownBlock≠some g):=bZ OL.out BK.out Xg
    have NS:Hid ((Value.slice As L.length cs).ownBlock≠some g):=bZ OS.out BK.out Xg
    have NLS:Hid (∀b,(Value.slice Al L.length cl).ownBlock=some b→(Value.slice As L.length cs).ownBlock≠some b):=fun b hb=>pK OL.out OS.out Xg hb
    have y0:=BK.out.free 0;have y1:=BK.out.free 1
    have HA1:Hid (∀W:World,(W.alloc (.cells #[.iface ty xv] 20)).cell? ⟨W.heap.size,0,none⟩=some (.iface ty xv)):=fun W=>(Blk.new W _ _).cell 0
    have HB1:Hid (∀(W:World) o,((W.alloc (.cells #[.iface ty xv] 20)).alloc o).cell? ⟨W.heap.size,0,none⟩=some (.iface ty xv)):=fun W o=>((Blk.new W 20 #[.iface ty xv]).alloc o).cell 0
    have HC1:Hid (∀(W:World) o,((W.alloc o).alloc (.cells #[.iface ty xv] 20)).cell? ⟨W.heap.size+1,0,none⟩=some (.iface ty xv)):=fun W o=>by have h:=(Blk.new (W.alloc o) 20 #[.iface ty xv]).cell 0;rw[show (W.alloc o).heap.size=W.heap.size+1 by simp] at h;exact h
    have HA2:Hid (∀W:World,(W.alloc (.cells #[.int .i64 (q:Int)] 3)).cell? ⟨W.heap.size,0,none⟩=some (.int .i64 (q:Int))):=fun W=>(Blk.new W _ _).cell 0
    have HB2:Hid (∀(W:World) o,((W.alloc (.cells #[.int .i64 (q:Int)] 3)).alloc o).cell? ⟨W.heap.size,0,none⟩=some (.int .i64 (q:Int))):=fun W o=>((Blk.new W 3 #[.int .i64 (q:Int)]).alloc o).cell 0
    have HC2:Hid (∀(W:World) o,((W.alloc o).alloc (.cells #[.int .i64 (q:Int)] 3)).cell? ⟨W.heap.size+1,0,none⟩=some (.int .i64 (q:Int))):=fun W o=>by have h:=(Blk.new (W.alloc o) 3 #[.int .i64 (q:Int)]).cell 0;rw[show (W.alloc o).heap.size=W.heap.size+1 by simp] at h;exact h
    have NLW:Hid (∀b,w.heap.size≤b→(Value.slice Al L.length cl).ownBlock≠some b):=fun b hb e=>by have :=(OL.out.1.lt b e).2;omega
    have NSW:Hid (∀b,w.heap.size≤b→(Value.slice As L.length cs).ownBlock≠some b):=fun b hb e=>by have :=(OS.out.1.lt b e).2;omega
    go_upto_region 7 with fail
    refine wrP Xe (fun w'=>w'.cell? ⟨g,0,none⟩=some (.slice Al L.length cl)∧w'.cell? ⟨g,1,none⟩=some (.slice As L.length cs)) (fun i=>i==5 || i==12) (fun i=>Nat.ble 18 i) [0,1,2,3,4,6,9,10,11,13,5,12] 10 Xe Xe Xe ⟨c0,c1⟩ ?_
    refine rP ?_
    refine rP ?_
    refine rP ?_
    refine rP ?_
    refine rP ?_
    refine rP ?_
    refine rP ?_
    refine rP ?_
    refine rP ?_
    refine rP ?_
    refine rQ (fun _ hq=>hq) ?_
    refine rQ (fun _ hq=>hq) ?_
    refine dQ ?_
    clear c0 c1 y0 y1
    have HBK:Hid (∀wq,Gr w wq→wq.cell? ⟨g,0,none⟩=some (.slice Al L.length cl)∧wq.cell? ⟨g,1,none⟩=some (.slice As L.length cs)):=fun wq hq=>⟨(hq.blk BK.out).cell 0,(hq.blk BK.out).cell 1⟩
    refine fE (i:=7) (j:=14) Xe rfl rfl rfl rfl ?_ ?_
    · skip
      intro K hK
      go_simp
      refine hK _ _ (fun _=>HBK.out _ Xj) ?_
      clear hK
      go_simp
      refine fE (i:=8) (j:=14) Xe rfl rfl rfl rfl ?_ ?_
      · skip
        intro K hK
        refine fO (.tmp 33) (.tmp 35) 84 rfl RF rfl (by first|exact R2.out.l.mono Xj|exact OL.out.mono Xj) _ _ [.iface ty xv] rfl rfl (by intro u hu;rw[List.mem_singleton.1 hu];rfl) (lD (by first|exact HA1.out _|exact HB1.out _ _|exact HC1.out _ _|exact CA1)) Xf ?_
        intro v1 w1 own1 kept1
        obtain⟨A1,d1,rfl,_⟩:=own1.slice
        first
         |(have M1:=Xh (ou.ofR R2.out Xj kept1 own1);have BM:=M1.out.blk)
         |(have L1:=Xh (Bl.of H.out Xj kept1 own1);have BM:=L1.out.blk)
        first
         |have CA2:=eY kept1 (HB2.out _ _) (NLW.out _ (by simp))
         |have CA2:=eY kept1 (HC2.out _ _) (NLW.out _ (by simp))
         |skip
        have c0:w1.cell? ⟨g,0,none⟩=some (.slice Al L.length cl):=(BM.cell 0).trans rfl
        have c1:w1.cell? ⟨g,1,none⟩=some (.slice As L.length cs):=(BM.cell 1).trans rfl
        have y0:=BM.free 0
        have y1:=BM.free 1
        have hg1:g<w1.heap.size:=BM.lt
        refine hK _ _ (fun _=>⟨c0,c1⟩) ?_
        clear BM own1 kept1 hK
        go_simp
        refine wR1 (i:=14) Xe rfl rfl ?_
        intro K hK
        go_simp
        refine hK _ _ (fun _=>by first|exact⟨by go_simp,by go_simp⟩|exact⟨(L1.out.blk.alloc _).cell 0,(L1.out.blk.alloc _).cell 1⟩|exact⟨(R2.out.blk.alloc _).cell 0,(R2.out.blk.alloc _).cell 1⟩) ?_
        clear hK
        go_simp
        refine wR1 (i:=15) Xe rfl rfl ?_
        intro K hK
        refine fO (.tmp 40) (.tmp 42) 85 rfl sD rfl (by first|exact L1.out.s.mono Xj|exact OS.out.mono Xj) _ _ [.int .i64 (q:Int)] rfl rfl (nJ _ _) (lD (by first|exact HA2.out _|exact HB2.out _ _|exact HC2.out _ _|exact CA2)) Xf ?_
        intro v2 w2 own2 kept2
        obtain⟨A2,d2,rfl,_⟩:=own2.slice
        first
         |(have M1:=Xh (ou.ofL (q:=q) L1.out Xj kept2 own2);have BM:=M1.out.blk)
         |(have R2:=Xh (Bo.of (q:=q) H.out Xj kept2 own2);have BM:=R2.out.blk)
        first
         |have CA1:=eY kept2 (HB1.out _ _) (NSW.out _ (by simp))
         |have CA1:=eY kept2 (HC1.out _ _) (NSW.out _ (by simp))
         |skip
        have c0:w2.cell? ⟨g,0,none⟩=some (.slice Al L.length cl):=(BM.cell 0).trans rfl
        have c1:w2.cell? ⟨g,1,none⟩=some (.slice As L.length cs):=(BM.cell 1).trans rfl
        have y0:=BM.free 0
        have y1:=BM.free 1
        have hg2:g<w2.heap.size:=BM.lt
        refine hK _ _ (fun _=>⟨c0,c1⟩) ?_
        clear BM own2 kept2 hK
        go_simp
        refine wR1 (i:=16) Xe rfl rfl ?_
        intro K hK
        go_simp
        refine hK _ _ (fun _=>⟨c0,c1⟩) ?_
        clear hK
        go_simp
        refine wR1 (i:=17) Xe rfl rfl ?_
        intro K hK
        go_simp
        refine hK _ _ (fun _=>⟨c0,c1⟩) ?_
        clear hK
        go_simp
        refine wR1 (i:=18) Xe rfl rfl ?_
        intro K hK
        go_simp
        refine hK _ _ (fun h=>by cases h) ?_
        clear hK
        go_simp
        refine wR1 (i:=19) Xe rfl rfl ?_
        intro K hK
        go_simp
        refine hK _ _ (fun h=>by cases h) ?_
        clear hK
        go_simp
        refine wR1 (i:=20) Xe rfl rfl ?_
        intro K hK
        go_simp
        refine hK _ _ (fun h=>by cases h) ?_
        clear hK
        go_simp
        refine wR1 (i:=21) Xe rfl rfl ?_
        intro K hK
        go_simp
        refine hK _ _ (fun h=>by cases h) ?_
        clear hK
        go_simp
        refine aR Xe ?_
        obtain⟨W9,hW9⟩:∃W9,W9=(w2.setCell ⟨g,0,none⟩ (.slice A1 (L.length+1) d1)).setCell ⟨g,1,none⟩ (.slice A2 (L.length+1) d2):=⟨_,rfl⟩
        rw[←hW9]
        have FIN:=Xh (BR H.out M1.out hW9)
        rw[HQ.out] at FIN
        have c9:W9.cell? ⟨g,0,none⟩=some (.slice A1 (L.length+1) d1):=(FIN.out.1.blk.cell 0).trans rfl
        have HQ2:=HQ
        clear hW9 c0 c1 y0 y1
        go_wp2_with fail
        go_ret
        exact⟨dx (by simp),_,_,FIN.out.1,FIN.out.2⟩
      · skip
        intro K hK
        go_simp
        refine hK _ _ (fun _=>HBK.out _ Xj) ?_
        clear hK
        go_simp
        refine wR1 (i:=8) Xe rfl rfl ?_
        intro K hK
        refine fO (.tmp 33) (.tmp 35) 84 rfl RF rfl (by first|exact R2.out.l.mono Xj|exact OL.out.mono Xj) _ _ [.iface ty xv] rfl rfl (by intro u hu;rw[List.mem_singleton.1 hu];rfl) (lD (by first|exact HA1.out _|exact HB1.out _ _|exact HC1.out _ _|exact CA1)) Xf ?_
        intro v1 w1 own1 kept1
        obtain⟨A1,d1,rfl,_⟩:=own1.slice
        first
         |(have M1:=Xh (ou.ofR R2.out Xj kept1 own1);have BM:=M1.out.blk)
         |(have L1:=Xh (Bl.of H.out Xj kept1 own1);have BM:=L1.out.blk)
        first
         |have CA2:=eY kept1 (HB2.out _ _) (NLW.out _ (by simp))
         |have CA2:=eY kept1 (HC2.out _ _) (NLW.out _ (by simp))
         |skip
        have c0:w1.cell? ⟨g,0,none⟩=some (.slice Al L.length cl):=(BM.cell 0).trans rfl
        have c1:w1.cell? ⟨g,1,none⟩=some (.slice As L.length cs):=(BM.cell 1).trans rfl
        have y0:=BM.free 0
        have y1:=BM.free 1
        have hg1:g<w1.heap.size:=BM.lt
        refine hK _ _ (fun _=>⟨c0,c1⟩) ?_
        clear BM own1 kept1 hK
        go_simp
        refine wR1 (i:=15) Xe rfl rfl ?_
        intro K hK
        refine fO (.tmp 40) (.tmp 42) 85 rfl sD rfl (by first|exact L1.out.s.mono Xj|exact OS.out.mono Xj) _ _ [.int .i64 (q:Int)] rfl rfl (nJ _ _) (lD (by first|exact HA2.out _|exact HB2.out _ _|exact HC2.out _ _|exact CA2)) Xf ?_
        intro v2 w2 own2 kept2
        obtain⟨A2,d2,rfl,_⟩:=own2.slice
        first
         |(have M1:=Xh (ou.ofL (q:=q) L1.out Xj kept2 own2);have BM:=M1.out.blk)
         |(have R2:=Xh (Bo.of (q:=q) H.out Xj kept2 own2);have BM:=R2.out.blk)
        first
         |have CA1:=eY kept2 (HB1.out _ _) (NSW.out _ (by simp))
         |have CA1:=eY kept2 (HC1.out _ _) (NSW.out _ (by simp))
         |skip
        have c0:w2.cell? ⟨g,0,none⟩=some (.slice Al L.length cl):=(BM.cell 0).trans rfl
        have c1:w2.cell? ⟨g,1,none⟩=some (.slice As L.length cs):=(BM.cell 1).trans rfl
        have y0:=BM.free 0
        have y1:=BM.free 1
        have hg2:g<w2.heap.size:=BM.lt
        refine hK _ _ (fun _=>⟨c0,c1⟩) ?_
        clear BM own2 kept2 hK
        go_simp
        refine wR1 (i:=16) Xe rfl rfl ?_
        intro K hK
        go_simp
        refine hK _ _ (fun _=>⟨c0,c1⟩) ?_
        clear hK
        go_simp
        refine wR1 (i:=17) Xe rfl rfl ?_
        intro K hK
        go_simp
        refine hK _ _ (fun _=>⟨c0,c1⟩) ?_
        clear hK
        go_simp
        refine wR1 (i:=18) Xe rfl rfl ?_
        intro K hK
        go_simp
        refine hK _ _ (fun h=>by cases h) ?_
        clear hK
        go_simp
        refine wR1 (i:=19) Xe rfl rfl ?_
        intro K hK
        go_simp
        refine hK _ _ (fun h=>by cases h) ?_
        clear hK
        go_simp
        refine wR1 (i:=20) Xe rfl rfl ?_
        intro K hK
        go_simp
        refine hK _ _ (fun h=>by cases h) ?_
        clear hK
        go_simp
        refine wR1 (i:=21) Xe rfl rfl ?_
        intro K hK
        go_simp
        refine hK _ _ (fun h=>by cases h) ?_
        clear hK
        go_simp
        refine aR Xe ?_
        obtain⟨W9,hW9⟩:∃W9,W9=(w2.setCell ⟨g,0,none⟩ (.slice A1 (L.length+1) d1)).setCell ⟨g,1,none⟩ (.slice A2 (L.length+1) d2):=⟨_,rfl⟩
        rw[←hW9]
        have FIN:=Xh (BR H.out M1.out hW9)
        rw[HQ.out] at FIN
        have c9:W9.cell? ⟨g,0,none⟩=some (.slice A1 (L.length+1) d1):=(FIN.out.1.blk.cell 0).trans rfl
        have HQ2:=HQ
        clear hW9 c0 c1 y0 y1
        go_wp2_with fail
        go_ret
        exact⟨dx (by simp),_,_,FIN.out.1,FIN.out.2⟩
    · skip
      intro K hK
      go_simp
      refine hK _ _ (fun _=>HBK.out _ Xj) ?_
      clear hK
      go_simp
      refine wR1 (i:=7) Xe rfl rfl ?_
      intro K hK
      go_simp
      refine hK _ _ (fun _=>HBK.out _ Xj) ?_
      clear hK
      go_simp
      refine wR1 (i:=8) Xe rfl rfl ?_
      intro K hK
      refine fO (.tmp 33) (.tmp 35) 84 rfl RF rfl (by first|exact R2.out.l.mono Xj|exact OL.out.mono Xj) _ _ [.iface ty xv] rfl rfl (by intro u hu;rw[List.mem_singleton.1 hu];rfl) (lD (by first|exact HA1.out _|exact HB1.out _ _|exact HC1.out _ _|exact CA1)) Xf ?_
      intro v1 w1 own1 kept1
      obtain⟨A1,d1,rfl,_⟩:=own1.slice
      first
       |(have M1:=Xh (ou.ofR R2.out Xj kept1 own1);have BM:=M1.out.blk)
       |(have L1:=Xh (Bl.of H.out Xj kept1 own1);have BM:=L1.out.blk)
      first
       |have CA2:=eY kept1 (HB2.out _ _) (NLW.out _ (by simp))
       |have CA2:=eY kept1 (HC2.out _ _) (NLW.out _ (by simp))
       |skip
      have c0:w1.cell? ⟨g,0,none⟩=some (.slice Al L.length cl):=(BM.cell 0).trans rfl
      have c1:w1.cell? ⟨g,1,none⟩=some (.slice As L.length cs):=(BM.cell 1).trans rfl
      have y0:=BM.free 0
      have y1:=BM.free 1
      have hg1:g<w1.heap.size:=BM.lt
      refine hK _ _ (fun _=>⟨c0,c1⟩) ?_
      clear BM own1 kept1 hK
      go_simp
      refine wR1 (i:=15) Xe rfl rfl ?_
      intro K hK
      refine fO (.tmp 40) (.tmp 42) 85 rfl sD rfl (by first|exact L1.out.s.mono Xj|exact OS.out.mono Xj) _ _ [.int .i64 (q:Int)] rfl rfl (nJ _ _) (lD (by first|exact HA2.out _|exact HB2.out _ _|exact HC2.out _ _|exact CA2)) Xf ?_
      intro v2 w2 own2 kept2
      obtain⟨A2,d2,rfl,_⟩:=own2.slice
      first
       |(have M1:=Xh (ou.ofL (q:=q) L1.out Xj kept2 own2);have BM:=M1.out.blk)
       |(have R2:=Xh (Bo.of (q:=q) H.out Xj kept2 own2);have BM:=R2.out.blk)
      first
       |have CA1:=eY kept2 (HB1.out _ _) (NSW.out _ (by simp))
       |have CA1:=eY kept2 (HC1.out _ _) (NSW.out _ (by simp))
       |skip
      have c0:w2.cell? ⟨g,0,none⟩=some (.slice Al L.length cl):=(BM.cell 0).trans rfl
      have c1:w2.cell? ⟨g,1,none⟩=some (.slice As L.length cs):=(BM.cell 1).trans rfl
      have y0:=BM.free 0
      have y1:=BM.free 1
      have hg2:g<w2.heap.size:=BM.lt
      refine hK _ _ (fun _=>⟨c0,c1⟩) ?_
      clear BM own2 kept2 hK
      go_simp
      refine wR1 (i:=16) Xe rfl rfl ?_
      intro K hK
      go_simp
      refine hK _ _ (fun _=>⟨c0,c1⟩) ?_
      clear hK
      go_simp
      refine wR1 (i:=17) Xe rfl rfl ?_
      intro K hK
      go_simp
      refine hK _ _ (fun _=>⟨c0,c1⟩) ?_
      clear hK
      go_simp
      refine wR1 (i:=18) Xe rfl rfl ?_
      intro K hK
      go_simp
      refine hK _ _ (fun h=>by cases h) ?_
      clear hK
      go_simp
      refine wR1 (i:=19) Xe rfl rfl ?_
      intro K hK
      go_simp
      refine hK _ _ (fun h=>by cases h) ?_
      clear hK
      go_simp
      refine wR1 (i:=20) Xe rfl rfl ?_
      intro K hK
      go_simp
      refine hK _ _ (fun h=>by cases h) ?_
      clear hK
      go_simp
      refine wR1 (i:=21) Xe rfl rfl ?_
      intro K hK
      go_simp
      refine hK _ _ (fun h=>by cases h) ?_
      clear hK
      go_simp
      refine aR Xe ?_
      obtain⟨W9,hW9⟩:∃W9,W9=(w2.setCell ⟨g,0,none⟩ (.slice A1 (L.length+1) d1)).setCell ⟨g,1,none⟩ (.slice A2 (L.length+1) d2):=⟨_,rfl⟩
      rw[←hW9]
      have FIN:=Xh (BR H.out M1.out hW9)
      rw[HQ.out] at FIN
      have c9:W9.cell? ⟨g,0,none⟩=some (.slice A1 (L.length+1) d1):=(FIN.out.1.blk.cell 0).trans rfl
      have HQ2:=HQ
      clear hW9 c0 c1 y0 y1
      go_wp2_with fail
      go_ret
      exact⟨dx (by simp),_,_,FIN.out.1,FIN.out.2⟩
end
section
open Go.RowKit Go.Maps
theorem zL:Keyed Tryz.prog 319:=Keyed.of_law (deep_law_laid Xe (m:=3) Xg (of_decide_eq_true Xe) Xe Xe)
def AO (x:Nd):Value:= .agg #[.int .i64 (x.k:Int),.int .i64 (x.a:Int),.int .i64 (x.b:Int),.string x.s]
def Nd.fits (x:Nd):Prop:=x.k≤9223372036854775807∧x.a≤9223372036854775807∧x.b≤9223372036854775807∧x.s.size≤maxLen
theorem EM {n:Nat} (h:n≤9223372036854775807):(Lit.int .i64 (n:Int)).wf=true:=WalkArith.wf_i64 Xf
theorem Tt {P:Program} {k:TypeId} {f0 f1 f2 f3:Field} {x0 x1 x2:Int} {y:ByteArray} (hu:P.underlying k=some (.struct #[f0,f1,f2,f3])) (hk:P.keyType k=true) (hc:P.cellsOf k=4) (hn:¬f0.name= "_" ∧¬f1.name= "_" ∧¬f2.name= "_" ∧¬f3.name= "_") (hz:0<P.types.size)
 (u0:P.underlying f0.type=some (.int .i64)) (u1:P.underlying f1.type=some (.int .i64)) (u2:P.underlying f2.type=some (.int .i64)) (u3:P.underlying f3.type=some .string)
 (c0:P.cellsOf f0.type=1) (c1:P.cellsOf f1.type=1) (c2:P.cellsOf f2.type=1) (c3:P.cellsOf f3.type=1) (o0:f0.offset=0) (o1:f1.offset=1) (o2:f2.offset=2) (o3:f3.offset=3)
 (w0:(Lit.int .i64 x0).wf=true) (w1:(Lit.int .i64 x1).wf=true) (w2:(Lit.int .i64 x2).wf=true) (h:y.size≤maxLen):
 keyOf P k (.agg #[.int .i64 x0,.int .i64 x1,.int .i64 x2,.string y])=some (.string (keyBytes [.int .i64 x0,.int .i64 x1,.int .i64 x2,.string y.data.toList])):=by
 obtain⟨d,hd⟩:∃d,P.types.size=d+1:=⟨P.types.size - 1,Xf⟩
 unfold keyOf
 simp[hu,hk,Value.formed,hc,Value.cells,Program.keyLits,hd,hn,u0,u1,u2,u3,c0,c1,c2,c3,o0,o1,o2,o3,w0,w1,w2,h]
def kl (x:Nd):Lit:= .string (keyBytes [.int .i64 (x.k:Int),.int .i64 (x.a:Int),.int .i64 (x.b:Int),.string x.s.data.toList])
theorem zK (x:Nd) (h:x.fits):keyOf Tryz.prog 319 (AO x)=some (kl x):=
 Tt Tryz.underlying319 Xe Xe Xg (of_decide_eq_true Xe) Tryz.underlying3 Tryz.underlying3 Tryz.underlying3 Tryz.underlying9 Xe Xe Xe Xe rfl rfl rfl rfl (EM h.1) (EM h.2.1) (EM h.2.2.1) h.2.2.2
def Nd.same (x y:Nd):Bool:=decide (x.k=y.k∧x.a=y.a∧x.b=y.b∧x.s=y.s)
theorem zZ {x y:Nd} (hx:x.fits) (hy:y.fits):(kl x=kl y)↔x.same y=true:=by
 unfold Nd.same
 rw[decide_eq_true_iff]
 constructor
 · intro h
   have h1:=zK x hx
   rw[h] at h1
   have h2:=zL.inj h1 (zK y hy)
   unfold AO at h2
   simp at h2
   exact⟨Xf,Xf,Xf,h2.2.2.2⟩
 · rintro⟨h1,h2,h3,h4⟩
   unfold kl
   rw[h1,h2,h3,h4]
def idV (i:Nat):DataW Value:= .held (.int .i64 ((i:Int)+1))
def bX (T:List Nd):Nat→DataW Value
 |0=> .map []
 |i+1=>match T[i]? with
  |none=>bX T i
  |some x=>if x.k=1 then bX T i else (bX T i).put (kl x) (idV i)
def jS (T:List Nd) (x:Nd):Option Nat:=T.findIdx? fun y=>decide (y.k≠1) && y.same x
theorem Nq (x:Nd):WideAt.IsKeyLit (kl x):=by unfold kl;exact trivial
theorem lG (T:List Nd):∀i,IsMap (bX T i)
 |0=>⟨[],rfl⟩
 |i+1=>by
  unfold bX
  split
  · exact lG T i
  · split
    · exact lG T i
    · exact (lG T i).put _ _
def Fit' (T:List Nd):Prop:=∀x∈T,x.fits
theorem sZ (T:List Nd) (x:Nd):∀i,i≤T.length→bX (T++ [x]) i=bX T i
 |0,_=>rfl
 |i+1,h=>by
  unfold bX
  rw[List.getElem?_append_left Xf,sZ T x i Xf]
theorem yu {T:List Nd} (hT:Fit' T) {x:Nd} (hx:x.fits):∀i,i≤T.length→has (bX T i) (kl x)=(T.take i).any (fun y=>decide (y.k≠1) && y.same x)
 |0,_=>rfl
 |i+1,h=>by
  have hi:i<T.length:=by omega
  have hy:=List.getElem?_eq_getElem hi
  have hyf:=hT T[i] (List.getElem_mem hi)
  rw[List.take_succ_eq_append_getElem hi,List.any_append,←yu hT hx i Xf]
  conv=>lhs;unfold bX
  rw[hy]
  simp only[List.any_cons,List.any_nil,Bool.or_false]
  split
  · rename_i h1
    rw[decide_eq_false (by simpa using h1),Bool.false_and,Bool.or_false]
  · rename_i h1
    rw[decide_eq_true h1,Bool.true_and]
    cases hs:T[i].same x with
    |true=>
     have e:=(zZ hyf hx).2 hs
     rw[←e,has_put_same (lG T i) (Nq _),Bool.or_true]
    |false=>
     rw[has_put_other (fun e=>by have :=(zZ hyf hx).1 e.symm;rw[hs] at this;cases this),Bool.or_false]
theorem KM {T:List Nd} (hT:Fit' T) {x:Nd} (hx:x.fits) (z:DataW Value) {j:Nat} {y:Nd} (hj:T[j]?=some y) (hk:y.k≠1) (hs:y.same x=true):∀i,i≤T.length→j<i→(∀j' y',j<j'→j'<i→T[j']?=some y'→y'.k≠1→y'.same x=false)→(bX T i).atKey (kl x) z=idV j
 |0,_,h,_=>by omega
 |i+1,h,hji,hu=>by
  have hi:i<T.length:=by omega
  have hy:=List.getElem?_eq_getElem hi
  have hyf:=hT T[i] (List.getElem_mem hi)
  conv=>lhs;unfold bX
  rw[hy]
  simp only
  by_cases e:i=j
  · subst e
    rw[hy] at hj
    cases hj
    rw[if_neg hk,←(zZ hyf hx).2 hs,atKey_put_same (lG T i) (Nq _)]
  · have IH:=KM hT hx z hj hk hs i Xf Xf (fun j' y' h1 h2=>hu j' y' h1 Xf)
    split
    · exact IH
    · rename_i h1
      have h2:=hu i T[i] Xf Xf hy h1
      rw[atKey_put_other (fun e=>by have :=(zZ hyf hx).1 e.symm;rw[h2] at this;cases this)]
      exact IH
def Uniq (T:List Nd):Prop:=∀(j j':Nat) (y y':Nd),j<j'→T[j]?=some y→T[j']?=some y'→y.k≠1→y'.k≠1→y.same y'=false
theorem MN {x y z:Nd} (h:x.same z=true) (k:y.same z=true):x.same y=true:=by
 unfold Nd.same at *
 rw[decide_eq_true_iff] at *
 exact⟨h.1.trans k.1.symm,h.2.1.trans k.2.1.symm,h.2.2.1.trans k.2.2.1.symm,h.2.2.2.trans k.2.2.2.symm⟩
theorem QE {T:List Nd} (hT:Fit' T) (hu:Uniq T) {x:Nd} (hx:x.fits) {j:Nat} (h:jS T x=some j) (z:DataW Value):has (bX T T.length) (kl x)=true∧(bX T T.length).atKey (kl x) z=idV j∧j<T.length:=by
 unfold jS at h
 rw[List.findIdx?_eq_some_iff_getElem] at h
 obtain⟨hj,hp,_⟩:=h
 rw[Bool.and_eq_true,decide_eq_true_iff] at hp
 have hjx:=List.getElem?_eq_getElem hj
 refine⟨?_,KM hT hx z hjx hp.1 hp.2 T.length (Nat.le_refl _) hj (fun j' y' h1 h2 h3 h4=> ?_),hj⟩
 · rw[yu hT hx T.length (Nat.le_refl _),List.take_of_length_le (Nat.le_refl _)]
   exact List.any_eq_true.2 ⟨T[j],List.getElem_mem hj,by rw[hp.2,decide_eq_true hp.1];rfl⟩
 · rw[Bool.eq_false_iff]
   intro e
   have :=hu j j' T[j] y' h1 hjx h3 hp.1 h4
   rw[MN hp.2 e] at this
   cases this
theorem Uh {T:List Nd} (hT:Fit' T) {x:Nd} (hx:x.fits) (h:jS T x=none):has (bX T T.length) (kl x)=false:=by
 unfold jS at h
 rw[List.findIdx?_eq_none_iff] at h
 rw[yu hT hx T.length (Nat.le_refl _),List.take_of_length_le (Nat.le_refl _),List.any_eq_false]
 intro y hy
 have :=h y hy
 simpa using this
end
section
open Go.RowKit Go.Maps
def aY (T:List Nd):Nat:=(T.filter fun x=>decide (x.k=1)).length
def mT (w:World) (bm:Nat) (T:List Nd):Prop:=w.ownsMap Tryz.prog 319 Rv bm T.length (bX T T.length)
structure TbF (w0 w:World) (g:Nat) (T:List Nd) (vl vs:Value) (bm:Nat):Prop where
 x:TbX w0 w g (T.map Nd.cell) (fH T) (aY T) vl vs bm
 m:mT w bm T
theorem mT.keep {w w':World} {bm:Nat} {T:List Nd} (h:mT w bm T) (e:w'.heap[bm]?=w.heap[bm]?):mT w' bm T:=by
 obtain⟨es,clock,hb,r⟩:=h
 exact⟨es,clock,by rw[e];exact hb,r⟩
theorem mT.lt {w:World} {bm:Nat} {T:List Nd} (h:mT w bm T):bm<w.heap.size:=by
 obtain⟨es,clock,hb,r⟩:=h
 exact (Array.getElem?_eq_some_iff.1 hb).1
theorem mT.vw {w:World} {bm g:Nat} {t:TypeId} {cs:List Value} {T:List Nd} (h:mT w bm T) (hb:Blk w g t cs):bm≠g:=by
 obtain⟨es,clock,hm,r⟩:=h
 rintro rfl
 rw[hb] at hm
 cases hm
theorem mT.rM {w0 w:World} {bm:Nat} {e:TypeId} {s n:Nat} {v:Value} {xs:List Value} {T:List Nd} (h:mT w bm T) (ho:Own w0 w e s v n xs):v.ownBlock≠some bm:=by
 obtain⟨es,clock,hm,r⟩:=h
 intro hv
 rcases ho.1.2 with⟨h1,_⟩| ⟨g',cap,cur,hv',_,hh,_⟩
 · rw[h1] at hv;cases hv
 · have e1:g'=bm:=by rw[hv'] at hv;exact Option.some.inj hv
   rw[e1,hm] at hh
   cases hh
theorem TbX.gr {w0 w w':World} {g:Nat} {L:List Value} {S:List Nat} {a:Nat} {vl vs:Value} {bm:Nat} (h:TbX w0 w g L S a vl vs bm) (hg:Gr w w'):TbX w0 w' g L S a vl vs bm:=⟨hg.blk h.blk,h.l.mono hg,h.s.mono hg,h.ge,h.gm⟩
theorem TbF.gr {w0 w w':World} {g:Nat} {T:List Nd} {vl vs:Value} {bm:Nat} (h:TbF w0 w g T vl vs bm) (hg:Gr w w'):TbF w0 w' g T vl vs bm:=⟨h.x.gr hg,h.m.keep (hg.block bm h.m.lt)⟩
theorem TbF.rd {w0 w:World} {g:Nat} {T:List Nd} {vl vs:Value} {bm:Nat} (h:TbF w0 w g T vl vs bm):TRd w g T:=by
 obtain⟨A,c,e,hs⟩:=h.x.l.slice
 rw[List.length_map] at e hs
 have hb:=h.x.blk.cell 0
 exact⟨A,c,by rw[hb,e];rfl,hs⟩
structure dH (w w':World) (g bm:Nat) (vl vs vl' vs':Value):Prop where
 size:w.heap.size≤w'.heap.size
 keep:∀b,b<w.heap.size→b≠g→b≠bm→vl.ownBlock≠some b→vs.ownBlock≠some b→w'.heap[b]?=w.heap[b]?
 ol:∀b,vl'.ownBlock=some b→vl.ownBlock=some b∨w.heap.size≤b
 os:∀b,vs'.ownBlock=some b→vs.ownBlock=some b∨w.heap.size≤b
theorem dH.gr {w w':World} {g bm:Nat} {vl vs:Value} (hg:Gr w w'):dH w w' g bm vl vs vl vs:=⟨hg.size,fun b h1 _ _ _ _=>hg.block b h1,fun b h=> .inl h,fun b h=> .inl h⟩
theorem dH.trans {w w' w'':World} {g bm:Nat} {vl vs vl' vs' vl'' vs'':Value} (h:dH w w' g bm vl vs vl' vs') (k:dH w' w'' g bm vl' vs' vl'' vs''):dH w w'' g bm vl vs vl'' vs'':=by
 refine⟨Nat.le_trans h.size k.size,fun b h1 h2 h3 h4 h5=> ?_,fun b hb=> ?_,fun b hb=> ?_⟩
 · refine (k.keep b (Nat.lt_of_lt_of_le h1 h.size) h2 h3 (fun e=> ?_) (fun e=> ?_)).trans (h.keep b h1 h2 h3 h4 h5)
   · rcases h.ol b e with h'|h'
     · exact h4 h'
     · omega
   · rcases h.os b e with h'|h'
     · exact h5 h'
     · omega
 · rcases k.ol b hb with h'|h'
   · exact h.ol b h'
   · exact .inr (Nat.le_trans h.size h')
 · rcases k.os b hb with h'|h'
   · exact h.os b h'
   · exact .inr (Nat.le_trans h.size h')
def fZ (T:List Nd) (x:Nd) (ids:List Int):List Nd×Nat:=if ids.any (outside T.length) then (T,0) else match jS T x with
 |some j=>(T,j+1)
 |none=>(T++ [x],T.length+1)
def EP (w0 w:World) (g bm:Nat) (vl vs:Value) (r:List Nd×Nat) (e:Ending) (w':World):Prop:=
 ∃vl' vs',e= .returned (.int .i64 (r.2:Int))∧TbF w0 w' g r.1 vl' vs' bm∧dH w w' g bm vl vs vl' vs'
theorem Wd (w:World):(zeroValue 3).run Tryz.prog w= .ok (.int .i64 0) w:=by kernel_rfl
theorem Qc {v:Value} {d:DataW Value} {ps:List MemPlace} (h:Rv v=some (d,ps)):d= .held v:=by
 unfold Rv at h
 injection h with h
 injection h with h1 h2
 exact h1.symm
theorem QG {w:World} {bm:Nat} {T:List Nd} (h:mT w bm T) (x:Nd) (hx:x.fits):∀v,(bX T T.length).atKey (kl x) (.held (.int .i64 0))= .held v→(Instr.lookup 83 (.map (some bm)) (AO x) true).run Tryz.prog w= .ok (.tuple #[v,.bool (has (bX T T.length) (kl x))]) w:=by
 intro v hv
 obtain⟨v',ps,hrun,hR⟩:=World.ownsMap.look_ok (zd:= .held (.int .i64 0)) (zp:=[]) h zL Tryz.underlying83 (Wd w) rfl (zK x hx)
 have :=Qc hR
 rw[hv] at this
 injection this with this
 rw[this]
 exact hrun
def Nd.known (x:Nd):Prop:=2≤x.k∧x.k≤5
theorem MR (x:Nd):∃ty xv,x.cell= .iface ty xv:=by
 unfold Nd.cell
 split
 · exact⟨_,_,rfl⟩
 · split
   · exact⟨_,_,rfl⟩
   · split
     · exact⟨_,_,rfl⟩
     · split<;>exact⟨_,_,rfl⟩
theorem Iq (T:List Nd) (x:Nd) (hk:x.k≠1):bX (T++ [x]) (T++ [x]).length=(bX T T.length).put (kl x) (idV T.length):=by
 rw[List.length_append]
 show bX (T++ [x]) (T.length+1)=_
 conv=>lhs;unfold bX
 rw[List.getElem?_append_right (Nat.le_refl _),Nat.sub_self]
 simp only[List.getElem?_cons_zero,if_neg hk]
 rw[sZ T x T.length (Nat.le_refl _)]
theorem LK (T:List Nd) (x:Nd) (hk:x.k≠1):aY (T++ [x])=aY T:=by
 unfold aY
 rw[List.filter_append]
 simp[hk]
theorem dH.of {w w':World} {g bm:Nat} {vl vs vl' vs':Value} (h:yA w w' g vl vs vl' vs'):dH w w' g bm vl vs vl' vs':=⟨h.size,fun b h1 h2 _ h3 h4=>h.keep b h1 h2 h3 h4,h.ol,h.os⟩
theorem Nr {w0 w w2 w3 w5 w6 w7:World} {g bm:Nat} {T:List Nd} {vl vs vl' vs':Value} {x:Nd} {ty:TypeId} {xv:Value} (h:TbF w0 w g T vl vs bm) (hk:x.known) (hc:x.cell= .iface ty xv) (g2:Gr w w2)
 (h3:TbX w0 w3 g (T.map Nd.cell++ [.iface ty xv]) (fH T++ [sizeOf' (fH T) x.parts]) (aY T) vl' vs' bm) (c3:yA w2 w3 g vl vs vl' vs') (m3:mT w3 bm T) (g5:Gr w3 w5)
 (m6:w6.ownsMap Tryz.prog 319 Rv bm (T.length+1) ((bX T T.length).put (kl x) (idV T.length))) (hg6:w5.grownBy w6 (some bm)) (g7:Gr w6 w7):
 TbF w0 w7 g (T++ [x]) vl' vs' bm∧dH w w7 g bm vl vs vl' vs':=by
 have hk1:x.k≠1:=by have :=hk.1;omega
 have x5:=h3.gr g5
 have m5:mT w5 bm T:=m3.keep (g5.block bm m3.lt)
 have hb6:Below w0.heap.size w0 w6:=x5.l.below.grown hg6 x5.l.below.size (fun k hk=>by cases hk;exact h3.gm)
 have ho6:∀b,b<w5.heap.size→b≠bm→w6.heap[b]?=w5.heap[b]?:=fun b h1 h2=>hg6.block b h1 (fun e=>h2 (by injection e))
 have x6:TbX w0 w6 g (T.map Nd.cell++ [.iface ty xv]) (fH T++ [sizeOf' (fH T) x.parts]) (aY T) vl' vs' bm:=
  ⟨(ho6 g x5.blk.lt (fun e=>m5.vw x5.blk e.symm)).trans x5.blk,x5.l.nu hb6 (fun b hb=>ho6 b (x5.l.1.lt b hb).2 (fun e=>m5.rM x5.l (by rw[hb,e]))),x5.s.nu hb6 (fun b hb=>ho6 b (x5.s.1.lt b hb).2 (fun e=>m5.rM x5.s (by rw[hb,e]))),h3.ge,h3.gm⟩
 have m6':mT w6 bm (T++ [x]):=by
  unfold mT
  rw[Iq T x hk1,List.length_append]
  exact m6
 have f6:TbF w0 w6 g (T++ [x]) vl' vs' bm:=by
  refine⟨?_,m6'⟩
  rw[List.map_append,wT,LK T x hk1]
  show TbX w0 w6 g (T.map Nd.cell++ [x.cell]) _ _ vl' vs' bm
  rw[hc]
  exact x6
 have c6:dH w5 w6 g bm vl' vs' vl' vs':=⟨hg6.size,fun b h1 _ h3 _ _=>ho6 b h1 h3,fun b h=> .inl h,fun b h=> .inl h⟩
 exact⟨f6.gr g7,((((dH.gr g2).trans (dH.of c3)).trans (dH.gr g5)).trans c6).trans (dH.gr g7)⟩
theorem Ct (w0:World) (g:Nat) (T:List Nd) (vl vs:Value) (bm:Nat) (x:Nd) (A:Option Addr) (m c:Nat) (w:World) (h:TbF w0 w g T vl vs bm) (hT:Fit' T) (hu:Uniq T) (hx:x.fits) (hk:x.known) (hP:Is w A m c (x.parts.map Int.ofNat)) (hn:T.length≤100000):
 Calls Tryz.prog 270 #[.pointer (some ⟨g,0,none⟩),AO x,x.cell,.slice A m c] w (EP w0 w g bm vl vs (fZ T x (x.parts.map Int.ofNat))):=by
 obtain⟨ty,xv,hcell⟩:=MR x
 obtain⟨W,hW⟩:∃W,W=w.alloc (.cells #[.int .i64 (x.k:Int),.int .i64 (x.a:Int),.int .i64 (x.b:Int),.string x.s] 319):=⟨_,rfl⟩
 have hg:Gr w W:=by rw[hW];exact Gr.alloc _ _
 have hb:Blk W w.heap.size 319 [.int .i64 (x.k:Int),.int .i64 (x.a:Int),.int .i64 (x.b:Int),.string x.s]:=by rw[hW];exact Blk.new w _ _
 have HTH:=Xh (pV g T.length A m c _ W (h.rd.mono hg).len (hP.mono hg))
 have H:=Xh h;have HG:=Xh hg;have HB:=Xh hb;have HW:=Xh hW;have HP:=Xh hP;have HC:=Xh hcell
 unfold fZ AO
 rw[hcell]
 clear h hg hb hW hP hcell
 cases ho:(x.parts.map Int.ofNat).any (outside T.length) with
 |true=>
  rw[ho] at HTH
  clear ho
  go_in
  go_wp2_with fail
  rw[←HW.out]
  refine HTH.out.mono ?_
  rintro e w1 ⟨rfl,g1⟩
  have G1:=Xh (HG.out.trans g1);clear g1
  go_wp2_with fail
  go_ret
  exact⟨vl,vs,rfl,H.out.gr G1.out,dH.gr G1.out⟩
 |false=>
  rw[ho] at HTH
  have HO:=Xh ho;clear ho
  obtain⟨v,hv⟩:∃v,(bX T T.length).atKey (kl x) (.held (.int .i64 0))= .held v:=by
   obtain⟨v',ps,_,hR⟩:=World.ownsMap.look_ok (zd:= .held (.int .i64 0)) (zp:=[]) H.out.m zL Tryz.underlying83 (Wd w) rfl (zK x hx)
   exact⟨v',Qc hR⟩
  have HV:=Xh hv
  have HLK:Hid (∀wq,Gr w wq→(Instr.lookup 83 (.map (some bm)) (.agg #[.int .i64 (x.k:Int),.int .i64 (x.a:Int),.int .i64 (x.b:Int),.string x.s]) true).run Tryz.prog wq= .ok (.tuple #[v,.bool (has (bX T T.length) (kl x))]) wq):=fun wq hq=>QG (H.out.gr hq).m x hx v hv
  have HBK:Hid (∀wq,Gr w wq→wq.cell? ⟨g,2,none⟩=some (.map (some bm))):=fun wq hq=>(H.out.gr hq).x.blk.cell 2
  have HKC:Hid (∀wq,Gr W wq→wq.cell? ⟨w.heap.size,0,none⟩=some (.int .i64 (x.k:Int))∧wq.cell? ⟨w.heap.size,1,none⟩=some (.int .i64 (x.a:Int))∧wq.cell? ⟨w.heap.size,2,none⟩=some (.int .i64 (x.b:Int))∧wq.cell? ⟨w.heap.size,3,none⟩=some (.string x.s)):=fun wq hq=>⟨(hq.blk HB.out).cell 0,(hq.blk HB.out).cell 1,(hq.blk HB.out).cell 2,(hq.blk HB.out).cell 3⟩
  have HXF:=Xh hx;have HTF:=Xh hT;have HU:=Xh hu;have HKN:=Xh hk
  clear hv hx hT hu hk
  cases hf:jS T x with
  |some j=>
   obtain⟨f1,f2,f3⟩:=QE HTF.out HU.out HXF.out hf (.held (.int .i64 0))
   have hv2:v= .int .i64 ((j:Int)+1):=by
    have :=HV.out
    rw[f2] at this
    unfold idV at this
    injection this with this
    exact this.symm
   subst hv2
   rw[f1] at HLK
   clear f1 f2 f3 hf
   go_in
   go_wp2_with fail
   rw[←HW.out]
   refine HTH.out.mono ?_
   rintro e w1 ⟨rfl,g1⟩
   have G1:=Xh g1;clear g1
   go_upto_region 3 with fail
   refine wrG Xe [0,1,3,7,0,31,63,127,127,255,1023] [.p 0,.p 1,.p 2,.q 3,.q 4,.q 5,.p 6,.p 7,.p 8,.p 9,.p 10] Xe (trivial) ?_
   have GD:Hid (Gr W w1.drew):=G1.out.trans (Gr.drew _)
   refine gP ?_
   refine gP ?_
   refine gP ?_
   refine gQ (fun wq hq=>HBK.out wq (HG.out.trans (GD.out.trans hq))) ?_
   refine gQ (fun wq hq=>HKC.out wq (GD.out.trans hq)) ?_
   refine gQ (fun wq hq=>HLK.out wq (HG.out.trans (GD.out.trans hq))) ?_
   refine gP ?_
   refine gP ?_
   refine gP ?_
   refine gP ?_
   refine gP ?_
   refine wNi fun w2 g2=> ?_
   have G2:=Xh (GD.out.trans g2);clear g2
   go_wp2_with fail
   go_ret
   exact⟨vl,vs,rfl,H.out.gr (HG.out.trans G2.out),dH.gr (HG.out.trans G2.out)⟩
  |none=>
   have f1:=Uh HTF.out HXF.out hf
   rw[f1] at HLK
   clear f1
   have HPUT:Hid (∀wq,Gr w wq→Calls Tryz.prog 163 #[.pointer (some ⟨g,0,none⟩),.iface ty xv,.slice A m c] wq fun e w'=>e= .returned (.int .i64 (((T.map Nd.cell).length+1:Nat):Int))∧∃vl' vs',TbX w0 w' g (T.map Nd.cell++ [.iface ty xv]) (fH T++ [sizeOf' (fH T) x.parts]) (aY T) vl' vs' bm∧yA wq w' g vl vs vl' vs'):=fun wq hq=>
    wV w0 g _ _ _ vl vs bm ty xv A m c x.parts wq (H.out.gr hq).x (by rw[zi,List.length_map]) (vU T) (HP.out.mono hq) (fun p hp=>by
     have :=HO.out
     rw[List.any_eq_false] at this
     have :=this (Int.ofNat p) (List.mem_map_of_mem hp)
     unfold outside at this
     simp at this
     rw[List.length_map]
     omega) (by rw[List.length_map];omega)
   go_in
   go_wp2_with fail
   rw[←HW.out]
   refine HTH.out.mono ?_
   rintro e w1 ⟨rfl,g1⟩
   have G1:=Xh g1;clear g1
   go_upto_region 3 with fail
   refine wrG Xe [0,1,3,7,0,31,63,127,127,255,1023] [.p 0,.p 1,.p 2,.q 3,.q 4,.q 5,.p 6,.p 7,.p 8,.p 9,.p 10] Xe (trivial) ?_
   have GD:Hid (Gr W w1.drew):=G1.out.trans (Gr.drew _)
   refine gP ?_
   refine gP ?_
   refine gP ?_
   refine gQ (fun wq hq=>HBK.out wq (HG.out.trans (GD.out.trans hq))) ?_
   refine gQ (fun wq hq=>HKC.out wq (GD.out.trans hq)) ?_
   refine gQ (fun wq hq=>HLK.out wq (HG.out.trans (GD.out.trans hq))) ?_
   refine gP ?_
   refine gP ?_
   refine gP ?_
   refine gP ?_
   refine gP ?_
   refine wNi fun w2 g2=> ?_
   have G2:=Xh (GD.out.trans g2);clear g2
   have HLW:Hid (∀b,(vl.ownBlock=some b∨vs.ownBlock=some b∨b=g∨b=bm)→b<w.heap.size):=fun b h=>by
    rcases h with h|h|h|h
    · exact (H.out.x.l.1.lt b h).2
    · exact (H.out.x.s.1.lt b h).2
    · rw[h];exact H.out.x.blk.lt
    · rw[h];exact H.out.m.lt
   have HZW:Hid (w.heap.size<W.heap.size):=HB.out.lt
   go_wp2_with fail
   refine (HPUT.out w2 (HG.out.trans G2.out)).mono ?_
   rintro e w3 ⟨rfl,vl',vs',tb3,ch3⟩
   have TB3:=Xh tb3;have CH3:=Xh ch3
   have hm2:=(H.out.gr (HG.out.trans G2.out))
   have M3:Hid (mT w3 bm T):=hm2.m.keep (ch3.keep bm hm2.m.lt (hm2.m.vw hm2.x.blk) (hm2.m.rM hm2.x.l) (hm2.m.rM hm2.x.s))
   have KB3:Hid (Blk w3 w.heap.size 319 [.int .i64 (x.k:Int),.int .i64 (x.a:Int),.int .i64 (x.b:Int),.string x.s]):=by
    have hb2:=G2.out.blk HB.out
    exact (ch3.keep w.heap.size hb2.lt (fun e=>by have :=HLW.out g (.inr (.inr (.inl rfl)));omega) (fun e=>by have :=HLW.out _ (.inl e);omega) (fun e=>by have :=HLW.out _ (.inr (.inl e));omega)).trans hb2
   have HMC3:Hid (∀wq,Gr w3 wq→wq.cell? ⟨g,2,none⟩=some (.map (some bm))):=fun wq hq=>(hq.blk TB3.out.blk).cell 2
   have HKC3:Hid (∀wq,Gr w3 wq→wq.cell? ⟨w.heap.size,0,none⟩=some (.int .i64 (x.k:Int))∧wq.cell? ⟨w.heap.size,1,none⟩=some (.int .i64 (x.a:Int))∧wq.cell? ⟨w.heap.size,2,none⟩=some (.int .i64 (x.b:Int))∧wq.cell? ⟨w.heap.size,3,none⟩=some (.string x.s)):=fun wq hq=>⟨(hq.blk KB3.out).cell 0,(hq.blk KB3.out).cell 1,(hq.blk KB3.out).cell 2,(hq.blk KB3.out).cell 3⟩
   have hlm:(T.map Nd.cell).length=T.length:=List.length_map ..
   rw[hlm]
   clear tb3 ch3 hm2 hlm
   go_upto_region 6 with fail
   refine wrG Xe [0,1,3,7,0,0,63] [.p 0,.p 1,.p 2,.p 5,.q 3,.q 4,.s 6] Xe (trivial) ?_
   refine gP ?_
   refine gP ?_
   refine gP ?_
   refine gP ?_
   refine gQ (fun wq hq=>HMC3.out wq (Xk hq)) ?_
   refine gQ (fun wq hq=>HKC3.out wq (Xk hq)) ?_
   refine dV rfl rfl ?_
   intro w5 g5 K hK
   have G5:=Xh ((Gr.drew w3).trans g5);clear g5
   have hm5:mT w5 bm T:=M3.out.keep (G5.out.block bm M3.out.lt)
   obtain⟨w6,hrun,hm6,hgr6⟩:=World.ownsMap.update (R:=Rv) (val:= .int .i64 ((T.length:Int)+1)) (d:=idV T.length) (ps:=[]) hm5 zL Tryz.underlying83 (by unfold maxLen;omega) (zK x HXF.out) rfl
   unfold AO at hrun
   have HM6:=Xh hm6;have HG6:=Xh hgr6;clear hm5 hm6 hgr6
   go_simp
   refine hK _ _ ?_
   clear hK hrun
   go_simp
   refine wNi fun w7 g7=> ?_
   have FIN:=Xh (Nr H.out HKN.out HC.out (HG.out.trans G2.out) TB3.out CH3.out M3.out G5.out HM6.out HG6.out g7)
   clear g7
   go_wp2_with fail
   go_ret
   exact⟨vl',vs',dx (by simp),FIN.out.1,FIN.out.2⟩
end
end Go.Proofs.YtipdlnejmcmbbaaGreatDoor
