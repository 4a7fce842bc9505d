/- Own texts, one behind the other. No condition. -/
import Derived.Test.YtipdlnejmcmbbaaGreatDoorObPkAJ
set_option linter.unusedVariables false
set_option maxRecDepth 100000
set_option maxHeartbeats 8000000
set_option linter.unusedSimpArgs false
namespace Go.Proofs.YtipdlnejmcmbbaaGreatDoor
section
open Go.RowKit
theorem Wx:eB Tryz.prog 55 304 (.agg (.int .i64 0::List.replicate 512 (.int .u8 0)).toArray) 513 520:=⟨Tryz.underlying55,by kernel_rfl,rfl,Xg,Xg⟩
theorem Vr:eB Tryz.prog 56 346 (.agg #[.int .i64 0,.slice none 0 0]) 2 32:=⟨Tryz.underlying56,by kernel_rfl,rfl,Xg,Xg⟩
def Dk.keep (d:Dk) (place:Nat) (l:List UInt8):Dk:={d with kept:=d.kept.set place l,all:=d.all+1}
def Hu (cs:List Value):Nat→List Value→List Value
 |_,[]=>cs
 |o,v::vs=>Hu (cs.set o v) (o+1) vs
theorem JY:∀(vs p q r:List Value),q.length=vs.length→Hu (p++(q++r)) p.length vs=p++(vs++r)
 | [],p,q,r,h=>by
  cases q with
  |nil=>rfl
  |cons _ _=>cases h
 |v::vs,p,q,r,h=>by
  cases q with
  |nil=>cases h
  |cons x q=>
   have h':q.length=vs.length:=by simpa using h
   have e:(p++(x::q++r)).set p.length v=(p++ [v])++(q++r):=by
    rw[List.set_append_right _ _ (Nat.le_refl _),Nat.sub_self]
    simp
   show Hu ((p++(x::q++r)).set p.length v) (p.length+1) vs=_
   rw[e,show p.length+1=(p++ [v]).length by simp,JY vs (p++ [v]) q r h']
   simp
theorem Rx {l:List UInt8} (hl:l.length=512):∀(K:List (List UInt8)) (place:Nat),(∀x∈K,x.length=512)→place<K.length→Hu (aZ K) (place*512) (l.map u8c)=aZ (K.set place l):=by
 intro K place hK hp
 have hK1:K=K.take place++(K[place]::K.drop (place+1)):=by rw[List.getElem_cons_drop];exact (List.take_append_drop _ _).symm
 have hs:K.set place l=K.take place++(l::K.drop (place+1)):=by rw[List.set_eq_take_append_cons_drop,if_pos hp]
 have e1:aZ K=aZ (K.take place)++((K[place].map u8c)++aZ (K.drop (place+1))):=by
  conv=>lhs;rw[hK1]
  unfold aZ
  rw[List.flatMap_append,List.flatMap_cons]
 have e2:aZ (K.set place l)=aZ (K.take place)++((l.map u8c)++aZ (K.drop (place+1))):=by
  rw[hs]
  unfold aZ
  rw[List.flatMap_append,List.flatMap_cons]
 have hlen:(aZ (K.take place)).length=place*512:=by rw[vW (fun x hx=>hK x (List.mem_of_mem_take hx)),List.length_take,Nat.min_eq_left Xf]
 rw[e1,e2,←hlen]
 exact JY _ _ _ _ (by rw[List.length_map,List.length_map,hl];exact hK _ (List.getElem_mem hp))
theorem Blk.puts {g:Nat} {t:TypeId}:∀(vs:List Value) (o:Nat) {w:World} {cs:List Value},Blk w g t cs→Blk (w.setCells g o vs) g t (Hu cs o vs)
 | [],_,_,_,h=>h
 |v::vs,o,_,_,h=>Blk.puts vs (o+1) (h.set o v)
theorem Tch.puts {S:Nat→Prop} {g:Nat} (hg:S g):∀(vs:List Value) (o:Nat) (w:World),Tch S w (w.setCells g o vs)
 | [],_,w=>Tch.gr (Gr.refl w)
 |v::vs,o,w=>(Tch.set ⟨g,o,none⟩ v hg).trans (Tch.puts hg vs (o+1) _)
theorem Pt (l:List UInt8):∀v∈l.map u8c,v.oneCell'=true:=fun v hv=>by
 obtain⟨x,_,rfl⟩:=List.mem_map.1 hv
 rfl
theorem DkM.there {w0 w:World} {dp kb:Nat} {vP vA:Value} {d:Dk} (h:DkM w0 w dp kb vP vA d) {place:Nat} (hp:place<d.kept.length):w.there kb (place*512) 512:=fun j hj=>by
 have hk:=vW h.k512
 refine⟨?_,Blk.free h.kept _⟩
 rw[h.kept.cell,List.getElem?_eq_getElem Xf]
 rfl
section
variable {w0 w:World} {dp kb:Nat} {vP vA:Value} {d:Dk}
theorem DkM.Qe (h:DkM w0 w dp kb vP vA d) {W:World} {v1:Value} {place:Nat} {l:List UInt8} (hl:l.length=512) (hb:Below w0.heap.size w0 W) (hs:w.heap.size≤W.heap.size)
 (hk:∀b,b<w.heap.size→b≠dp→b≠kb→vA.ownBlock≠some b→W.heap[b]?=w.heap[b]?)
 (hd:Blk W dp 58 [.slice (some ⟨kb,0,none⟩) d.kept.length d.kept.length,vP,v1,.int .i64 d.fuse,.int .i64 (d.calls:Int),.bool d.down])
 (hkb:Blk W kb 302 (aZ (d.kept.set place l))) (ho:∃xs,Own w0 W 346 2 v1 (d.all+1) xs)
 (ol:∀b,v1.ownBlock=some b→vA.ownBlock=some b∨w.heap.size≤b):DkM w0 W dp kb vP v1 (d.keep place l)∧dH w W dp kb vP vA vP v1:=by
 obtain⟨xs,ha⟩:=h.all
 refine⟨⟨?_,hkb,fun x hx=> ?_,?_,fun x hx=> ?_,ho,h.gd,h.gk⟩,⟨hs,fun b h1 h2 h3 _ h5=>hk b h1 h2 h3 h5,fun b q=> .inl q,ol⟩⟩
 · show Blk _ _ _ [.slice _ (d.kept.set place l).length (d.kept.set place l).length,_,_,_,_,_]
   rw[List.length_set]
   exact hd
 · rcases List.mem_or_eq_of_mem_set hx with q|q
   · exact h.k512 x q
   · rw[q];exact hl
 · refine h.pend.nu hb (fun b q=>hk b (h.pend.1.lt b q).2 (fun e=> ?_) (fun e=> ?_) (fun e=>pK ha h.pend Xg e q))
   · exact bZ h.pend h.blk Xg (e▸q)
   · exact bZ h.pend h.kept Xg (e▸q)
 · show _∧_<(d.kept.set place l).length
   rw[List.length_set]
   exact h.p512 x hx
theorem DkM.mid (h:DkM w0 w dp kb vP vA d) {place:Nat} (hp:place<d.kept.length) {l:List UInt8} (hl:l.length=512) {w2:World} (hw2:w2=w.setCells kb (place*512) (l.map u8c).toArray.toList):
 Tch (fun b=>b=kb) w w2∧Blk w2 kb 302 (aZ (d.kept.set place l))∧Blk w2 dp 58 [.slice (some ⟨kb,0,none⟩) d.kept.length d.kept.length,vP,vA,.int .i64 d.fuse,.int .i64 (d.calls:Int),.bool d.down]∧∃xs,Own w0 w2 346 2 vA d.all xs:=by
 rw[List.toList_toArray] at hw2
 have t2:Tch (fun b=>b=kb) w w2:=by rw[hw2];exact Tch.puts (S:=fun b=>b=kb) rfl _ _ _
 have k2:Blk w2 kb 302 (aZ (d.kept.set place l)):=by
  rw[hw2,←Rx hl d.kept place h.k512 hp]
  exact Blk.puts _ _ h.kept
 obtain⟨xs,ha⟩:=h.all
 exact⟨t2,k2,h.blk.tch t2 h.ne,xs,ha.tch t2 (fun b e=>e▸h.gk) (fun b q e=>bZ ha h.kept Xg (e▸q))⟩
theorem FM (h:DkM w0 w dp kb vP vA d) (hk:d.kept.length≤1024) (ha9:d.all≤2000000000) (place:Nat) (hp:place<d.kept.length) (l:List UInt8) (hl:l.length=512):
 Calls Tryz.prog 248 #[.pointer (some ⟨dp,0,none⟩),.int .i64 (place:Int),arr l] w fun e w'=>e= .returned (.tuple #[])∧∃vA',DkM w0 w' dp kb vP vA' (d.keep place l)∧dH w w' dp kb vP vA vP vA':=by
 have g1:Gr w (w.alloc (.cells (l.map u8c).toArray 302)):=Gr.alloc _ _
 have h1:=h.mono g1
 have nb:Blk (w.alloc (.cells (l.map u8c).toArray 302)) w.heap.size 302 (l.map u8c):=Blk.new w 302 (l.map u8c).toArray
 obtain⟨w1,hw1⟩:∃w1,w1=w.alloc (.cells (l.map u8c).toArray 302):=⟨_,rfl⟩
 rw[←hw1] at g1 h1 nb
 have HW1:=Xh hw1
 have hsz:(Tryz.prog.info? 302).map (·.size)=some (l.map u8c).length:=by rw[List.length_map,hl];kernel_rfl
 have HSZ:=Xh hsz
 have hsz2:(Tryz.prog.info? 302).map (·.size)=some (l.map u8c).toArray.size:=by rw[List.size_toArray];exact hsz
 have HSZ2:=Xh hsz2
 have NB:Hid (∀wx,Gr w1 wx→wx.rangeAt w.heap.size 0 (l.map u8c)):=fun wx g j v hv=>by rw[(g.blk nb).cell,Nat.zero_add];exact hv
 have C0:Hid (∀wx,Gr w1 wx→wx.cell? ⟨dp,0,none⟩=some (.slice (some ⟨kb,0,none⟩) d.kept.length d.kept.length)):=fun wx g=>(h1.mono g).c0
 have H1:=Xh h1;have HL:=Xh hl;have G1:=Xh g1;have HP:=Xh hp
 have p0:(0:Int)≤(place:Int):=by omega
 have p1:(place:Int)<(d.kept.length:Int):=by omega
 have hrun:=fun (W:World)=>Kl w.heap.size W
 have HH:=Xh h
 obtain⟨n,hn⟩:∃n,n=d.kept.length:=⟨_,rfl⟩
 rw[←hn] at C0 p1 hk
 clear h h1 hw1 hsz hsz2 nb hl g1 hn hp
 go_in
 go_upto_region 1 with fail
 show Code.wp Tryz.prog _ _ _ (w.alloc (.cells (l.map u8c).toArray 302))
 rw[←HW1.out]
 refine wrP Xe (fun w'=>Gr w1 w') (fun i=>i==3 || i==5) (fun i=>i==7) [0,1,2,3,4,5,6] 1 Xe Xe Xe (Gr.drew _) ?_
 refine rP ?_
 refine rP ?_
 refine rP ?_
 refine rQ (fun wq hq=>C0.out wq hq) ?_
 refine rP ?_
 refine rU rfl rfl ⟨.agg (l.map u8c).toArray,fun wq hq=>EY 302 (.tmp 5) rfl w.heap.size 0 rfl _ _ (NB.out wq (hq rfl)) Tryz.underlying302 rfl HSZ.out,?_⟩
 go_simp
 refine rP ?_
 refine dQ ?_
 have H2:Hid (DkM w0 w1.drew dp kb vP vA d):=H1.out.mono (Gr.drew _)
 have G2:Hid (Gr w w1.drew):=G1.out.trans (Gr.drew _)
 obtain⟨w2,hw2⟩:∃w2,w2=w1.drew:=⟨_,rfl⟩
 rw[←hw2] at H2 G2 ⊢
 clear hw2
 have HTH:Hid (w2.there kb (place*512) (l.map u8c).toArray.size):=by show World.there _ _ _ _;rw[Gu,HL.out];exact H2.out.there HP.out
 refine wR1 (i:=7) Xe rfl rfl ?_
 intro K hK
 refine wp_store_mid 302 (.tmp 12) (.tmp 11) rfl kb (place*512) (l.map u8c).toArray rfl rfl HTH.out HSZ2.out (KU _) ?_
 obtain⟨w3,hw3⟩:∃w3,w3=w2.setCells kb (place*512) (l.map u8c).toArray.toList:=⟨_,rfl⟩
 obtain⟨t3,k3,b3,xs,o3⟩:=H2.out.mid HP.out HL.out hw3
 rw[←hw3]
 have T3:=Xh t3;have K3:=Xh k3;have B3:=Xh b3;have O3:=Xh o3
 clear t3 k3 b3 o3 hw3
 refine hK _ _ (fun q=>by simp at q) ?_
 clear hK
 go_simp
 refine aR Xe ?_
 go_upto_region 2 with fail
 have C2:Hid (∀wx,Gr w3 wx→wx.cell? ⟨dp,2,none⟩=some vA):=fun wx g=>(g.blk B3.out).cell 2
 refine wrP Xe (fun w'=>Gr w3 w') (fun i=>i==4) (fun i=>Nat.ble 9 i) [0,1,2,3,4,5,6,7] 5 Xe Xe Xe (Gr.drew _) ?_
 refine rP ?_
 refine rP ?_
 refine rP ?_
 refine rP ?_
 refine rQ (fun wq hq=>C2.out wq hq) ?_
 refine rP ?_
 refine rP ?_
 refine rP ?_
 refine dQ ?_
 have O4:Hid (Own w0 w3.drew 346 2 vA d.all xs):=O3.out.mono (Gr.drew _)
 refine wR1 (i:=8) Xe rfl rfl ?_
 intro K hK
 go_simp
 refine hK _ _ (fun _=>(Gr.drew _).trans (Gr.alloc _ _)) ?_
 clear hK
 go_simp
 refine wR1 (i:=9) Xe rfl rfl ?_
 intro K hK
 refine fO (.tmp 17) (.tmp 21) 56 rfl Vr rfl (O4.out.alloc _) w3.drew.heap.size 1 [.int .i64 (place:Int),.slice (some ⟨w.heap.size,0,none⟩) 512 512] rfl rfl (by intro u hu;rcases List.mem_cons.1 hu with rfl|hu;rfl;rw[List.mem_singleton.1 hu];rfl) (fun j u hu=>(Blk.cell (Blk.new w3.drew _ _) j).trans hu) Xf ?_
 intro v5 w5 o5 k5
 obtain⟨A5,e5,rfl,_⟩:=o5.slice
 have G8:Gr w3 (w3.drew.alloc (.cells #[.int .i64 (place:Int),.slice (some ⟨w.heap.size,0,none⟩) 512 512] 346)):=(Gr.drew _).trans (Gr.alloc _ _)
 have hO8:=O3.out.mono G8
 have B5:Hid (Blk w5 dp 58 [.slice (some ⟨kb,0,none⟩) d.kept.length d.kept.length,vP,vA,.int .i64 d.fuse,.int .i64 (d.calls:Int),.bool d.down]):=(k5.1 dp (G8.blk B3.out).lt (bZ hO8 (G8.blk B3.out) Xg)).trans (G8.blk B3.out)
 have K5:Hid (Blk w5 kb 302 (aZ (d.kept.set place l))):=(k5.1 kb (G8.blk K3.out).lt (bZ hO8 (G8.blk K3.out) Xg)).trans (G8.blk K3.out)
 have f5:=Blk.free B5.out 2
 have c5:w5.cell? ⟨dp,2,none⟩=some vA:=B5.out.cell 2
 have O5:=Xh o5;have KP5:Hid (Kept (w3.drew.alloc (.cells #[.int .i64 (place:Int),.slice (some ⟨w.heap.size,0,none⟩) 512 512] 346)) w5 vA (.slice A5 (d.all+1) e5)):=k5
 have O8:=Xh hO8;have GG8:=Xh G8
 clear o5 k5 hO8 G8
 refine hK _ _ (fun q=>by simp at q) ?_
 clear hK
 go_simp
 refine wR1 (i:=10) Xe rfl rfl ?_
 intro K hK
 go_simp
 refine hK _ _ (fun q=>by simp at q) ?_
 clear hK
 go_simp
 refine wR1 (i:=11) Xe rfl rfl ?_
 intro K hK
 go_simp
 refine hK _ _ (fun q=>by simp at q) ?_
 clear hK
 go_simp
 refine wR1 (i:=12) Xe rfl rfl ?_
 intro K hK
 go_simp
 refine hK _ _ (fun q=>by simp at q) ?_
 clear hK
 go_simp
 refine aR Xe ?_
 go_wp2_with fail
 refine bodyPost_end (results_none rfl _ _ _) rfl ?_
 obtain⟨w6,hw6⟩:∃w6,w6=w5.setCell ⟨dp,2,none⟩ (.slice A5 (d.all+1) e5):=⟨_,rfl⟩
 rw[←hw6]
 have t6:Tch (fun b=>b=dp) w5 w6:=by rw[hw6];exact Tch.set ⟨dp,2,none⟩ _ rfl
 have b6:Blk w6 dp 58 [.slice (some ⟨kb,0,none⟩) d.kept.length d.kept.length,vP,.slice A5 (d.all+1) e5,.int .i64 d.fuse,.int .i64 (d.calls:Int),.bool d.down]:=by rw[hw6];exact B5.out.set 2 _
 have k6:=K5.out.tch t6 (fun e=>HH.out.ne e.symm)
 have o6:=O5.out.tch t6 (fun b e=>e▸HH.out.gd) (fun b q e=>bZ O5.out B5.out Xg (e▸q))
 have z2:=G2.out.size
 have z3:=T3.out.size
 have z5:=KP5.out.2.1
 have z8:=GG8.out.size
 obtain⟨xs0,ha0⟩:=HH.out.all
 refine⟨rfl,.slice A5 (d.all+1) e5,HH.out.Qe HL.out o6.below (by have :=t6.size;omega) (fun b h1 h2 h3 h4=> ?_) b6 k6 ⟨_,o6⟩ (fun b q=> ?_)⟩
 · have hb3:b<w3.heap.size:=by omega
   refine (t6.keep b Xf h2).trans ((KP5.out.1 b Xf h4).trans ((GG8.out.block b hb3).trans ((T3.out.keep b Xf h3).trans (G2.out.block b h1))))
 · rcases KP5.out.2.2 with e|e
   · left;rw[←e];exact q
   · right;rw[e] at q;have :=Option.some.inj q;omega
end
end
section
open Go.RowKit
def Dk.pushed (d:Dk) (place:Nat) (l:List UInt8):Dk:={d with pend:=d.pend++ [(place,l)]}
def Dk.write (d:Dk) (place:Nat) (l:List UInt8):Dk×Int:=(d.pushed place l).bB
theorem WC (v:Value) (hv:v.cells=#[v]) (cs zs:Array Value) (hz:zs.size=1+cs.size):Instr.fill ([(0,1),(1,cs.size)].toArray[·]?) zs [(0,v),(1,.agg cs)]=some (v::cs.toList).toArray:=by
 have e1:(v.cells.zipIdx.foldl (fun cs (x:Value×Nat)=>cs.setIfInBounds (0+x.2) x.1) zs)=zs.setIfInBounds 0 v:=by rw[hv];simp
 unfold Instr.fill
 simp only[List.getElem?_toArray,List.getElem?_cons_zero]
 rw[if_neg (by rw[hv,hz];simp),e1]
 unfold Instr.fill
 simp only[List.getElem?_toArray,List.getElem?_cons_succ,List.getElem?_cons_zero]
 have e2:(Value.agg cs).cells=cs:=rfl
 rw[e2,if_neg (by rw[Array.size_setIfInBounds,hz];simp)]
 unfold Instr.fill
 congr 1
 obtain⟨hs,hk⟩:=Great.foldl_set 1 cs.toList 0 (zs.setIfInBounds 0 v)
 have e3:cs.zipIdx.foldl (fun cs (x:Value×Nat)=>cs.setIfInBounds (1+x.2) x.1) (zs.setIfInBounds 0 v)=(cs.toList.zipIdx 0).foldl (fun cs (x:Value×Nat)=>cs.setIfInBounds (1+x.2) x.1) (zs.setIfInBounds 0 v):=by
  rw[←Array.foldl_toList,Array.toList_zipIdx]
 apply Array.ext_getElem?
 intro k
 refine (congrArg (·[k]?) e3).trans ((hk k).trans ?_)
 have hr:∀k,(v::cs.toList).toArray[k]?=(v::cs.toList)[k]?:=fun k=>List.getElem?_toArray
 rw[Array.size_setIfInBounds,Array.length_toList,hz,hr]
 cases k with
 |zero=>rw[if_neg Xf,Array.getElem?_setIfInBounds_self_of_lt Xf];rfl
 |succ k=>
  rw[List.getElem?_cons_succ]
  by_cases hlt:k<cs.size
  · rw[if_pos Xf,show k+1 - (1+0)=k by omega]
  · rw[if_neg Xf,List.getElem?_eq_none (by rw[Array.length_toList];omega)]
    simp
    omega
theorem VW {P:Program} {t:TypeId} {fs:Array Field} {n:Nat} (hu:P.underlying t=some (.struct fs)) (hz:((P.info? t).bind (·.zero)).map (·.cells.size)=some (1+n)) (hp:fs.toList.mapM (fun f=>(P.info? f.type).map fun i=>(f.offset,i.size))=some [(0,1),(1,n)])
 (v:Value) (hv:v.cells=#[v]) (cs:Array Value) (hn:cs.size=n):P.built t [(0,v),(1,.agg cs)]=some (v::cs.toList).toArray:=by
 unfold Program.built
 cases hi:P.info? t with
 |none=>rw[hi] at hz;cases hz
 |some it=>
  cases hzz:it.zero with
  |none=>rw[hi] at hz;simp[hzz] at hz
  |some z=>
   rw[hi] at hz
   simp only[Option.bind_some,hzz,Option.map_some,Option.some.injEq] at hz
   simp only[hu,hzz,hp]
   subst hn
   exact WC v hv cs z.cells hz
theorem Md {P:Program} {o:Oper} {a:Act} {w:World} (t:TypeId) (parts:List (Nat×Operand)) (ho:o.op= .build t parts.toArray) (cells:Array Value) (hf:P.built t (parts.map fun p=>(p.1,a.eval p.2))=some cells):pLa P o a w (.agg cells):=by
 unfold pLa execOp
 have hf':P.built t (parts.toArray.map fun (i,x)=>(i,a.eval x)).toList=some cells:=by
  rw[Array.toList_map]
  exact hf
 simp only[ho,Sem.run_bind,run_build w t _ _ hf',Result.andThen_ok]
 simp
theorem kZ {P:Program} {o:Oper} {a:Act} {w:World} {K:Act→World→Prop} {Q:Exit→Act→World→Prop} (t e:TypeId) (x:Operand) (ho:o.op= .buildSlice t 1 #[(0,x)])
 (cs:Array Value) (hx:a.eval x= .agg cs) (hu:P.underlying t=some (.slice e)) (hsz:(P.info? e).map (·.size)=some cs.size) (hz:((P.info? e).bind (·.zero)).isSome=true) (hpos:0<cs.size) (hsmall:cs.size≤2 ^ 24)
 (h:K (a.put o.dst (.slice (some ⟨w.heap.size,0,none⟩) 1 1)) (w.alloc (.cells cs e))):o.wp P a w K Q:=by
 cases hie:P.info? e with
 |none=>simp[hie] at hsz
 |some ie=>
  simp only[hie,Option.map_some,Option.some.injEq,Option.bind_some] at hsz hz
  obtain⟨z,hzz⟩:=Option.isSome_iff_exists.1 hz
  refine wp_buildSlice t e 1 #[(0,x)] ho cs ie z hu hie hzz (by rw[hsz];omega) (by rw[hsz];omega) ?_ h
  have hw:=Great.fill_whole (s:=ie.size) Xf [.agg cs] ((Array.range (1*ie.size)).map (z.cells[· % z.cells.size]!)) (fun v hv=>by
   simp only[List.mem_singleton] at hv
   subst hv
   exact hsz.symm) (by simp)
  simp only[hx] at hw ⊢
  simpa [Value.cells,hx] using hw
section
variable {w0 w:World} {dp kb:Nat} {vP vA:Value} {d:Dk}
theorem DkM.Cj (h:DkM w0 w dp kb vP vA d) {W:World} {v1:Value} {pd:List (Nat×List UInt8)} (hb:Below w0.heap.size w0 W) (hs:w.heap.size≤W.heap.size)
 (hk:∀b,b<w.heap.size→b≠dp→vP.ownBlock≠some b→W.heap[b]?=w.heap[b]?)
 (hd:Blk W dp 58 [.slice (some ⟨kb,0,none⟩) d.kept.length d.kept.length,v1,vA,.int .i64 d.fuse,.int .i64 (d.calls:Int),.bool d.down])
 (ho:Own w0 W 304 513 v1 pd.length (pd.flatMap bK)) (hp:∀x∈pd,x.2.length=512∧x.1<d.kept.length)
 (ol:∀b,v1.ownBlock=some b→vP.ownBlock=some b∨w.heap.size≤b):DkM w0 W dp kb v1 vA {d with pend:=pd}∧dH w W dp kb vP vA v1 vA:=by
 obtain⟨xs,ha⟩:=h.all
 refine⟨⟨hd,(hk kb h.kept.lt (fun e=>h.ne e.symm) (bZ h.pend h.kept Xg)).trans h.kept,h.k512,ho,hp,⟨xs,?_⟩,h.gd,h.gk⟩,⟨hs,fun b h1 h2 _ h4 _=>hk b h1 h2 h4,ol,fun b q=> .inl q⟩⟩
 refine ha.nu hb (fun b q=>hk b (ha.1.lt b q).2 (fun e=> ?_) (fun e=>pK h.pend ha Xg e q))
 exact bZ ha h.blk Xg (e▸q)
theorem DV (h:DkM w0 w dp kb vP vA d) (hs:d.small) (hd:d.down=false) (place:Nat) (hp:place<d.kept.length) (A:Option Addr) (c:Nat) (l:List UInt8) (hb:QB kb w A 512 c l) (hsp:(d.pushed place l).small):
 Calls Tryz.prog 169 #[.pointer (some ⟨dp,0,none⟩),.int .i64 (place:Int),.slice A 512 c] w fun e w'=>e= .returned (.int .i64 (d.write place l).2)∧∃vP',DkM w0 w' dp kb vP' vA (d.write place l).1∧dH w w' dp kb vP vA vP' vA:=by
 have HD:=Xh (nZ h)
 rw[hd] at HD
 clear hd
 have HA:=Xh (mX h (place:Int))
 rw[if_pos ⟨Xf,Xf⟩] at HA
 have HH:=Xh h;have HS:=Xh hs;have HSP:=Xh hsp;have HB:=Xh hb
 clear h hs hsp hb
 go_in
 go_upto_region 7 with (first
  |(go_at_call 245;refine HD.out.mono ?_;rintro e wd ⟨rfl,hwd⟩;subst hwd)
  |(go_at_call 246;refine HA.out.mono ?_;rintro e wd ⟨rfl,hwd⟩;subst hwd))
 have hl5:l.length=512:=HB.out.b.len
 have hsz:(Tryz.prog.info? 302).map (·.size)=some (l.map u8c).length:=by rw[List.length_map,hl5];kernel_rfl
 have HSZ:=Xh hsz
 obtain⟨b,o,rfl,hcc⟩:=Sl.addr HB.out.b Xg
 have RB:Hid (∀wx,Gr w wx→wx.rangeAt b o (l.map u8c)):=fun wx g j v hv=>by
  obtain⟨b',o',e,hc⟩:=Sl.addr (HB.out.mono g).b Xg
  injection e with e
  injection e with e1 e2
  subst e1 e2
  exact hc j v hv
 have C1:Hid (∀wx,Gr w wx→wx.cell? ⟨dp,1,none⟩=some vP):=fun wx g=>(g.blk HH.out.blk).cell 1
 have HL:=Xh hl5
 have HSZ3:Hid ((Tryz.prog.info? 304).map (·.size)=some (Value.int .i64 (place:Int)::l.map u8c).toArray.size):=by
  show _=_
  rw[List.size_toArray,List.length_cons,List.length_map,hl5]
  kernel_rfl
 have HP0:Hid (0<(Value.int .i64 (place:Int)::l.map u8c).toArray.size):=by show 0<_;rw[List.size_toArray,List.length_cons];omega
 have HP1:Hid ((Value.int .i64 (place:Int)::l.map u8c).toArray.size≤2 ^ 24):=by show _≤_;rw[List.size_toArray,List.length_cons,List.length_map,hl5];decide
 have HP2:Hid ((bK (place,l)).length=513):=mR hl5
 have HP3:Hid (∀u∈bK (place,l),u.oneCell'=true):=fun u hu=>by
  rcases List.mem_cons.1 hu with q|q
  · rw[q];rfl
  · exact Pt l u q
 clear hsz hcc hl5
 have hrun:∀(W:World),(Instr.arrayAt 302 (.slice (some ⟨b,o,none⟩) 512 c)).run Tryz.prog W= .ok (.pointer (some ⟨b,o,none⟩)) W:=fun W=>by
  unfold Instr.arrayAt
  kernel_rfl
 refine wrP Xe (fun w'=>w'.cell? ⟨dp,1,none⟩=some vP∧w'.rangeAt b o (l.map u8c)) (fun i=>i==4 || i==8) (fun i=>Nat.ble 12 i) [0,1,2,3,4,5,6,7,8,9] 5 Xe Xe Xe ⟨C1.out _ (Gr.drew _),RB.out _ (Gr.drew _)⟩ ?_
 refine rP ?_
 refine rP ?_
 refine rP ?_
 refine rP ?_
 refine rQ (fun _ hq=>hq.1) ?_
 refine rP ?_
 refine rP ?_
 refine rP ?_
 refine rU rfl rfl ⟨.agg (l.map u8c).toArray,fun wq hq=>EY 302 (.tmp 26) rfl b o rfl _ _ (hq rfl).2 Tryz.underlying302 rfl HSZ.out,?_⟩
 go_simp
 refine rU rfl rfl ⟨.agg (.int .i64 (place:Int)::l.map u8c).toArray,fun wq hq=>Md 304 [(0,.tmp 24),(1,.tmp 27)] rfl _ (by exact VW (n:=512) Tryz.underlying304 Xe Xe (.int .i64 (place:Int)) rfl (l.map u8c).toArray (by rw[Gu];exact HL.out)),?_⟩
 go_simp
 refine dQ ?_
 refine wR1 (i:=10) Xe rfl rfl ?_
 intro K hK
 refine kZ 55 304 (.tmp 28) rfl (.int .i64 (place:Int)::l.map u8c).toArray rfl Tryz.underlying55 HSZ3.out Xe HP0.out HP1.out ?_
 have G10:Hid (Gr w (w.drew.alloc (.cells (.int .i64 (place:Int)::l.map u8c).toArray 304))):=(Gr.drew _).trans (Gr.alloc _ _)
 have N10:Hid (Blk (w.drew.alloc (.cells (.int .i64 (place:Int)::l.map u8c).toArray 304)) w.drew.heap.size 304 (bK (place,l))):=Blk.new w.drew _ _
 obtain⟨w1,hw1⟩:∃w1,w1=w.drew.alloc (.cells (.int .i64 (place:Int)::l.map u8c).toArray 304):=⟨_,rfl⟩
 rw[←hw1] at G10 N10 ⊢
 have HW1:=Xh hw1;clear hw1
 refine hK _ _ (fun _=>⟨C1.out _ G10.out,RB.out _ G10.out⟩) ?_
 clear hK
 go_simp
 have D1:Hid (DkM w0 w1 dp kb vP vA d):=HH.out.mono G10.out
 refine wR1 (i:=11) Xe rfl rfl ?_
 intro K hK
 refine fO (.tmp 23) (.tmp 29) 55 rfl Wx rfl D1.out.pend w.drew.heap.size 1 (bK (place,l)) rfl HP2.out HP3.out (fun j u hu=>(N10.out.cell j).trans hu) (by have :=HSP.out.2.2.1;unfold Dk.pushed at this;simp at this;omega) ?_
 intro v2 w2 o2 k2
 obtain⟨A2,e2,rfl,_⟩:=o2.slice
 have KP:Hid (Kept w1 w2 vP (.slice A2 (d.pend.length+1) e2)):=k2
 have B2:Hid (Blk w2 dp 58 [.slice (some ⟨kb,0,none⟩) d.kept.length d.kept.length,vP,vA,.int .i64 d.fuse,.int .i64 (d.calls:Int),.bool d.down]):=(k2.1 dp D1.out.blk.lt (bZ D1.out.pend D1.out.blk Xg)).trans D1.out.blk
 have nb:vP.ownBlock≠some b:=fun e=>by
  obtain⟨cs,z⟩:=D1.out.pend.aA e
  obtain⟨a,t,m,q,h1,_⟩:=(HB.out.mono G10.out).u b o Xg rfl
  have :=mq q z
  subst this
  exact h1.no (.inr (.inr (.inr (.inr (.inl rfl)))))
 have R2:Hid (w2.rangeAt b o (l.map u8c)):=fun j v hv=>by
  have hc:=RB.out w1 G10.out j v hv
  exact (World.cell?_of_block (w:=w1) (a:=⟨b,o+j,none⟩) (k2.1 b (World.block_lt_of_cell? w1 _ hc) nb)).trans hc
 have O2:=Xh o2
 clear o2 k2 nb
 refine hK _ _ (fun _=>⟨B2.out.cell 1,R2.out⟩) ?_
 clear hK
 have f2:=Blk.free B2.out 1
 have c2:w2.cell? ⟨dp,1,none⟩=some vP:=B2.out.cell 1
 go_simp
 refine wR1 (i:=12) Xe rfl rfl ?_
 intro K hK
 go_simp
 refine hK _ _ (fun q=>by simp at q) ?_
 clear hK
 go_simp
 refine wR1 (i:=13) Xe rfl rfl ?_
 intro K hK
 go_simp
 refine hK _ _ (fun q=>by simp at q) ?_
 clear hK
 go_simp
 refine wR1 (i:=14) Xe rfl rfl ?_
 intro K hK
 go_simp
 refine hK _ _ (fun q=>by simp at q) ?_
 clear hK
 go_simp
 refine aR Xe ?_
 obtain⟨w3,hw3⟩:∃w3,w3=w2.setCell ⟨dp,1,none⟩ (.slice A2 (d.pend.length+1) e2):=⟨_,rfl⟩
 rw[←hw3]
 have t3:Tch (fun b=>b=dp) w2 w3:=by rw[hw3];exact Tch.set ⟨dp,1,none⟩ _ rfl
 have b3:Blk w3 dp 58 [.slice (some ⟨kb,0,none⟩) d.kept.length d.kept.length,.slice A2 (d.pend.length+1) e2,vA,.int .i64 d.fuse,.int .i64 (d.calls:Int),.bool d.down]:=by rw[hw3];exact B2.out.set 1 _
 have o3:=O2.out.tch t3 (fun b e=>e▸HH.out.gd) (fun b q e=>bZ O2.out B2.out Xg (e▸q))
 have z1:=G10.out.size
 have z2:=KP.out.2.1
 have z3:=t3.size
 obtain⟨m3,c3⟩:=HH.out.Cj (pd:=d.pend++ [(place,l)]) o3.below Xf (fun b' h1 h2 h3=>(t3.keep b' Xf h2).trans ((KP.out.1 b' Xf h3).trans (G10.out.block b' h1))) b3
  (by rw[List.length_append,List.flatMap_append];simpa using o3)
  (fun x hx=>by
   rcases List.mem_append.1 hx with q|q
   · exact HH.out.p512 x q
   · rw[List.mem_singleton.1 q];exact⟨HL.out,hp⟩)
  (fun b' q=>by
   rcases KP.out.2.2 with e|e
   · left;rw[←e];exact q
   · right;rw[e] at q;have :=Option.some.inj q;omega)
 have HBU:=Xh (vQ m3 HSP.out)
 have C3:=Xh c3;have M3:=Xh m3
 clear t3 b3 o3 z1 z2 z3 m3 c3 hw3 f2 c2
 go_wp2_with fail
 refine HBU.out.mono ?_
 rintro e w4 ⟨rfl,m4,t4⟩
 have M4:=Xh m4;have T4:=Xh t4
 clear m4 t4
 go_wp2_with fail
 go_ret
 refine⟨rfl,_,M4.out,C3.out.trans ⟨T4.out.size,fun b h1 h2 _ _ _=>T4.out.keep b h1 h2,fun b q=> .inl q,fun b q=> .inl q⟩⟩
end
end
section
open Go.RowKit
def Dk.keeps (d:Dk):List (Nat×List UInt8)→Dk
 | []=>d
 |(p,l)::ps=>(d.keep p l).keeps ps
theorem Af:∀(L:List (Nat×List UInt8)) (d:Dk) (x:Nat×List UInt8),d.keeps (L++ [x])=(d.keeps L).keep x.1 x.2
 | [],d,x=>rfl
 |(p,l)::L,d,x=>Af L (d.keep p l) x
theorem lC:∀(L:List (Nat×List UInt8)) (d:Dk),(d.keeps L).all=d.all+L.length∧(d.keeps L).kept.length=d.kept.length∧(d.keeps L).pend=d.pend∧(d.keeps L).fuse=d.fuse∧(d.keeps L).calls=d.calls∧(d.keeps L).down=d.down
 | [],d=>⟨rfl,rfl,rfl,rfl,rfl,rfl⟩
 |(p,l)::L,d=>by
  obtain⟨h1,h2,h3⟩:=lC L (d.keep p l)
  refine⟨h1.trans ?_,h2.trans ?_,h3⟩
  · show d.all+1+L.length=d.all+(L.length+1);omega
  · show (d.kept.set p l).length=_;rw[List.length_set]
theorem JW {x:Nat×List UInt8}:∀(L:List (Nat×List UInt8)) (k:Nat),(∀y∈L,y.2.length=512)→L[k]?=some x→∀(j:Nat) (v:Value),(bK x)[j]?=some v→(L.flatMap bK)[k*513+j]?=some v
 | [],k,_,q=>by simp at q
 |y::L,0,hL,q=>fun j v hv=>by
  have e:y=x:=by simpa using q
  subst e
  rw[List.flatMap_cons,Nat.zero_mul,Nat.zero_add,List.getElem?_append_left (List.getElem?_eq_some_iff.1 hv).1]
  exact hv
 |y::L,k+1,hL,q=>fun j v hv=>by
  have hy:=mR (hL y List.mem_cons_self)
  rw[List.flatMap_cons,List.getElem?_append_right (by rw[hy];omega),hy,show (k+1)*513+j - 513=k*513+j by omega]
  exact JW L k (fun z hz=>hL z (List.mem_cons_of_mem _ hz)) (by simpa using q) j v hv
def Dk.flush (d:Dk):Dk×Int:=if d.bB.2=0 then ({d.bB.1.keeps d.pend with pend:=[]},0) else d.bB
section
variable {w0 w:World} {dp kb:Nat} {vP vA:Value} {d:Dk}
theorem DR (h:DkM w0 w dp kb vP vA d) (hs:d.small) (hd:d.down=false):
 Calls Tryz.prog 170 #[.pointer (some ⟨dp,0,none⟩)] w fun e w'=>e= .returned (.int .i64 d.flush.2)∧∃vP' vA',DkM w0 w' dp kb vP' vA' d.flush.1∧dH w w' dp kb vP vA vP' vA':=by
 have HB:=Xh (vQ h hs)
 have c5:w.cell? ⟨dp,5,none⟩=some (.bool false):=by rw[h.c5,hd]
 have HH:=Xh h;have HS:=Xh hs;have HD:=Xh hd
 clear h hs hd
 by_cases hb:d.bB.2=0
 · have HF:Hid (d.flush=({d.bB.1.keeps d.pend with pend:=[]},0)):=by show _=_;unfold Dk.flush;rw[if_pos hb]
   rw[hb] at HB
   obtain⟨d1,hd1⟩:∃d1,d1=d.bB.1:=⟨_,rfl⟩
   rw[←hd1] at HB HF
   have hpd:d1.pend=d.pend:=by rw[hd1];unfold Dk.bB;split;rfl;split<;>rfl
   rw[←hpd] at HF
   have HPD:=Xh hpd;have HD1:=Xh hd1
   clear hb hpd hd1
   obtain⟨A,c,hv,_⟩:=HH.out.pend.slice
   subst hv
   go_in
   go_wp2_with fail
   refine HB.out.mono ?_
   rintro e w1 ⟨rfl,m1,t1⟩
   have M1:=Xh m1;have T1:=Xh t1
   have c1:w1.cell? ⟨dp,1,none⟩=some (.slice A d.pend.length c):=M1.out.blk.cell 1
   clear m1 t1
   obtain⟨n,hn⟩:∃n,n=d.pend.length:=⟨_,rfl⟩
   rw[←hn] at c1
   have hn7:n≤1000000:=by rw[hn];exact HS.out.2.2.1
   have HN:=Xh hn;clear hn
   go_wp2_with fail
   have hkl:d1.kept.length≤1024:=by rw[HD1.out];have :=HS.out.2.2.2.1;unfold Dk.bB;split;exact this;split<;>exact this
   have hal:d1.all≤1000000000:=by rw[HD1.out];have :=HS.out.2.1;unfold Dk.bB;split;exact this;split<;>exact this
   have HKL:=Xh hkl;have HAL:=Xh hal
   have hnp:n=d1.pend.length:=by rw[HPD.out];exact HN.out
   have HNP:=Xh hnp
   have C0:Hid (dH w w1 dp kb (.slice A d.pend.length c) vA (.slice A d.pend.length c) vA):=⟨T1.out.size,fun b h1 h2 _ _ _=>T1.out.keep b h1 h2,fun b q=> .inl q,fun b q=> .inl q⟩
   clear hkl hal hnp c1
   go_loopw [24] (fun i wr=>∃k vA',k≤n∧i= .int .i64 (k:Int)∧DkM w0 wr dp kb (.slice A d.pend.length c) vA' (d1.keeps (d1.pend.take k))∧dH w wr dp kb (.slice A d.pend.length c) vA (.slice A d.pend.length c) vA') (fun i _=>n - (Go.RowKit.intOf i).toNat)
   case atStart=>exact⟨0,vA,Nat.zero_le _,rfl,M1.out,C0.out⟩
   case round=>
    obtain⟨k,vA',hk,rfl,hm,hc⟩:=hrel
    have HM:=Xh hm;have HC:=Xh hc;clear hm hc
    by_cases hlt:k<n
    · have t:decide ((k:Int)<(n:Int))=true:=decide_eq_true Xf
      obtain⟨x,hx⟩:∃x,d1.pend[k]?=some x:=⟨_,List.getElem?_eq_getElem (by rw[←HNP.out];exact hlt)⟩
      obtain⟨h1,h2,h3⟩:=lC (d1.pend.take k) d1
      have hpk:=h3.1
      have hxm:x∈d1.pend:=List.mem_of_getElem? hx
      have hx5:=M1.out.p512 x hxm
      obtain⟨p,l⟩:=x
      simp only at hx5
      have hsl:=HM.out.pend.slice
      rw[hpk] at hsl
      obtain⟨A9,c9,he9,hsl⟩:=hsl
      injection he9 with e1 _ e3
      subst e1 e3
      obtain⟨b,o,rfl,hcc⟩:=Sl.addr hsl (by rw[←HNP.out];omega)
      have RG:Hid (wr.rangeAt b (o+k*513) (bK (p,l))):=fun j v hv=>by
       rw[Nat.add_assoc]
       exact hcc _ _ (JW d1.pend k (fun y hy=>(M1.out.p512 y hy).1) hx j v hv)
      have AN:=Xh (heap_alloc_new wr (.cells Tryz.zeroCells304 304))
      have HW3:=Xh (mR (x:=(p,l)) hx5.1)
      have HSZ:Hid ((Tryz.prog.info? 304).map (·.size)=some (bK (p,l)).length):=by show _=_;rw[HW3.out];kernel_rfl
      have HSY:Hid ((Tryz.prog.info? 304).map (·.size)=some (bK (p,l)).toArray.size):=by show _=_;rw[List.size_toArray];exact HSZ.out
      have HZS:Hid (Tryz.zeroCells304.size=(bK (p,l)).toArray.size):=by
       show _=_
       rw[show (bK (p,l)).toArray.size=513 by rw[List.size_toArray];exact HW3.out]
       kernel_rfl
      have HON:Hid ((bK (p,l)).toArray.all (·.oneCell')=true):=all_oneCell_toArray (fun u hu=>by
       rcases List.mem_cons.1 hu with q|q
       · rw[q];rfl
       · exact Pt l u q)
      have HSB:Hid ((Tryz.prog.info? 302).map (·.size)=some (l.map u8c).length):=by show _=_;rw[List.length_map,hx5.1];kernel_rfl
      obtain⟨w3,hw3⟩:∃w3,w3=(wr.alloc (.cells Tryz.zeroCells304 304)).setRow wr.heap.size (bK (p,l)).toArray:=⟨_,rfl⟩
      have G3:Hid (Gr wr w3):=by
       have g0:Gr wr (wr.alloc (.cells Tryz.zeroCells304 304)):=Gr.alloc _ _
       rw[hw3];exact bRb g0 (Nat.le_refl _) _
      have B3:Hid (Blk w3 wr.heap.size 304 (bK (p,l))):=by rw[hw3];exact setRow_heap _ _ _ _ _ _ AN.out
      have HW:=Xh hw3
      have c0:w3.cell? ⟨wr.heap.size,0,none⟩=some (.int .i64 (p:Int)):=B3.out.cell 0
      have RB:Hid (w3.rangeAt wr.heap.size 1 (l.map u8c)):=fun j v hv=>by
       rw[B3.out.cell,Nat.add_comm]
       exact hv
      have HKP:=Xh (FM (HM.out.mono G3.out) (by rw[h2];exact HKL.out) (by rw[h1];have :=HAL.out;rw[List.length_take];omega) p (by rw[h2];exact hx5.2) l hx5.1)
      have HSN:Hid (d1.keeps (d1.pend.take (k+1))=(d1.keeps (d1.pend.take k)).keep p l):=by
       show _=_
       rw[List.take_add_one,hx]
       exact Af _ d1 (p,l)
      have p0:(0:Int)≤(k:Int):=by omega
      have hkw:IntKind.i64.wrap ((k:Int)+1)=(k:Int)+1:=IntWalk.i64_in _ Xf
      clear hw3 hsl hcc h1 h2 h3 hpk hx hxm hx5
      go_wp2_with (first
       |(refine wpList_load_mid rfl 304 (.tmp 26) rfl b (o+k*513) rfl (bK (p,l)) _ RG.out Tryz.underlying304 rfl HSZ.out ?_)
       |(refine wpList_store_row rfl 304 (.tmp 5) (.tmp 27) rfl wr.heap.size (bK (p,l)).toArray rfl rfl 304 _ AN.out HSY.out HZS.out HON.out ?_;rw[←HW.out])
       |(refine wpList_load_mid rfl 302 (.tmp 31) rfl wr.heap.size 1 rfl (l.map u8c) _ RB.out Tryz.underlying302 rfl HSB.out ?_)
       |(go_at_call 248;refine HKP.out.mono ?_;rintro e w4 ⟨rfl,vA4,m4,t4⟩;have M4:=Xh m4;have T4:=Xh t4;clear m4 t4))
      refine⟨⟨k+1,vA4,Xf,by go_num,by rw[HSN.out];exact M4.out,(HC.out.trans (dH.gr G3.out)).trans T4.out⟩,by simp[Go.RowKit.intOf];omega⟩
    · obtain rfl:n=k:=by omega
      have t:decide ((n:Int)<(n:Int))=false:=decide_eq_false Xf
      rw[List.take_of_length_le (by rw[←HNP.out];exact Nat.le_refl _)] at HM
      have f1:=Blk.free HM.out.blk 1
      have c1:wr.cell? ⟨dp,1,none⟩=some (.slice A d.pend.length c):=HM.out.blk.cell 1
      obtain⟨h1,h2,h3⟩:=lC d1.pend d1
      have O0:Hid (Own w0 (wr.setCell ⟨dp,1,none⟩ (.slice none 0 0)) 304 513 (.slice none 0 0) 0 []):=Own.nil' (HM.out.below.setCell (p:=⟨dp,1,none⟩) HH.out.gd _) _ _
      have B0:Hid (Blk (wr.setCell ⟨dp,1,none⟩ (.slice none 0 0)) dp 58 [.slice (some ⟨kb,0,none⟩) (d1.keeps d1.pend).kept.length (d1.keeps d1.pend).kept.length,.slice none 0 0,vA',.int .i64 (d1.keeps d1.pend).fuse,.int .i64 ((d1.keeps d1.pend).calls:Int),.bool (d1.keeps d1.pend).down]):=HM.out.blk.set 1 _
      have TT:Hid (Tch (fun b=>b=dp) wr (wr.setCell ⟨dp,1,none⟩ (.slice none 0 0))):=Tch.set ⟨dp,1,none⟩ _ rfl
      clear h1 h2 h3
      go_wp2_with fail
      go_ret
      obtain⟨m5,t5⟩:=HM.out.Cj (pd:=[]) O0.out.below TT.out.size (fun b' h1 h2 _=>TT.out.keep b' h1 h2) B0.out O0.out (fun x hx=>by cases hx) (fun b q=>by cases q)
      refine⟨by rw[HF.out];rfl,_,_,by rw[HF.out];exact m5,HC.out.trans t5⟩
 · have ht:(d.bB.2==0)=false:=by rw[beq_eq_false_iff_ne];exact hb
   have HF:Hid (d.flush=d.bB):=by show _=_;unfold Dk.flush;rw[if_neg hb]
   obtain⟨q,hq⟩:∃q,q=d.bB.2:=⟨_,rfl⟩
   rw[←hq] at ht HB
   have HQ:=Xh hq
   clear hb hq
   go_in
   go_wp2_with fail
   refine HB.out.mono ?_
   rintro e w1 ⟨rfl,m1,t1⟩
   have M1:=Xh m1;have T1:=Xh t1
   clear m1 t1
   go_wp2_with fail
   go_ret
   exact⟨by rw[HF.out,←HQ.out];rfl,_,_,by rw[HF.out];exact M1.out,T1.out.size,fun b h1 h2 _ _ _=>T1.out.keep b h1 h2,fun b q=> .inl q,fun b q=> .inl q⟩
end
end
end Go.Proofs.YtipdlnejmcmbbaaGreatDoor
