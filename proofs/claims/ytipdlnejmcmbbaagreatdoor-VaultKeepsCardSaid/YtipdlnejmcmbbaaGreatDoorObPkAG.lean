/- Own texts, one behind the other. No condition. -/
import Derived.Test.YtipdlnejmcmbbaaGreatDoorObPkAF
import Derived.Lib.SlBytesConst
import Derived.ArgAppend
set_option linter.unusedVariables false
set_option maxRecDepth 100000
set_option maxHeartbeats 8000000
set_option linter.unusedSimpArgs false
namespace Go.Proofs.YtipdlnejmcmbbaaGreatDoor
section
open Go.RowKit Go.Maps
theorem Jv (w:World):Calls Tryz.prog 24 #[] w fun e w'=>∃g bm,e= .returned (.pointer (some ⟨g,0,none⟩))∧TbF w w' g [] (.slice none 0 0) (.slice none 0 0) bm∧Gr w w':=by
 have hmm:=@run_makeMap Tryz.prog
 go_in
 go_wp2_with fail
 go_ret
 have hg:Gr w ((w.alloc (.map #[] 0)).alloc (.cells #[.slice none 0 0,.slice none 0 0,.map (some w.heap.size),.int .i64 0] 87)):=(Gr.alloc _ _).trans (Gr.alloc _ _)
 refine⟨w.heap.size+1,w.heap.size,rfl,⟨⟨heap_alloc2_new w _ _,Own.nil' hg _ _,Own.nil' hg _ _,Xf,Nat.le_refl _⟩,?_⟩,hg⟩
 have hm:mT (w.alloc (.map #[] 0)) w.heap.size []:=World.ownsMap_made _ _ _ _
 exact hm.keep ((Gr.alloc (w.alloc (.map #[] 0)) (.cells #[.slice none 0 0,.slice none 0 0,.map (some w.heap.size),.int .i64 0] 87)).block _ (by simp))
theorem Ox (w0:World) (g:Nat) (T:List Nd) (vl vs:Value) (bm:Nat) (k0 a0 b0:Int) (s:ByteArray) (xv:Value) (A:Option Addr) (m c:Nat) (ids:List Int) (w:World) (h:TbF w0 w g T vl vs bm) (hP:Is w A m c ids) (ho:ids.any (outside T.length)=true):
 Calls Tryz.prog 270 #[.pointer (some ⟨g,0,none⟩),.agg #[.int .i64 k0,.int .i64 a0,.int .i64 b0,.string s],xv,.slice A m c] w (EP w0 w g bm vl vs (T,0)):=by
 have hg:=Gr.alloc w (.cells #[.int .i64 k0,.int .i64 a0,.int .i64 b0,.string s] 319)
 have HTH:=Xh (pV g T.length A m c _ _ (h.rd.mono hg).len (hP.mono hg))
 have H:=Xh h;have HG:=Xh hg
 rw[ho] at HTH
 clear h hg hP ho
 go_in
 go_wp2_with fail
 refine HTH.out.mono ?_
 rintro e w1 ⟨rfl,g1⟩
 have G1:=Xh (HG.out.trans g1);clear g1
 go_wp2_with fail
 go_ret
 exact⟨vl,vs,rfl,H.out.gr G1.out,dH.gr G1.out⟩
structure TOk (T:List Nd):Prop where
 fit:Fit' T
 uniq:Uniq T
 n:T.length≤100000
theorem Ry (w0:World) (g:Nat) (T:List Nd) (vl vs:Value) (bm:Nat) (s:ByteArray) (w:World) (h:TbF w0 w g T vl vs bm) (hT:TOk T) (hs:s.size≤maxLen):
 Calls Tryz.prog 269 #[.pointer (some ⟨g,0,none⟩),.string s] w (EP w0 w g bm vl vs (fZ T ⟨2,0,0,s,0⟩ [])):=by
 have HF:=Xh (Ct w0 g T vl vs bm ⟨2,0,0,s,0⟩ none 0 0 w h hT.fit hT.uniq ⟨by dsimp only;decide,by dsimp only;decide,by dsimp only;decide,hs⟩ ⟨by dsimp only;decide,by dsimp only;decide⟩ (Sl.nil _ _) hT.n)
 clear h hT hs
 go_in
 go_wp2_with fail
 refine HF.out.mono ?_
 rintro e w1 ⟨vl',vs',rfl,h2,h3⟩
 have H2:=Xh h2;have H3:=Xh h3;clear h2 h3
 go_wp2_with fail
 go_ret
 exact⟨vl',vs',rfl,H2.out,H3.out⟩
def Wi (T:List Nd) (a:Int) (s:ByteArray):List Nd×Nat:=if outside T.length a then (T,0) else fZ T ⟨3,a.toNat,0,s,0⟩ [a]
def pairT (T:List Nd) (k:Nat) (a b:Int):List Nd×Nat:=if outside T.length a || outside T.length b then (T,0) else fZ T ⟨k,a.toNat,b.toNat,ByteArray.empty,0⟩ [a,b]
theorem Ur (w0:World) (g:Nat) (T:List Nd) (vl vs:Value) (bm:Nat) (a b:Int) (w:World) (h:TbF w0 w g T vl vs bm) (hT:TOk T):
 Calls Tryz.prog 192 #[.pointer (some ⟨g,0,none⟩),.int .i64 a,.int .i64 b] w (EP w0 w g bm vl vs (pairT T 5 a b)):=by
 have hg:=Gr.alloc w (.cells #[.int .i64 a,.int .i64 b] 3)
 unfold pairT
 cases ho:outside T.length a || outside T.length b with
 |true=>
  have HF:=Xh (Ox w0 g T vl vs bm 5 a b ByteArray.empty (.iface 258 (.agg #[.int .i64 a,.int .i64 b])) (some ⟨w.heap.size,0,none⟩) 2 2 [a,b] _ (h.gr hg) (GV w a b) (by simpa using ho))
  have HG:=Xh hg
  clear h hT ho hg
  go_in
  go_wp2_with fail
  refine HF.out.mono ?_
  rintro e w1 ⟨vl',vs',rfl,h2,h3⟩
  have H2:=Xh h2;have H3:=Xh h3;clear h2 h3
  go_wp2_with fail
  go_ret
  exact⟨vl',vs',rfl,H2.out,(dH.gr HG.out).trans H3.out⟩
 |false=>
  rw[Bool.or_eq_false_iff] at ho
  have hin:(1≤a∧a≤T.length)∧(1≤b∧b≤T.length):=by unfold outside at ho;simp at ho;omega
  obtain⟨n,rfl⟩:∃n:Nat,a=n:=⟨a.toNat,Xf⟩
  obtain⟨m,rfl⟩:∃m:Nat,b=m:=⟨b.toNat,Xf⟩
  have hn:=hT.n
  have HF:=Xh (Ct w0 g T vl vs bm ⟨5,n,m,ByteArray.empty,0⟩ (some ⟨w.heap.size,0,none⟩) 2 2 _ (h.gr hg) hT.fit hT.uniq ⟨by dsimp only;decide,by show n≤_;omega,by show m≤_;omega,by dsimp only;decide⟩ ⟨by dsimp only;decide,by dsimp only;decide⟩ (GV w n m) hT.n)
  have HG:=Xh hg
  clear h hT ho hg hin hn
  go_in
  go_wp2_with fail
  refine HF.out.mono ?_
  rintro e w1 ⟨vl',vs',rfl,h2,h3⟩
  have H2:=Xh h2;have H3:=Xh h3;clear h2 h3
  go_wp2_with fail
  go_ret
  exact⟨vl',vs',rfl,H2.out,(dH.gr HG.out).trans H3.out⟩
end
section
open Go.RowKit Go.Maps
def aG (T:List Nd):List Nd×Nat:=(T++ [⟨1,0,0,ByteArray.empty,aY T⟩],T.length+1)
theorem FH (T:List Nd):aY T≤T.length:=List.length_filter_le _ _
theorem QZ {w0 w w1 w3:World} {g bm:Nat} {T:List Nd} {vl vs vl' vs':Value} (h:TbF w0 w g T vl vs bm) (hw1:w1=w.setCell ⟨g,3,none⟩ (.int .i64 ((aY T+1:Nat):Int)))
 (h3:TbX w0 w3 g (T.map Nd.cell++ [.iface 204 (.agg #[.int .i64 (aY T:Int)])]) (fH T++ [sizeOf' (fH T) []]) (aY T+1) vl' vs' bm) (c3:yA w1 w3 g vl vs vl' vs'):
 TbF w0 w3 g (aG T).1 vl' vs' bm∧dH w w3 g bm vl vs vl' vs':=by
 have hot:∀b,b≠g→w1.heap[b]?=w.heap[b]?:=fun b hb=>by rw[hw1];exact Below.heap_setCell _ _ _ b hb
 have hsz:w.heap.size≤w1.heap.size:=by
  have :=(Below.refl 0 w).setCell (p:=⟨g,3,none⟩) (Nat.zero_le _) (.int .i64 ((aY T+1:Nat):Int))
  rw[hw1];exact this.size
 have hmg:=h.m.vw h.x.blk
 have m1:mT w1 bm T:=h.m.keep (hot bm hmg)
 have m3:mT w3 bm T:=m1.keep (c3.keep bm m1.lt hmg (h.m.rM h.x.l) (h.m.rM h.x.s))
 have m3':mT w3 bm (aG T).1:=by
  obtain⟨es,clock,hb,hf,hz,hd⟩:=m3
  have e:bX (aG T).1 (aG T).1.length=bX T T.length:=by
   unfold aG
   simp only[List.length_append,List.length_cons,List.length_nil,Nat.zero_add]
   conv=>lhs;unfold bX
   rw[List.getElem?_append_right (Nat.le_refl _),Nat.sub_self]
   simp only[List.getElem?_cons_zero,if_true]
   exact sZ T _ T.length (Nat.le_refl _)
  exact⟨es,clock,hb,hf,by unfold aG;rw[List.length_append];omega,by rw[e];exact hd⟩
 refine⟨⟨?_,m3'⟩,⟨Nat.le_trans hsz c3.size,fun b h1 h2 _ h4 h5=>(c3.keep b (Nat.lt_of_lt_of_le h1 hsz) h2 h4 h5).trans (hot b h2),fun b hb=>(c3.ol b hb).imp id (Nat.le_trans hsz),fun b hb=>(c3.os b hb).imp id (Nat.le_trans hsz)⟩⟩
 unfold aG
 simp only
 rw[List.map_append,wT]
 have ea:aY (T++ [⟨1,0,0,ByteArray.empty,aY T⟩])=aY T+1:=by
  show (List.filter _ (T++ [_])).length=_
  rw[List.filter_append]
  simp[aY]
 rw[ea]
 exact h3
theorem QW (w0:World) (g:Nat) (T:List Nd) (vl vs:Value) (bm:Nat) (w:World) (h:TbF w0 w g T vl vs bm) (hn:T.length≤100000):
 Calls Tryz.prog 91 #[.pointer (some ⟨g,0,none⟩)] w (EP w0 w g bm vl vs (aG T)):=by
 have c3:w.cell? ⟨g,3,none⟩=some (.int .i64 (aY T:Int)):=(h.x.blk.cell 3).trans rfl
 have y3:=h.x.blk.free 3
 have ha:=FH T
 obtain⟨W,hW⟩:∃W,W=w.setCell ⟨g,3,none⟩ (.int .i64 ((aY T+1:Nat):Int)):=⟨_,rfl⟩
 have hot:∀b,b≠g→W.heap[b]?=w.heap[b]?:=fun b hb=>by rw[hW];exact Below.heap_setCell _ _ _ b hb
 have hbl:Below w0.heap.size w0 W:=by rw[hW];exact h.x.l.below.setCell (p:=⟨g,3,none⟩) h.x.ge _
 have hx:TbX w0 W g (T.map Nd.cell) (fH T) (aY T+1) vl vs bm:=
  ⟨by rw[hW];exact h.x.blk.set 3 _,h.x.l.nu hbl (fun b hb=>hot b (fun e=>bZ h.x.l h.x.blk Xg (by rw[hb,e]))),h.x.s.nu hbl (fun b hb=>hot b (fun e=>bZ h.x.s h.x.blk Xg (by rw[hb,e]))),h.x.ge,h.x.gm⟩
 have HP:=Xh (wV w0 g _ _ _ vl vs bm 204 (.agg #[.int .i64 (aY T:Int)]) none 0 0 [] W hx (by rw[zi,List.length_map]) (vU T) (Sl.nil _ _) (fun p hp=>by cases hp) (by rw[List.length_map];omega))
 have H:=Xh h;have HW:=Xh hW
 have k3:W.cell? ⟨g,3,none⟩=some (.int .i64 ((aY T:Int)+1)):=(hx.blk.cell 3).trans (by simp)
 have K3:=Xh k3
 have hw1:IntKind.i64.wrap ((aY T:Int)+1)=(aY T:Int)+1:=IntWalk.i64_in _ Xf
 have hl:(T.map Nd.cell).length=T.length:=List.length_map ..
 rw[hl] at HP
 have HWE:=Xh (show w.setCell ⟨g,3,none⟩ (.int .i64 ((aY T:Int)+1))=W by rw[HW.out];simp)
 have hw2:wrap64 (aY T:Int)=(aY T:Int):=IntWalk.wrap64_in _ ⟨Xf,Xf⟩
 clear h hW hot hbl hx k3 hl ha
 have FIN:=Xh (fun w3 vl' vs'=>QZ (w0:=w0) (w3:=w3) (vl':=vl') (vs':=vs') H.out HW.out)
 obtain⟨a,hae⟩:∃a,a=aY T:=⟨_,rfl⟩
 rw[←hae] at c3 hw1 HP K3 HW FIN HWE hw2
 have HAE:=Xh hae;clear hae
 go_in
 go_upto_region 4 with fail
 rw[HWE.out]
 clear HWE HW
 have k3:=K3.out
 clear K3 hw1 c3 y3
 go_wp2_with fail
 rw[hw2]
 refine HP.out.mono ?_
 rintro e w3 ⟨rfl,vl',vs',tb,ch⟩
 have TB:=Xh tb;have CH:=Xh ch;clear tb ch
 go_wp2_with fail
 go_ret
 obtain⟨t,c⟩:=FIN.out w3 vl' vs' TB.out CH.out
 exact⟨vl',vs',rfl,t,c⟩
end
section
open Go.RowKit Go.Maps
def doT (T:List Nd) (k a b:Int) (s:ByteArray):List Nd×Nat:=
 if k=1 then aG T else if k=2 then fZ T ⟨2,0,0,s,0⟩ [] else if k=3 then Wi T a s else if k=4 then pairT T 4 a b else pairT T 5 a b
end
section
open Go.RowKit Go.Maps
structure TIn (T:List Nd):Prop where
 parts:OG T
 fit:Fit' T
 uniq:Uniq T
theorem TIn.nil:TIn []:=⟨fun i x h=>(by simp at h),fun x h=>(by cases h),fun j j' y y' _ h=>(by simp at h)⟩
theorem TIn.ok {T:List Nd} (h:TIn T) (hn:T.length≤100000):TOk T:=⟨h.fit,h.uniq,hn⟩
theorem TIn.kinds {T:List Nd} (h:TIn T):Kinds T:=fun x hx=>by
 obtain⟨i,hi⟩:=List.mem_iff_getElem?.1 hx
 exact (h.parts i x hi).1
theorem TIn.snoc {T:List Nd} (h:TIn T) {x:Nd} (hk:1≤x.k∧x.k≤5) (hp:∀p∈x.parts,1≤p∧p≤T.length) (hf:x.fits) (hs:x.k≠1→∀y∈T,y.k≠1→y.same x=false):TIn (T++ [x]):=by
 have at':∀i y,(T++ [x])[i]?=some y→(i<T.length∧T[i]?=some y)∨(i=T.length∧y=x):=fun i y hy=>by
  rcases Nat.lt_or_ge i T.length with hl|hl
  · rw[List.getElem?_append_left hl] at hy
    exact .inl ⟨hl,hy⟩
  · rw[List.getElem?_append_right hl] at hy
    rcases Nat.lt_or_ge i (T.length+1) with h1|h1
    · have e:i=T.length:=by omega
      subst e
      rw[Nat.sub_self] at hy
      simp at hy
      exact .inr ⟨rfl,hy.symm⟩
    · rw[List.getElem?_eq_none (by simp;omega)] at hy
      cases hy
 refine⟨fun i y hy=> ?_,fun y hy=> ?_,fun j j' y y' hj hy hy' hk1 hk2=> ?_⟩
 · rcases at' i y hy with⟨_,h1⟩| ⟨rfl,rfl⟩
   · exact h.parts i y h1
   · exact⟨hk,hp⟩
 · rcases List.mem_append.1 hy with h1|h1
   · exact h.fit y h1
   · rw[List.mem_singleton] at h1
     rw[h1];exact hf
 · rcases at' j' y' hy' with⟨_,h1⟩| ⟨rfl,rfl⟩
   · rcases at' j y hy with⟨_,h2⟩| ⟨rfl,rfl⟩
     · exact h.uniq j j' y y' hj h2 h1 hk1 hk2
     · omega
   · rcases at' j y hy with⟨_,h2⟩| ⟨h2,rfl⟩
     · exact hs hk2 y (List.mem_of_getElem? h2) hk1
     · omega
theorem BJ {T:List Nd} (h:TIn T) {x:Nd} {ids:List Int} (hk:1≤x.k∧x.k≤5) (hp:∀p∈x.parts,(p:Int)∈ids) (hf:x.fits):TIn (fZ T x ids).1∧T.length≤(fZ T x ids).1.length∧(fZ T x ids).1.length≤T.length+1:=by
 unfold fZ
 split
 · exact⟨h,Nat.le_refl _,Nat.le_succ _⟩
 · next ho=>
   cases hfd:jS T x with
   |some j=>exact⟨h,Nat.le_refl _,Nat.le_succ _⟩
   |none=>
    refine⟨h.snoc hk (fun p hpp=> ?_) hf (fun _ y hy hk1=> ?_),by simp,by simp⟩
    · have :=hp p hpp
      rw[Bool.not_eq_true,List.any_eq_false] at ho
      have h2:=ho _ this
      unfold outside at h2
      simp at h2
      omega
    · unfold jS at hfd
      rw[List.findIdx?_eq_none_iff] at hfd
      have :=hfd y hy
      simpa [hk1] using this
theorem EN {T:List Nd} (h:TIn T) (hn:T.length≤100000) (k a b:Int) (s:ByteArray) (hs:s.size≤maxLen):TIn (doT T k a b s).1∧T.length≤(doT T k a b s).1.length∧(doT T k a b s).1.length≤T.length+1:=by
 have stay:TIn T∧T.length≤T.length∧T.length≤T.length+1:=⟨h,Nat.le_refl _,Nat.le_succ _⟩
 have pair:∀k',(k'=4∨k'=5)→TIn (pairT T k' a b).1∧T.length≤(pairT T k' a b).1.length∧(pairT T k' a b).1.length≤T.length+1:=fun k' hk'=>by
  unfold pairT
  split
  · exact stay
  · next ho=>
    unfold outside at ho
    simp at ho
    refine BJ h ⟨by show 1≤k';omega,by show k'≤5;omega⟩ (fun p hp=> ?_) ⟨by show k'≤_;omega,by show a.toNat≤_;omega,by show b.toNat≤_;omega,by show ByteArray.empty.size≤_;decide⟩
    have hp':p=a.toNat∨p=b.toNat:=by
     unfold Nd.parts at hp
     rcases hk' with rfl|rfl<;>simpa using hp
    rcases hp' with rfl|rfl
    · have :((a.toNat:Nat):Int)=a:=by omega
      rw[this];simp
    · have :((b.toNat:Nat):Int)=b:=by omega
      rw[this];simp
 unfold doT
 split
 · unfold aG
   have :=FH T
   exact⟨h.snoc ⟨by dsimp only;decide,by dsimp only;decide⟩ (fun p hp=>by simp[Nd.parts] at hp) ⟨by dsimp only;decide,by dsimp only;decide,by dsimp only;decide,by show ByteArray.empty.size≤_;decide⟩ (fun hk=>(hk rfl).elim),by simp,by simp⟩
 split
 · exact BJ h ⟨by dsimp only;decide,by dsimp only;decide⟩ (fun p hp=>by simp[Nd.parts] at hp) ⟨by dsimp only;decide,by dsimp only;decide,by dsimp only;decide,hs⟩
 split
 · unfold Wi
   split
   · exact stay
   · next ho=>
     unfold outside at ho
     simp at ho
     refine BJ h ⟨by dsimp only;decide,by dsimp only;decide⟩ (fun p hp=> ?_) ⟨by dsimp only;decide,by show a.toNat≤_;omega,by dsimp only;decide,hs⟩
     have hp':p=a.toNat:=by simpa [Nd.parts] using hp
     have :((a.toNat:Nat):Int)=a:=by omega
     rw[hp',this];simp
 split
 · exact pair 4 (.inl rfl)
 · exact pair 5 (.inr rfl)
end
section
open Go.RowKit
theorem rz {P:Program} {ops:Array Oper} {rest:List Oper} {o:Oper} {a:Act} {Q:Exit→Act→World→Prop} (hgd:o.guard=none) (s x:Operand) (t:TypeId)
 (ho:o.op= .call {callee:= .builtin .append,args:=#[s,x],argTypes:=#[t,t]})
 {e:TypeId} {z:Value} {size bytes:Nat} (ht:eB P t e z size bytes) {w:World} {A B:Option Addr} {n c m d:Nat} {xs news:List Value} (hs:a.eval s= .slice A n c) (hsl:Sl w A n c size xs) (hn:0<n)
 (hx:a.eval x= .slice B m d) (hsx:Sl w B m d size news) (hm:0<m) (hg:c<n+m)
 (hroom:(n+m)*bytes≤140737488355328)
 (h:∀v' w',Own w w' e size v' (n+m) (xs++news)→wpList P ops Q rest (a.put o.dst v') w'):wpList P ops Q (o::rest) a w:=
 wpList_plain hgd fun _ hK=>by
  obtain⟨i,hi,hz,hsz,hby⟩:=info_parts ht.info
  have hb1:n+m≤(n+m)*bytes:=Nat.le_mul_of_pos_right _ ht.bpos
  obtain⟨b,off,rfl,hc⟩:=hsl.addr hn
  obtain⟨b',off',rfl,hc'⟩:=hsx.addr hm
  have ad:∀(b off j:Nat),(Addr.mk b off none).add j=⟨b,off+j,none⟩:=fun b off j=>by unfold Addr.add;split<;>simp_all
  obtain⟨v',w',hrun,h2,h3⟩:=run_append_arg_grows (P:=P) w t o.type e i z size bytes ht.und hi hz hsz hby ht.cells ht.pos ⟨b,off,none⟩ n c xs hsl.1 (fun j u hu=>by rw[ad];exact hc j u hu) ⟨b',off',none⟩ m d news hsx.1 (fun j u hu=>by rw[ad];exact hc' j u hu) hg (by simp only[maxLen];omega) hroom
  unfold Oper.wp execOp
  simp only[ho,resolve,invoke,builtin,Sem.run_bind,Sem.run_pure,Result.andThen_ok,List.map_toArray,List.map_cons,List.map_nil,hs,hx,hrun]
  exact hK _ _ (h v' w' ⟨h2,(Below.refl _ w).grown h3 (Nat.le_refl _) (fun k hk=>by cases hk)⟩)
def jv:List UInt8:=[255,254,116,101,114,109,254,255]
def aC (id:Nat):List UInt8:=gy (jv++be id 8) 32
theorem wL (id:Nat):(be id 8).length=8:=aQ 8 id
theorem cO (id:Nat):(aC id).length=32:=iL _ _
theorem Mv (id:Nat):aC id=jv++be id 8++List.replicate 16 0:=by
 unfold aC gy
 rw[List.take_of_length_le (by rw[List.length_append,wL];decide),List.length_append,wL]
 rfl
abbrev kF:Obj:= .cells #[.int .u8 255,.int .u8 254,.int .u8 116,.int .u8 101,.int .u8 114,.int .u8 109,.int .u8 254,.int .u8 255] 5 (8,9)
theorem Gi (w:World):Sl (w.alloc kF) (some ⟨w.heap.size,0,none⟩) 8 8 1 (jv.map u8c):=by
 refine⟨rfl,Nat.le_refl _,Xg,fun _=>⟨_,_,rfl,fun j u hu=> ?_⟩⟩
 change [Value.int .u8 255,.int .u8 254,.int .u8 116,.int .u8 101,.int .u8 114,.int .u8 109,.int .u8 254,.int .u8 255][j]?=some u at hu
 have hj:(w.alloc kF).heap[w.heap.size]?=some kF:=heap_alloc_new w _
 simp only[World.cell?,hj,Nat.zero_add]
 rw[if_neg Xg]
 simpa using hu
theorem lS (id:Nat) (w:World) (h:id<9223372036854775808):
 Calls Tryz.prog 90 #[.int .i64 (id:Int)] w (fK w (aC id)):=by
 have e1:mV (id:Int) 8=be id 8:=by unfold mV;rw[if_pos Xg];rfl
 have HP:=Xh (kV (id:Int) 8 (w.alloc kF) Xf Xf)
 rw[e1] at HP
 have HM:=Xh (Gi w)
 have HG:=Xh (Gr.alloc w kF)
 have hb8:=wL id
 have hcv:=fun (W:World) (C:Array Value) (n c:Nat)=>Lib.run_convert_bytes_const (P:=Tryz.prog) W 43 5 C n c Tryz.underlying43 Tryz.underlying5
 have hwr:IntKind.u64.wrap (id:Int)=id:=IntWalk.u64_in _ Xf
 clear e1
 go_in
 go_wp2_with fail
 refine HP.out.mono ?_
 rintro e w1 ⟨v1,rfl,o1⟩
 rw[hb8] at o1
 have G1:Hid (Gr (w.alloc kF) w1):=o1.below
 have M1:=Xh (HM.out.mono o1.below)
 obtain⟨A1,c1,rfl,s1⟩:=o1.slice
 have S1:=Xh s1
 clear o1 s1
 go_wp2_with (at_builtin;refine rz rfl (.tmp 4) (.tmp 7) 43 rfl bC rfl M1.out Xf rfl S1.out Xf Xf Xf ?_;intro v2 w2 own2;rw[←List.map_append] at own2;obtain⟨A2,c2,rfl,s2⟩:=own2.slice;have S2:=Xh s2;have B2:Hid (Gr w1 w2):=own2.below;clear own2 s2)
 refine (nR _ _ _ _ _ _ S2.out).mono ?_
 rintro e w3 ⟨v3,rfl,o3⟩
 have O3:=Xh (o3.base (HG.out.trans (G1.out.trans B2.out)))
 clear o3
 go_wp2_with fail
 go_ret
 exact⟨_,rfl,O3.out⟩
end
section
open Go.RowKit
def FSt (w w':World):Prop:=∀g t cs,t≠87→t≠20→t≠3→Blk w g t cs→Blk w' g t cs
theorem FSt.gr {w w':World} (h:Gr w w'):FSt w w':=fun g t cs _ _ _ hb=>h.blk hb
theorem FSt.trans {a b c:World} (h:FSt a b) (k:FSt b c):FSt a c:=fun g t cs h1 h2 h3 hb=>k g t cs h1 h2 h3 (h g t cs h1 h2 h3 hb)
theorem FSt.tbl {w0 w w':World} {g bm:Nat} {T:List Nd} {vl vs vl' vs':Value} (h:TbF w0 w g T vl vs bm) (c:dH w w' g bm vl vs vl' vs'):FSt w w':=fun b t cs h1 h2 h3 hb=>by
 refine (c.keep b hb.lt (fun e=> ?_) (fun e=> ?_) (fun e=> ?_) (fun e=> ?_)).trans hb
 · subst e
   have hk:=h.x.blk
   unfold Blk at hb hk
   rw[hk] at hb
   injection hb with hb
   injection hb with _ hb
   exact h1 hb.symm
 · subst e;exact h.m.vw hb rfl
 · exact h.x.l.iV hb (fun q=>h2 q.symm) e
 · exact h.x.s.iV hb (fun q=>h3 q.symm) e
structure bF (w0 w:World) (p g bm bs:Nat) (T:List Nd):Prop where
 blk:Blk w p 66 [.pointer (some ⟨g,0,none⟩),.map (some bs),.pointer none]
 t:∃vl vs,TbF w0 w g T vl vs bm
 i:TIn T
theorem bF.below {w0 w:World} {p g bm bs:Nat} {T:List Nd} (h:bF w0 w p g bm bs T):Below w0.heap.size w0 w:=by obtain⟨vl,vs,ht⟩:=h.t;exact ht.x.l.below
theorem bF.gr {w0 w w':World} {p g bm bs:Nat} {T:List Nd} (h:bF w0 w p g bm bs T) (hg:Gr w w'):bF w0 w' p g bm bs T:=by
 obtain⟨vl,vs,ht⟩:=h.t
 exact⟨hg.blk h.blk,⟨vl,vs,ht.gr hg⟩,h.i⟩
theorem bF.rd {w0 w:World} {p g bm bs:Nat} {T:List Nd} (h:bF w0 w p g bm bs T):TRd w g T:=by obtain⟨vl,vs,ht⟩:=h.t;exact ht.rd
theorem bF.turn {w0 w w':World} {p g bm bs:Nat} {T T':List Nd} {vl vs vl' vs':Value} (h:bF w0 w p g bm bs T) (ht:TbF w0 w g T vl vs bm) (ht':TbF w0 w' g T' vl' vs' bm) (c:dH w w' g bm vl vs vl' vs') (i:TIn T'):bF w0 w' p g bm bs T'∧FSt w w':=
 have f:=FSt.tbl ht c
 ⟨⟨f _ _ _ Xg Xg Xg h.blk,⟨vl',vs',ht'⟩,i⟩,f⟩
section
variable {w0 w:World} {p g bm bs:Nat} {T:List Nd}
theorem bF.isNone (h:bF w0 w p g bm bs T):Calls Tryz.prog 87 #[.pointer (some ⟨p,0,none⟩)] w fun e w'=>e= .returned (.bool false)∧w=w':=by
 have c0:w.cell? ⟨p,0,none⟩=some (.pointer (some ⟨g,0,none⟩)):=(h.blk.cell 0).trans rfl
 have c2:w.cell? ⟨p,2,none⟩=some (.pointer none):=(h.blk.cell 2).trans rfl
 clear h
 go_in
 go_wp2_with fail
 go_ret
 exact⟨rfl,rfl⟩
theorem bF.ET (h:bF w0 w p g bm bs T):Calls Tryz.prog 88 #[.pointer (some ⟨p,0,none⟩)] w fun e w'=>e= .returned (.bool false)∧w=w':=by
 have c2:w.cell? ⟨p,2,none⟩=some (.pointer none):=(h.blk.cell 2).trans rfl
 clear h
 go_in
 go_wp2_with fail
 go_ret
 exact⟨rfl,rfl⟩
def oV (T:List Nd) (id:Int):Bool:=decide (kindOf T id≠0) && decide (kindOf T id≠2)
theorem bF.bears (h:bF w0 w p g bm bs T) (id:Int) (hid: -9223372036854775808≤id∧id≤9223372036854775807):Calls Tryz.prog 211 #[.pointer (some ⟨p,0,none⟩),.int .i64 id] w fun e w'=>e= .returned (.bool (oV T id))∧Gr w w':=by
 have c0:w.cell? ⟨p,0,none⟩=some (.pointer (some ⟨g,0,none⟩)):=(h.blk.cell 0).trans rfl
 have HK:=Xh (sU g T id w h.rd h.i.kinds hid)
 unfold oV
 clear h
 generalize kindOf T id=q at *
 by_cases h0:q=0
 · subst h0
   go_in
   go_wp2_with fail
   refine HK.out.mono ?_
   rintro e w1 ⟨rfl,g1⟩
   have G1:=Xh g1;clear g1
   go_wp2_with fail
   go_ret
   exact⟨rfl,G1.out⟩
 · have t0:((q:Int) !=0)=true:=by rw[bne_iff_ne];omega
   by_cases h2:q=2
   · subst h2
     go_in
     go_wp2_with fail
     refine HK.out.mono ?_
     rintro e w1 ⟨rfl,g1⟩
     have G1:=Xh g1;clear g1
     go_wp2_with fail
     go_ret
     exact⟨rfl,G1.out⟩
   · have t1:((q:Int) !=2)=true:=by rw[bne_iff_ne];omega
     have HB:Hid ((decide (q≠0) && decide (q≠2))=true):=by show _=_;rw[decide_eq_true h0,decide_eq_true h2];rfl
     rw[HB.out]
     go_in
     go_wp2_with fail
     refine HK.out.mono ?_
     rintro e w1 ⟨rfl,g1⟩
     have G1:=Xh g1;clear g1
     go_wp2_with fail
     go_ret
     exact⟨rfl,G1.out⟩
end
end
section
open Go.RowKit
theorem rT (A B:Option Addr) (n m c d:Nat) (a b:List UInt8) (w:World) (ha:Bs w A n c a) (hb:Bs w B m d b):
 Calls Tryz.prog 213 #[.slice A n c,.slice B m d] w fun e w'=>e= .returned (.bool (a==b))∧w=w':=by
 have h1:=cZ Tryz.underlying43 Tryz.underlying5 Tryz.underlying9 ha
 have h2:=cZ Tryz.underlying43 Tryz.underlying5 Tryz.underlying9 hb
 clear ha hb
 go_in
 go_wp2
 go_ret
 exact⟨bV rfl,rfl⟩
theorem Ea (A B:Option Addr) (n m c d:Nat) (a b:List UInt8) (w:World) (ha:Bs w A n c a) (hb:Bs w B m d b) (hm:m≤n):
 Calls Tryz.prog 208 #[.slice A n c,.slice B m d] w fun e w'=>e= .returned (.bool (a.take m==b))∧w=w':=by
 have hu:Bs w A m c (a.take m):=by
  have :=ha.upto hm
  rwa[←List.map_take] at this
 have HE:=Xh (rT A B m m c d (a.take m) b w hu hb)
 have h1:=ha.cap;have h2:=ha.max;have h3:=hb.cap;have h4:=hb.max
 have t1:decide ((m:Int)≤(n:Int))=true:=decide_eq_true Xf
 clear ha hb hu
 go_in
 go_wp2_with fail
 refine HE.out.mono ?_
 rintro e w1 ⟨rfl,rfl⟩
 go_wp2_with fail
 go_ret
 exact⟨rfl,rfl⟩
def bD (T:List Nd) (b:List UInt8):Nat:=
 if b.length=32∧b.take 8=jv then
  (if 1≤cu ((b.drop 8).take 8)∧cu ((b.drop 8).take 8)≤T.length∧oV T (cu ((b.drop 8).take 8):Int)=true∧b=aC (cu ((b.drop 8).take 8)) then cu ((b.drop 8).take 8) else 0)
 else 0
section
variable {w0 w:World} {p g bm bs:Nat} {T:List Nd}
theorem bF.term (h:bF w0 w p g bm bs T) (hn:T.length≤100000) (A:Option Addr) (n c:Nat) (b:List UInt8) (hb:Bs w A n c b):
 Calls Tryz.prog 133 #[.pointer (some ⟨p,0,none⟩),.slice A n c] w fun e w'=>e= .returned (.int .i64 (bD T b:Int))∧Gr w w':=by
 have HN:=Xh h.isNone
 have hl:b.length=n:=by have :=hb.len;simpa using this
 have hcp:=hb.cap;have hmx:=hb.max
 unfold bD
 rw[hl]
 by_cases h32:n=32
 · subst h32
   have HPX:=Xh (Ea A (some ⟨w.heap.size,0,none⟩) 32 8 c 8 b jv (w.alloc kF) (hb.mono (Gr.alloc _ _)) (Gi w) Xf)
   have HG:=Xh (Gr.alloc w kF)
   have hcv:=fun (W:World) (C:Array Value) (n c:Nat)=>Lib.run_convert_bytes_const (P:=Tryz.prog) W 43 5 C n c Tryz.underlying43 Tryz.underlying5
   by_cases hm:b.take 8=jv
   · rw[hm] at HPX
     rw[if_pos ⟨rfl,hm⟩]
     have tm:(jv==jv)=true:=by decide
     rw[tm] at HPX
     obtain⟨bb,oo,rfl,hcc⟩:=hb.addr Xf
     have hsub:Bs w (some ⟨bb,oo+8,none⟩) 8 (c - 8) ((b.drop 8).take 8):=by
      have h1:=hb.from (A':=some ⟨bb,oo+8,none⟩) (k:=8) Xf (fun _ b' o' e=>by injection e with e;injection e with e1 e2;subst e1 e2;rfl)
      have h2:=h1.upto (k:=8) Xf
      rwa[←List.map_drop,←List.map_take] at h2
     have HGT:=Xh (nN (some ⟨bb,oo+8,none⟩) 8 (c - 8) ((b.drop 8).take 8) (w.alloc kF) (hsub.mono (Gr.alloc _ _)))
     have hlen8:((b.drop 8).take 8).length=8:=by simp;omega
     have e1:u7 ((b.drop 8).take 8)=cu ((b.drop 8).take 8):=if_pos ⟨Xf,Xf⟩
     rw[e1] at HGT
     have hgl:cu ((b.drop 8).take 8)<18446744073709551616:=by have :=kU ((b.drop 8).take 8);rw[hlen8] at this;omega
     have hw:=h.gr HG.out
     have c0:(w.alloc kF).cell? ⟨p,0,none⟩=some (.pointer (some ⟨g,0,none⟩)):=(hw.blk.cell 0).trans rfl
     have HLN:=Xh (UG g T _ hw.rd)
     have HBE:=Xh (fun id hid=>hw.bears id hid)
     have HHD:=Xh (fun id wq hq=>lS id wq hq)
     have HBB:=Xh (hb.mono HG.out)
     clear e1 hlen8 hsub hcc hw hb h hm tm
     generalize cu ((b.drop 8).take 8)=q at *
     have hwu:IntKind.u64.wrap (T.length:Int)=T.length:=IntWalk.u64_in _ Xf
     by_cases h1:q<1
     · have t1:decide ((q:Int)<1)=true:=decide_eq_true Xf
       rw[if_neg Xf]
       go_in
       go_wp2_with fail
       refine HN.out.mono ?_
       rintro e w1 ⟨rfl,h1⟩
       obtain rfl:w=w1:=h1
       go_wp2_with fail
       refine HPX.out.mono ?_
       rintro e w2 ⟨rfl,h2⟩
       subst h2
       go_wp2_with fail
       refine HGT.out.mono ?_
       rintro e w3 ⟨rfl,h3⟩
       subst h3
       go_wp2_with fail
       go_ret
       exact⟨rfl,HG.out⟩
     have t1:decide ((q:Int)<1)=false:=decide_eq_false Xf
     by_cases h2:T.length<q
     · have t2:decide ((T.length:Int)<(q:Int))=true:=decide_eq_true Xf
       rw[if_neg Xf]
       go_in
       go_wp2_with fail
       refine HN.out.mono ?_
       rintro e w1 ⟨rfl,h1⟩
       obtain rfl:w=w1:=h1
       go_wp2_with fail
       refine HPX.out.mono ?_
       rintro e w2 ⟨rfl,h2⟩
       subst h2
       go_wp2_with fail
       refine HGT.out.mono ?_
       rintro e w3 ⟨rfl,h3⟩
       subst h3
       go_wp2_with fail
       refine HLN.out.mono ?_
       rintro e w4 ⟨rfl,h4⟩
       subst h4
       go_wp2_with fail
       go_ret
       exact⟨rfl,HG.out⟩
     have t2:decide ((T.length:Int)<(q:Int))=false:=decide_eq_false Xf
     have hwq:IntKind.i64.wrap (q:Int)=q:=IntWalk.i64_in _ Xf
     replace HBE:=Xh (HBE.out (q:Int) ⟨Xf,Xf⟩)
     cases h3:oV T (q:Int) with
     |false=>
      rw[h3] at HBE
      rw[if_neg (fun qq=>by cases qq.2.2.1)]
      clear h3
      go_in
      go_wp2_with fail
      refine HN.out.mono ?_
      rintro e w1 ⟨rfl,h1⟩
      obtain rfl:w=w1:=h1
      go_wp2_with fail
      refine HPX.out.mono ?_
      rintro e w2 ⟨rfl,h2⟩
      subst h2
      go_wp2_with fail
      refine HGT.out.mono ?_
      rintro e w3 ⟨rfl,h3⟩
      subst h3
      go_wp2_with fail
      refine HLN.out.mono ?_
      rintro e w4 ⟨rfl,h4⟩
      subst h4
      go_wp2_with fail
      refine HBE.out.mono ?_
      rintro e w5 ⟨rfl,g5⟩
      have G5:Hid (Gr w w5):=HG.out.trans g5
      clear g5
      go_wp2_with fail
      go_ret
      exact⟨rfl,G5.out⟩
     |true=>
      rw[h3] at HBE
      clear h3
      by_cases hh:b=aC q
      · have tt:(b==aC q)=true:=by rw[beq_iff_eq];exact hh
        rw[if_pos ⟨Xf,Xf,rfl,hh⟩]
        have TT:=Xh tt
        clear tt hh
        go_in
        go_wp2_with fail
        refine HN.out.mono ?_
        rintro e w1 ⟨rfl,h1⟩
        obtain rfl:w=w1:=h1
        go_wp2_with fail
        refine HPX.out.mono ?_
        rintro e w2 ⟨rfl,h2⟩
        subst h2
        go_wp2_with fail
        refine HGT.out.mono ?_
        rintro e w3 ⟨rfl,h3⟩
        subst h3
        go_wp2_with fail
        refine HLN.out.mono ?_
        rintro e w4 ⟨rfl,h4⟩
        subst h4
        go_wp2_with fail
        refine HBE.out.mono ?_
        rintro e w5 ⟨rfl,g5⟩
        have G5:Hid (Gr w w5):=HG.out.trans g5
        have B5:=Xh (HBB.out.mono g5)
        clear g5
        go_wp2_with fail
        refine (HHD.out q _ Xf).mono ?_
        rintro e w6 ⟨v6,rfl,o6⟩
        obtain⟨A6,c6,rfl,s6⟩:=o6.slice
        have G6:Hid (Gr w w6):=G5.out.trans o6.below
        have HSM:=Xh (jM _ _ _ _ _ _ b (aC q) w6 (B5.out.mono o6.below) s6)
        rw[TT.out] at HSM
        clear o6 s6
        go_wp2_with fail
        refine HSM.out.mono ?_
        rintro e w7 ⟨rfl,h7⟩
        subst h7
        go_wp2_with fail
        go_ret
        exact⟨rfl,G6.out⟩
      · have tt:(b==aC q)=false:=by rw[beq_eq_false_iff_ne];exact hh
        rw[if_neg (fun qq=>hh qq.2.2.2)]
        have TT:=Xh tt
        clear tt hh
        go_in
        go_wp2_with fail
        refine HN.out.mono ?_
        rintro e w1 ⟨rfl,h1⟩
        obtain rfl:w=w1:=h1
        go_wp2_with fail
        refine HPX.out.mono ?_
        rintro e w2 ⟨rfl,h2⟩
        subst h2
        go_wp2_with fail
        refine HGT.out.mono ?_
        rintro e w3 ⟨rfl,h3⟩
        subst h3
        go_wp2_with fail
        refine HLN.out.mono ?_
        rintro e w4 ⟨rfl,h4⟩
        subst h4
        go_wp2_with fail
        refine HBE.out.mono ?_
        rintro e w5 ⟨rfl,g5⟩
        have G5:Hid (Gr w w5):=HG.out.trans g5
        have B5:=Xh (HBB.out.mono g5)
        clear g5
        go_wp2_with fail
        refine (HHD.out q _ Xf).mono ?_
        rintro e w6 ⟨v6,rfl,o6⟩
        obtain⟨A6,c6,rfl,s6⟩:=o6.slice
        have G6:Hid (Gr w w6):=G5.out.trans o6.below
        have HSM:=Xh (jM _ _ _ _ _ _ b (aC q) w6 (B5.out.mono o6.below) s6)
        rw[TT.out] at HSM
        clear o6 s6
        go_wp2_with fail
        refine HSM.out.mono ?_
        rintro e w7 ⟨rfl,h7⟩
        subst h7
        go_wp2_with fail
        go_ret
        exact⟨rfl,G6.out⟩
   · have tm:(b.take 8==jv)=false:=by rw[beq_eq_false_iff_ne];exact hm
     rw[tm] at HPX
     rw[if_neg (fun q=>hm q.2)]
     clear h hb tm
     go_in
     go_wp2_with fail
     refine HN.out.mono ?_
     rintro e w1 ⟨rfl,h1⟩
     obtain rfl:w=w1:=h1
     go_wp2_with fail
     refine HPX.out.mono ?_
     rintro e w2 ⟨rfl,h2⟩
     subst h2
     go_wp2_with fail
     go_ret
     exact⟨rfl,HG.out⟩
 · have t1:((n:Int) !=32)=true:=by rw[bne_iff_ne];omega
   rw[if_neg (fun q=>h32 q.1)]
   clear h hb
   go_in
   go_wp2_with fail
   refine HN.out.mono ?_
   rintro e w1 ⟨rfl,h1⟩
   obtain rfl:w=w1:=h1
   go_wp2_with fail
   go_ret
   exact⟨rfl,Gr.refl _⟩
end
end
section
open Go.RowKit
def ofT (T:List Nd) (b:List UInt8):List Nd×Nat:=if 0<bD T b then (T,bD T b) else fZ T ⟨2,0,0,⟨b.toArray⟩,0⟩ []
theorem RP (T:List Nd) (s:ByteArray):doT T 2 0 0 s=fZ T ⟨2,0,0,s,0⟩ []:=by unfold doT;rw[if_neg Xg,if_pos rfl]
theorem RV (T:List Nd):doT T 1 0 0 ByteArray.empty=aG T:=by unfold doT;rw[if_pos rfl]
theorem uE {T:List Nd} (h:TIn T) (hn:T.length≤100000) (b:List UInt8) (hb:b.length≤maxLen):TIn (ofT T b).1∧T.length≤(ofT T b).1.length∧(ofT T b).1.length≤T.length+1:=by
 unfold ofT
 split
 · exact⟨h,Nat.le_refl _,Nat.le_succ _⟩
 · rw[←RP];exact EN h hn 2 0 0 _ hb
theorem Uw {T:List Nd} {x:Nd} {ids:List Int}:(fZ T x ids).2≤T.length+1:=by
 unfold fZ
 split
 · exact Nat.zero_le _
 · cases hf:jS T x with
   |none=>exact Nat.le_refl _
   |some j=>
    have :j<T.length:=by
     unfold jS at hf
     rw[List.findIdx?_eq_some_iff_getElem] at hf
     exact hf.1
    show j+1≤_
    omega
theorem Ro (T:List Nd) (b:List UInt8):bD T b≤T.length:=by
 unfold bD
 split
 · split
   · next h=>exact h.2.1
   · exact Nat.zero_le _
 · exact Nat.zero_le _
theorem RJ (T:List Nd) (k:Nat) (a b:Int):(pairT T k a b).2≤T.length+1:=by
 unfold pairT
 split
 · exact Nat.zero_le _
 · exact Uw
def Wv (w0 w:World) (p g bm bs:Nat) (r:List Nd×Nat) (e:Ending) (w':World):Prop:=e= .returned (.int .i64 (r.2:Int))∧bF w0 w' p g bm bs r.1∧FSt w w'
def Ww (w0 w:World) (p g bm bs:Nat) (r:List Nd×Nat) (e:Ending) (w':World):Prop:=∃v,e= .returned v∧Own w0 w' 5 1 v 32 ((aC r.2).map u8c)∧bF w0 w' p g bm bs r.1∧FSt w w'
section
variable {w0 w:World} {p g bm bs:Nat} {T:List Nd}
end
end
section
open Go.RowKit
section
variable {w0 w:World} {p g bm bs:Nat} {T:List Nd}
theorem bF.c0 (h:bF w0 w p g bm bs T):w.cell? ⟨p,0,none⟩=some (.pointer (some ⟨g,0,none⟩)):=(h.blk.cell 0).trans rfl
theorem Sr {T:List Nd} (h:TIn T) (hn:T.length≤100000):TIn (aG T).1:=by
 have :=EN h hn 1 0 0 ByteArray.empty Xg
 rw[RV] at this
 exact this.1
end
end
end Go.Proofs.YtipdlnejmcmbbaaGreatDoor
