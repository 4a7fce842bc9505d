/- Own texts, one behind the other. No condition. -/
import Derived.Test.YtipdlnejmcmbbaaGreatDoorObPkBG
set_option linter.unusedVariables false
set_option maxRecDepth 100000
set_option maxHeartbeats 8000000
set_option linter.unusedSimpArgs false
namespace Go.Proofs.YtipdlnejmcmbbaaGreatDoor
section
open Go.RowKit
theorem Bu {fn:Func} {p:Tmp} (h:fn.results=#[.cell p 43]) (tmps:Array Value) (w:World) (g:Nat) (A:Option Addr) (n c:Nat) (hp:tmps.getD p undef= .pointer (some ⟨g,0,none⟩)) (hc:w.cell? ⟨g,0,none⟩=some (.slice A n c)):
 (results fn tmps).run Tryz.prog w= .ok (.slice A n c) w:=by
 have hp':tmps[p]?.getD undef= .pointer (some ⟨g,0,none⟩):=by simpa using hp
 simp only[results,h]
 simp[Sem.run_bind,hp',asAddr]
 go_simp
section
variable {w0 w w':World} {kb pr:Nat} {l x r:List UInt8}
theorem I7 (p:Addr) (w:World):CallsD Tryz.prog 278 #[.pointer (some p)] .returning w fun e u' w'=>e= .returned (.tuple #[])∧u'= .returning∧w'=w:=by
 refine callsD_of_wpS Tryz.func278 rfl fun c₀ cs hu=> ?_
 apply wpS_seq
 apply wpS_region
 simp[wpOpsS,go_sem,recoverD,hu,Tryz.ntmps278,Exit.thenS]
 apply wpS_seq
 apply wpS_region
 simp[wpOpsS,go_sem,recoverD,hu,Tryz.ntmps278,Exit.thenS]
 refine wpS_cond (t:=false) (by simp[Act.eval,Array.replicate]) ?_
 simp only[Bool.false_eq_true,if_false]
 refine wpS_of_wp (wp_skip ?_)
 cases c₀
 simp_all [bodyPostS,results,Tryz.results278]
theorem IB (f1:Nat) (cap:Array Value) (R:World→Prop) (e1:∀args w,(callFunc f1 args).run Tryz.prog w= .ok (.enter f1 args) w) (h:RdS kb w0 w pr l) (hc:∀w1,Gr w w1→Calls Tryz.prog f1 cap w1 fun e w'=>(∃v,e= .returned v)∧R w'):
 Calls Tryz.prog 200 #[.pointer (some ⟨pr,0,none⟩),.func (.func f1) #[] cap] w fun e w'=>(∃v,e= .returned v)∧R w':=by
 obtain⟨A,c,hb,hq⟩:=h.b
 have hmf:∀(fn:Fn) (first cap:Array Value) (w:World),(Instr.makeFunc fn first cap).run Tryz.prog w= .ok (.func fn first cap) w:=fun _ _ _ _=>rfl
 have HC:=Xh (hc _ (Gr.alloc w (.cells #[.pointer (some ⟨pr,0,none⟩)] 168)))
 have k1:=(hb.mono (Gr.alloc w (.cells #[.pointer (some ⟨pr,0,none⟩)] 168))).cell 1
 clear h hb hq hc
 go_enter_defers Tryz.func200,Tryz.ntmps200
 go_wp2_with fail
 refine HC.out.mono ?_
 rintro e w2 ⟨⟨v,rfl⟩,hr⟩
 have HR:=Xh hr
 clear hr
 go_wp2_with fail
 refine leaves_cons (f:=278) (args:=#[.pointer (some ⟨w.heap.size,0,none⟩)]) (by simp) (by simp[go_sem]) ?_
 refine (I7 ⟨w.heap.size,0,none⟩ w2).mono ?_
 rintro e u' w3 ⟨rfl,rfl,rfl⟩
 simp[Leaves,settle,results,Tryz.results200,go_sem]
 exact HR.out
theorem Ju (x r:List UInt8):(aJ x++r).take 2=be x.length 2:=by
 unfold aJ
 rw[List.append_assoc]
 exact List.take_left' (nM _)
theorem IK (x r:List UInt8):(aJ x++r).drop 2=x++r:=by
 unfold aJ
 rw[List.append_assoc]
 exact List.drop_left' (nM _)
theorem Gn (h:RdS kb w0 w pr (aJ x++r)) (limit:Nat) (hl:x.length≤limit) (hl2:limit≤65536) (hx:x.length≤65535) (pbr pbl pbo:Nat) (h1:Blk w pbr 168 [.pointer (some ⟨pr,0,none⟩)]) (h2:Blk w pbl 3 [.int .i64 (limit:Int)]) (h3:Blk w pbo 43 [.slice none 0 0]) (hge:w0.heap.size≤pbo):
 Calls Tryz.prog 201 #[.pointer (some ⟨pbr,0,none⟩),.pointer (some ⟨pbl,0,none⟩),.pointer (some ⟨pbo,0,none⟩)] w fun e w'=>(∃v,e= .returned v)∧∃A c,Blk w' pbo 43 [.slice A x.length c]∧Own w0 w' 5 1 (.slice A x.length c) x.length (x.map u8c)∧RdS kb w0 w' pr r∧Tch (fun z=>z=pr∨z=pbo) w w':=by
 have HN:=Xh (He h (by rw[List.length_append,fLn];omega))
 rw[Ju,IK,rO 2 _ (by have :(256:Nat) ^ 2=65536:=by decide
                     omega)] at HN
 have hR:∃A c n,Blk w pr 236 [.slice A n c,.int .i64 0]:=by obtain⟨A,c,hb,_⟩:=h.b;exact⟨A,c,_,hb⟩
 have H1:=Xh h1;have H2:=Xh h2;have H3:=Xh h3
 have n1:¬pbr=pr:=fun e=>by obtain⟨A,c,n,hb⟩:=hR;rw[e] at h1;exact absurd (bTy h1 hb) Xg
 have n2:¬pbl=pr:=fun e=>by obtain⟨A,c,n,hb⟩:=hR;rw[e] at h2;exact absurd (bTy h2 hb) Xg
 have n3:¬pbo=pr:=fun e=>by obtain⟨A,c,n,hb⟩:=hR;rw[e] at h3;exact absurd (bTy h3 hb) Xg
 have wk:IntKind.i64.wrap (x.length:Int)=(x.length:Int):=IntWalk.i64_in _ Xf
 have tl:decide ((limit:Int)<(x.length:Int))=false:=decide_eq_false Xf
 have k1:=h1.cell 0
 clear h h1 h2 h3 hR
 have HXT:Hid ((x++r).take x.length=x∧(x++r).drop x.length=r):=⟨List.take_left,List.drop_left⟩
 go_in
 go_wp2_with fail
 refine HN.out.mono ?_
 rintro e w1 ⟨rfl,r1,T1⟩
 have HT:=Xh (zG (k:=x.length) r1 (by rw[List.length_append];omega))
 rw[HXT.out.1,HXT.out.2] at HT
 have T1':=Xh T1
 have K1:=Xh (H1.out.tch T1 n1);have K2:=Xh (H2.out.tch T1 n2)
 clear k1 r1 T1
 have k1:=K1.out.cell 0;have k2:=K2.out.cell 0
 go_wp2_with fail
 refine HT.out.mono ?_
 rintro e w2 ⟨A2,rfl,q2,r2,T2⟩
 have HCL:=Xh (jd A2 x.length x.length x w2 q2.b Xf)
 have R2:=Xh r2;have TT:=Xh (T1'.out.trans T2)
 clear k1 k2 q2 r2 T2
 go_wp2_with fail
 refine HCL.out.mono ?_
 rintro e w3 ⟨v3,rfl,o3⟩
 obtain⟨A3,c3,rfl,_⟩:=o3.slice
 have O3:=Xh (o3.base R2.out.g)
 have G3:=Xh (show Gr w2 w3 from o3.below)
 have B3:=Xh ((H3.out.tch TT.out n3).mono o3.below)
 clear o3
 have k3:=B3.out.cell 0
 have f3:=Blk.free B3.out 0
 go_wp2_with fail
 go_end0
 have T4:Tch (fun z=>z=pbo) w3 (w3.setCell ⟨pbo,0,none⟩ (.slice A3 x.length c3)):=Tch.set ⟨pbo,0,none⟩ _ rfl
 refine⟨⟨_,rfl⟩,A3,c3,B3.out.set 0 _,O3.out.tch T4 (fun z e=>by rw[e];exact hge) (fun z q e=> ?_),(R2.out.mono G3.out).off T4 (fun z e=>by subst e;exact⟨hge,_,_,B3.out,Xg,by unfold tyB;decide⟩),((TT.out.mono (fun z _ e=> .inl e)).trans (Tch.gr G3.out)).trans (T4.mono (fun z _ e=> .inr e))⟩
 obtain⟨cs,z2⟩:=O3.out.aA q
 rw[e] at z2
 exact absurd (bTy z2 B3.out) Xg
theorem qO (h:RdS kb w0 w pr (aJ x++r)) (limit:Nat) (hl:x.length≤limit) (hl2:limit≤65536) (hx:x.length≤65535):
 Calls Tryz.prog 125 #[.pointer (some ⟨pr,0,none⟩),.int .i64 (limit:Int)] w fun e w'=>∃A c,e= .returned (.slice A x.length c)∧Own w0 w' 5 1 (.slice A x.length c) x.length (x.map u8c)∧RdS kb w0 w' pr r∧Tch (fun z=>z=pr) w w':=by
 obtain⟨W,hW⟩:∃W,W=((w.alloc (.cells #[.pointer (some ⟨pr,0,none⟩)] 168)).alloc (.cells #[.int .i64 (limit:Int)] 3)).alloc (.cells #[.slice none 0 0] 43):=⟨_,rfl⟩
 have g0:Gr w W:=by rw[hW];exact ((Gr.alloc _ _).trans (Gr.alloc _ _)).trans (Gr.alloc _ _)
 have b1:Blk W w.heap.size 168 [.pointer (some ⟨pr,0,none⟩)]:=by rw[hW];exact ((Blk.new w _ _).alloc _).alloc _
 have b2:Blk W (w.heap.size+1) 3 [.int .i64 (limit:Int)]:=by rw[hW];exact (show Blk ((w.alloc (.cells #[.pointer (some ⟨pr,0,none⟩)] 168)).alloc (.cells #[.int .i64 (limit:Int)] 3)) (w.heap.size+1) 3 [.int .i64 (limit:Int)] from heap_alloc2_new w _ _).alloc _
 have b3:Blk W (w.heap.size+1+1) 43 [.slice none 0 0]:=by
  rw[hW]
  have :=Blk.new ((w.alloc (.cells #[.pointer (some ⟨pr,0,none⟩)] 168)).alloc (.cells #[.int .i64 (limit:Int)] 3)) 43 #[.slice none 0 0]
  rwa[World.size_alloc,World.size_alloc] at this
 have hsz:=h.g.size
 have HFI:=Xh (IB 201 #[.pointer (some ⟨w.heap.size,0,none⟩),.pointer (some ⟨w.heap.size+1,0,none⟩),.pointer (some ⟨w.heap.size+1+1,0,none⟩)] (fun w'=>∃w1,Gr W w1∧∃A c,Blk w' (w.heap.size+1+1) 43 [.slice A x.length c]∧Own w0 w' 5 1 (.slice A x.length c) x.length (x.map u8c)∧RdS kb w0 w' pr r∧Tch (fun z=>z=pr∨z=w.heap.size+1+1) w1 w') (enters_of Tryz.func201 Xe rfl) (h.mono g0) (fun w1 g1=>(Gn ((h.mono g0).mono g1) limit hl hl2 hx _ _ _ (b1.mono g1) (b2.mono g1) (b3.mono g1) Xf).mono (fun e w' hh=>⟨hh.1,w1,g1,hh.2⟩)))
 have G0:=Xh g0;have HW:=Xh hW;have B1:=Xh b1
 clear h g0 hW b1 b2 b3
 go_in
 go_upto_region 1 with fail
 rw[←HW.out]
 have k1:=B1.out.cell 0
 go_wp2_with fail
 refine HFI.out.mono ?_
 rintro e w2 ⟨⟨v,rfl⟩,w1,g1,A,c,i1,i2,i3,i4⟩
 have I1:=Xh i1;have I2:=Xh i2;have I3:=Xh i3;have I4:=Xh i4;have GG:=Xh (G0.out.trans g1)
 clear k1 i1 i2 i3 i4 g1
 have k3:=I1.out.cell 0
 have f3:=Blk.free I1.out 0
 go_wp2_with fail
 have T4:Tch (fun z=>z=w.heap.size+1+1) w2 (w2.setCell ⟨w.heap.size+1+1,0,none⟩ (.slice A x.length c)):=Tch.set ⟨w.heap.size+1+1,0,none⟩ _ rfl
 have B4:Blk (w2.setCell ⟨w.heap.size+1+1,0,none⟩ (.slice A x.length c)) (w.heap.size+1+1) 43 [.slice A x.length c]:=I1.out.set 0 _
 refine bodyPost_ret (Bu Tryz.results125 _ _ (w.heap.size+1+1) A x.length c rfl (B4.cell 0)) rfl ⟨A,c,rfl,?_,?_,?_⟩
 · refine I2.out.tch T4 (fun z e=>by omega) (fun b q e=> ?_)
   obtain⟨cs,z⟩:=I2.out.aA q
   rw[e] at z
   exact absurd (bTy z I1.out) Xg
 · exact I3.out.off T4 (fun z e=>⟨Xf,43,[.slice A x.length c],by rw[e];exact I1.out,Xg,by unfold tyB;decide⟩)
 · exact (((Tch.gr GG.out).trans I4.out).trans (T4.mono (fun z _ e=> .inr e))).mono (fun z hz e=>by
    rcases e with e|e
    · exact e
    · omega)
end
end
section
open Go.RowKit
section
variable {w0 w w':World} {kb pr:Nat} {l x r:List UInt8}
theorem zk (A:Option Addr) (n c:Nat) (hb:Bs w A n c l) (hn:n≤100000):
 Calls Tryz.prog 123 #[.slice A n c] w fun e w'=>∃pr,e= .returned (.pointer (some ⟨pr,0,none⟩))∧Gr w w'∧RdS kb w w' pr l:=by
 have HCL:=Xh (jd A n c l w hb Xf)
 clear hb
 go_in
 go_wp2_with fail
 refine HCL.out.mono ?_
 rintro e w1 ⟨v1,rfl,o1⟩
 obtain⟨A1,c1,rfl,_⟩:=o1.slice
 have O1:=Xh o1
 clear o1
 go_wp2_with fail
 go_ret
 have gg:Gr w1 (w1.alloc (.cells #[.slice A1 l.length c1,.int .i64 0] 236)):=Gr.alloc _ _
 have go1:Gr w w1:=O1.out.below
 exact⟨w1.heap.size,rfl,go1.trans gg,⟨go1.size,go1.trans gg,A1,c1,Blk.new w1 _ _,(QB.own (kb:=kb) O1.out).mono gg⟩⟩
theorem Jt (h:RdS kb w0 w pr l):Calls Tryz.prog 204 #[.pointer (some ⟨pr,0,none⟩)] w fun e w'=>e= .returned (.int .i64 0)∧w=w':=by
 obtain⟨A,c,hb,_⟩:=h.b
 have k1:=hb.cell 1
 clear h hb
 go_in
 go_wp2_with fail
 go_ret
 exact⟨rfl,rfl⟩
theorem Cv (h:RdS kb w0 w pr []):Calls Tryz.prog 126 #[.pointer (some ⟨pr,0,none⟩)] w fun e w'=>e= .returned (.int .i64 0)∧w=w':=by
 have HF:=Xh (Jt h)
 obtain⟨A,c,hb,_⟩:=h.b
 have k0:=hb.cell 0
 have k1:=hb.cell 1
 rw[show ([]:List UInt8).length=0 from rfl] at k0
 clear h hb
 go_in
 go_wp2_with fail
 refine HF.out.mono ?_
 rintro e wd ⟨rfl,hwd⟩
 subst hwd
 go_wp2_with fail
 go_ret
 exact⟨rfl,rfl⟩
theorem ME (h:RdS kb w0 w pr (aJ x++r)) (limit:Nat) (hl:x.length≤limit) (hl2:limit≤65536) (hx:x.length≤65535):
 Calls Tryz.prog 124 #[.pointer (some ⟨pr,0,none⟩),.int .i64 (limit:Int)] w fun e w'=>e= .returned (.string ⟨x.toArray⟩)∧RdS kb w0 w' pr r∧Tch (fun z=>z=pr) w w':=by
 have HB:=Xh (qO h limit hl hl2 hx)
 clear h
 go_in
 go_wp2_with fail
 refine HB.out.mono ?_
 rintro e w1 ⟨A,c,rfl,o1,r1,T1⟩
 have R1:=Xh r1;have TT:=Xh T1
 obtain⟨A',c',hv,s1⟩:=o1.slice
 injection hv with e1 _ e2
 subst e1 e2
 have hcv:=cZ (P:=Tryz.prog) Tryz.underlying43 Tryz.underlying5 Tryz.underlying9 s1
 clear r1 T1 o1 s1
 go_wp2_with fail
 go_ret
 exact⟨rfl,R1.out,TT.out⟩
end
end
section
open Go.RowKit
section
variable {w0 w w':World} {a d l:Int} {kb:Nat}
def AP (w:World) (kb n:Nat) (L:List (List UInt8)) (e:Ending) (w':World):Prop:=∃b R,e= .returned (.tuple #[.slice (some ⟨b,0,none⟩) n n,.int .i64 0])∧Gr w w'∧w.heap.size≤b∧Pgo w kb w' b n n R∧R.map aj.l=L
theorem Pgo.new {n:Nat} (hn:n≤264) (hn0:0<n) {b:Nat} (g:Gr w w') (hb:w.heap.size≤b) (h:Blk w' b 43 (List.replicate n (.slice none 0 0))):Pgo w kb w' b n n (List.replicate n ⟨none,0,0,[]⟩):=by
 refine⟨?_,fun r hr=> ?_⟩
 · rw[List.map_replicate]
   exact h.own (size:=1) (n:=n) hb g (by simp) (by simp only[maxLen];omega)
 · rw[List.eq_of_mem_replicate hr]
   exact QB.nil _ _
theorem yS (g:Geo a d l) (n:Nat) (hn:(n:Int)=a) (A:Option Addr) (c:Nat):
 Calls Tryz.prog 64 #[.agg #[.int .i64 a,.int .i64 d,.int .i64 l],.slice A 0 c] w (AP w kb n (List.replicate n [])):=by
 have hn4:n≤4∧0<n:=by
  obtain⟨x,y,e1,e2,x1,x2,_,_⟩:=dz g.r
  omega
 obtain⟨W,hW⟩:∃W,W=w.alloc (.cells #[.int .i64 a,.int .i64 d,.int .i64 l] 23):=⟨_,rfl⟩
 have G0:Hid (Gr w W):=by show Gr _ _;rw[hW];exact Gr.alloc _ _
 have B0:Hid (Blk W w.heap.size 23 [.int .i64 a,.int .i64 d,.int .i64 l]):=by show Blk _ _ _ _;rw[hW];exact Blk.new w _ _
 have HW:=Xh hW;clear hW
 have HRI:=Xh (fun wr=>gRa a d l wr)
 rw[g.r] at HRI
 obtain⟨Z,hZ⟩:∃Z,Z=(dX n (.slice none 0 0)).toArray:=⟨_,rfl⟩
 have hmk:∀W:World,(Instr.makeSlice 127 (.int .i64 a) (.int .i64 a)).run Tryz.prog W= .ok (.slice (some ⟨W.heap.size,0,none⟩) n n) (W.alloc (.cells Z 43)):=fun W=>by rw[hZ,←hn];exact run_mk tBB rfl n Xf W
 have HEM:=Xh (fun wr=>jr A 0 c wr)
 have HZ:=Xh hZ
 clear hZ g hn
 go_in
 go_upto_region 1 with fail
 rw[←HW.out]
 have k0:=B0.out.cell 0
 have k1:=B0.out.cell 1
 have k2:=B0.out.cell 2
 go_wp2_with fail
 refine (HRI.out W).mono ?_
 rintro e w1 ⟨rfl,g1⟩
 have G1:=Xh (G0.out.trans g1)
 have B1:=Xh (B0.out.mono g1)
 clear k0 k1 k2 g1
 have k0:=B1.out.cell 0
 go_wp2_with fail
 refine (HEM.out _).mono ?_
 rintro e wd ⟨rfl,hwd⟩
 subst hwd
 go_wp2_with fail
 go_ret2
 have gz:Gr w1 (w1.alloc (.cells Z 43)):=Gr.alloc _ _
 have bz:=Blk.new w1 43 Z
 refine⟨w1.heap.size,List.replicate n ⟨none,0,0,[]⟩,rfl,G1.out.trans gz,G1.out.size,Pgo.new Xf hn4.2 (G1.out.trans gz) G1.out.size ?_,by rw[List.map_replicate]⟩
 rw[HZ.out] at bz ⊢
 exact bz
theorem Mw (L:List (List UInt8)) (k:Nat) (x:List UInt8) (h:L[k]?=some x):dw (L.drop k)=aJ x++dw (L.drop (k+1)):=by
 obtain⟨hk,e⟩:=List.getElem?_eq_some_iff.1 h
 rw[List.drop_eq_getElem_cons hk,e]
 unfold dw
 rw[List.flatMap_cons]
theorem Gj (L:List (List UInt8)) (k:Nat) (x:List UInt8) (h:L[k]?=some x):((L.take (k+1)).any fun x=>decide (0<x.length))=(((L.take k).any fun x=>decide (0<x.length)) || decide (0<x.length)):=by
 rw[List.take_add_one,h,List.any_append]
 simp
theorem Uq (L:List (List UInt8)) (k n:Nat) (x:List UInt8) (hk:k<n) (hL:L.length=n) (hx:L[k]?=some x):(L.take k++List.replicate (n - k) []).set k x=L.take (k+1)++List.replicate (n - (k+1)) []:=by
 rw[List.set_append_right _ _ (by rw[List.length_take];omega),List.length_take,Nat.min_eq_left Xf,Nat.sub_self,show n - k=(n - (k+1))+1 by omega,List.replicate_succ,List.set_cons_zero,List.take_add_one,hx]
 simp
theorem BI (g:Geo a d l) (n:Nat) (hn:(n:Int)=a) (A:Option Addr) (m c:Nat) (L:List (List UInt8)) (hL:L.length=n) (hok:∀x∈L,rowOk x=true) (hs:L.any (fun x=>decide (0<x.length))=true) (hb:Bs w A m c (dw L)):
 Calls Tryz.prog 64 #[.agg #[.int .i64 a,.int .i64 d,.int .i64 l],.slice A m c] w (AP w kb n L):=by
 have hn4:n≤4∧0<n:=by
  obtain⟨x,y,e1,e2,x1,x2,_,_⟩:=dz g.r
  omega
 have hml:(dw L).length=m:=by have :=hb.len;simpa using this
 have hm0:0<m:=by rw[←hml];exact Cu (by intro e;rw[e] at hL;simp at hL;omega)
 have hle:∀x∈L,x.length≤80∧(decide (x.length=0) || decide (x.length=80))=true:=fun x q=>by
  have h1:=hok x q
  unfold rowOk at h1
  refine⟨?_,h1⟩
  simp only[Bool.or_eq_true,decide_eq_true_eq] at h1
  omega
 have hml2:m≤1000:=by have :=mP L (fun x q=>(hle x q).1);omega
 obtain⟨W,hW⟩:∃W,W=w.alloc (.cells #[.int .i64 a,.int .i64 d,.int .i64 l] 23):=⟨_,rfl⟩
 have G0:Hid (Gr w W):=by show Gr _ _;rw[hW];exact Gr.alloc _ _
 have B0:Hid (Blk W w.heap.size 23 [.int .i64 a,.int .i64 d,.int .i64 l]):=by show Blk _ _ _ _;rw[hW];exact Blk.new w _ _
 have HW:=Xh hW;clear hW
 have HRI:=Xh (fun wr=>gRa a d l wr)
 rw[g.r] at HRI
 obtain⟨Z,hZ⟩:∃Z,Z=(dX n (.slice none 0 0)).toArray:=⟨_,rfl⟩
 have hmk:∀W:World,(Instr.makeSlice 127 (.int .i64 a) (.int .i64 a)).run Tryz.prog W= .ok (.slice (some ⟨W.heap.size,0,none⟩) n n) (W.alloc (.cells Z 43)):=fun W=>by rw[hZ,←hn];exact run_mk tBB rfl n Xf W
 have HEM:=Xh (fun wr=>jr A m c wr)
 rw[decide_eq_false (show ¬m=0 by omega)] at HEM
 have HRD:=Xh (fun wr (q:Gr w wr)=>zk (kb:=kb) A m c (hb.mono q) Xf)
 have HBZ:=Xh (fun wr=>iM 32 wr Xg)
 have HBY:=Xh (fun wr pr x r (h:RdS kb w wr pr (aJ x++r)) (h1:x.length≤80)=>qO h 80 h1 Xg Xf)
 have HEN:=Xh (fun wr pr (h:RdS kb w wr pr [])=>Cv h)
 have HRO:=Xh (fun wr A n c=>xV A n c wr)
 have HZ:=Xh hZ;have HLN:=Xh hL;have HLE:=Xh hle;have HSM:=Xh hs
 have hbm:=enters_of Tryz.func125 Xe rfl
 clear hZ g hn hb hL hok hs hle hml
 go_in
 go_upto_region 1 with fail
 rw[←HW.out]
 have k0:=B0.out.cell 0
 have k1:=B0.out.cell 1
 have k2:=B0.out.cell 2
 go_wp2_with fail
 refine (HRI.out W).mono ?_
 rintro e w1 ⟨rfl,g1⟩
 have G1:=Xh (G0.out.trans g1)
 have B1:=Xh (B0.out.mono g1)
 clear k0 k1 k2 g1
 have k0:=B1.out.cell 0
 go_wp2_with fail
 refine (HEM.out _).mono ?_
 rintro e wd ⟨rfl,hwd⟩
 subst hwd
 obtain⟨w2,hw2⟩:∃w2,w2=w1.alloc (.cells Z 43):=⟨_,rfl⟩
 rw[←hw2]
 have G2:Hid (Gr w w2):=G1.out.trans (by rw[hw2];exact Gr.alloc _ _)
 have Z2:Hid (Blk w2 w1.heap.size 43 (List.replicate n (.slice none 0 0))):=by
  have bz:=Blk.new w1 43 Z
  show Blk _ _ _ _
  rw[hw2]
  rw[HZ.out] at bz ⊢
  exact bz
 have hpo:w.heap.size≤w1.heap.size:=G1.out.size
 clear k0 hw2
 generalize w1.heap.size=po at *
 go_wp2_with fail
 refine (HRD.out w2 G2.out).mono ?_
 rintro e w3 ⟨pr,rfl,g3,r3⟩
 have G3:=Xh (G2.out.trans g3)
 have R3:Hid (RdS kb w w3 pr (dw L)):=⟨Nat.le_trans G2.out.size r3.ge,G3.out,r3.b⟩
 have P3:Hid (Pgo w kb w3 po n n (List.replicate n ⟨none,0,0,[]⟩)):=Pgo.new Xf hn4.2 G3.out hpo (Z2.out.mono g3)
 clear r3 g3
 have e1:=enters_of Tryz.func125 Xe rfl
 go_wp2_with fail
 go_loopw [26,9] (fun i s wr=>∃k:Nat,k≤n∧i= .int .i64 (k:Int)∧s= .bool ((L.take k).any fun x=>decide (0<x.length))∧RdS kb w wr pr (dw (L.drop k))∧∃R,Pgo w kb wr po n n R∧R.map aj.l=L.take k++List.replicate (n - k) []) (fun i _ _=>n - (Go.RowKit.intOf i).toNat)
 case atStart=>exact⟨0,Nat.zero_le _,rfl,rfl,R3.out,_,P3.out,by simp⟩
 case round=>
  obtain⟨k,hk,rfl,rfl,hr,R,hp,hm⟩:=hrel
  have HR:=Xh hr;have HP:=Xh hp;have HM:=Xh hm
  clear hr hp hm
  by_cases hlt:k<n
  · have t:decide ((k:Int)<(n:Int))=true:=decide_eq_true Xf
    have wk:IntKind.i64.wrap ((k:Int)+1)=(k:Int)+1:=IntWalk.i64_in _ Xf
    obtain⟨x,hx⟩:∃x,L[k]?=some x:=⟨_,List.getElem?_eq_getElem (by rw[HLN.out];exact hlt)⟩
    have hxo:=HLE.out x (List.mem_of_getElem? hx)
    have HSR:=Xh (Uq L k n x hlt HLN.out hx)
    have HAN:=Xh (Gj L k x hx)
    have hrr:=HR.out
    rw[Mw L k x hx] at hrr
    have HB:=Xh (HBY.out wr pr x _ hrr hxo.1)
    have HXO:=Xh hxo
    clear hrr hxo hx
    go_wp2_with fail
    refine (HBZ.out wr).mono ?_
    rintro e w4 ⟨rfl,e4⟩
    subst e4
    go_wp2_with fail
    refine HB.out.mono ?_
    rintro e w5 ⟨A1,c1,rfl,o1,r1,T1⟩
    have ne:¬po=pr:=fun e=>by
     obtain⟨cs,z⟩:=HP.out.o.aA (b:=po) rfl
     obtain⟨A',c',hb',_⟩:=HR.out.b
     rw[e] at z
     exact absurd (bTy z hb') Xg
    have P5:Hid (Pgo w kb w5 po n n R):=HP.out.kx (KX.tch T1) r1.g (fun z e=>by
     obtain⟨A',c',hb',_⟩:=HR.out.b
     subst e
     exact⟨fun q=>ne q.symm,_,_,hb',by unfold tyB;decide⟩)
    have R5:=Xh r1
    have Q5:=Xh (QB.own (kb:=kb) o1)
    have fz:=P5.out.o.1.frozenAt k
    obtain⟨r0,hr0⟩:∃r0,R[k]?=some r0:=⟨_,List.getElem?_eq_getElem (by have :=HP.out.len;omega)⟩
    have xc:w5.cell? ⟨po,k,none⟩=some r0.v:=by
     obtain⟨_,_,hv,sl⟩:=P5.out.o.slice
     injection hv with e1 _ _
     subst e1
     obtain⟨b2,o2,e2,hc⟩:=Sl.addr sl Xf
     injection e2 with e2
     injection e2 with e3 e4 _
     subst e3 e4
     have :=hc k r0.v (by rw[List.getElem?_map,hr0];rfl)
     rwa[Nat.zero_add] at this
    have P6:Hid (Pgo w kb (w5.setCell ⟨po,k,none⟩ (.slice A1 x.length c1)) po n n (R.set k ⟨A1,x.length,c1,x⟩)):=P5.out.set k ⟨A1,x.length,c1,x⟩ Q5.out
    have R6:Hid (RdS kb w (w5.setCell ⟨po,k,none⟩ (.slice A1 x.length c1)) pr (dw (L.drop (k+1)))):=R5.out.off (Tch.set (S:=fun z=>z=po) ⟨po,k,none⟩ _ rfl) (fun z e=>by
     obtain⟨cs,z2⟩:=P5.out.o.aA (b:=po) rfl
     subst e
     exact⟨P5.out.o.ge rfl,_,_,z2,Xg,by unfold tyB;decide⟩)
    have HM6:Hid ((R.set k ⟨A1,x.length,c1,x⟩).map aj.l=L.take (k+1)++List.replicate (n - (k+1)) []):=by
     show _=_
     rw[List.map_set,HM.out]
     exact HSR.out
    have x6:(w5.setCell ⟨po,k,none⟩ (.slice A1 x.length c1)).cell? ⟨po,k,none⟩=some (.slice A1 x.length c1):=P6.out.cell (r:=⟨A1,x.length,c1,x⟩) (by rw[List.getElem?_set_self (by have :=HP.out.len;omega)])
    have HRW:=Xh (HRO.out (w5.setCell ⟨po,k,none⟩ (.slice A1 x.length c1)) A1 x.length c1)
    rw[HXO.out.2] at HRW
    have tl:decide ((0:Int)<(x.length:Int))=decide (0<x.length):=decide_eq_decide.2 Xf
    have HA2:=HAN.out
    clear o1 r1 T1 hr0 HAN
    generalize ((L.take k).any fun x=>decide (0<x.length))=bq at *
    cases bq
    · rw[Bool.false_or] at HA2
      have HA3:=Xh HA2
      clear HA2
      go_wp2_with fail
      refine HRW.out.mono ?_
      rintro e w7 ⟨rfl,g7⟩
      have R7:=Xh (R6.out.mono g7);have P7:=Xh (P6.out.mono g7)
      clear g7 fz xc x6
      go_wp2_with fail
      refine⟨⟨k+1,Xf,by go_num,by rw[HA3.out],R7.out,_,P7.out,HM6.out⟩,by simp[Go.RowKit.intOf];omega⟩
    · rw[Bool.true_or] at HA2
      have HA3:=Xh HA2
      clear HA2
      go_wp2_with fail
      refine HRW.out.mono ?_
      rintro e w7 ⟨rfl,g7⟩
      have R7:=Xh (R6.out.mono g7);have P7:=Xh (P6.out.mono g7)
      clear g7 fz xc x6
      go_wp2_with fail
      refine⟨⟨k+1,Xf,by go_num,by rw[HA3.out],R7.out,_,P7.out,HM6.out⟩,by simp[Go.RowKit.intOf];omega⟩
  · obtain rfl:n=k:=by omega
    have t:decide ((n:Int)<(n:Int))=false:=decide_eq_false Xf
    have hr:=HR.out
    rw[List.drop_of_length_le (by rw[HLN.out];exact Nat.le_refl _)] at hr
    have HE:=Xh (HEN.out wr pr hr)
    have HMF:Hid (R.map aj.l=L):=by
     show _=_
     rw[HM.out,List.take_of_length_le (by rw[HLN.out];exact Nat.le_refl _),Nat.sub_self]
     simp
    have hsm:((L.take n).any fun x=>decide (0<x.length))=true:=by rw[List.take_of_length_le (by rw[HLN.out];exact Nat.le_refl _)];exact HSM.out
    rw[hsm]
    clear hr hsm
    go_wp2_with fail
    refine HE.out.mono ?_
    rintro e wd ⟨rfl,hwd⟩
    subst hwd
    go_wp2_with fail
    go_ret2
    exact⟨po,R,rfl,HR.out.g,hpo,HP.out,HMF.out⟩
end
end
section
open Go.RowKit
theorem head_ne {head:List UInt8} (h:0<head.length):(⟨head.toArray⟩:ByteArray).toList.isEmpty=false:=by
 rw[ByteArray.toList_eq]
 cases head with
 |nil=>simp at h
 |cons x l=>rfl
section
variable {w0 w w':World}
theorem uF (head:List UInt8) (A:Option Addr) (n c:Nat) (w:World) (h0:0<head.length) (hl:head.length≤1000) (hr:aB head=true) (h1:48≤n) (h2:n≤398) (hT:U8 w):
 Calls Tryz.prog 127 #[.string ⟨head.toArray⟩,.slice A n c] w fun e w'=>e= .returned (.bool true)∧Gr w w':=by
 have HR:=Xh (eu head w Xf hT)
 rw[hr] at HR
 have HB:=Xh (fun k wr (hk:k≤1000000)=>iM k wr hk)
 have hne:=head_ne h0
 have t1:decide ((48:Int)≤(n:Int))=true:=decide_eq_true Xf
 have t2:decide ((n:Int)≤398)=true:=decide_eq_true Xf
 generalize (⟨head.toArray⟩:ByteArray)=s at *
 clear hT hr
 go_in
 go_wp2_with fail
 refine HR.out.mono ?_
 rintro e w1 ⟨rfl,g1⟩
 have G1:=Xh g1
 clear g1
 go_wp2_with fail
 refine (HB.out 0 w1 Xg).mono ?_
 rintro e w2 ⟨rfl,e2⟩
 subst e2
 go_wp2_with fail
 refine (HB.out 350 _ Xg).mono ?_
 rintro e w3 ⟨rfl,e3⟩
 subst e3
 go_wp2_with fail
 go_ret
 exact⟨rfl,G1.out⟩
theorem vD (head x:List UInt8) (A:Option Addr) (n c:Nat) (hx:Bs w A n c x) (h0:0<head.length) (hl:head.length≤1000) (hr:aB head=true) (h1:48≤n) (h2:n≤398) (hT:U8 w):
 Calls Tryz.prog 266 #[.string ⟨head.toArray⟩,.slice A n c] w fun e w'=>∃v,e= .returned (.tuple #[v,.int .i64 0])∧Own w w' 5 1 v (aJ head++aJ x).length ((aJ head++aJ x).map u8c):=by
 have HLF:=Xh (uF head A n c w h0 hl hr h1 h2 hT)
 have HX:=Xh hx
 have hne:=head_ne h0
 have HTX:=Xh (fun (w1:World) (pw:Nat) (v:Value) (h:Wtr w w1 pw v [])=>MX h head Xg Xf)
 have HBY:=Xh (fun (w1:World) (pw:Nat) (v:Value) (h:Wtr w w1 pw v (aJ head))=>qI h A n c x (hx.mono h.o.below) (WtX.old h hx) (by rw[fLn];omega) Xf)
 have HOU:=Xh (fun (w1:World) (pw:Nat) (v:Value) (h:Wtr w w1 pw v (aJ head++aJ x))=>Dm h (by have hxl:x.length=n:=by (have :=hx.len;simpa using this)
                                                                                             rw[List.length_append,fLn,fLn];omega))
 obtain⟨s,hs⟩:∃s:ByteArray,s=⟨head.toArray⟩:=⟨_,rfl⟩
 rw[←hs] at hne HLF HTX ⊢
 clear hx hr hT hs
 go_in
 go_wp2_with fail
 refine HLF.out.mono ?_
 rintro e w1 ⟨rfl,g1⟩
 have G1:=Xh g1
 clear g1
 go_upto_region 6 with fail
 obtain⟨w2,hw2⟩:∃w2,w2=w1.alloc (.cells #[.slice none 0 0] 231):=⟨_,rfl⟩
 rw[←hw2]
 have g12:Gr w1 w2:=by rw[hw2];exact Gr.alloc _ _
 have T2:Hid (Wtr w w2 w1.heap.size (.slice none 0 0) []):=⟨G1.out.size,by rw[hw2];exact Blk.new w1 _ _,(Own.nil w2 _ _).base (G1.out.trans g12)⟩
 clear hw2 g12
 generalize w1.heap.size=pw at *
 go_wp2_with fail
 refine (HTX.out _ _ _ T2.out).mono ?_
 rintro e w3 ⟨⟨u,rfl⟩,v3,f3⟩
 have F3:Hid (Wtr w w3 pw v3 (aJ head)):=f3.wt
 clear f3
 go_wp2_with fail
 refine (HBY.out _ _ _ F3.out).mono ?_
 rintro e w4 ⟨⟨u,rfl⟩,v4,f4⟩
 have F4:=Xh f4.wt
 clear f4
 go_wp2_with fail
 refine (HOU.out _ _ _ F4.out).mono ?_
 rintro e w5 ⟨v5,rfl,o5⟩
 have O5:=Xh (o5.base F4.out.o.below)
 clear o5
 go_wp2_with fail
 go_ret2
 exact⟨v5,rfl,O5.out⟩
end
end
section
open Go.RowKit
theorem ug {fn:Func} {p q r:Tmp} (h:fn.results=#[.tmp p,.tmp q,.tmp r]) (tmps:Array Value) (w:World):
 (results fn tmps).run Tryz.prog w= .ok (.tuple #[tmps.getD p undef,tmps.getD q undef,tmps.getD r undef]) w:=by
 simp only[results,h]
 simp[Sem.run_bind,Result.andThen]
section
variable {w0 w w':World} {kb:Nat}
theorem lX (A:Option Addr) (c:Nat) (w:World):
 Calls Tryz.prog 61 #[.slice A 0 c] w fun e w'=>e= .returned (.tuple #[.string ⟨#[]⟩,.slice none 0 0,.int .i64 0])∧w=w':=by
 have HEM:=Xh (jr A 0 c w)
 go_in
 go_wp2_with fail
 refine HEM.out.mono ?_
 rintro e wd ⟨rfl,hwd⟩
 subst hwd
 go_wp2_with fail
 exact bodyPost_ret (ug Tryz.results61 _ _) rfl ⟨rfl,rfl⟩
theorem vG (head x:List UInt8) (A:Option Addr) (n c:Nat) (hb:Bs w A n c (aJ head++aJ x)) (h0:0<head.length) (hl:head.length≤1000) (hr:aB head=true) (h1:48≤x.length) (h2:x.length≤398) (hT:U8 w):
 Calls Tryz.prog 61 #[.slice A n c] w fun e w'=>∃A' c',e= .returned (.tuple #[.string ⟨head.toArray⟩,.slice A' x.length c',.int .i64 0])∧Own w w' 5 1 (.slice A' x.length c') x.length (x.map u8c):=by
 have hnl:(aJ head++aJ x).length=n:=by have :=hb.len;simpa using this
 have hn2:n=head.length+2+(x.length+2):=by rw[←hnl,List.length_append,fLn,fLn]
 have HEM:=Xh (jr A n c w)
 rw[decide_eq_false (show ¬n=0 by omega)] at HEM
 have HRD:=Xh (zk (kb:=0) A n c hb Xf)
 have HTX:=Xh (fun wr pr (h:RdS 0 w wr pr (aJ head++aJ x))=>ME h 65536 Xf Xg Xf)
 have HBY:=Xh (fun wr pr (h:RdS 0 w wr pr (aJ x++ []))=>qO h 65536 Xf Xg Xf)
 have HEN:=Xh (fun wr pr (h:RdS 0 w wr pr [])=>Cv h)
 have HLF:=Xh (fun wr (g:Gr w wr) A' c'=>uF head A' x.length c' wr h0 hl hr h1 h2 (hT.mono g))
 have hne:=head_ne h0
 obtain⟨s,hs⟩:∃s:ByteArray,s=⟨head.toArray⟩:=⟨_,rfl⟩
 rw[←hs] at hne HLF HTX ⊢
 rw[List.append_nil] at HBY
 clear hb hr hT hs hnl hn2
 go_in
 go_wp2_with fail
 refine HEM.out.mono ?_
 rintro e wd ⟨rfl,hwd⟩
 subst hwd
 go_wp2_with fail
 refine HRD.out.mono ?_
 rintro e w1 ⟨pr,rfl,g1,r1⟩
 have HT1:=Xh (HTX.out w1 pr r1)
 clear g1 r1
 go_wp2_with fail
 refine HT1.out.mono ?_
 rintro e w2 ⟨rfl,r2,T2⟩
 have HB2:=Xh (HBY.out w2 pr r2)
 clear r2 T2
 go_wp2_with fail
 refine HB2.out.mono ?_
 rintro e w3 ⟨A3,c3,rfl,o3,r3,T3⟩
 have HE3:=Xh (HEN.out w3 pr r3)
 have O3:=Xh o3
 have G3:=Xh r3.g
 clear o3 r3 T3
 go_wp2_with fail
 refine HE3.out.mono ?_
 rintro e wd ⟨rfl,hwd⟩
 subst hwd
 go_wp2_with fail
 refine (HLF.out _ G3.out A3 c3).mono ?_
 rintro e w4 ⟨rfl,g4⟩
 have O4:=Xh (O3.out.mono g4)
 clear g4
 go_wp2_with fail
 exact bodyPost_ret (ug Tryz.results61 _ _) rfl ⟨A3,c3,rfl,O4.out⟩
end
end
end Go.Proofs.YtipdlnejmcmbbaaGreatDoor
