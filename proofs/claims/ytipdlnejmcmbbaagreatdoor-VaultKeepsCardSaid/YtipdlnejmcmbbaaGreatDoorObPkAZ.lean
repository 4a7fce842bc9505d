/- Own texts, one behind the other. No condition. -/
import Derived.Test.YtipdlnejmcmbbaaGreatDoorObPkAY
set_option linter.unusedVariables false
set_option maxRecDepth 100000
set_option maxHeartbeats 8000000
set_option linter.unusedSimpArgs false
namespace Go.Proofs.YtipdlnejmcmbbaaGreatDoor
section
open Go.RowKit
theorem WT:eB Tryz.prog 183 190 (.agg #[.slice none 0 0,.int .u64 0]) 2 32:=⟨Tryz.underlying183,by kernel_rfl,rfl,Xg,Xg⟩
theorem Bg:(Tryz.prog.info? 190).map (·.size)=some 2:=by kernel_rfl
def qC (v:Value) (gen:Nat):Array Value:=#[v,.int .u64 (gen:Int)]
theorem OX (A:Option Addr) (k c gen:Nat):(qC (.slice A k c) gen).all (·.oneCell')=true:=by
 rw[Array.all_eq_true']
 intro v hv
 have :v∈[Value.slice A k c,.int .u64 (gen:Int)]:=by simpa [qC] using hv
 simp only[List.mem_cons,List.not_mem_nil,or_false] at this
 rcases this with h|h<;>subst h<;>rfl
section
variable {w0 w w':World} {n:Nat}
theorem AX (pt life gen k i:Nat) (pg:Int) (Av:Option Addr) (cv:Nat) (A:Option Addr) (c:Nat) (hkk:k≤100) (hk0:0<k) (hi:i≤100000)
 (ht:Blk w pt 286 (fC (.slice none 0 0) (.slice Av k cv) gen 0 pg)) (hx:Bs w A 6 c ((be 0 4++be k 2)++ [])) (hcv:k≤cv) (hmv:cv≤9223372036854775807) (hb0:Gr w0 w) (hge:w0.heap.size≤pt):
 Calls Tryz.prog 235 #[.pointer (some ⟨pt,0,none⟩),.int .i64 (i:Int),.agg #[.int .i64 5,.int .u64 (life:Int),.int .i64 (k:Int),.int .u64 (gen:Int),.slice A 6 c]] w fun e w'=>e= .returned (.bool true)∧∃A' c',Blk w' pt 286 (fC (.slice A' 1 c') (.slice none 0 0) 0 (i+1) pg)∧Own w0 w' 190 2 (.slice A' 1 c') 1 [.slice Av k cv,.int .u64 (gen:Int)]∧Tch (fun x=>x=pt) w w':=by
 obtain⟨q1,q2,q3,q4⟩:=xR k k [] Xf
 obtain⟨bb,oo,rfl,_⟩:=Sl.addr hx Xf
 have hcap:=Sl.cap hx
 have hmax:=Sl.max hx
 have r4:∀W:World,(Instr.slice 43 (.slice (some ⟨bb,oo,none⟩) 6 c) none (some (.int .i64 4)) none).run Tryz.prog W= .ok (.slice (some ⟨bb,oo,none⟩) 4 c) W:=fun W=>oM bC (some ⟨bb,oo,none⟩) 6 c 4 Xf W
 have r46:∀W:World,(Instr.slice 43 (.slice (some ⟨bb,oo,none⟩) 6 c) (some (.int .i64 4)) (some (.int .i64 6)) none).run Tryz.prog W= .ok (.slice (some ⟨bb,oo+4,none⟩) 2 (c - 4)) W:=fun W=>xG bb oo _ c Xf hcap W
 have HG4:Hid (∀wr,Gr w wr→Calls Tryz.prog 209 #[.slice (some ⟨bb,oo,none⟩) 4 c] wr fun e w'=>e= .returned (.tuple #[.int .u64 0,.int .i64 0])∧wr=w'):=fun wr g=>by
  have hs:Bs wr (some ⟨bb,oo,none⟩) 4 c (((be 0 4++be k 2)++ []).take 4):=by have :=(hx.mono g).upto (k:=4) Xf;rwa[←List.map_take] at this
  have :=nN _ _ _ _ wr hs
  rw[q1,q2] at this
  exact this
 have HG2:Hid (∀wr,Gr w wr→Calls Tryz.prog 209 #[.slice (some ⟨bb,oo+4,none⟩) 2 (c - 4)] wr fun e w'=>e= .returned (.tuple #[.int .u64 (k:Int),.int .i64 0])∧wr=w'):=fun wr g=>by
  have hs:Bs wr (some ⟨bb,oo+4,none⟩) 2 (c - 4) ((((be 0 4++be k 2)++ []).drop 4).take 2):=by have :=Sl.Ti (hx.mono g) (lo:=4) (m:=2) Xf;exact this
  have :=nN _ _ _ _ wr hs
  rw[q3,q4] at this
  exact this
 obtain⟨W,hW⟩:∃W,W=w.alloc (.cells #[.int .i64 5,.int .u64 (life:Int),.int .i64 (k:Int),.int .u64 (gen:Int),.slice (some ⟨bb,oo,none⟩) 6 c] 143):=⟨_,rfl⟩
 have G0:Hid (Gr w W):=by rw[hW];exact Gr.alloc _ _
 have B0:Hid (Blk W w.heap.size 143 [.int .i64 5,.int .u64 (life:Int),.int .i64 (k:Int),.int .u64 (gen:Int),.slice (some ⟨bb,oo,none⟩) 6 c]):=by rw[hW];exact Blk.new w _ _
 have HW:=Xh hW;clear hW
 have HT:=Xh ht
 have T0:=Xh (ht.mono G0.out)
 have wp:IntKind.i64.wrap (k:Int)=(k:Int):=IntWalk.i64_in _ Xf
 have wi:IntKind.i64.wrap ((i:Int)+1)=((i+1:Nat):Int):=by rw[IntWalk.i64_in _ Xf];omega
 have wj:IntKind.u64.wrap ((i+1:Nat):Int)=((i+1:Nat):Int):=IntWalk.u64_in _ Xf
 obtain⟨j,hj⟩:∃j,j=i+1:=⟨_,rfl⟩
 rw[←hj] at wi wj ⊢
 have u1:decide (0<(k:Int))=true:=decide_eq_true Xf
 have u2:decide (0<k)=true:=decide_eq_true hk0
 clear ht hx q1 q2 q3 q4 hk0 hj
 go_in
 go_upto_region 1 with fail
 rw[←HW.out]
 have STEP:Hid (∀w1,Gr W w1→Blk w1 w.heap.size 143 [.int .i64 5,.int .u64 (life:Int),.int .i64 (k:Int),.int .u64 (gen:Int),.slice (some ⟨bb,oo,none⟩) 6 c]∧Blk w1 pt 286 (fC (.slice none 0 0) (.slice Av k cv) gen 0 pg)):=fun w1 g=>⟨B0.out.mono g,T0.out.mono g⟩
 refine wrG Xe [0,1,3,7,15,31,63,127,255,511,1023,2047,4095,8191,16383,8191,40959,106495,237567,499711,1048575,2097151,4194303] [.p 0,.q 1,.p 2,.p 3,.p 4,.p 5,.p 6,.p 7,.p 8,.q 9,.p 10,.p 11,.p 12,.p 13,.p 15,.p 16,.p 17,.p 18,.q 14,.q 19,.p 20,.p 21,.p 22] Xe (trivial) ?_
 refine gP ?_
 iterate 2
  refine wQe rfl rfl ?_
  apply Exists.intro
  refine⟨fun wq hq=> ?_,?_⟩
  · obtain⟨z1,z2⟩:=STEP.out wq (Xk hq);have k4:=z1.cell 4;have k3:=z1.cell 3;have y1:=z2.cell 1;have y2:=z2.cell 2
    unfold pLa
    go_simp
    first|exact rfl|exact⟨rfl,rfl⟩
  go_simp
  refine gP ?_
  refine gP ?_
  refine gP ?_
  refine gP ?_
  refine gP ?_
  refine gP ?_
  refine gP ?_
 refine gP ?_
 iterate 2
  refine wQe rfl rfl ?_
  apply Exists.intro
  refine⟨fun wq hq=> ?_,?_⟩
  · obtain⟨z1,z2⟩:=STEP.out wq (Xk hq);have k4:=z1.cell 4;have k3:=z1.cell 3;have y1:=z2.cell 1;have y2:=z2.cell 2
    unfold pLa
    go_simp
    first|exact rfl|exact⟨rfl,rfl⟩
  go_simp
 refine gP ?_
 refine gP ?_
 refine gP ?_
 refine wNi fun w1 g1=> ?_
 replace g1:Gr W w1:=(Gr.drew _).trans g1
 obtain⟨z1,z2⟩:=STEP.out w1 g1
 have G1:=Xh (G0.out.trans g1);have Z1:=Xh z1;have Z2:=Xh z2
 have k4:=z1.cell 4
 have k3:=z1.cell 3
 have y3:=z2.cell 3
 have y2:=z2.cell 2
 have fy:=Blk.free z2 2
 clear g1 z1 z2 STEP
 go_wp2_with fail
 refine (HG4.out _ G1.out).mono ?_
 rintro e wd ⟨rfl,hwd⟩
 subst hwd
 go_wp2_with fail
 refine (HG2.out _ G1.out).mono ?_
 rintro e wd ⟨rfl,hwd⟩
 subst hwd
 obtain⟨w2,hw2⟩:∃w2,w2=w1.setCell ⟨pt,2,none⟩ (.int .u64 (gen:Int)):=⟨_,rfl⟩
 have T2:Hid (Tch (fun x=>x=pt) w1 w2):=by show Tch _ _ _;rw[hw2];exact Tch.set ⟨pt,2,none⟩ _ rfl
 have R2:Hid (Blk w2 pt 286 (fC (.slice none 0 0) (.slice Av k cv) gen 0 pg)):=by show Blk _ _ _ _;rw[hw2];exact Z2.out.set 2 _
 have P2:Hid (Blk w2 w.heap.size 143 [.int .i64 5,.int .u64 (life:Int),.int .i64 (k:Int),.int .u64 (gen:Int),.slice (some ⟨bb,oo,none⟩) 6 c]):=Z1.out.tch T2.out (fun e=>by have :=HT.out.lt;omega)
 have k0:=P2.out.cell 0
 have l4:=P2.out.cell 4
 have x1:=R2.out.cell 1
 have x4:=R2.out.cell 4
 rw[hw2] at k0 l4 x1 x4
 have HW2:=Xh hw2
 clear hw2
 go_upto_region 12 with fail
 rw[←HW2.out]
 clear k4 k3 y3 y2 fy k0 l4 x1 x4
 refine wrG Xe [0,0,0,0,8,24,56,0,128,384,896,1920,4088,0,0,16384,49152,8185,139257,401401,933883,1982459,4079611,8388607,16777215,33554431] [.p 0,.p 1,.p 2,.p 3,.p 4,.p 5,.p 7,.p 8,.p 9,.p 13,.p 14,.p 15,.p 16,.q 6,.q 10,.c 11,.c 12,.p 17,.p 18,.s 19,.p 20,.p 21,.s 22,.p 23,.p 24,.s 25] Xe (trivial) ?_
 refine gP ?_
 refine gP ?_
 refine gP ?_
 refine gP ?_
 refine gP ?_
 refine gP ?_
 refine gP ?_
 refine gP ?_
 refine gP ?_
 refine gP ?_
 refine gP ?_
 refine gP ?_
 refine gP ?_
 refine gQ (fun _ hq=>(R2.out.mono (Xk hq)).cell 0) ?_
 refine gQ (fun _ hq=>And.intro ((R2.out.mono (Xk hq)).cell 1) ((R2.out.mono (Xk hq)).cell 2)) ?_
 refine jh rfl rfl ?_
 intro w3 g3 K hK
 refine kZ 183 190 (.tmp 121) rfl (qC (.slice Av k cv) gen) rfl Tryz.underlying183 Bg Xe (show 0<2 by decide) (show 2≤2 ^ 24 by decide) ?_
 refine hK _ _ (Gr.alloc _ _) ?_
 clear hK
 go_simp
 refine jh rfl rfl ?_
 intro w5 g5 K hK
 have G5:Hid (Gr w2 w5):=(((Gr.drew _).trans g3).trans (Gr.alloc _ _)).trans g5
 have N5:Hid (Blk w5 w3.heap.size 190 [.slice Av k cv,.int .u64 (gen:Int)]):=(Blk.new w3 _ (qC (.slice Av k cv) gen)).mono g5
 refine fO (.tmp 117) (.tmp 122) 183 rfl WT rfl (Own.nil w5 _ _) w3.heap.size 1 [.slice Av k cv,.int .u64 (gen:Int)] rfl rfl (by intro u hu;rcases List.mem_cons.1 hu with rfl|hu;rfl;rw[List.mem_singleton.1 hu];rfl) (fun j u hu=>(N5.out.cell j).trans hu) (show (0+1)*32≤140737488355328 by omega) ?_
 intro v6 w6 o6 kp6
 refine hK _ _ o6.below ?_
 clear hK kp6
 obtain⟨A6,c6,rfl,_⟩:=o6.slice
 have O6:=Xh o6
 clear o6 g3 g5
 go_simp
 refine gP ?_
 refine gP ?_
 refine dV rfl rfl ?_
 intro w7 g7 K hK
 have GA:Hid (Gr w2 w7):=(G5.out.trans (show Gr w5 w6 from O6.out.below)).trans g7
 have O7:=Xh (O6.out.mono g7)
 have R7:=Xh (R2.out.mono GA.out)
 have f0:=Blk.free R7.out 0
 have x0:=R7.out.cell 0
 clear g7
 go_simp
 refine hK _ _ ?_
 clear hK f0 x0
 go_simp
 obtain⟨w8,hw8⟩:∃w8,w8=w7.setCell ⟨pt,0,none⟩ (.slice A6 1 c6):=⟨_,rfl⟩
 have R8:Hid (Blk w8 pt 286 (fC (.slice A6 1 c6) (.slice Av k cv) gen 0 pg)):=by show Blk _ _ _ _;rw[hw8];exact R7.out.set 0 _
 have T8:Hid (Tch (fun x=>x=pt) w7 w8):=by show Tch _ _ _;rw[hw8];exact Tch.set ⟨pt,0,none⟩ _ rfl
 rw[←hw8]
 clear hw8
 refine gP ?_
 refine gP ?_
 refine dV rfl rfl ?_
 intro w9 g9 K hK
 have R9:=Xh (R8.out.mono g9)
 have TH:w9.there pt 1 2:=fun j hj=>by
  rcases (show j=0∨j=1 by omega) with e|e<;>subst e
  · exact⟨by rw[show w9.cell? ⟨pt,1+0,none⟩=_ from R9.out.cell 1];rfl,Blk.free R9.out 1⟩
  · exact⟨by rw[show w9.cell? ⟨pt,1+1,none⟩=_ from R9.out.cell 2];rfl,Blk.free R9.out 2⟩
 refine wp_store_mid 190 (.tmp 131) (.tmp 124) rfl pt 1 (qC (.slice none 0 0) 0) rfl rfl TH Bg (OX _ _ _ _) ?_
 refine hK _ _ ?_
 clear hK TH
 go_simp
 obtain⟨wa,hwa⟩:∃wa,wa=w9.setCells pt 1 (qC (.slice none 0 0) 0).toList:=⟨_,rfl⟩
 have Ra:Hid (Blk wa pt 286 (fC (.slice A6 1 c6) (.slice none 0 0) 0 0 pg)):=by show Blk _ _ _ _;rw[hwa];exact (R9.out.set 1 (.slice none 0 0)).set 2 (.int .u64 0)
 have Ta:Hid (Tch (fun x=>x=pt) w9 wa):=by show Tch _ _ _;rw[hwa];exact Tch.puts (S:=fun x=>x=pt) rfl _ _ _
 have Ga:=Xh g9
 rw[←hwa]
 clear hwa g9
 refine gP ?_
 refine gP ?_
 refine dV rfl rfl ?_
 intro wb gb K hK
 have Rb:=Xh (Ra.out.mono gb)
 have Gb:=Xh gb
 have f3:=Blk.free Rb.out 3
 have x3:=Rb.out.cell 3
 clear gb
 go_simp
 refine hK _ _ ?_
 clear hK f3 x3
 go_simp
 refine wNi fun wd gd=> ?_
 obtain⟨wc,hwc⟩:∃wc,wc=wb.setCell ⟨pt,3,none⟩ (.int .u64 (j:Int)):=⟨_,rfl⟩
 have Rc:Blk wc pt 286 (fC (.slice A6 1 c6) (.slice none 0 0) 0 j pg):=by rw[hwc];exact Rb.out.set 3 _
 have Tc:Tch (fun x=>x=pt) wb wc:=by rw[hwc];exact Tch.set ⟨pt,3,none⟩ _ rfl
 rw[←hwc] at gd
 clear hwc
 have TX:Hid (Tch (fun x=>x=pt) w7 wd):=((((T8.out.trans (Tch.gr Ga.out)).trans Ta.out).trans (Tch.gr Gb.out)).trans Tc).trans (Tch.gr gd)
 have TT:Hid (Tch (fun x=>x=pt) w wd):=(((Tch.gr G1.out).trans T2.out).trans (Tch.gr GA.out)).trans TX.out
 have Rd:=Xh (Rc.mono gd)
 clear Rc Tc gd
 go_wp2_with fail
 go_ret
 refine⟨rfl,A6,c6,Rd.out,?_,TT.out⟩
 have B5:Gr w0 w5:=(((Tch.gr G1.out).trans T2.out).trans (Tch.gr G5.out)).below hb0 hb0.size (fun b e=>e▸hge)
 have O8:Own w0 w7 190 2 (.slice A6 1 c6) 1 [.slice Av k cv,.int .u64 (gen:Int)]:=O7.out.base B5
 exact O8.tch TX.out (fun b e=>e▸hge) (fun b q e=>by
  obtain⟨cs,z⟩:=O8.aA q
  rw[e] at z
  exact absurd (bTy z R7.out) Xg)
end
end
section
open Go.RowKit Go.Shelf
attribute [local go_sem] Oper.semAt_some
def bU (m:Mc) (l:Int) (base k:Nat):Sec×Nat:=dA m.S (gZ l (base+k)) (m.d.kept.getD (gZ l (base+k)) [])
section
variable {w0 w w':World} {L:Pl} {m:Mc} {n:Nat} {a d l:Int}
structure WF (w0:World) (L:Pl) (m:Mc) (a d l:Int) (life base pa:Nat) (A:World):Prop where
 ms:MSt w0 L m A
 ar:Blk A pa 283 (EJ L a d l life base)
def QN (L:Pl) (m:Mc) (l:Int) (base:Nat) (k:Nat) (args:Array Value) (A:World):Prop:=
 ∃A1 c1,args=#[.int .i64 (k:Int),eH (bU m l base k).1 A1 c1]∧QB L.kb A A1 (bU m l base k).1.body.length c1 (bU m l base k).1.body
theorem Br (f:Fit m a d l) (ho:m.Ok n) (hn:n≤90000) (hd:m.d.down=false) (hp:m.d.pend=[]) (life base:Nat) (hl:life<18446744073709551616) (hb:base≤1073741824) (pa pf N:Nat) (hN:(N:Int)=l) (hall:∀k,k<N→(bU m l base k).2=0∧(bU m l base k).1.life=life∧(bU m l base k).1.seq=k) (nn:Nat) (hnn:3≤nn) (w:World):
 EL Tryz.prog nn N 294 #[.pointer (some ⟨pa,0,none⟩),.pointer (some ⟨pf,0,none⟩)] (WF w0 L m a d l life base pa) (QN L m l base) w:=by
 intro q J W gW hJg hJF hJY h0
 obtain⟨h3,h4⟩:=f.g.l
 have HJG:=Xh hJg;have HJF:=Xh hJF;have HJY:=Xh hJY
 have F0:=hJF 0 W h0
 have H0:=Xh h0
 have HPL:=Xh (fun (k:Nat) (wr:World) (hk:k<N)=>vO (L:=L) (a:=a) (d:=d) f.g life base k Xf wr)
 have HRE:=Xh (fun k wr (hk:k<N) (s:MSt w0 L m wr)=>s.read ho Xf hd hp (gZ l (base+k)) (m.d.kept.getD (gZ l (base+k)) []) (by
  have :=(wH f.g (base+k)).1
  have :=f.s
  rw[List.getD_eq_getElem?_getD,List.getElem?_eq_getElem (show gZ l (base+k)<_ by omega)];rfl))
 have HDE:=Xh (fun k wr (s:MSt w0 L m wr) A c b (hb:Bs wr A 512 c b)=>s.decode ho hn (gZ l (base+k)) A c b hb)
 have HAL:=Xh hall
 have HNE:=Xh hN
 have hNl:N≤64:=by omega
 clear f ho hd hp gW hJg hJF hJY h0 hN hall
 refine callsIn_of_wp Tryz.func294 rfl trivial ?_ rfl
 simp only[Tryz.ntmps294,List.size_toArray,List.length_cons,List.length_nil,Nat.reduceAdd,Nat.reduceSub,Array.replicate_succ,Array.replicate_zero,List.push_toArray,List.append_toArray,List.nil_append,List.cons_append]
 have hn1:1≤nn - 1:=by omega
 have k4:=F0.ar.cell 4
 clear F0
 gi_wp2
 clear k4
 gi_loopw [13] (fun i wr=>∃k:Nat,k≤N∧i= .int .i64 (k:Int)∧J k wr) (fun i _=>N - (Go.RowKit.intOf i).toNat)
 case atStart=>exact⟨0,Nat.zero_le _,rfl,H0.out⟩
 case round=>
  obtain⟨k,hk,rfl,hj⟩:=hrel
  have HJ:=Xh hj
  have F1:=HJF.out k wr hj
  clear hj
  by_cases hlt:k<N
  · have t:decide ((k:Int)<l)=true:=decide_eq_true (by have :=HNE.out;omega)
    have wk:IntKind.i64.wrap ((k:Int)+1)=(k:Int)+1:=IntWalk.i64_in _ Xf
    obtain⟨v,hv⟩:∃v,v=gZ l (base+k):=⟨_,rfl⟩
    have HA:=Xh (HPL.out k wr hlt)
    have HRK:=Xh (fun wq (s:MSt w0 L m wq)=>HRE.out k wq hlt s)
    have HDK:=Xh (fun wq (s:MSt w0 L m wq) A c (hb:Bs wq A 512 c (m.d.kept.getD (gZ l (base+k)) []))=>HDE.out k wq s A c _ hb)
    obtain⟨X,hX⟩:∃X,X=bU m l base k:=⟨_,rfl⟩
    have hX':dA m.S (gZ l (base+k)) (m.d.kept.getD (gZ l (base+k)) [])=X:=by rw[hX];rfl
    rw[hX'] at HDK
    obtain⟨x1,x2,x3⟩:=HAL.out k hlt
    rw[←hX] at x1 x2 x3
    have HX:=Xh hX
    clear hX hX'
    rw[←hv] at HA HRK HDK
    have HV:=Xh hv
    clear hv
    have k0:=F1.ar.cell 0
    have k1:=F1.ar.cell 1
    have k2:=F1.ar.cell 2
    have k3:=F1.ar.cell 3
    have k4:=F1.ar.cell 4
    have k5:=F1.ar.cell 5
    have k6:=F1.ar.cell 6
    clear F1
    obtain⟨⟨xki,xlf,xsq,xge,xbo⟩,xk⟩:=X
    simp only at x1 x2 x3 HDK
    have x1':=x1.symm;have x2':=x2.symm;have x3':=x3.symm
    clear x1 x2 x3
    subst x1' x2' x3'
    gi_wp2_with (refine⟨trivial,?_⟩;gi_at_call 295;refine (callsIn_wide.2 HA.out).mono ?_;rintro e w2 ⟨rfl,g2⟩;have J2:=Xh (HJG.out _ _ _ HJ.out g2);have F2:=HJF.out _ _ J2.out;have y0:=F2.ar.cell 0;clear F2 g2)
    clear k0 k1 k2 k3 k4 k5 k6
    gi_wp2_with (refine⟨trivial,?_⟩;gi_at_call 236;refine (callsIn_wide.2 (HRK.out _ (HJF.out _ _ J2.out).ms)).mono ?_;rintro e w3 ⟨A3,c3,rfl,q3,g3⟩;have J3:=Xh (HJG.out _ _ _ J2.out g3);have Q3:=Xh q3.b;have F3:=HJF.out _ _ J3.out;have y1:=F3.ar.cell 1;clear F3 g3 q3)
    clear y0
    gi_wp2_with (refine⟨trivial,?_⟩;gi_at_call 237;refine (callsIn_wide.2 (HDK.out _ (HJF.out _ _ J3.out).ms A3 c3 Q3.out)).mono ?_;rintro e w4 ⟨A4,c4,rfl,o4⟩;have J4:=Xh (HJG.out _ _ _ J3.out o4.below);have O4:=Xh o4;clear o4;unfold eH;have k5:=(HJF.out _ _ (HJG.out _ _ _ J4.out (Gr.alloc w4 (.cells #[.int .i64 (xki:Int),.int .u64 (life:Int),.int .i64 (k:Int),.int .u64 (xge:Int),.slice A4 xbo.length c4] 143)))).ar.cell 5;clear y1)
    clear k5
    obtain⟨w5,hw5⟩:∃w5,w5=w4.alloc (.cells #[.int .i64 (xki:Int),.int .u64 (life:Int),.int .i64 (k:Int),.int .u64 (xge:Int),.slice A4 xbo.length c4] 143):=⟨_,rfl⟩
    have G45:Hid (Gr w4 w5):=by rw[hw5];exact Gr.alloc _ _
    have J5:=HJG.out _ _ _ J4.out G45.out
    have ok5:QN L m l base k #[.int .i64 (k:Int),.agg #[.int .i64 (xki:Int),.int .u64 (life:Int),.int .i64 (k:Int),.int .u64 (xge:Int),.slice A4 xbo.length c4]] w5:=⟨A4,c4,by rw[←HX.out];rfl,by rw[←HX.out];exact QB.own (w:=w3) (O4.out.mono G45.out)⟩
    obtain⟨fn,tmps,assign,body,hy,hR⟩:=HJY.out k _ w5 hlt J5 ok5
    have HRR:=Xh hR
    rw[←hw5]
    clear hR ok5 J5 hw5
    rw[hy]
    go_simp
    refine HRR.out.mono ?_
    rintro e W9 ⟨rfl,j9⟩
    clear HRR hy
    have J9:=Xh j9
    clear j9
    gi_wp2
    exact⟨⟨k+1,Xf,by go_num,J9.out⟩,by simp[Go.RowKit.intOf];omega⟩
  · obtain rfl:N=k:=by omega
    have t:decide ((N:Int)<l)=false:=decide_eq_false (by have :=HNE.out;omega)
    clear F1
    gi_wp2
    go_end0
    exact⟨⟨_,rfl⟩,HJ.out⟩
theorem xX (w:World) (pf life base:Nat):Calls Tryz.prog 234 #[.agg #[.pointer (some ⟨L.dp,0,none⟩),.pointer (some ⟨L.p,0,none⟩),.int .i64 a,.int .i64 d,.int .i64 l,.int .u64 (life:Int),.int .i64 (base:Int)],.pointer (some ⟨pf,0,none⟩)] w fun e w'=>∃pa pg,e= .returned (.func (.func 294) #[] #[.pointer (some ⟨pa,0,none⟩),.pointer (some ⟨pg,0,none⟩)])∧Gr w w'∧Blk w' pa 283 (EJ L a d l life base)∧w.heap.size≤pa:=by
 go_in
 go_wp2_with fail
 go_ret
 exact⟨w.heap.size,w.heap.size+1,rfl,(Gr.alloc _ _).trans (Gr.alloc _ _),(Blk.new w _ _).alloc _,Nat.le_refl _⟩
end
end
end Go.Proofs.YtipdlnejmcmbbaaGreatDoor
