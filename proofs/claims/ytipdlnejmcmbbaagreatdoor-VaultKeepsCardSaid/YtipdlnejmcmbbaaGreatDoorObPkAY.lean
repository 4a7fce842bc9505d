/- Own texts, one behind the other. No condition. -/
import Derived.Test.YtipdlnejmcmbbaaGreatDoorObPkAX
set_option linter.unusedVariables false
set_option maxRecDepth 100000
set_option maxHeartbeats 8000000
set_option linter.unusedSimpArgs false
namespace Go.Proofs.YtipdlnejmcmbbaaGreatDoor
section
open Go.RowKit
structure KX (S:Nat→Prop) (kb:Nat) (w w':World):Prop where
 size:w.heap.size≤w'.heap.size
 keep:∀(b:Nat) (a:Array Value) (t:TypeId) (m:Nat×Nat),w.heap[b]?=some (.cells a t m)→¬tyM t→(t=302→b≠kb)→¬S b→w'.heap[b]?=some (.cells a t m)
section
variable {S S':Nat→Prop} {kb:Nat} {w w' w'':World}
theorem KX.kq (h:KQ kb w w'):KX S kb w w':=⟨h.1,fun b a t m e h1 h2 _=>h.2 b a t m e h1 h2⟩
theorem KX.gr (h:Gr w w'):KX S kb w w':=KX.kq (KQ.gr h)
theorem KX.trans (h:KX S kb w w') (k:KX S kb w' w''):KX S kb w w'':=⟨Nat.le_trans h.size k.size,fun b a t m e h1 h2 h3=>k.keep b a t m (h.keep b a t m e h1 h2 h3) h1 h2 h3⟩
theorem KX.wide (h:KX S kb w w') (hs:∀b,b<w.heap.size→S b→S' b):KX S' kb w w':=⟨h.size,fun b a t m e h1 h2 h3=>h.keep b a t m e h1 h2 (fun q=>h3 (hs b (fV e) q))⟩
theorem KX.tch (T:Tch S w w'):KX S kb w w':=⟨T.size,fun b a t m e _ _ h3=>(T.keep b (fV e) h3).trans e⟩
theorem KX.blk (h:KX S kb w w') {b:Nat} {t:TypeId} {cs:List Value} (hb:Blk w b t cs) (h1:¬tyM t) (h2:t=302→b≠kb) (h3:¬S b):Blk w' b t cs:=h.keep b _ t _ hb h1 h2 h3
theorem KX.WG (h:KX S kb w w') (hs:∀b,b<w.heap.size→¬S b):KQ kb w w':=⟨h.size,fun b a t m e h1 h2=>h.keep b a t m e h1 h2 (hs b (fV e))⟩
end
instance (S:Nat→Prop) (kb:Nat):LtO (KX S kb):=⟨fun w=>KX.gr (Gr.refl w),KX.trans,KX.size,KX.gr⟩
theorem Ue:¬tyA 294:=by unfold tyA tyM;decide
theorem pageSize:(Tryz.prog.info? 234).map (·.size)=some 2:=by kernel_rfl
def iK (k:Nat) (A:Option Addr) (n c:Nat):Array Value:=#[.int .i64 (k:Int),.slice A n c]
theorem Kn (k:Nat) (A:Option Addr) (n c:Nat):(iK k A n c).all (·.oneCell')=true:=by
 rw[Array.all_eq_true']
 intro v hv
 have :v∈[Value.int .i64 (k:Int),.slice A n c]:=by simpa [iK] using hv
 simp only[List.mem_cons,List.not_mem_nil,or_false] at this
 rcases this with h|h<;>subst h<;>rfl
section
variable {w0 w w':World} {L:Pl} {m:Mc} {n:Nat} {a d l:Int}
theorem tV (h:MSt w0 L m w) (f:Fit m a d l) (hlv:m.Live) (ho:m.Ok n) (pl life base first gen:Nat) (hl:life<18446744073709551616) (hb:base≤1073741824) (hg:gen<18446744073709551616) (hlog:Blk w pl 294 (cB L a d l life base first)) (hge:w0.heap.size≤pl)
 (A:Option Addr) (N c:Nat) (R:List aU) (hP:PgW L.kb w A N c R) (hk:∀x∈R,(x.k:Int)<au a d l) (hsm:∀x∈R,x.r.n≤473) (hN:(first:Int)+(N:Int)+1≤l) (hn:n+2*N+4≤90000):
 Calls Tryz.prog 198 #[.pointer (some ⟨pl,0,none⟩),.slice A N c,.int .u64 (gen:Int)] w fun e w'=>e= .returned (.int .i64 0)∧MSt w0 L (m.eU l life base first gen (R.map fun x=>(x.k,x.r.l))) w'∧Blk w' pl 294 (cB L a d l life base (first+N+1))∧KX (fun b=>b=pl) L.kb w w':=by
 obtain⟨h3,h4⟩:=f.g.l
 have hRN:R.length=N:=hP.s.1
 have g0:Gr w (w.alloc (.cells #[.pointer (some ⟨pl,0,none⟩)] 148)):=Gr.alloc _ _
 have bv:Blk (w.alloc (.cells #[.pointer (some ⟨pl,0,none⟩)] 148)) w.heap.size 148 [.pointer (some ⟨pl,0,none⟩)]:=Blk.new w _ _
 obtain⟨W,hW⟩:∃W,W=w.alloc (.cells #[.pointer (some ⟨pl,0,none⟩)] 148):=⟨_,rfl⟩
 rw[←hW] at g0 bv
 have G0:=Xh g0;have BV:=Xh bv;have HW:=Xh hW
 have LOG0:=Xh (hlog.mono g0)
 have HP:=Xh hP
 have HCT:=Xh (uK A N c R (.pointer (some ⟨w.heap.size,0,none⟩)) W (hP.s.mono g0) (fun x hx wr gr=>Co w.heap.size pl life base first x wr (bv.mono gr) ((hlog.mono g0).mono gr) (hk x hx) (hsm x hx)))
 have HFI:=Xh (fun wr=>qB f.g N wr)
 have hfit:decide ((N:Int)<l)=true:=decide_eq_true Xf
 rw[hfit] at HFI
 have HRO:=Xh (fun wr (g:Gr W wr)=>xB pl life base first wr f.g Xf ((hlog.mono g0).mono g))
 have tr:decide (l - (first:Int)≤(N:Int))=false:=decide_eq_false Xf
 have HPT:=Xh (fun (mk:Mc) (nk:Nat) (wk:World) (h1:MSt w0 L mk wk) (h2:mk.d.kept.length=m.d.kept.length) (h3:mk.Ok nk) (h4:nk+2≤90000) (i kind k:Nat) (hi:i≤100) (hk1:1≤kind) (hk5:kind≤5) (hk:k≤1000000) (r:aj) (hr:r.n≤473) (hq:QB L.kb wk r.a r.n r.c r.l) (hb':Blk wk pl 294 (cB L a d l life base first))=>
  Mr h1 ⟨f.g,by rw[h2];exact f.s⟩ h3 h4 pl life base first i kind gen k hl hb Xf hi hk1 hk5 hg hk r hr hq hb')
 have hcap:=Sl.cap hP.s.2;have hmax:=Sl.max hP.s.2
 obtain⟨P,hPd⟩:∃P,P=R.map fun x=>(x.k,x.r.l):=⟨_,rfl⟩
 rw[←hPd]
 have hPl:P.length=N:=by rw[hPd,List.length_map];exact hRN
 obtain⟨S,hS⟩:∃S:Nat→Mc,S=fun k=>m.iy l life base first gen 0 (P.take k):=⟨_,rfl⟩
 have HS0:Hid (S 0=m):=by show _=_;rw[hS];rfl
 have HSA:Hid (∀k,k≤N→(S k).Live∧(S k).Ok (n+2*k)∧(S k).d.kept.length=m.d.kept.length):=fun k hk=>by
  rw[hS]
  obtain⟨h1,h2,h3⟩:=qG (l:=l) (life:=life) (base:=base) (first:=first) (gen:=gen) (P.take k) m 0 n hlv ho
  exact⟨h1,h2.le (by rw[List.length_take];omega),h3⟩
 have HSS:Hid (∀k x,k<N→R[k]?=some x→S (k+1)=((S k).bY l life base first k 4 gen x.k x.r.l).1):=fun k x hk hx=>by
  rw[hS]
  simp only
  rw[List.take_add_one,show P[k]?=some (x.k,x.r.l) by rw[hPd,List.getElem?_map,hx];rfl]
  show m.iy l life base first gen 0 (P.take k++ [(x.k,x.r.l)])=_
  rw[uO,List.length_take,hPl,Nat.min_eq_left Xf,Nat.zero_add]
 obtain⟨Z,hZ⟩:∃Z,Z=m.eU l life base first gen P:=⟨_,rfl⟩
 rw[←hZ]
 unfold Mc.eU at hZ
 have hZS:m.iy l life base first gen 0 P=S N:=by rw[hS];simp only;rw[List.take_of_length_le Xf]
 rw[hZS,hPl] at hZ
 have HZ:=Xh hZ
 have HKR:=Xh hk;have HSM:=Xh hsm;have HH:=Xh h;have HNN:=Xh hn;have HRN:=Xh hRN
 have HPGM:=Xh (pgE a d l)
 have hNl:N≤64:=by omega
 clear h f hlv ho hP hk hsm hlog hRN g0 bv hW hfit hPd hPl hS hZ hZS
 go_in
 go_upto_region 1 with fail
 rw[←HW.out]
 have v0:=BV.out.cell 0
 go_wp2_with fail
 refine HCT.out.mono ?_
 rintro e w1 ⟨rfl,g1⟩
 have G1:=Xh (G0.out.trans g1)
 have BV1:=Xh (BV.out.mono g1)
 have LOG1:=Xh (LOG0.out.mono g1)
 have GW1:=Xh g1
 clear g1 v0
 have v0:=BV1.out.cell 0
 have y2:=LOG1.out.cell 2
 have y3:=LOG1.out.cell 3
 have y4:=LOG1.out.cell 4
 go_wp2_with fail
 refine (HFI.out _).mono ?_
 rintro e w2 ⟨rfl,g2⟩
 have G2:=Xh (G1.out.trans g2)
 have BV2:=Xh (BV1.out.mono g2)
 have LOG2:=Xh (LOG1.out.mono g2)
 have GW2:=Xh (GW1.out.trans g2)
 clear g2 v0 y2 y3 y4
 have v0:=BV2.out.cell 0
 go_wp2_with fail
 refine (HRO.out _ GW2.out).mono ?_
 rintro e w3 ⟨rfl,g3⟩
 have G3:=Xh (G2.out.trans g3)
 have BV3:=Xh (BV2.out.mono g3)
 have LOG3:=Xh (LOG2.out.mono g3)
 clear g3 v0
 go_wp2_with fail
 go_loopw [40] (fun i wr=>∃k:Nat,k≤N∧i= .int .i64 (k:Int)∧MSt w0 L (S k) wr∧KQ L.kb w wr∧Blk wr w.heap.size 148 [.pointer (some ⟨pl,0,none⟩)]∧Blk wr pl 294 (cB L a d l life base first)) (fun i _=>N - (Go.RowKit.intOf i).toNat)
 case atStart=>exact⟨0,Nat.zero_le _,rfl,by rw[HS0.out];exact HH.out.mono G3.out,KQ.gr G3.out,BV3.out,LOG3.out⟩
 case round=>
  obtain⟨k,hk,rfl,hm,hq,hv,hlg⟩:=hrel
  have HM:=Xh hm;have HQ:=Xh hq;have HV:=Xh hv;have HLG:=Xh hlg
  clear hm hq hv hlg
  by_cases hlt:k<N
  · have t:decide ((k:Int)<(N:Int))=true:=decide_eq_true Xf
    have hPW:=HP.out.kq HQ.out
    obtain⟨b,o,x,rfl,hx,c0,c1⟩:=aU.row hPW.s hlt
    obtain⟨s1,s2,s3⟩:=HSA.out k hk
    have HSN:=Xh (HSS.out k x hlt hx)
    have hmem:=List.mem_of_getElem? hx
    have HXQ:=Xh (hPW.r x hmem)
    have hxn:=HSM.out x hmem
    have hxk:x.k≤264:=by have :=HKR.out x hmem;have :=HPGM.out;omega
    have HLV:=Xh s1;have HOK:=Xh s2;have HKP:=Xh s3
    clear s1 s2 s3 hPW hx hmem
    have wk:IntKind.i64.wrap ((k:Int)+1)=(k:Int)+1:=IntWalk.i64_in _ Xf
    go_upto_region 14 with (refine wpList_store_row rfl 234 (.tmp 10) (.tmp 44) rfl wr.heap.size (iK x.k x.r.a x.r.n x.r.c) rfl rfl 234 #[.int .i64 0,.slice none 0 0] (Blk.new wr 234 #[.int .i64 0,.slice none 0 0]) pageSize rfl (Kn _ _ _ _) ?_)
    obtain⟨w4,hw4⟩:∃w4,w4=(wr.alloc (.cells #[.int .i64 0,.slice none 0 0] 234)).setRow wr.heap.size (iK x.k x.r.a x.r.n x.r.c):=⟨_,rfl⟩
    have G4:Hid (Gr wr w4):=by
     show Gr _ _
     rw[hw4]
     exact (Tch.row (S:=fun b=>b=wr.heap.size) (w:=wr.alloc (.cells #[.int .i64 0,.slice none 0 0] 234)) (g:=wr.heap.size) rfl (iK x.k x.r.a x.r.n x.r.c)).below (Gr.alloc _ _) (Gr.alloc wr _).size (fun b e=>e▸Nat.le_refl _)
    have B4:Hid (Blk w4 wr.heap.size 234 [.int .i64 (x.k:Int),.slice x.r.a x.r.n x.r.c]):=by
     show Blk _ _ _ _
     rw[hw4]
     exact setRow_heap _ wr.heap.size _ (iK x.k x.r.a x.r.n x.r.c) _ _ (Blk.new wr _ #[.int .i64 0,.slice none 0 0])
    rw[←hw4]
    clear hw4
    have v0:=(HV.out.mono G4.out).cell 0
    have b0:=B4.out.cell 0
    have b1:=B4.out.cell 1
    have HPU:=Xh (HPT.out (S k) (n+2*k) w4 (HM.out.mono G4.out) HKP.out HOK.out (by have :=HNN.out;omega) k 4 x.k Xf Xg Xg Xf x.r hxn (HXQ.out.mono G4.out) (HLG.out.mono G4.out))
    have hz:((S k).bY l life base first k 4 gen x.k x.r.l).2=0:=(HLV.out.bY _ _ _ _ _ _ _ _ _).1
    obtain⟨r,hr⟩:∃r,r=(S k).bY l life base first k 4 gen x.k x.r.l:=⟨_,rfl⟩
    rw[←hr] at HPU hz HSN
    clear hr c0 c1
    go_wp2_with fail
    refine HPU.out.mono ?_
    rintro e w5 ⟨rfl,h5,k5⟩
    rw[hz]
    have H5:=Xh h5
    have K5:=Xh (HQ.out.trans ((KQ.gr G4.out).trans k5))
    have V5:=Xh (((KQ.gr (kb:=L.kb) G4.out).trans k5).blk HV.out Xi Xd)
    have L5:=Xh (oI ((KQ.gr (kb:=L.kb) G4.out).trans k5) HLG.out)
    clear h5 k5 v0 b0 b1 hz
    go_wp2_with fail
    refine⟨⟨k+1,Xf,by go_num,by rw[HSN.out];exact H5.out,K5.out,V5.out,L5.out⟩,by simp[Go.RowKit.intOf];omega⟩
  · obtain rfl:N=k:=by omega
    have t:decide ((N:Int)<(N:Int))=false:=decide_eq_false Xf
    obtain⟨s1,s2,s3⟩:=HSA.out N (Nat.le_refl _)
    have HLV:=Xh s1;have HOK:=Xh s2;have HKP:=Xh s3
    clear s1 s2 s3
    have HFL:=Xh (HM.out.flush HOK.out (by have :=HNN.out;omega))
    have hz:=HLV.out.flush.1
    have HLV2:=Xh HLV.out.flush.2
    have HOK2:=Xh HOK.out.flush
    have HKP2:Hid ((S N).flush.1.d.kept.length=m.d.kept.length):=(iG (S N)).trans HKP.out
    obtain⟨r1,hr1⟩:∃r1,r1=(S N).flush:=⟨_,rfl⟩
    rw[←hr1] at HFL hz HLV2 HOK2 HZ HKP2
    clear hr1
    have v0:=HV.out.cell 0
    have y0:=HLG.out.cell 0
    go_wp2_with fail
    refine HFL.out.mono ?_
    rintro e w5 ⟨rfl,h5,k5⟩
    rw[hz]
    have H5:=Xh h5
    have K5:=Xh (HQ.out.trans k5)
    have V5:=Xh (k5.blk HV.out Xi Xd)
    have L5:=Xh (oI k5 HLG.out)
    clear h5 k5 v0 y0 hz
    have v0:=V5.out.cell 0
    have HPU:=Xh (HPT.out r1.1 (n+2*N+1) w5 H5.out HKP2.out HOK2.out (by have :=HNN.out;omega) N 5 N Xf Xg Xg Xf ⟨none,0,0,[]⟩ Xg (QB.nil L.kb w5) L5.out)
    have hz:(r1.1.bY l life base first N 5 gen N []).2=0:=(HLV2.out.bY _ _ _ _ _ _ _ _ _).1
    have HLV3:=Xh (HLV2.out.bY l life base first N 5 gen N []).2
    have HOK3:=Xh (HOK2.out.bY l life base first N 5 gen N [])
    obtain⟨r2,hr2⟩:∃r2,r2=r1.1.bY l life base first N 5 gen N []:=⟨_,rfl⟩
    rw[←hr2] at HPU hz HLV3 HOK3 HZ
    clear hr2
    go_wp2_with fail
    refine HPU.out.mono ?_
    rintro e w6 ⟨rfl,h6,k6⟩
    rw[hz]
    have H6:=Xh h6
    have K6:=Xh (K5.out.trans k6)
    have V6:=Xh (k6.blk V5.out Xi Xd)
    have L6:=Xh (oI k6 L5.out)
    clear h6 k6 v0 hz
    have v0:=V6.out.cell 0
    have y0:=L6.out.cell 0
    have HFL:=Xh (H6.out.flush HOK3.out (by have :=HNN.out;omega))
    have hz:=HLV3.out.flush.1
    obtain⟨r3,hr3⟩:∃r3,r3=r2.1.flush:=⟨_,rfl⟩
    rw[←hr3] at HFL hz HZ
    clear hr3
    go_wp2_with fail
    refine HFL.out.mono ?_
    rintro e w7 ⟨rfl,h7,k7⟩
    rw[hz]
    have H7:=Xh h7
    have K7:=Xh (K6.out.trans k7)
    have V7:=Xh (k7.blk V6.out Xi Xd)
    have L7:=Xh (oI k7 L6.out)
    clear h7 k7 v0 y0 hz
    have v0:=V7.out.cell 0
    have y7:=L7.out.cell 7
    have fy:=Blk.free L7.out 7
    have w1:IntKind.i64.wrap ((N:Int)+1)=(N:Int)+1:=IntWalk.i64_in _ Xf
    have w2:IntKind.i64.wrap ((first:Int)+((N:Int)+1))=((first+N+1:Nat):Int):=by rw[IntWalk.i64_in _ Xf];omega
    go_wp2_with fail
    go_ret
    refine⟨rfl,?_,L7.out.set 7 _,(KX.kq K7.out).trans (KX.tch (Tch.set ⟨pl,7,none⟩ _ rfl))⟩
    rw[HZ.out]
    exact H7.out.off (Tch.set (S:=fun b=>b=pl) ⟨pl,7,none⟩ _ rfl) (fun b e=>e▸hge) (fun b e=>e▸⟨_,_,L7.out,Ue⟩)
end
end
section
open Go.RowKit
abbrev fC (va vn:Value) (gen first:Nat) (pg:Int):List Value:=[va,vn,.int .u64 (gen:Int),.int .u64 (first:Int),.int .i64 pg]
theorem MJ:eB Tryz.prog 116 234 (.agg #[.int .i64 0,.slice none 0 0]) 2 32:=⟨Tryz.underlying116,by kernel_rfl,rfl,Xg,Xg⟩
theorem xG (b o n c:Nat) (h:6≤n) (hc:n≤c) (w:World):(Instr.slice 43 (.slice (some ⟨b,o,none⟩) n c) (some (.int .i64 4)) (some (.int .i64 6)) none).run Tryz.prog w= .ok (.slice (some ⟨b,o+4,none⟩) 2 (c - 4)) w:=by
 obtain⟨i,hi,hz,hsz,hby⟩:=info_parts bC.info
 have he:Tryz.prog.elem 43=5:=by simp[Program.elem,bC.und]
 have hu:Tryz.prog.underlying 43=some (.slice (Tryz.prog.elem 43)):=by rw[he];exact bC.und
 rw[run_slice_lh w 43 (some ⟨b,o,none⟩) n c hu .i64 .i64 4 6 Xf Xf Xf]
 have e3:¬c - 4=0:=by omega
 simp[sizeOf,typeInfo,he,hi,Result.andThen,sliced,hsz,sQ]
 omega
theorem Sl.Ti {w:World} {b o n c:Nat} {l:List UInt8} (h:Bs w (some ⟨b,o,none⟩) n c l) {lo m:Nat} (hk:lo+m≤n):Bs w (some ⟨b,o+lo,none⟩) m (c - lo) ((l.drop lo).take m):=by
 have h1:=Sl.from (A':=some ⟨b,o+lo,none⟩) h (show lo≤n by omega) (fun _ b' o' e=>by injection e with e;injection e with e1 e2;subst e1 e2;rfl)
 have h2:=Sl.upto h1 (show m≤n - lo by omega)
 rw[←List.map_drop,←List.map_take] at h2
 exact h2
theorem QB.from {kb:Nat} {w:World} {A A':Option Addr} {n c:Nat} {l:List UInt8} (h:QB kb w A n c l) {k:Nat} (hk:k≤n) (hA:k<n→∀b o,A=some ⟨b,o,none⟩→A'=some ⟨b,o+k,none⟩):QB kb w A' (n - k) (c - k) (l.drop k):=by
 refine⟨?_,fun b o h0 e=> ?_⟩
 · have :=Sl.from h.b hk hA
   rwa[←List.map_drop] at this
 · obtain⟨b',o',e',_⟩:=Sl.addr h.b Xf
   have :=hA Xf b' o' e'
   rw[e] at this
   injection this with this
   injection this with e1 _ _
   subst e1
   exact h.u b o' Xf e'
section
variable {w0 w w':World} {n:Nat}
theorem xR (k:Nat) (p:Nat) (b:List UInt8) (hp:p<65536):u7 (((be 0 4++be p 2)++b).take 4)=0∧Ij (((be 0 4++be p 2)++b).take 4)=0∧u7 ((((be 0 4++be p 2)++b).drop 4).take 2)=p∧Ij ((((be 0 4++be p 2)++b).drop 4).take 2)=0:=by
 have e1:((be 0 4++be p 2)++b).take 4=be 0 4:=by rw[List.append_assoc,List.take_append_of_le_length (by rw[aQ];exact Nat.le_refl _),List.take_of_length_le (by rw[aQ];exact Nat.le_refl _)]
 have e2:(((be 0 4++be p 2)++b).drop 4).take 2=be p 2:=by
  rw[List.append_assoc,List.drop_append_of_le_length (by rw[aQ];exact Nat.le_refl _),List.drop_of_length_le (by rw[aQ];exact Nat.le_refl _),List.nil_append,List.take_append_of_le_length (by rw[aQ];exact Nat.le_refl _),List.take_of_length_le (by rw[aQ];exact Nat.le_refl _)]
 rw[e1,e2]
 unfold u7 Ij
 rw[aQ,aQ,if_pos Xg,if_pos Xg,if_pos Xg,if_pos Xg,rO 4 0 Xg,rO 2 p (by have :(256:Nat) ^ 2=65536:=by decide
                                                                       omega)]
 exact⟨rfl,rfl,rfl,rfl⟩
theorem FY (kb pt life gen k p i:Nat) (b:List UInt8) (pg:Int) (g0:Nat) (v:Value) (R:List aU) (A:Option Addr) (n c:Nat) (hn:n=6+b.length) (hp:(p:Int)<pg) (hpg:pg≤264) (hkk:k≤100) (hb:b.length≤473)
 (ht:Blk w pt 286 (fC (.slice none 0 0) v g0 0 pg)) (hv:Own w0 w 234 2 v k (R.flatMap aU.cells)) (hg:0<k→g0=gen) (hge:w0.heap.size≤pt)
 (hx:QB kb w A n c ((be 0 4++be p 2)++b)):
 Calls Tryz.prog 235 #[.pointer (some ⟨pt,0,none⟩),.int .i64 (i:Int),.agg #[.int .i64 4,.int .u64 (life:Int),.int .i64 (k:Int),.int .u64 (gen:Int),.slice A n c]] w fun e w'=>e= .returned (.bool true)∧∃v' A' c',Blk w' pt 286 (fC (.slice none 0 0) v' gen 0 pg)∧Own w0 w' 234 2 v' (k+1) ((R++ [aU.mk p (aj.mk A' b.length c' b)]).flatMap aU.cells)∧QB kb w' A' b.length c' b∧Tch (fun x=>x=pt∨v.ownBlock=some x) w w':=by
 obtain⟨q1,q2,q3,q4⟩:=xR k p b Xf
 obtain⟨bb,oo,rfl,_⟩:=Sl.addr hx.b Xf
 have hcap:=Sl.cap hx.b
 have hmax:=Sl.max hx.b
 obtain⟨A6,hA6,hrun6⟩:=og bC (some ⟨bb,oo,none⟩) n c 6 Xf hcap
 have r4:∀W:World,(Instr.slice 43 (.slice (some ⟨bb,oo,none⟩) n c) none (some (.int .i64 4)) none).run Tryz.prog W= .ok (.slice (some ⟨bb,oo,none⟩) 4 c) W:=fun W=>oM bC (some ⟨bb,oo,none⟩) n c 4 Xf W
 have r46:∀W:World,(Instr.slice 43 (.slice (some ⟨bb,oo,none⟩) n c) (some (.int .i64 4)) (some (.int .i64 6)) none).run Tryz.prog W= .ok (.slice (some ⟨bb,oo+4,none⟩) 2 (c - 4)) W:=fun W=>xG bb oo _ c Xf hcap W
 have r6:∀W:World,(Instr.slice 43 (.slice (some ⟨bb,oo,none⟩) n c) (some (.int .i64 6)) none none).run Tryz.prog W= .ok (.slice A6 b.length (c - 6)) W:=fun W=>by
  have :=hrun6 W
  rwa[show n - 6=b.length by omega] at this
 have Q6:Hid (QB kb w A6 b.length (c - 6) b):=by
  have :=hx.from (k:=6) (A':=A6) Xf (fun hlt b o e=>by have :=hA6 hlt b o e;rwa[Nat.mul_one] at this)
  rw[show n - 6=b.length by omega] at this
  have e:((be 0 4++be p 2)++b).drop 6=b:=by
   have :(be 0 4++be p 2).length=6:=by simp[aQ]
   rw[List.drop_append_of_le_length Xf,List.drop_of_length_le Xf,List.nil_append]
  rwa[e] at this
 have HG4:Hid (∀wr,Gr w wr→Calls Tryz.prog 209 #[.slice (some ⟨bb,oo,none⟩) 4 c] wr fun e w'=>e= .returned (.tuple #[.int .u64 0,.int .i64 0])∧wr=w'):=fun wr g=>by
  have hs:Bs wr (some ⟨bb,oo,none⟩) 4 c (((be 0 4++be p 2)++b).take 4):=by have :=(hx.mono g).b.upto (k:=4) Xf;rwa[←List.map_take] at this
  have :=nN _ _ _ _ wr hs
  rw[q1,q2] at this
  exact this
 have HG2:Hid (∀wr,Gr w wr→Calls Tryz.prog 209 #[.slice (some ⟨bb,oo+4,none⟩) 2 (c - 4)] wr fun e w'=>e= .returned (.tuple #[.int .u64 (p:Int),.int .i64 0])∧wr=w'):=fun wr g=>by
  have hs:Bs wr (some ⟨bb,oo+4,none⟩) 2 (c - 4) ((((be 0 4++be p 2)++b).drop 4).take 2):=by have :=Sl.Ti (hx.mono g).b (lo:=4) (m:=2) Xf;exact this
  have :=nN _ _ _ _ wr hs
  rw[q3,q4] at this
  exact this
 obtain⟨W,hW⟩:∃W,W=w.alloc (.cells #[.int .i64 4,.int .u64 (life:Int),.int .i64 (k:Int),.int .u64 (gen:Int),.slice (some ⟨bb,oo,none⟩) n c] 143):=⟨_,rfl⟩
 have G0:Hid (Gr w W):=by rw[hW];exact Gr.alloc _ _
 have B0:Hid (Blk W w.heap.size 143 [.int .i64 4,.int .u64 (life:Int),.int .i64 (k:Int),.int .u64 (gen:Int),.slice (some ⟨bb,oo,none⟩) n c]):=by rw[hW];exact Blk.new w _ _
 have HW:=Xh hW;clear hW
 obtain⟨Av,cv,rfl,sv⟩:=hv.slice
 have hcv:=Sl.cap sv;have hmv:=Sl.max sv
 have HT:=Xh ht;have HV:=Xh hv
 have T0:=Xh (ht.mono G0.out)
 have t1:decide ((n:Int)<6)=false:=decide_eq_false Xf
 have t2:decide ((p:Int)<pg)=true:=decide_eq_true hp
 have wp:IntKind.i64.wrap (p:Int)=(p:Int):=IntWalk.i64_in _ Xf
 obtain⟨u,hu⟩:∃u,u=decide (0<(k:Int)):=⟨_,rfl⟩
 have hug:u=true→((gen:Int) !=(g0:Int))=false:=fun e=>by
  rw[e] at hu
  have :0<(k:Int):=of_decide_eq_true hu.symm
  rw[hg Xf];simp
 have HUG:=Xh hug;have HU:=Xh hu
 have HN:=Xh hn
 clear ht hx hv q1 q2 q3 q4 hA6 hrun6 sv hug hu hg hp hn
 go_in
 go_upto_region 1 with fail
 rw[←HW.out]
 have hu':decide (0<(k:Int))=u:=HU.out.symm
 have hu2:decide (0<k)=u:=by rw[HU.out];exact decide_eq_decide.2 Xf
 have STEP:Hid (∀w1,Gr W w1→Blk w1 w.heap.size 143 [.int .i64 4,.int .u64 (life:Int),.int .i64 (k:Int),.int .u64 (gen:Int),.slice (some ⟨bb,oo,none⟩) n c]∧Blk w1 pt 286 (fC (.slice none 0 0) (.slice Av k cv) g0 0 pg)):=fun w1 g=>⟨B0.out.mono g,T0.out.mono g⟩
 have D1:∃w1,Gr W w1∧True:=⟨W,Gr.refl _,trivial⟩
 cases u
 ·
  refine wrG Xe [0,1,3,7,15,31,63,127,255,511,1023,2047,4095,8191,16383,8191,40959,106495,237567,499711,1048575,2097151,4194303] [.p 0,.q 1,.p 2,.p 3,.p 4,.p 5,.p 6,.p 7,.p 8,.q 9,.p 10,.p 11,.p 12,.p 13,.p 15,.p 16,.p 17,.p 18,.q 14,.q 19,.p 20,.p 21,.p 22] Xe (trivial) ?_
  refine gP ?_
  refine wQe rfl rfl ?_
  apply Exists.intro
  refine⟨fun wq hq=> ?_,?_⟩
  · obtain⟨z1,z2⟩:=STEP.out wq (Xk hq);have k4:=z1.cell 4;have k3:=z1.cell 3;have y1:=z2.cell 1;have y2:=z2.cell 2
    unfold pLa
    go_simp
    first|exact rfl|exact⟨rfl,rfl⟩
  go_simp
  refine gP ?_
  refine gP ?_
  refine gP ?_
  refine gP ?_
  refine gP ?_
  refine gP ?_
  refine gP ?_
  refine wQe rfl rfl ?_
  apply Exists.intro
  refine⟨fun wq hq=> ?_,?_⟩
  · obtain⟨z1,z2⟩:=STEP.out wq (Xk hq);have k4:=z1.cell 4;have k3:=z1.cell 3;have y1:=z2.cell 1;have y2:=z2.cell 2
    unfold pLa
    go_simp
    first|exact rfl|exact⟨rfl,rfl⟩
  go_simp
  refine gP ?_
  refine gP ?_
  refine gP ?_
  refine gS ?_
  refine gS ?_
  refine gS ?_
  refine gS ?_
  refine gS ?_
  refine gS ?_
  refine gS ?_
  refine gS ?_
  refine gP ?_
  refine gP ?_
  refine wNi fun w1 g1=> ?_
  replace g1:Gr W w1:=(Gr.drew _).trans g1
  obtain⟨z1,z2⟩:=STEP.out w1 g1
  have G1:=Xh (G0.out.trans g1);have Z1:=Xh z1;have Z2:=Xh z2
  have k4:=z1.cell 4
  have k3:=z1.cell 3
  have y3:=z2.cell 3
  have y2:=z2.cell 2
  have fy:=Blk.free z2 2
  clear g1 z1 z2
  go_wp2_with fail
  refine (HG4.out _ G1.out).mono ?_
  rintro e wd ⟨rfl,hwd⟩
  subst hwd
  go_wp2_with fail
  refine (HG2.out _ G1.out).mono ?_
  rintro e wd ⟨rfl,hwd⟩
  subst hwd
  obtain⟨w2,hw2⟩:∃w2,w2=w1.setCell ⟨pt,2,none⟩ (.int .u64 (gen:Int)):=⟨_,rfl⟩
  have T2:Hid (Tch (fun x=>x=pt) w1 w2):=by show Tch _ _ _;rw[hw2];exact Tch.set ⟨pt,2,none⟩ _ rfl
  have R2:Hid (Blk w2 pt 286 (fC (.slice none 0 0) (.slice Av k cv) gen 0 pg)):=by show Blk _ _ _ _;rw[hw2];exact Z2.out.set 2 _
  have P2:Hid (Blk w2 w.heap.size 143 [.int .i64 4,.int .u64 (life:Int),.int .i64 (k:Int),.int .u64 (gen:Int),.slice (some ⟨bb,oo,none⟩) n c]):=Z1.out.tch T2.out (fun e=>by have :=HT.out.lt;omega)
  have k0:=P2.out.cell 0
  have y4:=R2.out.cell 4
  rw[hw2] at k0 y4
  have HW2:=Xh hw2
  clear hw2
  go_upto_region 9 with fail
  rw[←HW2.out]
  clear k4 k3 y3 y2 fy k0 y4
  have O2:Hid (Own w0 w2 234 2 (.slice Av k cv) k (R.flatMap aU.cells)):=(HV.out.mono G1.out).tch T2.out (fun b e=>e▸hge) (fun b q e=>by
   obtain⟨cs,z⟩:=(HV.out.mono G1.out).aA q
   rw[e] at z
   exact absurd (bTy z Z2.out) Xg)
  refine wrG Xe [0,0,2,6,14,30,0,64,0,256,768,1984,4032,8190,16383,32767,65535,131071] [.p 0,.p 1,.p 2,.p 3,.p 4,.p 6,.p 8,.q 5,.q 9,.p 10,.p 7,.p 11,.c 12,.s 13,.p 14,.p 15,.p 16,.s 17] Xe (trivial) ?_
  refine gP ?_
  refine gP ?_
  refine gP ?_
  refine gP ?_
  refine gP ?_
  refine gP ?_
  refine gP ?_
  refine gQ (fun _ hq=>(R2.out.mono (Xk hq)).cell 1) ?_
  refine gQ (fun _ hq=>(P2.out.mono (Xk hq)).cell 4) ?_
  refine gP ?_
  refine gP ?_
  refine gP ?_
  refine jh rfl rfl ?_
  intro w3 g3 K hK
  refine kZ 116 234 (.tmp 84) rfl (iK p A6 b.length (c - 6)) rfl Tryz.underlying116 pageSize Xe (show 0<2 by decide) (show 2≤2 ^ 24 by decide) ?_
  refine hK _ _ (Gr.alloc _ _) ?_
  clear hK
  go_simp
  refine dV rfl rfl ?_
  intro w5 g5 K hK
  have G5:Hid (Gr w2 w5):=(((Gr.drew _).trans g3).trans (Gr.alloc _ _)).trans g5
  have N5:Hid (Blk w5 w3.heap.size 234 [.int .i64 (p:Int),.slice A6 b.length (c - 6)]):=(Blk.new w3 _ (iK p A6 b.length (c - 6))).mono g5
  have O5:Hid (Own w0 w5 234 2 (.slice Av k cv) k (R.flatMap aU.cells)):=O2.out.mono G5.out
  refine fO (.tmp 78) (.tmp 85) 116 rfl MJ rfl O5.out w3.heap.size 1 [.int .i64 (p:Int),.slice A6 b.length (c - 6)] rfl rfl (by intro u hu;rcases List.mem_cons.1 hu with rfl|hu;rfl;rw[List.mem_singleton.1 hu];rfl) (fun j u hu=>(N5.out.cell j).trans hu) (show (k+1)*32≤140737488355328 by omega) ?_
  intro v6 w6 o6 kp6
  refine hK _ _ ?_
  clear hK
  go_simp
  refine gP ?_
  refine gP ?_
  refine gP ?_
  refine dV rfl rfl ?_
  intro w7 g7 K hK
  have T6:Hid (Tch (fun x=>Value.ownBlock (.slice Av k cv)=some x) w5 w6):=kp6.tch (gJ O5.out.below o6.below kp6.2.1)
  have R5:Blk w5 pt 286 (fC (.slice none 0 0) (.slice Av k cv) gen 0 pg):=R2.out.mono G5.out
  have R7:Hid (Blk w7 pt 286 (fC (.slice none 0 0) (.slice Av k cv) gen 0 pg)):=(R5.tch T6.out (bZ O5.out R5 Xg)).mono g7
  have O7:=Xh (o6.mono g7)
  obtain⟨A6',c6',rfl,_⟩:=o6.slice
  have f1:=Blk.free R7.out 1
  have y1:=R7.out.cell 1
  have G7:=Xh g7
  clear o6 kp6 g7 R5
  go_simp
  refine hK _ _ ?_
  clear hK f1 y1
  go_simp
  refine wNi fun w8 g8=> ?_
  obtain⟨w9,hw9⟩:∃w9,w9=w7.setCell ⟨pt,1,none⟩ (.slice A6' (k+1) c6'):=⟨_,rfl⟩
  have T9:Tch (fun x=>x=pt) w7 w9:=by rw[hw9];exact Tch.set ⟨pt,1,none⟩ _ rfl
  have R9:Blk w9 pt 286 (fC (.slice none 0 0) (.slice A6' (k+1) c6') gen 0 pg):=by rw[hw9];exact R7.out.set 1 _
  have O9:Own w0 w9 234 2 (.slice A6' (k+1) c6') (k+1) (R.flatMap aU.cells++ [.int .i64 (p:Int),.slice A6 b.length (c - 6)]):=O7.out.tch T9 (fun b e=>e▸hge) (fun b q e=>by
   obtain⟨cs,z⟩:=O7.out.aA q
   rw[e] at z
   exact absurd (bTy z R7.out) Xg)
  rw[←hw9] at g8
  clear hw9
  have TT:Tch (fun x=>x=pt∨Value.ownBlock (.slice Av k cv)=some x) w w8:=by
   have a1:Tch (fun x=>x=pt∨Value.ownBlock (.slice Av k cv)=some x) w w2:=(Tch.gr G1.out).trans (T2.out.mono (fun b _ e=> .inl e))
   have a2:Tch (fun x=>x=pt∨Value.ownBlock (.slice Av k cv)=some x) w2 w7:=((Tch.gr G5.out).trans (T6.out.mono (fun b _ e=> .inr e))).trans (Tch.gr G7.out)
   exact ((a1.trans a2).trans (T9.mono (fun b _ e=> .inl e))).trans (Tch.gr g8)
  have R8:=Xh (R9.mono g8);have O8:=Xh (O9.mono g8);have HTT:=Xh TT
  clear TT R9 O9 T9 g8
  go_wp2_with fail
  go_ret
  refine⟨rfl,_,A6,c - 6,R8.out,?_,?_,HTT.out⟩
  · rw[List.flatMap_append]
    exact O8.out
  · exact Q6.out.gK HTT.out (fun x e=>by
     rcases e with e|e
     · rw[e];exact⟨_,_,HT.out,by unfold tyB;decide⟩
     · obtain⟨cs,z⟩:=HV.out.aA e
       exact⟨_,cs,z,by unfold tyB;decide⟩)
 · have hgg:=HUG.out rfl
   refine wrG Xe [0,1,3,7,15,31,63,127,255,511,1023,2047,4095,8191,16383,8191,40959,106495,237567,499711,1048575,2097151,4194303] [.p 0,.q 1,.p 2,.p 3,.p 4,.p 5,.p 6,.p 7,.p 8,.q 9,.p 10,.p 11,.p 12,.p 13,.p 15,.p 16,.p 17,.p 18,.q 14,.q 19,.p 20,.p 21,.p 22] Xe (trivial) ?_
   refine gP ?_
   iterate 2
    refine wQe rfl rfl ?_
    apply Exists.intro
    refine⟨fun wq hq=> ?_,?_⟩
    · obtain⟨z1,z2⟩:=STEP.out wq (Xk hq);have k4:=z1.cell 4;have k3:=z1.cell 3;have y1:=z2.cell 1;have y2:=z2.cell 2
      unfold pLa
      go_simp
      first|exact rfl|exact⟨rfl,rfl⟩
    go_simp
    refine gP ?_
    refine gP ?_
    refine gP ?_
    refine gP ?_
    refine gP ?_
    refine gP ?_
    refine gP ?_
   refine gP ?_
   iterate 2
    refine wQe rfl rfl ?_
    apply Exists.intro
    refine⟨fun wq hq=> ?_,?_⟩
    · obtain⟨z1,z2⟩:=STEP.out wq (Xk hq);have k4:=z1.cell 4;have k3:=z1.cell 3;have y1:=z2.cell 1;have y2:=z2.cell 2
      unfold pLa
      go_simp
      first|exact rfl|exact⟨rfl,rfl⟩
    go_simp
   refine gP ?_
   refine gP ?_
   refine gP ?_
   refine wNi fun w1 g1=> ?_
   replace g1:Gr W w1:=(Gr.drew _).trans g1
   obtain⟨z1,z2⟩:=STEP.out w1 g1
   have G1:=Xh (G0.out.trans g1);have Z1:=Xh z1;have Z2:=Xh z2
   have k4:=z1.cell 4
   have k3:=z1.cell 3
   have y3:=z2.cell 3
   have y2:=z2.cell 2
   have fy:=Blk.free z2 2
   clear g1 z1 z2
   go_wp2_with fail
   refine (HG4.out _ G1.out).mono ?_
   rintro e wd ⟨rfl,hwd⟩
   subst hwd
   go_wp2_with fail
   refine (HG2.out _ G1.out).mono ?_
   rintro e wd ⟨rfl,hwd⟩
   subst hwd
   obtain⟨w2,hw2⟩:∃w2,w2=w1.setCell ⟨pt,2,none⟩ (.int .u64 (gen:Int)):=⟨_,rfl⟩
   have T2:Hid (Tch (fun x=>x=pt) w1 w2):=by show Tch _ _ _;rw[hw2];exact Tch.set ⟨pt,2,none⟩ _ rfl
   have R2:Hid (Blk w2 pt 286 (fC (.slice none 0 0) (.slice Av k cv) gen 0 pg)):=by show Blk _ _ _ _;rw[hw2];exact Z2.out.set 2 _
   have P2:Hid (Blk w2 w.heap.size 143 [.int .i64 4,.int .u64 (life:Int),.int .i64 (k:Int),.int .u64 (gen:Int),.slice (some ⟨bb,oo,none⟩) n c]):=Z1.out.tch T2.out (fun e=>by have :=HT.out.lt;omega)
   have k0:=P2.out.cell 0
   have y4:=R2.out.cell 4
   rw[hw2] at k0 y4
   have HW2:=Xh hw2
   clear hw2
   go_upto_region 9 with fail
   rw[←HW2.out]
   clear k4 k3 y3 y2 fy k0 y4
   have O2:Hid (Own w0 w2 234 2 (.slice Av k cv) k (R.flatMap aU.cells)):=(HV.out.mono G1.out).tch T2.out (fun b e=>e▸hge) (fun b q e=>by
    obtain⟨cs,z⟩:=(HV.out.mono G1.out).aA q
    rw[e] at z
    exact absurd (bTy z Z2.out) Xg)
   refine wrG Xe [0,0,2,6,14,30,0,64,0,256,768,1984,4032,8190,16383,32767,65535,131071] [.p 0,.p 1,.p 2,.p 3,.p 4,.p 6,.p 8,.q 5,.q 9,.p 10,.p 7,.p 11,.c 12,.s 13,.p 14,.p 15,.p 16,.s 17] Xe (trivial) ?_
   refine gP ?_
   refine gP ?_
   refine gP ?_
   refine gP ?_
   refine gP ?_
   refine gP ?_
   refine gP ?_
   refine gQ (fun _ hq=>(R2.out.mono (Xk hq)).cell 1) ?_
   refine gQ (fun _ hq=>(P2.out.mono (Xk hq)).cell 4) ?_
   refine gP ?_
   refine gP ?_
   refine gP ?_
   refine jh rfl rfl ?_
   intro w3 g3 K hK
   refine kZ 116 234 (.tmp 84) rfl (iK p A6 b.length (c - 6)) rfl Tryz.underlying116 pageSize Xe (show 0<2 by decide) (show 2≤2 ^ 24 by decide) ?_
   refine hK _ _ (Gr.alloc _ _) ?_
   clear hK
   go_simp
   refine dV rfl rfl ?_
   intro w5 g5 K hK
   have G5:Hid (Gr w2 w5):=(((Gr.drew _).trans g3).trans (Gr.alloc _ _)).trans g5
   have N5:Hid (Blk w5 w3.heap.size 234 [.int .i64 (p:Int),.slice A6 b.length (c - 6)]):=(Blk.new w3 _ (iK p A6 b.length (c - 6))).mono g5
   have O5:Hid (Own w0 w5 234 2 (.slice Av k cv) k (R.flatMap aU.cells)):=O2.out.mono G5.out
   refine fO (.tmp 78) (.tmp 85) 116 rfl MJ rfl O5.out w3.heap.size 1 [.int .i64 (p:Int),.slice A6 b.length (c - 6)] rfl rfl (by intro u hu;rcases List.mem_cons.1 hu with rfl|hu;rfl;rw[List.mem_singleton.1 hu];rfl) (fun j u hu=>(N5.out.cell j).trans hu) (show (k+1)*32≤140737488355328 by omega) ?_
   intro v6 w6 o6 kp6
   refine hK _ _ ?_
   clear hK
   go_simp
   refine gP ?_
   refine gP ?_
   refine gP ?_
   refine dV rfl rfl ?_
   intro w7 g7 K hK
   have T6:Hid (Tch (fun x=>Value.ownBlock (.slice Av k cv)=some x) w5 w6):=kp6.tch (gJ O5.out.below o6.below kp6.2.1)
   have R5:Blk w5 pt 286 (fC (.slice none 0 0) (.slice Av k cv) gen 0 pg):=R2.out.mono G5.out
   have R7:Hid (Blk w7 pt 286 (fC (.slice none 0 0) (.slice Av k cv) gen 0 pg)):=(R5.tch T6.out (bZ O5.out R5 Xg)).mono g7
   have O7:=Xh (o6.mono g7)
   obtain⟨A6',c6',rfl,_⟩:=o6.slice
   have f1:=Blk.free R7.out 1
   have y1:=R7.out.cell 1
   have G7:=Xh g7
   clear o6 kp6 g7 R5
   go_simp
   refine hK _ _ ?_
   clear hK f1 y1
   go_simp
   refine wNi fun w8 g8=> ?_
   obtain⟨w9,hw9⟩:∃w9,w9=w7.setCell ⟨pt,1,none⟩ (.slice A6' (k+1) c6'):=⟨_,rfl⟩
   have T9:Tch (fun x=>x=pt) w7 w9:=by rw[hw9];exact Tch.set ⟨pt,1,none⟩ _ rfl
   have R9:Blk w9 pt 286 (fC (.slice none 0 0) (.slice A6' (k+1) c6') gen 0 pg):=by rw[hw9];exact R7.out.set 1 _
   have O9:Own w0 w9 234 2 (.slice A6' (k+1) c6') (k+1) (R.flatMap aU.cells++ [.int .i64 (p:Int),.slice A6 b.length (c - 6)]):=O7.out.tch T9 (fun b e=>e▸hge) (fun b q e=>by
    obtain⟨cs,z⟩:=O7.out.aA q
    rw[e] at z
    exact absurd (bTy z R7.out) Xg)
   rw[←hw9] at g8
   clear hw9
   have TT:Tch (fun x=>x=pt∨Value.ownBlock (.slice Av k cv)=some x) w w8:=by
    have a1:Tch (fun x=>x=pt∨Value.ownBlock (.slice Av k cv)=some x) w w2:=(Tch.gr G1.out).trans (T2.out.mono (fun b _ e=> .inl e))
    have a2:Tch (fun x=>x=pt∨Value.ownBlock (.slice Av k cv)=some x) w2 w7:=((Tch.gr G5.out).trans (T6.out.mono (fun b _ e=> .inr e))).trans (Tch.gr G7.out)
    exact ((a1.trans a2).trans (T9.mono (fun b _ e=> .inl e))).trans (Tch.gr g8)
   have R8:=Xh (R9.mono g8);have O8:=Xh (O9.mono g8);have HTT:=Xh TT
   clear TT R9 O9 T9 g8
   go_wp2_with fail
   go_ret
   refine⟨rfl,_,A6,c - 6,R8.out,?_,?_,HTT.out⟩
   · rw[List.flatMap_append]
     exact O8.out
   · exact Q6.out.gK HTT.out (fun x e=>by
      rcases e with e|e
      · rw[e];exact⟨_,_,HT.out,by unfold tyB;decide⟩
      · obtain⟨cs,z⟩:=HV.out.aA e
        exact⟨_,cs,z,by unfold tyB;decide⟩)
end
end
end Go.Proofs.YtipdlnejmcmbbaaGreatDoor
