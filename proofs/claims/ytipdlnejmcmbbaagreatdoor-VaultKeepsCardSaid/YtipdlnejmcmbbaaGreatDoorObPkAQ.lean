/- Own texts, one behind the other. No condition. -/
import Derived.Test.YtipdlnejmcmbbaaGreatDoorObPkAP
set_option linter.unusedVariables false
set_option maxRecDepth 100000
set_option maxHeartbeats 8000000
set_option linter.unusedSimpArgs false
namespace Go.Proofs.YtipdlnejmcmbbaaGreatDoor
section
open Go.RowKit
def dA (S:List (List UInt8)) (place:Nat) (b:List UInt8):Sec×Nat:=match AV S place b with
 | .inl k=>(dW,k)
 | .inr x=>(x,0)
theorem CY {b:List UInt8} {x:Sec} (hb:b.length=512) (h:kH b=some x):x.life<18446744073709551616∧x.gen<18446744073709551616∧x.body.length≤479:=by
 unfold kH at h
 split at h
 · cases h
 · next hn=>
   injection h with h
   subst h
   refine⟨?_,?_,?_⟩
   · have :=kU ((b.drop 3).take 8);rw[List.length_take,List.length_drop,hb] at this;simpa using this
   · have :=kU ((b.drop 15).take 8);rw[List.length_take,List.length_drop,hb] at this;simpa using this
   · show (List.take _ _).length≤479
     rw[List.length_take];omega
section
variable {w0 w w':World} {L:Pl} {m:Mc} {n:Nat}
theorem MSt.decode (h:MSt w0 L m w) (ho:m.Ok n) (hn:n≤90000) (place:Nat) (A:Option Addr) (c:Nat) (b:List UInt8) (hb:Bs w A 512 c b):
 Calls Tryz.prog 237 #[.pointer (some ⟨L.p,0,none⟩),.int .i64 (place:Int),.slice A 512 c] w fun e w'=>∃A' c',e= .returned (.tuple #[eH (dA m.S place b).1 A' c',.int .i64 ((dA m.S place b).2:Int)])∧Own w w' 5 1 (.slice A' (dA m.S place b).1.body.length c') (dA m.S place b).1.body.length ((dA m.S place b).1.body.map u8c):=by
 have hl:b.length=512:=hb.len
 obtain⟨bb,oo,rfl,_⟩:=Sl.addr hb Xg
 have hcap:=Sl.cap hb
 have G0:Hid (Gr w (w.alloc (.cells #[.int .i64 0,.int .u64 0,.int .i64 0,.int .u64 0,.slice none 0 0] 143))):=Gr.alloc _ _
 have K0:Hid (Blk (w.alloc (.cells #[.int .i64 0,.int .u64 0,.int .i64 0,.int .u64 0,.slice none 0 0] 143)) w.heap.size 143 [.int .i64 0,.int .u64 0,.int .i64 0,.int .u64 0,.slice none 0 0]):=Blk.new w 143 _
 have HIB:=Xh (xw _ _ _ b _ (hb.mono G0.out))
 have HRD:=Xh (fun wr (g:Gr w wr)=>QT _ c b wr (hb.mono g))
 have HH:=Xh h;have HO:=Xh ho;have HB:=Xh hb
 obtain⟨R,hR⟩:∃R,R=dA m.S place b:=⟨_,rfl⟩
 rw[←hR]
 have HRR:=Xh hR
 clear h ho hR hb
 go_in
 go_wp2_with fail
 refine (xM L.p _).mono ?_
 rintro e w1 ⟨rfl,h1⟩
 subst h1
 go_wp2_with fail
 refine HIB.out.mono ?_
 rintro e w1 ⟨rfl,g1⟩
 have K1:=Xh (K0.out.mono g1)
 have G1:=Xh (G0.out.trans g1)
 clear g1
 by_cases hbl:b=aK
 · have t1:(b==aK)=true:=beq_iff_eq.2 hbl
   have hr:R=(dW,7):=by rw[HRR.out];unfold dA AV;rw[if_pos hbl]
   subst hr
   rw[t1]
   clear t1 hbl
   go_wp2_with (refine wpList_store_row rfl 143 (.tmp 6) (.tmp 22) rfl w.heap.size (dJ dW none 0) rfl rfl 143 (dJ dW none 0) K1.out jT rfl (kP _ _ _) ?_)
   have HN:=setRow_heap w1 w.heap.size _ (dJ dW none 0) _ _ K1.out
   exact bodyPost_ret (gH Tryz.results237 _ _ w.heap.size _ _ rfl HN rfl) rfl ⟨none,0,rfl,Own.nil' (bRb G1.out (Nat.le_refl _) _) _ _⟩
 have t1:(b==aK)=false:=beq_eq_false_iff_ne.2 hbl
 rw[t1]
 have HBL:=Xh hbl
 clear t1 hbl
 go_wp2_with fail
 refine (HRD.out w1 G1.out).mono ?_
 rintro e w2 ⟨x,A2,c2,rfl,hx,o2⟩
 have G2:=Xh (G1.out.trans o2.below)
 have K2:=Xh (K1.out.mono o2.below)
 have O2:=Xh (o2.base G1.out)
 have HX:=Xh hx
 clear o2 hx
 unfold eH
 go_upto_region 8 with fail
 obtain⟨w3,hw3⟩:∃w3,w3=w2.alloc (.cells #[.int .i64 (x.kind:Int),.int .u64 (x.life:Int),.int .i64 (x.seq:Int),.int .u64 (x.gen:Int),.slice A2 x.body.length c2] 143):=⟨_,rfl⟩
 have K3:Hid (Blk w3 w2.heap.size 143 [.int .i64 (x.kind:Int),.int .u64 (x.life:Int),.int .i64 (x.seq:Int),.int .u64 (x.gen:Int),.slice A2 x.body.length c2]):=by rw[hw3];exact Blk.new w2 143 _
 have G23:Hid (Gr w2 w3):=by rw[hw3];exact Gr.alloc _ _
 have G3:Hid (Gr w w3):=G2.out.trans G23.out
 have K13:Hid (Blk w3 w.heap.size 143 [.int .i64 0,.int .u64 0,.int .i64 0,.int .u64 0,.slice none 0 0]):=K2.out.mono G23.out
 have O3:=Xh (O2.out.mono G23.out)
 rw[←hw3]
 clear hw3
 obtain⟨A8,hA8,hrun8⟩:=og bC (some ⟨bb,oo,none⟩) 512 c 504 Xf hcap
 have hrun5:∀W:World,(Instr.slice 43 (.slice (some ⟨bb,oo,none⟩) 512 c) none (some (.int .i64 504)) none).run Tryz.prog W= .ok (.slice (some ⟨bb,oo,none⟩) 504 c) W:=fun W=>oM bC (some ⟨bb,oo,none⟩) 512 c 504 Xf W
 have hrun6:∀W:World,(Instr.slice 43 (.slice (some ⟨bb,oo,none⟩) 512 c) (some (.int .i64 504)) none none).run Tryz.prog W= .ok (.slice A8 8 (c - 504)) W:=fun W=>hrun8 W
 have HT5:Hid (∀wr,Gr w wr→Bs wr (some ⟨bb,oo,none⟩) 504 c (b.take 504)):=fun wr g=>by
  have :=(HB.out.mono g).upto (k:=504) Xf
  rwa[←List.map_take] at this
 have HT8:Hid (∀wr,Gr w wr→Bs wr A8 8 (c - 504) (b.drop 504)):=fun wr g=>by
  have :=Sl.from (HB.out.mono g) (k:=504) Xf (A':=A8) (fun hlt b o e=>by have :=hA8 hlt b o e;rwa[Nat.mul_one] at this)
  rwa[←List.map_drop] at this
 have HCK:Hid (∀wr,Gr w wr→Calls Tryz.prog 299 #[.pointer (some ⟨L.p,0,none⟩),.slice (some ⟨bb,oo,none⟩) 504 c,.slice A8 8 (c - 504)] wr fun e w'=>e= .returned (.bool (mO m.S (b.take 504) (b.drop 504)))∧Gr wr w'):=fun wr g=>(HH.out.mono g).check HO.out hn _ _ _ _ _ _ _ _ (HT5.out wr g) (HT8.out wr g)
 clear hA8 hrun8
 obtain⟨q,hq⟩:∃q,q=(kH b).isSome:=⟨_,rfl⟩
 rw[←hq]
 have HR:=Xh (fun wr=>vE place x A2 c2 wr)
 unfold eH at HR
 cases q
 · have HRW:Hid (R=(dW,11)):=by
    show _=_
    rw[HRR.out]
    unfold dA AV
    rw[if_neg HBL.out]
    have :kH b=none:=by cases hh:kH b with
     |none=>rfl
     |some _=>rw[hh] at hq;cases hq
    rw[this]
   clear hq
   have GX:Hid (Gr w3 w3.drew):=Gr.drew _
   refine wrG Xe [0,1,3,7,7,31,63,127,255,511,511,2047,511,4607,16383,32767,65535,131071,262143,262143,786431,262143,2359295,8388607,16777215,33554431] [.p 0,.p 1,.p 2,.p 3,.q 4,.c 5,.p 6,.p 7,.p 8,.p 9,.p 12,.p 13,.q 10,.c 11,.c 14,.p 15,.p 16,.p 17,.p 18,.p 19,.p 20,.p 21,.p 22,.c 23,.p 24,.p 25] Xe (trivial) ?_
   refine gP ?_
   refine gP ?_
   refine gP ?_
   refine gS ?_
   refine gS ?_
   refine gS ?_
   refine gS ?_
   refine gP ?_
   refine gP ?_
   refine gS ?_
   refine gS ?_
   refine gS ?_
   refine gS ?_
   refine gS ?_
   refine gS ?_
   refine gS ?_
   refine gP ?_
   refine gP ?_
   refine gS ?_
   refine gS ?_
   refine gS ?_
   refine gS ?_
   refine gS ?_
   refine gS ?_
   refine gS ?_
   refine gP ?_
   refine wNi fun w12 g12=> ?_
   have K12:=Xh (K13.out.mono ((GX).out.trans g12))
   have G12:=Xh (G3.out.trans ((GX).out.trans g12))
   have hr:R=(dW,11):=HRW.out
   subst hr
   clear g12
   go_wp2_with (refine wpList_store_row rfl 143 (.tmp 6) (.tmp 54) rfl w.heap.size (dJ dW none 0) rfl rfl 143 (dJ dW none 0) K12.out jT rfl (kP _ _ _) ?_)
   have HN:=setRow_heap w12 w.heap.size _ (dJ dW none 0) _ _ K12.out
   exact bodyPost_ret (gH Tryz.results237 _ _ w.heap.size _ _ rfl HN rfl) rfl ⟨none,0,rfl,Own.nil' (bRb G12.out (Nat.le_refl _) _) _ _⟩
 have hsx:kH b=some x:=by
  cases hh:kH b with
  |none=>rw[hh] at hq;cases hq
  |some y=>have :=HX.out;rw[hh] at this;rw[this];rfl
 clear hq
 obtain⟨hx1,hx2,hx3⟩:=CY hl hsx
 have HSX:=Xh hsx
 clear hsx
 by_cases hr:x.right place=true
 · rw[Sec.xW.2 hr] at HR
   have HRT:=Xh hr
   unfold Sec.right at hr
   simp only[Bool.and_eq_true,decide_eq_true_eq] at hr
   obtain⟨⟨⟨⟨r1,r2⟩,r3⟩,r4⟩,r5⟩:=hr
   have HWR:Hid (∀wr,Gr w3 wr→Calls Tryz.prog 166 #[.int .i64 (place:Int),eH x A2 c2] wr fun e w'=>∃A' c',e= .returned (.slice A' 504 c')∧Own wr w' 5 1 (.slice A' 504 c') 504 ((ji place x).map u8c)):=fun wr g=>by
    obtain⟨_,_,hv,s⟩:=(O3.out.mono g).slice
    injection hv with e1 _ e2
    subst e1 e2
    exact xO place x _ _ wr s r5 r3 r2 r4 hx1 hx2
   unfold eH at HWR
   clear r1 r2 r3 r4 r5 hx1 hx2 hx3
   obtain⟨v,hv⟩:∃v,v=(ji place x==b.take 504):=⟨_,rfl⟩
   obtain⟨u,hu⟩:∃u,u=mO m.S (b.take 504) (b.drop 504):=⟨_,rfl⟩
   rw[←hu] at HCK
   have HF:Hid (R=if v=true∧u=true then (x,0) else (dW,11)):=by
    show _=_
    rw[HRR.out,hv,hu]
    unfold dA AV
    rw[if_neg HBL.out,HSX.out]
    simp only[HRT.out,true_and,beq_iff_eq]
    by_cases hz:ji place x=List.take 504 b∧mO m.S (List.take 504 b) (List.drop 504 b)=true
    · rw[if_pos hz,if_pos hz]
    · rw[if_neg hz,if_neg hz]
   have HSA:Hid (∀(A7:Option Addr) (c7:Nat) (wr:World),Bs wr A7 504 c7 (ji place x)→Bs wr (some ⟨bb,oo,none⟩) 504 c (b.take 504)→Calls Tryz.prog 135 #[.slice A7 504 c7,.slice (some ⟨bb,oo,none⟩) 504 c] wr fun e w'=>e= .returned (.bool v)∧wr=w'):=fun A7 c7 wr s1 s2=>by rw[hv];exact jM _ _ _ _ _ _ _ _ wr s1 s2
   clear hv hu
   refine wrG Xe [0,1,3,7,7,31,63,127,255,511,511,2047,511,4607,16383,32767,65535,131071,262143,262143,786431,262143,2359295,8388607,16777215,33554431] [.p 0,.p 1,.p 2,.p 3,.q 4,.c 5,.p 6,.p 7,.p 8,.p 9,.p 12,.p 13,.q 10,.c 11,.c 14,.p 15,.p 16,.p 17,.p 18,.p 19,.p 20,.p 21,.p 22,.c 23,.p 24,.p 25] Xe (trivial) ?_
   refine gP ?_
   refine gP ?_
   refine gP ?_
   refine gP ?_
   refine gQ (fun _ hq=>And.intro ((K3.out.mono (Xk hq)).cell 0) (And.intro ((K3.out.mono (Xk hq)).cell 1) (And.intro ((K3.out.mono (Xk hq)).cell 2) (And.intro ((K3.out.mono (Xk hq)).cell 3) ((K3.out.mono (Xk hq)).cell 4))))) ?_
   refine gC ?_
   intro w4 g4 K hK
   refine (HR.out w4).mono ?_
   rintro e wn ⟨rfl,g5⟩
   refine hK _ _ g5 ?_;have G5:=Xh (((Gr.drew w3).trans g4).trans g5);clear g4 g5 hK
   go_simp
   refine gP ?_
   refine gP ?_
   refine gP ?_
   refine gP ?_
   refine gP ?_
   refine gP ?_
   refine gQ (fun _ hq=>And.intro ((K3.out.mono (G5.out.trans hq)).cell 0) (And.intro ((K3.out.mono (G5.out.trans hq)).cell 1) (And.intro ((K3.out.mono (G5.out.trans hq)).cell 2) (And.intro ((K3.out.mono (G5.out.trans hq)).cell 3) ((K3.out.mono (G5.out.trans hq)).cell 4))))) ?_
   refine gC ?_
   intro w6 g6 K hK
   refine (HWR.out w6 (G5.out.trans g6)).mono ?_
   rintro e wn ⟨A7,c7,rfl,o7⟩
   refine hK _ _ o7.below ?_;obtain⟨_,_,hv7,s7⟩:=o7.slice;injection hv7 with e1 _ e2;subst e1 e2;have S7:Hid (Bs wn A7 504 c7 (ji place x)):=s7;have G7:=Xh ((G5.out.trans g6).trans o7.below);clear g6 o7 s7 hK
   go_simp
   refine gC ?_
   intro w8 g8 K hK
   refine ((HSA.out A7 c7 w8 (S7.out.mono g8) (HT5.out w8 (G3.out.trans (G7.out.trans g8))))).mono ?_
   rintro e wn ⟨rfl,h9⟩
   subst h9;refine hK _ _ (Gr.refl _) ?_;have G9:=Xh (G7.out.trans g8);clear g8 hK
   go_simp
   refine gP ?_
   refine gP ?_
   refine gP ?_
   cases v
   · have HRW:Hid (R=(dW,11)):=by show _=_;rw[HF.out];rfl
     refine gS ?_
     refine gS ?_
     refine gS ?_
     refine gS ?_
     refine gS ?_
     refine gS ?_
     refine gS ?_
     refine gP ?_
     refine wNi fun w12 g12=> ?_
     have K12:=Xh (K13.out.mono ((G9).out.trans g12))
     have G12:=Xh (G3.out.trans ((G9).out.trans g12))
     have hr:R=(dW,11):=HRW.out
     subst hr
     clear g12
     go_wp2_with (refine wpList_store_row rfl 143 (.tmp 6) (.tmp 54) rfl w.heap.size (dJ dW none 0) rfl rfl 143 (dJ dW none 0) K12.out jT rfl (kP _ _ _) ?_)
     have HN:=setRow_heap w12 w.heap.size _ (dJ dW none 0) _ _ K12.out
     exact bodyPost_ret (gH Tryz.results237 _ _ w.heap.size _ _ rfl HN rfl) rfl ⟨none,0,rfl,Own.nil' (bRb G12.out (Nat.le_refl _) _) _ _⟩
   ·
    refine gP ?_
    refine gP ?_
    refine gP ?_
    refine gP ?_
    refine gP ?_
    refine gC ?_
    intro w10 g10 K hK
    refine (HCK.out w10 (G3.out.trans (G9.out.trans g10))).mono ?_
    rintro e wn ⟨rfl,g11⟩
    refine hK _ _ g11 ?_;have G11:=Xh ((G9.out.trans g10).trans g11);clear g10 g11 hK
    go_simp
    refine gP ?_
    refine gP ?_
    cases u
    · have HRW:Hid (R=(dW,11)):=by show _=_;rw[HF.out];rfl
      refine wNi fun w12 g12=> ?_
      have K12:=Xh (K13.out.mono ((G11).out.trans g12))
      have G12:=Xh (G3.out.trans ((G11).out.trans g12))
      have hr:R=(dW,11):=HRW.out
      subst hr
      clear g12
      go_wp2_with (refine wpList_store_row rfl 143 (.tmp 6) (.tmp 54) rfl w.heap.size (dJ dW none 0) rfl rfl 143 (dJ dW none 0) K12.out jT rfl (kP _ _ _) ?_)
      have HN:=setRow_heap w12 w.heap.size _ (dJ dW none 0) _ _ K12.out
      exact bodyPost_ret (gH Tryz.results237 _ _ w.heap.size _ _ rfl HN rfl) rfl ⟨none,0,rfl,Own.nil' (bRb G12.out (Nat.le_refl _) _) _ _⟩
    · have hr:R=(x,0):=by rw[HF.out];rfl
      subst hr
      refine wNi fun w12 g12=> ?_
      have K12:=Xh (K13.out.mono (G11.out.trans g12))
      have L12:=Xh (K3.out.mono (G11.out.trans g12))
      have O12:=Xh (O3.out.mono (G11.out.trans g12))
      clear g12
      have k0:=L12.out.cell 0
      have k1:=L12.out.cell 1
      have k2:=L12.out.cell 2
      have k3:=L12.out.cell 3
      have k4:=L12.out.cell 4
      go_wp2_with (refine wpList_store_row rfl 143 (.tmp 6) (.tmp 55) rfl w.heap.size (dJ x A2 c2) rfl rfl 143 (dJ dW none 0) K12.out jT rfl (kP _ _ _) ?_)
      have HN:=setRow_heap w12 w.heap.size _ (dJ x A2 c2) _ _ K12.out
      have T9:=Tch.row (S:=fun b=>b=w.heap.size) (w:=w12) (g:=w.heap.size) rfl (dJ x A2 c2)
      have O13:=O12.out.tch T9 (fun b e=>by rw[e];exact Nat.le_refl _) (fun b q e=>by
       obtain⟨cs,z⟩:=O12.out.aA q
       rw[e] at z
       exact absurd (bTy z K12.out) Xg)
      exact bodyPost_ret (gH Tryz.results237 _ _ w.heap.size _ _ rfl HN rfl) rfl ⟨A2,c2,rfl,O13⟩
 · have hw:x.why place≠0:=fun e=>hr (Sec.xW.1 e)
   obtain⟨q,hq⟩:∃q,q=x.why place:=⟨_,rfl⟩
   rw[←hq] at HR hw
   have t:(q !=0)=true:=by rw[bne_iff_ne];exact hw
   have HRW:Hid (R=(dW,11)):=by
    show _=_
    rw[HRR.out]
    unfold dA AV
    rw[if_neg HBL.out,HSX.out]
    have hr':x.right place=false:=by simpa using hr
    simp only[hr',Bool.false_eq_true,false_and,if_false]
   clear hq hw hr
   refine wrG Xe [0,1,3,7,7,31,63,127,255,511,511,2047,511,4607,16383,32767,65535,131071,262143,262143,786431,262143,2359295,8388607,16777215,33554431] [.p 0,.p 1,.p 2,.p 3,.q 4,.c 5,.p 6,.p 7,.p 8,.p 9,.p 12,.p 13,.q 10,.c 11,.c 14,.p 15,.p 16,.p 17,.p 18,.p 19,.p 20,.p 21,.p 22,.c 23,.p 24,.p 25] Xe (trivial) ?_
   refine gP ?_
   refine gP ?_
   refine gP ?_
   refine gP ?_
   refine gQ (fun _ hq=>And.intro ((K3.out.mono (Xk hq)).cell 0) (And.intro ((K3.out.mono (Xk hq)).cell 1) (And.intro ((K3.out.mono (Xk hq)).cell 2) (And.intro ((K3.out.mono (Xk hq)).cell 3) ((K3.out.mono (Xk hq)).cell 4))))) ?_
   refine gC ?_
   intro w4 g4 K hK
   refine (HR.out w4).mono ?_
   rintro e wn ⟨rfl,g5⟩
   refine hK _ _ g5 ?_;have G5:=Xh (((Gr.drew w3).trans g4).trans g5);clear g4 g5 hK
   go_simp
   refine gP ?_
   refine gP ?_
   refine gP ?_
   refine gS ?_
   refine gS ?_
   refine gS ?_
   refine gS ?_
   refine gS ?_
   refine gS ?_
   refine gS ?_
   refine gP ?_
   refine gP ?_
   refine gS ?_
   refine gS ?_
   refine gS ?_
   refine gS ?_
   refine gS ?_
   refine gS ?_
   refine gS ?_
   refine gP ?_
   refine wNi fun w12 g12=> ?_
   have K12:=Xh (K13.out.mono ((G5).out.trans g12))
   have G12:=Xh (G3.out.trans ((G5).out.trans g12))
   have hr:R=(dW,11):=HRW.out
   subst hr
   clear g12
   go_wp2_with (refine wpList_store_row rfl 143 (.tmp 6) (.tmp 54) rfl w.heap.size (dJ dW none 0) rfl rfl 143 (dJ dW none 0) K12.out jT rfl (kP _ _ _) ?_)
   have HN:=setRow_heap w12 w.heap.size _ (dJ dW none 0) _ _ K12.out
   exact bodyPost_ret (gH Tryz.results237 _ _ w.heap.size _ _ rfl HN rfl) rfl ⟨none,0,rfl,Own.nil' (bRb G12.out (Nat.le_refl _) _) _ _⟩
end
end
section
def lZ (a d:Int):Bool:=decide (2≤a∧a≤4∧1≤d∧d≤3)
def dL (a d:Int):Int:=if lZ a d then d+2 else 0
def bH (a d l:Int):Bool:=lZ a d && decide (d+2≤l) && decide (l≤64)
def ndN (a:Nat):Nat→Nat
 |0=>0
 |d+1=>ndN a d+a ^ d
def av (a d l:Int):Int:=if bH a d l then (ndN a.toNat d.toNat:Int) else 0
def ay (a d l:Int):Int:=if bH a d l then ((a.toNat ^ d.toNat:Nat):Int) else 0
theorem dz {a d l:Int} (h:bH a d l=true):∃x y:Nat,a=x∧d=y∧2≤x∧x≤4∧1≤y∧y≤3:=by
 unfold bH lZ at h
 simp at h
 exact⟨a.toNat,d.toNat,Xf,Xf,Xf,Xf,Xf,Xf⟩
theorem mD {x k:Nat} (h:x≤4) (hk:k≤3):x ^ k≤64:=Nat.le_trans (Nat.pow_le_pow_left h k) (Nat.le_trans (Nat.pow_le_pow_right Xg hk) Xg)
theorem vS {x:Nat} (h:x≤4):∀k,k≤3→ndN x k≤64*k
 |0,_=>Nat.le_refl _
 |k+1,hk=>by
  have :=vS h k Xf
  have :=mD h (show k≤3 by omega)
  unfold ndN;omega
end
section
open Go.RowKit
theorem iO (w:World) (a d l:Int):∃wl,Hid (wl=w.alloc (.cells #[.int .i64 a,.int .i64 d,.int .i64 l] 23))∧Hid (Below w.heap.size w wl)∧Hid (∀wq,Below wl.heap.size wl wq→wq.cell? ⟨w.heap.size,0,none⟩=some (.int .i64 a)∧wq.cell? ⟨w.heap.size,1,none⟩=some (.int .i64 d)∧wq.cell? ⟨w.heap.size,2,none⟩=some (.int .i64 l)):=
 have h:=Blk.new w 23 #[.int .i64 a,.int .i64 d,.int .i64 l]
 ⟨_,rfl,(Below.refl _ _).alloc (Nat.le_refl _) _,fun _ hq=>⟨(h.mono hq).cell 0,(h.mono hq).cell 1,(h.mono hq).cell 2⟩⟩
def lV (w:World) (n:Int) (e:Ending) (w':World):Prop:=e= .returned (.int .i64 n)∧Below w.heap.size w w'
def Ms (w:World) (b:Bool) (e:Ending) (w':World):Prop:=e= .returned (.bool b)∧Below w.heap.size w w'
theorem Ol (a d l:Int) (w:World):
 Calls Tryz.prog 159 #[.agg #[.int .i64 a,.int .i64 d,.int .i64 l]] w (lV w (dL a d)):=by
 have hb:Below w.heap.size w (w.alloc (.cells #[.int .i64 a,.int .i64 d,.int .i64 l] 23)):=(Below.refl _ _).alloc (Nat.le_refl _) _
 have HB:=Xh hb;clear hb
 by_cases h:2≤a∧a≤4∧1≤d∧d≤3
 · have HE:Hid (dL a d=d+2):=by show _=_;unfold dL lZ;simp[h]
   obtain⟨h1,h2,h3,h4⟩:=h
   have t1:decide (a<2)=false:=by simp;omega
   have t2:decide (4<a)=false:=by simp;omega
   have t3:decide (d<1)=false:=by simp;omega
   have t4:decide (3<d)=false:=by simp;omega
   go_in
   go_wp2
   go_ret
   exact⟨dx HE.out.symm,HB.out⟩
 · have HE:Hid (dL a d=0):=by show _=_;unfold dL lZ;simp[h]
   by_cases h1:a<2
   case' pos=>have t1:decide (a<2)=true:=by simpa using h1
   case' neg=>
    have t1:decide (a<2)=false:=by simpa using h1
    by_cases h2:4<a
    case' pos=>have t2:decide (4<a)=true:=by simpa using h2
    case' neg=>
     have t2:decide (4<a)=false:=by simpa using h2
     by_cases h3:d<1
     case' pos=>have t3:decide (d<1)=true:=by simpa using h3
     case' neg=>
      have t3:decide (d<1)=false:=by simpa using h3
      have t4:decide (3<d)=true:=by simp;omega
   all_goals
    clear h
    go_in
    go_wp2
    go_ret
    exact⟨dx HE.out.symm,HB.out⟩
theorem pF (a d l:Int) (w:World):
 Calls Tryz.prog 22 #[.agg #[.int .i64 a,.int .i64 d,.int .i64 l]] w (lV w (dL a d)):=by
 have hb:Below w.heap.size w (w.alloc (.cells #[.int .i64 a,.int .i64 d,.int .i64 l] 23)):=(Below.refl _ _).alloc (Nat.le_refl _) _
 have HB:=Xh hb;clear hb
 by_cases h:2≤a∧a≤4∧1≤d∧d≤3
 · have HE:Hid (dL a d=d+2):=by show _=_;unfold dL lZ;simp[h]
   obtain⟨h1,h2,h3,h4⟩:=h
   have t1:decide (a<2)=false:=by simp;omega
   have t2:decide (4<a)=false:=by simp;omega
   have t3:decide (d<1)=false:=by simp;omega
   have t4:decide (3<d)=false:=by simp;omega
   go_in
   go_wp2
   go_ret
   exact⟨dx HE.out.symm,HB.out⟩
 · have HE:Hid (dL a d=0):=by show _=_;unfold dL lZ;simp[h]
   by_cases h1:a<2
   case' pos=>have t1:decide (a<2)=true:=by simpa using h1
   case' neg=>
    have t1:decide (a<2)=false:=by simpa using h1
    by_cases h2:4<a
    case' pos=>have t2:decide (4<a)=true:=by simpa using h2
    case' neg=>
     have t2:decide (4<a)=false:=by simpa using h2
     by_cases h3:d<1
     case' pos=>have t3:decide (d<1)=true:=by simpa using h3
     case' neg=>
      have t3:decide (d<1)=false:=by simpa using h3
      have t4:decide (3<d)=true:=by simp;omega
   all_goals
    clear h
    go_in
    go_wp2
    go_ret
    exact⟨dx HE.out.symm,HB.out⟩
theorem zP (a d:Int):decide (0<dL a d)=lZ a d:=by
 unfold dL lZ
 by_cases h:2≤a∧a≤4∧1≤d∧d≤3
 · simp[h];omega
 · simp[h]
theorem Cc {a d:Int} (h:lZ a d=true):dL a d=d+2:=by unfold dL;rw[if_pos h]
theorem gRa (a d l:Int) (w:World):
 Calls Tryz.prog 84 #[.agg #[.int .i64 a,.int .i64 d,.int .i64 l]] w (Ms w (bH a d l)):=by
 have hb:Below w.heap.size w (w.alloc (.cells #[.int .i64 a,.int .i64 d,.int .i64 l] 23)):=(Below.refl _ _).alloc (Nat.le_refl _) _
 have hc:=(Blk.new w 23 #[.int .i64 a,.int .i64 d,.int .i64 l])
 have hlt:=hc.lt
 obtain⟨wl,hwl⟩:∃wl,wl=w.alloc (.cells #[.int .i64 a,.int .i64 d,.int .i64 l] 23):=⟨_,rfl⟩
 rw[←hwl] at hb hc hlt
 have HB:=Xh hb;have HC:=Xh hc;have HWL:=Xh hwl;clear hb hc hwl
 go_in
 go_wp2_with fail
 rw[←HWL.out]
 refine (Ol a d l _).mono ?_
 rintro e w1 ⟨rfl,b1⟩
 have HB1:=Xh (bBo HB.out b1)
 have c2:w1.cell? ⟨w.heap.size,2,none⟩=some (.int .i64 l):=by rw[b1.cell hlt,HC.out.cell];rfl
 clear b1 hlt
 have HP:=Xh (zP a d)
 cases h1:lZ a d
 · have t1:decide (0<dL a d)=false:=by rw[HP.out,h1]
   go_wp2
   go_ret
   exact⟨bV (by unfold bH;rw[h1];rfl),HB1.out⟩
 · have t1:decide (0<dL a d)=true:=by rw[HP.out,h1]
   have HE:=Xh (Cc h1)
   by_cases h2:d+2≤l
   · have t2:decide (dL a d≤l)=true:=by rw[HE.out];simpa using h2
     go_wp2
     go_ret
     exact⟨bV (by unfold bH;rw[h1,decide_eq_true h2];rfl),HB1.out⟩
   · have t2:decide (dL a d≤l)=false:=by rw[HE.out];simpa using h2
     go_wp2
     go_ret
     exact⟨bV (by unfold bH;rw[h1,decide_eq_false (show ¬(d+2≤l) by omega)];rfl),HB1.out⟩
theorem fM (a d l:Int) (w:World):
 Calls Tryz.prog 5 #[.agg #[.int .i64 a,.int .i64 d,.int .i64 l]] w (Ms w (bH a d l)):=by
 obtain⟨wl,HWL,HB,HCELL⟩:=iO w a d l
 have HP:=Xh (zP a d)
 cases h1:lZ a d
 · have t1:decide (0<dL a d)=false:=by rw[HP.out,h1]
   go_in
   go_wp2_with fail
   rw[←HWL.out]
   refine wp_region_quiet (C:=fun w'=>Below (wl).heap.size (wl) w') Xe Xe (Below.refl _ _).drew ?_
   simp only
   repeat (first
    |go_big_quiet_skip
    |(go_big_quiet_want
      apply Exists.intro
      refine⟨fun wq hq=> ?_,?_⟩
      · (have c0:=HCELL.out wq hq
         go_simp
         first
          |done
          |exact rfl
          |(with_reducible exact⟨rfl,rfl⟩)
          |(go_at_call 22;exact (pF a d l wq).mono fun e w2 ⟨he,hb⟩=>⟨he,bBo hq hb⟩))
      go_simp
      go_big_quiet_on))
   refine wpQuiet_nil ?_
   intro wq hq
   go_wp2
   go_ret
   exact⟨bV (by unfold bH;rw[h1];rfl),bBo HB.out hq⟩
 · have t1:decide (0<dL a d)=true:=by rw[HP.out,h1]
   have HE:=Xh (Cc h1)
   by_cases h2:d+2≤l
   · have t2:decide (dL a d≤l)=true:=by rw[HE.out];simpa using h2
     go_in
     go_wp2_with fail
     rw[←HWL.out]
     refine wp_region_quiet (C:=fun w'=>Below (wl).heap.size (wl) w') Xe Xe (Below.refl _ _).drew ?_
     simp only
     repeat (first
      |go_big_quiet_skip
      |(go_big_quiet_want
        apply Exists.intro
        refine⟨fun wq hq=> ?_,?_⟩
        · (have c0:=HCELL.out wq hq
           go_simp
           first
            |done
            |exact rfl
            |(with_reducible exact⟨rfl,rfl⟩)
            |(go_at_call 22;exact (pF a d l wq).mono fun e w2 ⟨he,hb⟩=>⟨he,bBo hq hb⟩))
        go_simp
        go_big_quiet_on))
     refine wpQuiet_nil ?_
     intro wq hq
     go_wp2
     go_ret
     exact⟨bV (by unfold bH;rw[h1,decide_eq_true h2];rfl),bBo HB.out hq⟩
   · have t2:decide (dL a d≤l)=false:=by rw[HE.out];simpa using h2
     go_in
     go_wp2_with fail
     rw[←HWL.out]
     refine wp_region_quiet (C:=fun w'=>Below (wl).heap.size (wl) w') Xe Xe (Below.refl _ _).drew ?_
     simp only
     repeat (first
      |go_big_quiet_skip
      |(go_big_quiet_want
        apply Exists.intro
        refine⟨fun wq hq=> ?_,?_⟩
        · (have c0:=HCELL.out wq hq
           go_simp
           first
            |done
            |exact rfl
            |(with_reducible exact⟨rfl,rfl⟩)
            |(go_at_call 22;exact (pF a d l wq).mono fun e w2 ⟨he,hb⟩=>⟨he,bBo hq hb⟩))
        go_simp
        go_big_quiet_on))
     refine wpQuiet_nil ?_
     intro wq hq
     go_wp2
     go_ret
     exact⟨bV (by unfold bH;rw[h1,decide_eq_false (show ¬(d+2≤l) by omega)];rfl),bBo HB.out hq⟩
theorem je {a d l:Int} {x y:Nat} (h:bH a d l=true) (hx:a=x) (hy:d=y):av a d l=ndN x y:=by subst hx hy;simp[av,h]
theorem gB {a d l:Int} {x y:Nat} (h:bH a d l=true) (hx:a=x) (hy:d=y):ay a d l=((x ^ y:Nat):Int):=by subst hx hy;simp[ay,h]
theorem mJ {a d l:Int} (h:bH a d l=false):av a d l=0:=by simp[av,h]
theorem lM {a d l:Int} (h:bH a d l=false):ay a d l=0:=by simp[ay,h]
theorem tu {x k:Nat} (h:x≤4) (hk:k≤3):x ^ k*x≤256:=Nat.le_trans (Nat.mul_le_mul (mD h hk) h) Xg
def WJ (w:World) (n m:Int) (e:Ending) (w':World):Prop:=e= .returned (.tuple #[.int .i64 n,.int .i64 m])∧Below w.heap.size w w'
theorem sG (a d l:Int) (w:World):
 Calls Tryz.prog 145 #[.agg #[.int .i64 a,.int .i64 d,.int .i64 l]] w (WJ w (av a d l) (ay a d l)):=by
 obtain⟨wl,HWL,HB,HCELL⟩:=iO w a d l
 cases hr:bH a d l
 · have HN:=Xh (mJ hr)
   have HL:=Xh (lM hr)
   go_in
   go_wp2_with fail
   rw[←HWL.out]
   refine (gRa a d l _).mono ?_
   rintro e w1 ⟨rfl,b1⟩
   rw[hr]
   go_wp2
   go_ret2
   rw[HN.out,HL.out]
   exact⟨rfl,bBo HB.out b1⟩
 · obtain⟨x,y,rfl,rfl,hx1,hx2,hy1,hy2⟩:=dz hr
   have HN:=Xh (je hr rfl rfl)
   have HL:=Xh (gB hr rfl rfl)
   go_in
   go_wp2_with fail
   rw[←HWL.out]
   refine (gRa _ _ l _).mono ?_
   rintro e w1 ⟨rfl,b1⟩
   rw[hr]
   obtain⟨c0,c1,c2⟩:=HCELL.out w1 b1
   have B1:=Xh b1;clear b1 hr
   go_wp2
   go_loop [2,3,9] (fun n m i=>∃k:Nat,k≤y∧i= .int .i64 k∧n= .int .i64 (ndN x k:Nat)∧m= .int .i64 ((x ^ k:Nat):Int)) (fun _ _ i=>y - (intOf i).toNat)
   case atStart=>exact⟨0,Nat.zero_le _,rfl,rfl,rfl⟩
   case round=>
    obtain⟨k,hk,rfl,rfl,rfl⟩:=hrel
    by_cases hlt:k<y
    · skip
      have p1:=mD hx2 (show k≤3 by omega)
      have p2:=vS hx2 k Xf
      have p3:=tu hx2 (show k≤3 by omega)
      have p4:((x ^ k:Nat):Int)*(x:Int)≤256:=by rw[←Int.natCast_mul];omega
      have p5:0≤((x ^ k:Nat):Int)*(x:Int):=Int.mul_nonneg (Int.natCast_nonneg _) (Int.natCast_nonneg _)
      have HP:Hid (((x ^ (k+1):Nat):Int)=((x ^ k:Nat):Int)*(x:Int)):=by show _=_;rw[Nat.pow_succ];simp
      have HD:Hid (((ndN x (k+1):Nat):Int)=(ndN x k:Int)+((x ^ k:Nat):Int)):=by show _=_;simp[ndN]
      clear p3
      generalize x ^ k=q at *
      generalize ndN x k=r at *
      go_wp2
      go_round
      case rel=>exact⟨k+1,Xf,by go_num,by rw[HD.out],by rw[HP.out]⟩
      case measure=>simp[intOf];omega
    · obtain rfl:y=k:=by omega
      go_wp2
      go_ret2
      rw[HN.out,HL.out]
      exact⟨rfl,bBo HB.out B1.out⟩
theorem kR (a d l:Int) (w:World):
 Calls Tryz.prog 121 #[.agg #[.int .i64 a,.int .i64 d,.int .i64 l]] w (lV w (av a d l)):=by
 obtain⟨wl,HWL,HB,HCELL⟩:=iO w a d l
 go_in
 go_wp2_with fail
 rw[←HWL.out]
 refine (sG a d l _).mono ?_
 rintro e w1 ⟨rfl,b1⟩
 have B1:=Xh b1;clear b1
 go_wp2
 go_ret
 exact⟨rfl,bBo HB.out B1.out⟩
theorem nD (a d l:Int) (w:World):
 Calls Tryz.prog 74 #[.agg #[.int .i64 a,.int .i64 d,.int .i64 l]] w (lV w (ay a d l)):=by
 obtain⟨wl,HWL,HB,HCELL⟩:=iO w a d l
 go_in
 go_wp2_with fail
 rw[←HWL.out]
 refine (sG a d l _).mono ?_
 rintro e w1 ⟨rfl,b1⟩
 have B1:=Xh b1;clear b1
 go_wp2
 go_ret
 exact⟨rfl,bBo HB.out B1.out⟩
theorem dM (a d l:Int):0≤av a d l∧av a d l≤200:=by
 cases hr:bH a d l
 · rw[mJ hr];omega
 · obtain⟨x,y,hx,hy,hx1,hx2,hy1,hy2⟩:=dz hr
   rw[je hr hx hy]
   have :=vS hx2 y hy2
   omega
theorem bM (a d l:Int):0≤ay a d l∧ay a d l≤64:=by
 cases hr:bH a d l
 · rw[lM hr];omega
 · obtain⟨x,y,hx,hy,hx1,hx2,hy1,hy2⟩:=dz hr
   rw[gB hr hx hy]
   have :=mD hx2 hy2
   omega
def au (a d l:Int):Int:=av a d l+ay a d l
theorem jg (a d l:Int) (w:World):
 Calls Tryz.prog 171 #[.agg #[.int .i64 a,.int .i64 d,.int .i64 l]] w (lV w (au a d l)):=by
 obtain⟨wl,HWL,HB,HCELL⟩:=iO w a d l
 have n1:=dM a d l
 have n2:=bM a d l
 go_in
 go_wp2_with fail
 rw[←HWL.out]
 refine (sG a d l _).mono ?_
 rintro e w1 ⟨rfl,b1⟩
 have B1:=Xh b1;clear b1
 go_wp2
 go_ret
 exact⟨rfl,bBo HB.out B1.out⟩
theorem Ej (a d l:Int) (w:World):
 Calls Tryz.prog 37 #[.agg #[.int .i64 a,.int .i64 d,.int .i64 l]] w (lV w (ay a d l)):=by
 obtain⟨wl,HWL,HB,HCELL⟩:=iO w a d l
 cases hr:bH a d l
 · have HL:=Xh (lM hr)
   go_in
   go_wp2_with fail
   rw[←HWL.out]
   refine (fM a d l _).mono ?_
   rintro e w1 ⟨rfl,b1⟩
   rw[hr]
   go_wp2
   go_ret
   rw[HL.out]
   exact⟨rfl,bBo HB.out b1⟩
 · obtain⟨x,y,rfl,rfl,hx1,hx2,hy1,hy2⟩:=dz hr
   have HL:=Xh (gB hr rfl rfl)
   go_in
   go_wp2_with fail
   rw[←HWL.out]
   refine (fM _ _ l _).mono ?_
   rintro e w1 ⟨rfl,b1⟩
   rw[hr]
   obtain⟨c0,c1,c2⟩:=HCELL.out w1 b1
   have B1:=Xh b1;clear b1 hr
   go_wp2
   go_loop [3,4] (fun m i=>∃k:Nat,k≤y∧i= .int .i64 k∧m= .int .i64 ((x ^ k:Nat):Int)) (fun _ i=>y - (intOf i).toNat)
   case atStart=>exact⟨0,Nat.zero_le _,rfl,rfl⟩
   case round=>
    obtain⟨k,hk,rfl,rfl⟩:=hrel
    by_cases hlt:k<y
    · skip
      have p1:=mD hx2 (show k≤3 by omega)
      have p2:=vS hx2 k Xf
      have p3:=tu hx2 (show k≤3 by omega)
      have p4:((x ^ k:Nat):Int)*(x:Int)≤256:=by rw[←Int.natCast_mul];omega
      have p5:0≤((x ^ k:Nat):Int)*(x:Int):=Int.mul_nonneg (Int.natCast_nonneg _) (Int.natCast_nonneg _)
      have HP:Hid (((x ^ (k+1):Nat):Int)=((x ^ k:Nat):Int)*(x:Int)):=by show _=_;rw[Nat.pow_succ];simp
      have HD:Hid (((ndN x (k+1):Nat):Int)=(ndN x k:Int)+((x ^ k:Nat):Int)):=by show _=_;simp[ndN]
      clear p3
      generalize x ^ k=q at *
      generalize ndN x k=r at *
      go_wp2
      go_round
      case rel=>exact⟨k+1,Xf,by go_num,by rw[HP.out]⟩
      case measure=>simp[intOf];omega
    · obtain rfl:y=k:=by omega
      go_wp2
      go_ret
      rw[HL.out]
      exact⟨rfl,bBo HB.out B1.out⟩
theorem Gp (a d l:Int) (w:World):
 Calls Tryz.prog 36 #[.agg #[.int .i64 a,.int .i64 d,.int .i64 l]] w (lV w (av a d l)):=by
 obtain⟨wl,HWL,HB,HCELL⟩:=iO w a d l
 cases hr:bH a d l
 · have HL:=Xh (mJ hr)
   go_in
   go_wp2_with fail
   rw[←HWL.out]
   refine (fM a d l _).mono ?_
   rintro e w1 ⟨rfl,b1⟩
   rw[hr]
   go_wp2
   go_ret
   rw[HL.out]
   exact⟨rfl,bBo HB.out b1⟩
 · obtain⟨x,y,rfl,rfl,hx1,hx2,hy1,hy2⟩:=dz hr
   have HL:=Xh (je hr rfl rfl)
   go_in
   go_wp2_with fail
   rw[←HWL.out]
   refine (fM _ _ l _).mono ?_
   rintro e w1 ⟨rfl,b1⟩
   rw[hr]
   obtain⟨c0,c1,c2⟩:=HCELL.out w1 b1
   have B1:=Xh b1;clear b1 hr
   go_wp2
   go_loop [3,4,5] (fun m n i=>∃k:Nat,k≤y∧i= .int .i64 k∧n= .int .i64 (ndN x k:Nat)∧m= .int .i64 ((x ^ k:Nat):Int)) (fun _ _ i=>y - (intOf i).toNat)
   case atStart=>exact⟨0,Nat.zero_le _,rfl,rfl,rfl⟩
   case round=>
    obtain⟨k,hk,rfl,rfl,rfl⟩:=hrel
    by_cases hlt:k<y
    · skip
      have p1:=mD hx2 (show k≤3 by omega)
      have p2:=vS hx2 k Xf
      have p3:=tu hx2 (show k≤3 by omega)
      have p4:((x ^ k:Nat):Int)*(x:Int)≤256:=by rw[←Int.natCast_mul];omega
      have p5:0≤((x ^ k:Nat):Int)*(x:Int):=Int.mul_nonneg (Int.natCast_nonneg _) (Int.natCast_nonneg _)
      have HP:Hid (((x ^ (k+1):Nat):Int)=((x ^ k:Nat):Int)*(x:Int)):=by show _=_;rw[Nat.pow_succ];simp
      have HD:Hid (((ndN x (k+1):Nat):Int)=(ndN x k:Int)+((x ^ k:Nat):Int)):=by show _=_;simp[ndN]
      clear p3
      generalize x ^ k=q at *
      generalize ndN x k=r at *
      go_wp2
      go_round
      case rel=>exact⟨k+1,Xf,by go_num,by rw[HD.out],by rw[HP.out]⟩
      case measure=>simp[intOf];omega
    · obtain rfl:y=k:=by omega
      go_wp2
      go_ret
      rw[HL.out]
      exact⟨rfl,bBo HB.out B1.out⟩
theorem uY (a d l:Int) (w:World):
 Calls Tryz.prog 20 #[.agg #[.int .i64 a,.int .i64 d,.int .i64 l]] w (lV w (au a d l)):=by
 obtain⟨wl,HWL,HB,HCELL⟩:=iO w a d l
 have n1:=dM a d l
 have n2:=bM a d l
 have hw:IntKind.i64.wrap (av a d l+ay a d l)=av a d l+ay a d l:=IntWalk.i64_in _ Xf
 go_in
 go_wp2_with fail
 rw[←HWL.out]
 refine wp_region_quiet (C:=fun w'=>Below (wl).heap.size (wl) w') Xe Xe (Below.refl _ _).drew ?_
 simp only
 repeat (first
  |go_big_quiet_skip
  |(go_big_quiet_want
    apply Exists.intro
    refine⟨fun wq hq=> ?_,?_⟩
    · (have c0:=HCELL.out wq hq
       go_simp
       first
        |done
        |exact rfl
        |(with_reducible exact⟨rfl,rfl⟩)
        |(go_at_call 36;exact (Gp a d l wq).mono fun e w2 ⟨he,hb⟩=>⟨he,bBo hq hb⟩)|(go_at_call 37;exact (Ej a d l wq).mono fun e w2 ⟨he,hb⟩=>⟨he,bBo hq hb⟩))
    go_simp
    go_big_quiet_on))
 refine wpQuiet_nil ?_
 intro wq hq
 have HQ:=Xh hq;clear hq
 go_wp2
 go_ret
 exact⟨rfl,bBo HB.out HQ.out⟩
end
end Go.Proofs.YtipdlnejmcmbbaaGreatDoor
