/- Own texts, one behind the other. No condition. -/
import Derived.Test.YtipdlnejmcmbbaaGreatDoorObPkAJ
import Derived.LoopN
set_option linter.unusedVariables false
set_option maxRecDepth 100000
set_option maxHeartbeats 8000000
set_option linter.unusedSimpArgs false
namespace Go.Proofs.YtipdlnejmcmbbaaGreatDoor
section
open Go.RowKit
def Sec.why (place:Nat) (x:Sec):Int:=if x.kind<1∨5<x.kind∨1023<place∨1073741824<x.seq then 2 else if 479<x.body.length then 6 else 0
theorem Sec.xW {place:Nat} {x:Sec}:x.why place=0↔x.right place=true:=by
 unfold Sec.why Sec.right
 simp only[Bool.and_eq_true,decide_eq_true_eq]
 split
 · constructor
   · intro h;omega
   · omega
 · split
   · constructor
     · intro h;omega
     · omega
   · constructor
     · intro _;omega
     · intro _;rfl
def eH (x:Sec) (A:Option Addr) (c:Nat):Value:= .agg #[.int .i64 (x.kind:Int),.int .u64 (x.life:Int),.int .i64 (x.seq:Int),.int .u64 (x.gen:Int),.slice A x.body.length c]
theorem sK (n a b:Int) (w:World):Calls Tryz.prog 242 #[.int .i64 n,.int .i64 a,.int .i64 b] w fun e w'=>e= .returned (.bool (decide (a≤n) && decide (n≤b)))∧w=w':=by
 cases h1:decide (a≤n)<;>cases h2:decide (n≤b)<;>
 · go_in
   go_wp2_with fail
   go_ret
   exact⟨rfl,rfl⟩
theorem vE (place:Nat) (x:Sec) (A:Option Addr) (c:Nat) (w:World):
 Calls Tryz.prog 165 #[.int .i64 (place:Int),eH x A c] w fun e w'=>e= .returned (.int .i64 (x.why place))∧Gr w w':=by
 obtain⟨kd,lf,sq,gn,bd⟩:=x
 unfold eH
 simp only
 obtain⟨q1,hq1⟩:∃q,q=(decide ((1:Int)≤(kd:Int)) && decide ((kd:Int)≤5)):=⟨_,rfl⟩
 obtain⟨q2,hq2⟩:∃q,q=(decide ((0:Int)≤(place:Int)) && decide ((place:Int)≤1023)):=⟨_,rfl⟩
 obtain⟨q3,hq3⟩:∃q,q=(decide ((0:Int)≤(sq:Int)) && decide ((sq:Int)≤1073741824)):=⟨_,rfl⟩
 have W1:Hid (∀wr,Calls Tryz.prog 242 #[.int .i64 (kd:Int),.int .i64 1,.int .i64 5] wr fun e w'=>e= .returned (.bool q1)∧wr=w'):=fun wr=>by rw[hq1];exact sK _ _ _ wr
 have W2:Hid (∀wr,Calls Tryz.prog 242 #[.int .i64 (place:Int),.int .i64 0,.int .i64 1023] wr fun e w'=>e= .returned (.bool q2)∧wr=w'):=fun wr=>by rw[hq2];exact sK _ _ _ wr
 have W3:Hid (∀wr,Calls Tryz.prog 242 #[.int .i64 (sq:Int),.int .i64 0,.int .i64 1073741824] wr fun e w'=>e= .returned (.bool q3)∧wr=w'):=fun wr=>by rw[hq3];exact sK _ _ _ wr
 obtain⟨q4,hq4⟩:∃q,q=decide ((479:Int)<(bd.length:Int)):=⟨_,rfl⟩
 have H4:=hq4.symm
 have HR:Hid (Sec.why place ⟨kd,lf,sq,gn,bd⟩=if (q1 && q2 && q3)=true then (if q4=true then 6 else 0) else 2):=by
  show _=_
  unfold Sec.why
  rw[hq1,hq2,hq3,hq4]
  simp only[Bool.and_eq_true,decide_eq_true_eq]
  by_cases h:kd<1∨5<kd∨1023<place∨1073741824<sq
  · rw[if_pos h,if_neg Xf]
  · have h':(((1:Int)≤(kd:Int)∧(kd:Int)≤5)∧(0:Int)≤(place:Int)∧(place:Int)≤1023)∧(0:Int)≤(sq:Int)∧(sq:Int)≤1073741824:=by omega
    rw[if_neg h,if_pos h']
    by_cases h2:479<bd.length
    · rw[if_pos h2,if_pos (show (479:Int)<(bd.length:Int) by omega)]
    · rw[if_neg h2,if_neg (show ¬(479:Int)<(bd.length:Int) by omega)]
 have G0:Hid (Gr w (w.alloc (.cells #[.int .i64 (kd:Int),.int .u64 (lf:Int),.int .i64 (sq:Int),.int .u64 (gn:Int),.slice A bd.length c] 143))):=Gr.alloc _ _
 obtain⟨nb,hnb⟩:∃nb,nb=bd.length:=⟨_,rfl⟩
 rw[←hnb] at H4 G0 ⊢
 clear hq1 hq2 hq3 hq4 hnb
 generalize Sec.why place ⟨kd,lf,sq,gn,bd⟩=r at *
 go_in
 go_wp2_with fail
 refine (W1.out _).mono ?_
 rintro e w1 ⟨rfl,h1⟩
 subst h1
 cases q1
 · go_wp2_with fail
   go_ret
   exact⟨by rw[HR.out];rfl,G0.out⟩
 go_wp2_with fail
 refine (W2.out _).mono ?_
 rintro e w1 ⟨rfl,h1⟩
 subst h1
 cases q2
 · go_wp2_with fail
   go_ret
   exact⟨by rw[HR.out];rfl,G0.out⟩
 go_wp2_with fail
 refine (W3.out _).mono ?_
 rintro e w1 ⟨rfl,h1⟩
 subst h1
 cases q3
 · go_wp2_with fail
   go_ret
   exact⟨by rw[HR.out];rfl,G0.out⟩
 cases q4
 · go_wp2_with fail
   go_ret
   exact⟨by rw[HR.out];rfl,G0.out⟩
 · go_wp2_with fail
   go_ret
   exact⟨by rw[HR.out];rfl,G0.out⟩
theorem xM (p:Nat) (w:World):Calls Tryz.prog 164 #[.pointer (some ⟨p,0,none⟩)] w fun e w'=>e= .returned (.bool false)∧w=w':=by
 go_in
 go_wp2_with fail
 go_ret
 exact⟨rfl,rfl⟩
theorem Jp:dX 512 (.int .u8 0)=aK.map u8c:=by unfold dX aK;rw[List.map_replicate];rfl
theorem qc (w:World):Calls Tryz.prog 95 #[] w fun e w'=>∃A,e= .returned (.slice A 512 512)∧Own w w' 5 1 (.slice A 512 512) 512 (aK.map u8c):=by
 obtain⟨Z,hZ⟩:∃Z,Z=(dX 512 (.int .u8 0)).toArray:=⟨_,rfl⟩
 have hmk:∀W:World,(Instr.makeSlice 43 (.int .i64 512) (.int .i64 512)).run Tryz.prog W= .ok (.slice (some ⟨W.heap.size,0,none⟩) 512 512) (W.alloc (.cells Z 5)):=fun W=>by rw[hZ];exact run_mk bC rfl 512 Xf W
 have HZ:=Xh hZ
 clear hZ
 go_in
 go_wp2_with fail
 go_ret
 have hb:Blk (w.alloc (.cells Z 5)) w.heap.size 5 (aK.map u8c):=by
  have :=Blk.new w 5 Z
  rw[HZ.out] at this ⊢
  rw[←Jp]
  exact this
 exact⟨_,rfl,hb.own (Nat.le_refl _) (Gr.alloc _ _) (by rw[List.length_map];unfold aK;rw[List.length_replicate]) Xg⟩
theorem xw (A:Option Addr) (n c:Nat) (l:List UInt8) (w:World) (h:Bs w A n c l):Calls Tryz.prog 239 #[.slice A n c] w fun e w'=>e= .returned (.bool (l==aK))∧Gr w w':=by
 have HB:=Xh (qc w)
 have HH:=Xh h
 clear h
 go_in
 go_wp2_with fail
 refine HB.out.mono ?_
 rintro e w1 ⟨A1,rfl,o1⟩
 obtain⟨A2,c2,hv,s2⟩:=o1.slice
 injection hv with e1 _ e2
 subst e1 e2
 have G1:Hid (Gr w w1):=o1.below
 have HE:=Xh (rT A A1 n 512 c 512 l aK w1 (HH.out.mono o1.below) s2)
 clear o1 s2
 go_wp2_with fail
 refine HE.out.mono ?_
 rintro e w2 ⟨rfl,rfl⟩
 go_wp2_with fail
 go_ret
 exact⟨rfl,G1.out⟩
theorem xO (place:Nat) (x:Sec) (A:Option Addr) (c:Nat) (w:World) (hb:Bs w A x.body.length c x.body) (hl:x.body.length≤479) (hp:place≤1023) (hk:x.kind≤5) (hs:x.seq≤1073741824) (hlf:x.life<18446744073709551616) (hg:x.gen<18446744073709551616):
 Calls Tryz.prog 166 #[.int .i64 (place:Int),eH x A c] w fun e w'=>∃A' c',e= .returned (.slice A' 504 c')∧Own w w' 5 1 (.slice A' 504 c') 504 ((ji place x).map u8c):=by
 obtain⟨kd,lf,sq,gn,bd⟩:=x
 unfold eH
 simp only at hb hl hk hs hlf hg ⊢
 have P1:Hid (∀wr,Calls Tryz.prog 162 #[.int .u64 (kd:Int),.int .i64 1] wr (fK wr (be kd 1))):=fun wr=>by have :=kV (kd:Int) 1 wr Xf Xf;unfold mV at this;rw[if_pos Xf,Int.toNat_natCast] at this;exact this
 have P2:Hid (∀wr,Calls Tryz.prog 162 #[.int .u64 (place:Int),.int .i64 2] wr (fK wr (be place 2))):=fun wr=>by have :=kV (place:Int) 2 wr Xf Xf;unfold mV at this;rw[if_pos Xf,Int.toNat_natCast] at this;exact this
 have P3:Hid (∀wr,Calls Tryz.prog 162 #[.int .u64 (lf:Int),.int .i64 8] wr (fK wr (be lf 8))):=fun wr=>by have :=kV (lf:Int) 8 wr Xf Xf;unfold mV at this;rw[if_pos Xf,Int.toNat_natCast] at this;exact this
 have P4:Hid (∀wr,Calls Tryz.prog 162 #[.int .u64 (sq:Int),.int .i64 4] wr (fK wr (be sq 4))):=fun wr=>by have :=kV (sq:Int) 4 wr Xf Xf;unfold mV at this;rw[if_pos Xf,Int.toNat_natCast] at this;exact this
 have P5:Hid (∀wr,Calls Tryz.prog 162 #[.int .u64 (gn:Int),.int .i64 8] wr (fK wr (be gn 8))):=fun wr=>by have :=kV (gn:Int) 8 wr Xf Xf;unfold mV at this;rw[if_pos Xf,Int.toNat_natCast] at this;exact this
 have P6:Hid (∀wr,Calls Tryz.prog 162 #[.int .u64 (bd.length:Int),.int .i64 2] wr (fK wr (be bd.length 2))):=fun wr=>by have :=kV (bd.length:Int) 2 wr Xf Xf;unfold mV at this;rw[if_pos Xf,Int.toNat_natCast] at this;exact this
 have k1:IntKind.u64.wrap (kd:Int)=kd:=IntWalk.u64_in _ Xf
 have k2:IntKind.u64.wrap (place:Int)=place:=IntWalk.u64_in _ Xf
 have k3:IntKind.u64.wrap (sq:Int)=sq:=IntWalk.u64_in _ Xf
 have k4:IntKind.u64.wrap (bd.length:Int)=bd.length:=IntWalk.u64_in _ Xf
 have G0:Hid (Gr w (w.alloc (.cells #[.int .i64 (kd:Int),.int .u64 (lf:Int),.int .i64 (sq:Int),.int .u64 (gn:Int),.slice A bd.length c] 143))):=Gr.alloc _ _
 have B0:Hid (Blk (w.alloc (.cells #[.int .i64 (kd:Int),.int .u64 (lf:Int),.int .i64 (sq:Int),.int .u64 (gn:Int),.slice A bd.length c] 143)) w.heap.size 143 [.int .i64 (kd:Int),.int .u64 (lf:Int),.int .i64 (sq:Int),.int .u64 (gn:Int),.slice A bd.length c]):=Blk.new w _ _
 have HB:=Xh hb;have HL:=Xh hl
 clear hb
 have hx0:∀W:World,(Instr.index 299 (.agg #[.int .u64 (kd:Int),.int .i64 1,.int .u64 (place:Int),.int .i64 2,.int .u64 (lf:Int),.int .i64 8,.int .u64 (sq:Int),.int .i64 4,.int .u64 (gn:Int),.int .i64 8,.int .u64 (bd.length:Int),.int .i64 2]) (.int .i64 0)).run Tryz.prog W= .ok (.agg #[.int .u64 (kd:Int),.int .i64 1]) W:=fun W=>by kernel_rfl
 have hx1:∀W:World,(Instr.index 299 (.agg #[.int .u64 (kd:Int),.int .i64 1,.int .u64 (place:Int),.int .i64 2,.int .u64 (lf:Int),.int .i64 8,.int .u64 (sq:Int),.int .i64 4,.int .u64 (gn:Int),.int .i64 8,.int .u64 (bd.length:Int),.int .i64 2]) (.int .i64 1)).run Tryz.prog W= .ok (.agg #[.int .u64 (place:Int),.int .i64 2]) W:=fun W=>by kernel_rfl
 have hx2:∀W:World,(Instr.index 299 (.agg #[.int .u64 (kd:Int),.int .i64 1,.int .u64 (place:Int),.int .i64 2,.int .u64 (lf:Int),.int .i64 8,.int .u64 (sq:Int),.int .i64 4,.int .u64 (gn:Int),.int .i64 8,.int .u64 (bd.length:Int),.int .i64 2]) (.int .i64 2)).run Tryz.prog W= .ok (.agg #[.int .u64 (lf:Int),.int .i64 8]) W:=fun W=>by kernel_rfl
 have hx3:∀W:World,(Instr.index 299 (.agg #[.int .u64 (kd:Int),.int .i64 1,.int .u64 (place:Int),.int .i64 2,.int .u64 (lf:Int),.int .i64 8,.int .u64 (sq:Int),.int .i64 4,.int .u64 (gn:Int),.int .i64 8,.int .u64 (bd.length:Int),.int .i64 2]) (.int .i64 3)).run Tryz.prog W= .ok (.agg #[.int .u64 (sq:Int),.int .i64 4]) W:=fun W=>by kernel_rfl
 have hx4:∀W:World,(Instr.index 299 (.agg #[.int .u64 (kd:Int),.int .i64 1,.int .u64 (place:Int),.int .i64 2,.int .u64 (lf:Int),.int .i64 8,.int .u64 (sq:Int),.int .i64 4,.int .u64 (gn:Int),.int .i64 8,.int .u64 (bd.length:Int),.int .i64 2]) (.int .i64 4)).run Tryz.prog W= .ok (.agg #[.int .u64 (gn:Int),.int .i64 8]) W:=fun W=>by kernel_rfl
 have hx5:∀W:World,(Instr.index 299 (.agg #[.int .u64 (kd:Int),.int .i64 1,.int .u64 (place:Int),.int .i64 2,.int .u64 (lf:Int),.int .i64 8,.int .u64 (sq:Int),.int .i64 4,.int .u64 (gn:Int),.int .i64 8,.int .u64 (bd.length:Int),.int .i64 2]) (.int .i64 5)).run Tryz.prog W= .ok (.agg #[.int .u64 (bd.length:Int),.int .i64 2]) W:=fun W=>by kernel_rfl
 go_in
 go_wp2_with fail
 refine wp_loop_rounds 7 ?_
 obtain⟨W0,hW0⟩:∃W0,W0=w.alloc (.cells #[.int .i64 (kd:Int),.int .u64 (lf:Int),.int .i64 (sq:Int),.int .u64 (gn:Int),.slice A bd.length c] 143):=⟨_,rfl⟩
 rw[←hW0] at G0 B0 ⊢
 have OW0:Hid (Own W0 W0 5 1 (.slice none 0 0) 0 (([]:List UInt8).map u8c)):=Own.nil _ _ _
 have HW0:=Xh hW0;clear hW0
 rw[rounds_succ]
 go_wp2_with fail
 refine ((P1).out _).mono ?_
 rintro e w2 ⟨v2,rfl,o2⟩
 rw[aQ] at o2
 obtain⟨A2,c2,rfl,s2⟩:=o2.slice
 have S2:=Xh s2
 have OA:=Xh ((OW0).out.mono ((Gr.alloc _ _).trans o2.below))
 clear o2 s2
 go_wp2_with (at_builtin;refine iJ rfl (.tmp 33) (.tmp 38) 43 rfl bC rfl OA.out rfl S2.out (eT _) Xf ?_;intro v3 w3 o3;rw[←List.map_append] at o3;simp only[Nat.zero_add,Nat.reduceAdd] at o3;have OW1:=Xh o3;clear o3)
 rw[rounds_succ]
 go_wp2_with fail
 refine ((P2).out _).mono ?_
 rintro e w2 ⟨v2,rfl,o2⟩
 rw[aQ] at o2
 obtain⟨A2,c2,rfl,s2⟩:=o2.slice
 have S2:=Xh s2
 have OA:=Xh ((OW1).out.mono ((Gr.alloc _ _).trans o2.below))
 clear o2 s2
 go_wp2_with (at_builtin;refine iJ rfl (.tmp 33) (.tmp 38) 43 rfl bC rfl OA.out rfl S2.out (eT _) Xf ?_;intro v3 w3 o3;rw[←List.map_append] at o3;simp only[Nat.zero_add,Nat.reduceAdd] at o3;have OW2:=Xh o3;clear o3)
 rw[rounds_succ]
 go_wp2_with fail
 refine ((P3).out _).mono ?_
 rintro e w2 ⟨v2,rfl,o2⟩
 rw[aQ] at o2
 obtain⟨A2,c2,rfl,s2⟩:=o2.slice
 have S2:=Xh s2
 have OA:=Xh ((OW2).out.mono ((Gr.alloc _ _).trans o2.below))
 clear o2 s2
 go_wp2_with (at_builtin;refine iJ rfl (.tmp 33) (.tmp 38) 43 rfl bC rfl OA.out rfl S2.out (eT _) Xf ?_;intro v3 w3 o3;rw[←List.map_append] at o3;simp only[Nat.zero_add,Nat.reduceAdd] at o3;have OW3:=Xh o3;clear o3)
 rw[rounds_succ]
 go_wp2_with fail
 refine ((P4).out _).mono ?_
 rintro e w2 ⟨v2,rfl,o2⟩
 rw[aQ] at o2
 obtain⟨A2,c2,rfl,s2⟩:=o2.slice
 have S2:=Xh s2
 have OA:=Xh ((OW3).out.mono ((Gr.alloc _ _).trans o2.below))
 clear o2 s2
 go_wp2_with (at_builtin;refine iJ rfl (.tmp 33) (.tmp 38) 43 rfl bC rfl OA.out rfl S2.out (eT _) Xf ?_;intro v3 w3 o3;rw[←List.map_append] at o3;simp only[Nat.zero_add,Nat.reduceAdd] at o3;have OW4:=Xh o3;clear o3)
 rw[rounds_succ]
 go_wp2_with fail
 refine ((P5).out _).mono ?_
 rintro e w2 ⟨v2,rfl,o2⟩
 rw[aQ] at o2
 obtain⟨A2,c2,rfl,s2⟩:=o2.slice
 have S2:=Xh s2
 have OA:=Xh ((OW4).out.mono ((Gr.alloc _ _).trans o2.below))
 clear o2 s2
 go_wp2_with (at_builtin;refine iJ rfl (.tmp 33) (.tmp 38) 43 rfl bC rfl OA.out rfl S2.out (eT _) Xf ?_;intro v3 w3 o3;rw[←List.map_append] at o3;simp only[Nat.zero_add,Nat.reduceAdd] at o3;have OW5:=Xh o3;clear o3)
 rw[rounds_succ]
 go_wp2_with fail
 refine ((P6).out _).mono ?_
 rintro e w2 ⟨v2,rfl,o2⟩
 rw[aQ] at o2
 obtain⟨A2,c2,rfl,s2⟩:=o2.slice
 have S2:=Xh s2
 have OA:=Xh ((OW5).out.mono ((Gr.alloc _ _).trans o2.below))
 clear o2 s2
 go_wp2_with (at_builtin;refine iJ rfl (.tmp 33) (.tmp 38) 43 rfl bC rfl OA.out rfl S2.out (eT _) Xf ?_;intro v3 w3 o3;rw[←List.map_append] at o3;simp only[Nat.zero_add,Nat.reduceAdd] at o3;have OW6:=Xh o3;clear o3)
 rw[rounds_succ]
 have c4:=(B0.out.mono OW6.out.below).cell 4
 have B6:=Xh (HB.out.mono (G0.out.trans OW6.out.below))
 go_wp2_with (at_builtin;refine iJ rfl (.tmp 41) (.tmp 43) 43 rfl bC rfl OW6.out rfl B6.out (eT _) Xf ?_;intro v7 w7 o7;rw[←List.map_append] at o7;obtain⟨A7,c7,rfl,s7⟩:=o7.slice;have S7:=Xh s7;have G7:=Xh o7.below;clear o7 s7)
 have HPS:Hid (qN ((([]++be kd 1++be place 2++be lf 8++be sq 4++be gn 8++be bd.length 2)++bd)) 504=ji place ⟨kd,lf,sq,gn,bd⟩):=by
  show _=_
  unfold qN
  rw[if_pos Xf]
  rfl
 have HPD:=Xh (nR A7 (25+bd.length) c7 _ 504 w7 S7.out)
 rw[HPS.out] at HPD
 refine HPD.out.mono ?_
 rintro e w8 ⟨v8,rfl,o8⟩
 rw[Gw] at o8
 have O8:=Xh (o8.base (G0.out.trans G7.out))
 obtain⟨A8,c8,rfl,s8⟩:=o8.slice
 clear o8 s8
 go_wp2_with fail
 go_ret
 exact⟨A8,c8,rfl,O8.out⟩
end
section
open Go.RowKit
theorem Vq {T:List Nd} (h:TIn T):∀x∈T,x.s.size≤maxLen:=fun x hx=>(h.fit x hx).2.2.2
end
section
open Go.RowKit
theorem Lg {T:List Nd} {key b:List UInt8} (h:b.length<48∨60048<b.length):eP T key b=none:=if_pos h
theorem NI {T:List Nd} {key b:List UInt8} (h:kindOf T (bD T (b.take 32))≠5):eP T key b=none:=by
 unfold eP
 split
 · rfl
 · rw[if_pos (.inl h)]
theorem Rj {T:List Nd} {key b:List UInt8} (h:b≠gy (aC (bD T (b.take 32))) b.length):eP T key b=none:=by
 unfold eP
 split
 · rfl
 · rw[if_pos (.inr h)]
theorem Qh {T:List Nd} {key b:List UInt8} {pa pb:Nat} (h1:¬(b.length<48∨60048<b.length)) (h2:kindOf T (bD T (b.take 32))=5) (h3:b=gy (aC (bD T (b.take 32))) b.length) (hp:partsOf T (bD T (b.take 32))=[pa,pb]):
 eP T key b=if fJ T pa=key∧(fJ T pb).length+48=b.length then some (fJ T pb) else none:=by
 unfold eP
 rw[if_neg h1,if_neg (by rintro (q|q);exact q h2;exact q h3),hp]
theorem Vz {T:List Nd} (hT:OG T) {id:Nat} (h:kindOf T id=5):∃pa pb,partsOf T id=[pa,pb]∧pa≤T.length∧pb≤T.length:=by
 unfold kindOf at h
 unfold partsOf
 split at h
 · omega
 · next ho=>
   rw[if_neg ho]
   split at h
   · next x hx=>
     have hq:=hT _ x hx
     have hlt:=(List.getElem?_eq_some_iff.1 hx).1
     have hp:x.parts=[x.a,x.b]:=by unfold Nd.parts;rw[if_neg Xf,if_neg Xf]
     refine⟨x.a,x.b,hp,?_,?_⟩
     · have :=(hq.2 x.a (by rw[hp];simp)).2;omega
     · have :=(hq.2 x.b (by rw[hp];simp)).2;omega
   · omega
end
section
open Go.RowKit
def SzT (T:List Nd):Prop:=∀x∈T,x.s.size≤20000
theorem SzT.snoc {T:List Nd} (h:SzT T) {x:Nd} (hx:x.s.size≤20000):SzT (T++ [x]):=fun y hy=>by
 rw[List.mem_append,List.mem_singleton] at hy
 rcases hy with hy|rfl
 · exact h y hy
 · exact hx
theorem SzT.put {T:List Nd} (h:SzT T) {x:Nd} (hx:x.s.size≤20000) (ids:List Int):SzT (fZ T x ids).1:=by
 unfold fZ
 split
 · exact h
 · split
   · exact h
   · exact h.snoc hx
theorem SzT.of {T:List Nd} (h:SzT T) {b:List UInt8} (hb:b.length≤20000):SzT (ofT T b).1:=by
 unfold ofT
 split
 · exact h
 · exact h.put (x:=⟨2,0,0,⟨b.toArray⟩,0⟩) (show b.toArray.size≤20000 by rw[List.size_toArray];exact hb) []
theorem SzT.pair {T:List Nd} (h:SzT T) (k:Nat) (a b:Int):SzT (pairT T k a b).1:=by
 unfold pairT
 split
 · exact h
 · exact h.put (Nat.zero_le _) _
theorem SzT.seal {T:List Nd} (h:SzT T) {a b:List UInt8} (ha:a.length≤20000) (hb:b.length≤20000):SzT (bI T a b).1:=((h.of ha).of hb).pair _ _ _
theorem SzT.atom {T:List Nd} (h:SzT T):SzT (aG T).1:=h.snoc (Nat.zero_le _)
theorem SzT.held {T:List Nd} (h:SzT T) (id:Nat):(fJ T id).length≤20000:=by
 unfold fJ
 split
 · unfold lJ
   split
   · exact Nat.zero_le _
   · split
     · next x hx=>
       split
       · have :=h x (List.mem_of_getElem? hx)
         simpa using this
       · exact Nat.zero_le _
     · exact Nat.zero_le _
 · rw[cO];omega
def mQ (w:World) (r:Option (List UInt8)) (e:Ending) (w':World):Prop:=∃A2 n2 c2,e= .returned (.tuple #[.slice A2 n2 c2,.bool r.isSome])∧Bs w' A2 n2 c2 (r.getD [])∧Gr w w'∧Ub w' A2
def Wp (w:World) (r:Option (List UInt8)) (e:Ending) (w':World):Prop:=∃A2 n2 c2,e= .returned (.tuple #[.slice A2 n2 c2,.bool r.isSome])∧Bs w' A2 n2 c2 (r.getD [])∧Gr w w'
section
variable {w0 w:World} {p g bm bs:Nat} {T:List Nd}
theorem bF.WA (h:bF w0 w p g bm bs T) (hn:T.length≤100000) (hsz:SzT T) (A B:Option Addr) (n c m d:Nat) (key b:List UInt8) (ho:Bs w A n c key) (hb:Bs w B m d b) (hm:m≤60000):
 Calls Tryz.prog 65 #[.pointer (some ⟨p,0,none⟩),.slice A n c,.slice B m d] w (mQ w (eP T key b)):=by
 have hbm:b.length=m:=by have :=hb.len;simpa using this
 have hcp:=hb.cap;have hmx:=hb.max;have hcp2:=ho.cap;have hmx2:=ho.max
 have HN:=Xh h.isNone;have HR:=Xh h.ET
 have HS0:Hid (∀wr,Calls Tryz.prog 130 #[.int .i64 0] wr fun e w'=>e= .returned (.int .i64 48)∧w'=wr):=fun wr=>by
  have k:=iM 0 wr Xf
  rw[show ((0+48:Nat):Int)=48 by omega,show ((0:Nat):Int)=0 by omega] at k
  exact k
 have HS6:Hid (∀wr,Calls Tryz.prog 130 #[.int .i64 60000] wr fun e w'=>e= .returned (.int .i64 60048)∧w'=wr):=fun wr=>by
  have k:=iM 60000 wr Xf
  rw[show ((60000+48:Nat):Int)=60048 by omega,show ((60000:Nat):Int)=60000 by omega] at k
  exact k
 by_cases h48:m<48
 · have t1:decide ((m:Int)<48)=true:=decide_eq_true Xf
   rw[Lg (.inl Xf)]
   clear h ho hb
   go_in
   go_wp2_with fail
   refine HN.out.mono ?_
   rintro e w1 ⟨rfl,h1⟩
   subst h1
   go_wp2_with fail
   refine HR.out.mono ?_
   rintro e w1 ⟨rfl,h1⟩
   subst h1
   go_wp2_with fail
   refine (HS0.out _).mono ?_
   rintro e w1 ⟨rfl,rfl⟩
   go_wp2_with fail
   go_ret2
   exact⟨none,0,0,rfl,Sl.nil _ _,Gr.refl _,Ub.nil _⟩
 have t1:decide ((m:Int)<48)=false:=decide_eq_false Xf
 have t2:decide ((60048:Int)<(m:Int))=false:=decide_eq_false Xf
 obtain⟨b1,o1,rfl,hbc⟩:=hb.addr Xf
 have hb32:Bs w (some ⟨b1,o1,none⟩) 32 d (b.take 32):=by
  have :=hb.upto (k:=32) Xf
  rwa[←List.map_take] at this
 have HTM:=Xh (h.term hn _ 32 d (b.take 32) hb32)
 have hidl:bD T (b.take 32)≤100000:=Nat.le_trans (Ro T _) hn
 have HKD:=Xh (fun wr (k:Gr w wr)=>sU g T (bD T (b.take 32):Int) wr (h.rd.mono k) h.i.kinds ⟨Xf,Xf⟩)
 have HPT:=Xh (fun wr (k:Gr w wr)=>Ot g T (bD T (b.take 32):Int) wr (h.rd.mono k) h.i.kinds ⟨Xf,Xf⟩)
 have HHD:=Xh (fun wr=>lS (bD T (b.take 32)) wr Xf)
 have HHE:=Xh (fun id' (hid':id'≤100000) wr (k:Gr w wr)=>(h.gr k).held id' hid' (Vq h.i))
 have HC0:=Xh (fun wr (k:Gr w wr)=>(h.gr k).c0)
 have HBB:=Xh hb;have HOO:=Xh ho
 have HPD:Hid (qN (aC (bD T (b.take 32))) (m:Int)=gy (aC (bD T (b.take 32))) m):=by
  show _=_
  unfold qN
  rw[if_pos ⟨Xf,Xf⟩,Int.toNat_natCast]
 have HPL:Hid ((gy (aC (bD T (b.take 32))) m).length=m):=iL _ _
 have hsh:¬(b.length<48∨60048<b.length):=by omega
 have hd32:32≤d:=by omega
 have hm32:32≤m:=by omega
 by_cases h5:kindOf T (bD T (b.take 32))=5
 · obtain⟨pa,pb,hp,hpa,hpb⟩:=Vz h.i.parts h5
   rw[h5] at HKD
   cases hv:b==gy (aC (bD T (b.take 32))) m with
   |false=>
    rw[Rj (by rw[hbm];exact beq_eq_false_iff_ne.1 hv)]
    have HV:=Xh hv
    clear h ho hb hb32 hbc hbm hsh h5 hv hp HHE HPT
    generalize bD T (b.take 32)=id at *
    go_in
    go_wp2_with fail
    refine HN.out.mono ?_
    rintro e w1 ⟨rfl,h1⟩
    subst h1
    go_wp2_with fail
    refine HR.out.mono ?_
    rintro e w1 ⟨rfl,h1⟩
    subst h1
    go_wp2_with fail
    refine (HS0.out _).mono ?_
    rintro e w1 ⟨rfl,rfl⟩
    go_wp2_with fail
    refine (HS6.out _).mono ?_
    rintro e w1 ⟨rfl,rfl⟩
    go_wp2_with fail
    refine HTM.out.mono ?_
    rintro e w2 ⟨rfl,g2⟩
    have G2:=Xh g2
    have d2:=HC0.out w2 g2
    clear g2
    go_wp2_with fail
    refine (HKD.out _ G2.out).mono ?_
    rintro e w3 ⟨rfl,g3⟩
    have G3:=Xh (Gr.trans G2.out g3);clear g3 d2
    go_wp2_with fail
    refine (HHD.out _).mono ?_
    rintro e w4 ⟨v4,rfl,o4⟩
    rw[cO] at o4
    obtain⟨A4,c4,rfl,s4⟩:=o4.slice
    have G4:=Xh (Gr.trans G3.out o4.below)
    have HPX:=Xh (nR A4 32 c4 (aC id) (m:Int) w4 s4)
    rw[HPD.out] at HPX
    clear o4 s4
    go_wp2_with fail
    refine HPX.out.mono ?_
    rintro e w5 ⟨v5,rfl,o5⟩
    rw[HPL.out] at o5
    obtain⟨A5,c5,rfl,s5⟩:=o5.slice
    have G5:=Xh (Gr.trans G4.out o5.below)
    have HSM:=Xh (jM _ _ _ _ _ _ b (gy (aC id) m) w5 (HBB.out.mono G5.out) s5)
    rw[HV.out] at HSM
    have d5:=HC0.out w5 G5.out
    clear o5 s5
    go_wp2_with fail
    refine HSM.out.mono ?_
    rintro e w6 ⟨rfl,h6⟩
    subst h6
    go_wp2_with fail
    go_ret2
    exact⟨none,0,0,rfl,Sl.nil _ _,G5.out,Ub.nil _⟩
   |true=>
    rw[Qh hsh h5 (by rw[hbm];exact beq_iff_eq.1 hv) hp,hbm]
    rw[hp] at HPT
    have HV:=Xh hv
    have HPA:=Xh (HHE.out pa Xf)
    have HPB:=Xh (HHE.out pb Xf)
    have HKL:=Xh (hsz.held pb)
    clear h ho hb hb32 hbc hbm hsh h5 hv hp HHE
    generalize bD T (b.take 32)=id at *
    generalize fJ T pa=ka at *
    generalize fJ T pb=kb at *
    obtain⟨r,hr⟩:∃r,r=if ka=key∧kb.length+48=m then some kb else none:=⟨_,rfl⟩
    rw[←hr]
    have HRR:=Xh hr
    clear hr
    go_in
    go_wp2_with fail
    refine HN.out.mono ?_
    rintro e w1 ⟨rfl,h1⟩
    subst h1
    go_wp2_with fail
    refine HR.out.mono ?_
    rintro e w1 ⟨rfl,h1⟩
    subst h1
    go_wp2_with fail
    refine (HS0.out _).mono ?_
    rintro e w1 ⟨rfl,rfl⟩
    go_wp2_with fail
    refine (HS6.out _).mono ?_
    rintro e w1 ⟨rfl,rfl⟩
    go_wp2_with fail
    refine HTM.out.mono ?_
    rintro e w2 ⟨rfl,g2⟩
    have G2:=Xh g2
    have d2:=HC0.out w2 g2
    clear g2
    go_wp2_with fail
    refine (HKD.out _ G2.out).mono ?_
    rintro e w3 ⟨rfl,g3⟩
    have G3:=Xh (Gr.trans G2.out g3);clear g3 d2
    go_wp2_with fail
    refine (HHD.out _).mono ?_
    rintro e w4 ⟨v4,rfl,o4⟩
    rw[cO] at o4
    obtain⟨A4,c4,rfl,s4⟩:=o4.slice
    have G4:=Xh (Gr.trans G3.out o4.below)
    have HPX:=Xh (nR A4 32 c4 (aC id) (m:Int) w4 s4)
    rw[HPD.out] at HPX
    clear o4 s4
    go_wp2_with fail
    refine HPX.out.mono ?_
    rintro e w5 ⟨v5,rfl,o5⟩
    rw[HPL.out] at o5
    obtain⟨A5,c5,rfl,s5⟩:=o5.slice
    have G5:=Xh (Gr.trans G4.out o5.below)
    have HSM:=Xh (jM _ _ _ _ _ _ b (gy (aC id) m) w5 (HBB.out.mono G5.out) s5)
    rw[HV.out] at HSM
    have d5:=HC0.out w5 G5.out
    clear o5 s5
    go_wp2_with fail
    refine HSM.out.mono ?_
    rintro e w6 ⟨rfl,h6⟩
    subst h6
    go_wp2_with fail
    refine (HPT.out _ G5.out).mono ?_
    rintro e w7 ⟨A7,c7,rfl,i7,g7,_,_⟩
    obtain⟨b7,o7,rfl,hc7⟩:=Is.addr i7 (show 0<2 by decide)
    have e70:w7.cell? ⟨b7,o7,none⟩=some (.int .i64 (pa:Int)):=hc7 0 (show 0<2 by decide)
    have e71:w7.cell? ⟨b7,o7+1,none⟩=some (.int .i64 (pb:Int)):=hc7 1 (show 1<2 by decide)
    have hcp7:2≤c7:=i7.cap
    have hmx7:=i7.max
    have G7:=Xh (Gr.trans G5.out g7)
    clear i7 g7 hc7 d5
    simp only[List.length_map,List.length_cons,List.length_nil,Nat.zero_add,Nat.reduceAdd]
    go_wp2_with fail
    refine (HPB.out _ G7.out).mono ?_
    rintro e w8 ⟨A8,n8,c8,rfl,s8,g8,u8⟩
    have hl8:kb.length=n8:=by have :=s8.len;simpa using this
    have hcp8:=s8.cap;have hmx8:=s8.max
    have S8:=Xh s8;have U8':=Xh u8
    have G8:=Xh (Gr.trans G7.out g8)
    have f70:=(Below.cell g8 (World.block_lt_of_cell? w7 _ e70)).trans e70
    clear s8 g8 u8 e70 e71
    go_wp2_with fail
    refine (HPA.out _ G8.out).mono ?_
    rintro e w9 ⟨A9,n9,c9,rfl,s9,g9,_⟩
    have G9:=Xh (Gr.trans G8.out g9)
    have HSM2:=Xh (jM _ _ _ _ _ _ ka key w9 s9 (HOO.out.mono G9.out))
    have S89:=Xh (S8.out.mono g9);have U89:=Xh (U8'.out.mono g9)
    have HN8:=Xh hl8
    clear s9 g9 f70
    have h8s:n8≤1000000:=by have :=HKL.out;omega
    have HSZ8:=Xh (fun wr=>iM n8 wr h8s)
    clear hl8 h8s
    by_cases hko:ka=key
    · have tk:(ka==key)=true:=by rw[beq_iff_eq];exact hko
      rw[tk] at HSM2
      have HKO:=Xh hko
      clear tk hko
      by_cases hlk:n8+48=m
      · have t9:(((n8+48:Nat):Int) !=(m:Int))=false:=by rw[bne_eq_false_iff_eq];omega
        have HF:Hid (ka=key∧kb.length+48=m):=⟨HKO.out,by rw[HN8.out];exact hlk⟩
        obtain rfl:r=some kb:=by rw[HRR.out,if_pos HF.out]
        clear HRR hlk
        go_wp2_with fail
        refine HSM2.out.mono ?_
        rintro e w10 ⟨rfl,h10⟩
        subst h10
        go_wp2_with fail
        refine (HSZ8.out _).mono ?_
        rintro e w11 ⟨rfl,rfl⟩
        go_wp2_with fail
        go_ret2
        exact⟨_,_,_,rfl,S89.out,G9.out,U89.out⟩
      · have t9:(((n8+48:Nat):Int) !=(m:Int))=true:=by rw[bne_iff_ne];omega
        have HF:Hid (¬(ka=key∧kb.length+48=m)):=fun q=>hlk (by rw[←HN8.out];exact q.2)
        obtain rfl:r=none:=by rw[HRR.out,if_neg HF.out]
        clear HRR hlk
        go_wp2_with fail
        refine HSM2.out.mono ?_
        rintro e w10 ⟨rfl,h10⟩
        subst h10
        go_wp2_with fail
        refine (HSZ8.out _).mono ?_
        rintro e w11 ⟨rfl,rfl⟩
        go_wp2_with fail
        go_ret2
        exact⟨none,0,0,rfl,Sl.nil _ _,G9.out,Ub.nil _⟩
    · have tk:(ka==key)=false:=by rw[beq_eq_false_iff_ne];exact hko
      rw[tk] at HSM2
      have HF:Hid (¬(ka=key∧kb.length+48=m)):=fun q=>hko q.1
      obtain rfl:r=none:=by rw[HRR.out,if_neg HF.out]
      clear tk hko HRR
      go_wp2_with fail
      refine HSM2.out.mono ?_
      rintro e w10 ⟨rfl,h10⟩
      subst h10
      go_wp2_with fail
      go_ret2
      exact⟨none,0,0,rfl,Sl.nil _ _,G9.out,Ub.nil _⟩
 · rw[NI h5]
   obtain⟨q,hq⟩:∃q,q=kindOf T (bD T (b.take 32)):=⟨_,rfl⟩
   rw[←hq] at HKD h5
   have t5:((q:Int) !=5)=true:=by rw[bne_iff_ne];omega
   clear h ho hb hb32 hbc hbm hsh h5 hq HHE HPT HPD HPL
   generalize bD T (b.take 32)=id at *
   go_in
   go_wp2_with fail
   refine HN.out.mono ?_
   rintro e w1 ⟨rfl,h1⟩
   subst h1
   go_wp2_with fail
   refine HR.out.mono ?_
   rintro e w1 ⟨rfl,h1⟩
   subst h1
   go_wp2_with fail
   refine (HS0.out _).mono ?_
   rintro e w1 ⟨rfl,rfl⟩
   go_wp2_with fail
   refine (HS6.out _).mono ?_
   rintro e w1 ⟨rfl,rfl⟩
   go_wp2_with fail
   refine HTM.out.mono ?_
   rintro e w2 ⟨rfl,g2⟩
   have G2:=Xh g2
   have d2:=HC0.out w2 g2
   clear g2
   go_wp2_with fail
   refine (HKD.out _ G2.out).mono ?_
   rintro e w3 ⟨rfl,g3⟩
   have G3:=Xh (Gr.trans G2.out g3);clear g3 d2
   go_wp2_with fail
   go_ret2
   exact⟨none,0,0,rfl,Sl.nil _ _,G3.out,Ub.nil _⟩
end
end
end Go.Proofs.YtipdlnejmcmbbaaGreatDoor
