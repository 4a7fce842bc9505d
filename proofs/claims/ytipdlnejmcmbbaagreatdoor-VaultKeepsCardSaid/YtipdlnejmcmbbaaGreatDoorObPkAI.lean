/- Own texts, one behind the other. No condition. -/
import Derived.Test.YtipdlnejmcmbbaaGreatDoorObPkAH
import Derived.Lib.ConvBytes
set_option linter.unusedVariables false
set_option maxRecDepth 100000
set_option maxHeartbeats 8000000
set_option linter.unusedSimpArgs false
namespace Go.Proofs.YtipdlnejmcmbbaaGreatDoor
section
open Go.RowKit
theorem bTy {w:World} {b:Nat} {t t':TypeId} {cs cs':List Value} (h:Blk w b t cs) (k:Blk w b t' cs'):t=t':=by
 unfold Blk at h k
 rw[h] at k
 injection k with k
 injection k
theorem fV {w:World} {b:Nat} {o:Obj} (h:w.heap[b]?=some o):b<w.heap.size:=(Array.getElem?_eq_some_iff.1 h).1
theorem Bs.stay {w w':World} {A:Option Addr} {n c:Nat} {l:List UInt8} (h:Bs w A n c l) (u:∀b o,0<n→A=some ⟨b,o,none⟩→w'.heap[b]?=w.heap[b]?):Bs w' A n c l:=
 ⟨h.1,h.2.1,h.2.2.1,fun h0=>by
  obtain⟨b,o,e,hc⟩:=h.2.2.2 h0
  exact⟨b,o,e,fun j x hx=>(World.cell?_of_block (w:=w) (a:=⟨b,o+j,none⟩) (u b o h0 e)).trans (hc j x hx)⟩⟩
theorem gJ {n:Nat} {w0 w w':World} (h:Below n w0 w) (h':Below n w0 w') (hs:w.heap.size≤w'.heap.size):Below 0 w w':=
 ⟨h'.os.trans h.os.symm,h'.tape.trans h.tape.symm,h'.output.trans h.output.symm,hs,fun k hk=>absurd hk (Nat.not_lt_zero _)⟩
theorem Own.stay {w0 w w':World} {e:TypeId} {s n:Nat} {v:Value} {xs:List Value} (h:Own w0 w e s v n xs) (hb:Below w0.heap.size w0 w') (hs:w.heap.size≤w'.heap.size) (hk:∀b,v.ownBlock=some b→w'.heap[b]?=w.heap[b]?):Own w0 w' e s v n xs:=by
 refine Own.tch (S:=fun b=>¬(w'.heap[b]?=w.heap[b]?)) h ⟨gJ h.2 hb hs,fun b _ hn=>Classical.not_not.1 hn⟩ (fun b hn=> ?_) (fun b e hn=>hn (hk b e))
 by_cases hlt:w0.heap.size≤b
 · exact hlt
 · exact absurd ((hb.block b Xf).trans (h.2.block b Xf).symm) hn
theorem Own.ge {w0 w:World} {e:TypeId} {s n:Nat} {v:Value} {xs:List Value} (h:Own w0 w e s v n xs) {b:Nat} (hb:v.ownBlock=some b):w0.heap.size≤b:=by
 rcases h.1.2 with⟨h1,_⟩| ⟨g',cap,cur,hv',hg,hh,_⟩
 · rw[h1] at hb;cases hb
 · rw[hv'] at hb
   have :g'=b:=Option.some.inj hb
   omega
theorem bF.off {S:Nat→Prop} {w0 w w':World} {p g bm bs:Nat} {T:List Nd} {es:Array MapEntry} {ck:Nat} (h:bF w0 w p g bm bs T) (k:Tch S w w') (hS:∀b,S b→w0.heap.size≤b) (hne:bs≠bm) (hm:w.heap[bs]?=some (.map es ck))
 (hn:∀b,S b→(∃t cs,Blk w b t cs∧t≠66∧t≠87∧t≠20∧t≠3)∨b=bs):bF w0 w' p g bm bs T:=by
 obtain⟨vl,vs,ht⟩:=h.t
 have key:∀b t cs,Blk w b t cs→(t=66∨t=87∨t=20∨t=3)→¬S b:=fun b t cs hb ht hs=>by
  rcases hn b hs with⟨t',cs',hb',h1,h2,h3,h4⟩|rfl
  · have :=bTy hb hb'
    subst this
    rcases ht with q|q|q|q
    · exact h1 q
    · exact h2 q
    · exact h3 q
    · exact h4 q
  · unfold Blk at hb
    rw[hb] at hm
    cases hm
 have kbm:¬S bm:=fun hs=>by
  rcases hn bm hs with⟨t',cs',hb',_⟩|e
  · exact ht.m.vw hb' rfl
  · exact hne e.symm
 exact⟨h.blk.tch k (key _ _ _ h.blk (.inl rfl)),⟨vl,vs,⟨⟨ht.x.blk.tch k (key _ _ _ ht.x.blk (.inr (.inl rfl))),ht.x.l.tch k hS (fun b hb=>by obtain⟨cs,q⟩:=ht.x.l.aA hb;exact key _ _ _ q (.inr (.inr (.inl rfl)))),ht.x.s.tch k hS (fun b hb=>by obtain⟨cs,q⟩:=ht.x.s.aA hb;exact key _ _ _ q (.inr (.inr (.inr rfl)))),ht.x.ge,ht.x.gm⟩,ht.m.keep (k.keep bm ht.m.lt kbm)⟩⟩,h.i⟩
theorem bF.Mk {w0 w:World} {p g bm bs:Nat} {T:List Nd} (h:bF w0 w p g bm bs T):∃es ck,w.heap[bm]?=some (.map es ck):=by
 obtain⟨vl,vs,ht⟩:=h.t
 obtain⟨es,ck,hb,_⟩:=ht.m
 exact⟨es,ck,hb⟩
end
section
open Go.RowKit
def Ub (w:World) (A:Option Addr):Prop:=∀b o,A=some ⟨b,o,none⟩→∃a m,w.heap[b]?=some (.cells a 5 m)
theorem Ub.nil (w:World):Ub w none:=fun b o h=>by cases h
theorem Ub.mono {w w':World} {A:Option Addr} (h:Ub w A) (g:Gr w w'):Ub w' A:=fun b o e=>by
 obtain⟨a,m,k⟩:=h b o e
 exact⟨a,m,(g.block b (Array.getElem?_eq_some_iff.1 k).1).trans k⟩
theorem Ub.own {w0 w:World} {A:Option Addr} {n m c:Nat} {xs:List Value} (h:Own w0 w 5 1 (.slice A n c) m xs):Ub w A:=fun b o e=>by
 rcases h.1.2 with⟨q,_⟩| ⟨g',cap,cur,hv',_,hh,_⟩
 · injection q with q;rw[q] at e;cases e
 · injection hv' with q;rw[q] at e;injection e with e;injection e with e _
   subst e
   exact⟨_,_,hh⟩
theorem Ub.keep {w w':World} {A:Option Addr} (h:Ub w A) (k:∀(b:Nat) (a:Array Value) (m:Nat×Nat),w.heap[b]?=some (.cells a 5 m)→w'.heap[b]?=w.heap[b]?):Ub w' A:=fun b o e=>by
 obtain⟨a,m,q⟩:=h b o e
 exact⟨a,m,(k b a m q).trans q⟩
theorem Ub.ne {w:World} {A:Option Addr} {g:Nat} {t:TypeId} {cs:List Value} (h:Ub w A) (hg:Blk w g t cs) (ht:t≠5):∀b o,A=some ⟨b,o,none⟩→b≠g:=fun b o e q=>by
 obtain⟨a,m,z⟩:=h b o e
 unfold Blk at hg
 rw[q,hg] at z
 injection z with z
 injection z with _ z _
 exact ht z
end
section
open Go.RowKit
theorem Fh {P:Program} (s:ByteArray) (t:TypeId) (hs:P.underlying 9=some .string) (hd:P.underlying t=some (.slice 5)) (he:P.underlying 5=some (.int .u8)) (hm:s.size≤maxLen):
 ∃(cf:World→Nat) (wf:World→World),∀w,(convert 9 t (.string s)).run P w= .ok (.slice (some ⟨w.heap.size,0,none⟩) s.size (cf w)) (wf w)∧Bs (wf w) (some ⟨w.heap.size,0,none⟩) s.size (cf w) s.data.toList∧Gr w (wf w)∧Ub (wf w) (some ⟨w.heap.size,0,none⟩):=by
 refine⟨fun w=>grownCap w s.size 0 5,fun w=>Lib.bytesWorld w 5 s,fun w=>⟨Lib.run_convert_string_bytes w 9 t 5 s hs hd he,⟨by simp,grownCap_ge _ _ _ _,grownCap_le_maxLen _ _ _ _ hm,fun _=>⟨_,_,rfl,fun j u hu=> ?_⟩⟩,?_,fun b o e=> ?_⟩⟩
 · rw[Nat.zero_add]
   have hj:j<s.size:=by have :=(List.getElem?_eq_some_iff.1 hu).1;simpa using this
   rw[Lib.bytesWorld_cell w 5 s j hj,←hu]
   exact (Qj (l:=s.data.toList) (by simpa using hj)).symm
 · have h1:=run_bytes_of_string (P:=P) w 9 t 5 s hs hd he
   have h2:=Lib.run_convert_string_bytes (P:=P) w 9 t 5 s hs hd he
   rw[h1] at h2
   injection h2 with _ h3
   show Below w.heap.size w (Lib.bytesWorld w 5 s)
   rw[←h3]
   exact ((Below.refl _ _).drew).alloc (Nat.le_refl _) _
 · cases e;exact⟨_,_,Lib.bytesWorld_at_new _ _ _⟩
def WW (w:World) (l:List UInt8) (e:Ending) (w':World):Prop:=∃A n c,e= .returned (.slice A n c)∧Bs w' A n c l∧Gr w w'∧Ub w' A
section
variable {w0 w:World} {p g bm bs:Nat} {T:List Nd}
theorem bF.held (h:bF w0 w p g bm bs T) (id:Nat) (hid:id≤100000) (hsz:∀x∈T,x.s.size≤maxLen):
 Calls Tryz.prog 138 #[.pointer (some ⟨p,0,none⟩),.int .i64 (id:Int)] w (WW w (fJ T id)):=by
 have HK:=Xh (sU g T (id:Int) w h.rd h.i.kinds ⟨Xf,Xf⟩)
 have HLB:=Xh (fun wr (k:Gr w wr)=>OB g T (id:Int) wr (h.rd.mono k) h.i.kinds ⟨Xf,Xf⟩)
 have HH:=Xh (fun wr=>lS id wr Xf)
 have HC0:=Xh (fun wr (k:Gr w wr)=>(h.gr k).c0)
 have c0:=h.c0
 have hs:(lJ T (id:Int)).size≤maxLen:=by
  unfold lJ
  split
  · exact Nat.zero_le _
  · split
    · next x hx=>
      split
      · exact hsz x (List.mem_of_getElem? hx)
      · exact Nat.zero_le _
    · exact Nat.zero_le _
 unfold fJ
 clear h
 by_cases hk:kindOf T (id:Int)=2
 · rw[if_pos hk]
   rw[hk] at HK
   generalize lJ T (id:Int)=s at *
   obtain⟨cf,wf,hcv0⟩:=Fh (P:=Tryz.prog) s 43 Tryz.underlying9 Tryz.underlying43 Tryz.underlying5 hs
   have hcv:=fun W=>(hcv0 W).1
   have HCV:=Xh (fun W=>(hcv0 W).2)
   clear hcv0 hk hs
   go_in
   go_wp2_with fail
   refine HK.out.mono ?_
   rintro e w1 ⟨rfl,g1⟩
   have G1:=Xh g1
   have d0:=HC0.out w1 g1
   clear g1 c0
   go_wp2_with fail
   refine (HLB.out _ G1.out).mono ?_
   rintro e w2 ⟨rfl,g2⟩
   have G2:=Xh (Gr.trans G1.out g2);clear g2
   go_wp2_with fail
   go_ret
   exact⟨_,_,_,rfl,(HCV.out w2).1,Gr.trans G2.out (HCV.out w2).2.1,(HCV.out w2).2.2⟩
 · rw[if_neg hk]
   obtain⟨q,hq⟩:∃q,q=kindOf T (id:Int):=⟨_,rfl⟩
   rw[←hq] at HK hk
   have t1:((q:Int)==2)=false:=by rw[beq_eq_false_iff_ne];omega
   clear hq
   go_in
   go_wp2_with fail
   refine HK.out.mono ?_
   rintro e w1 ⟨rfl,g1⟩
   have G1:=Xh g1;clear g1
   go_wp2_with fail
   refine (HH.out _).mono ?_
   rintro e w2 ⟨v2,rfl,o2⟩
   have G2:=Xh (Gr.trans G1.out o2.below)
   obtain⟨A2,c2,rfl,s2⟩:=o2.slice
   have S2:=Xh s2;have U2:=Xh (Ub.own o2)
   clear o2 s2
   go_wp2_with fail
   go_ret
   exact⟨_,_,_,rfl,S2.out,G2.out,U2.out⟩
end
end
section
open Go.RowKit
structure Tn (T:List Nd) (id pa pb:Nat) (key text b:List UInt8):Prop where
 tm:bD T (b.take 32)=id
 kd:kindOf T (id:Int)=5
 pr:partsOf T (id:Int)=[pa,pb]
 hb:b=gy (aC id) b.length
 ha:fJ T pa=key
 ht:fJ T pb=text
 bl:b.length=text.length+48
 le:id≤100000∧pa≤100000∧pb≤100000
theorem Rf {T:List Nd} (hn:T.length≤90000) (key text:List UInt8):∃id pa pb,∀T',Onto (bI T key text).1 T'→T'.length≤100000→Tn T' id pa pb key text (gX T key text):=by
 obtain⟨xa,ha,hha⟩:=of_held T key
 obtain⟨xb,hb,hhb⟩:=of_held (ofT T key).1 text
 have oA:Onto (ofT T key).1 (bI T key text).1:=(wI _ text).trans (uV _ _ _ _)
 have oB:Onto (ofT (ofT T key).1 text).1 (bI T key text).1:=uV _ _ _ _
 have hA2:=ha.onto (wI _ text)
 have hany:[((ofT T key).2:Int),((ofT (ofT T key).1 text).2:Int)].any (outside (ofT (ofT T key).1 text).1.length)=false:=by
  simp only[List.any_cons,List.any_nil,Bool.or_false,hA2.out,hb.out,Bool.or_self]
 obtain⟨y,hy,hs⟩:=Qq (T:=(ofT (ofT T key).1 text).1) (x:=⟨5,(ofT T key).2,(ofT (ofT T key).1 text).2,ByteArray.empty,0⟩) hany (show (5:Nat)≠1 by decide)
 have hE:bI T key text=fZ (ofT (ofT T key).1 text).1 ⟨5,(ofT T key).2,(ofT (ofT T key).1 text).2,ByteArray.empty,0⟩ [((ofT T key).2:Int),((ofT (ofT T key).1 text).2:Int)]:=by
  unfold bI pairT
  rw[hA2.out,hb.out]
  simp only[Bool.or_self,Bool.false_eq_true,if_false,Int.toNat_natCast]
 rw[←hE] at hy
 have hq:=Ka hs
 simp only at hq
 refine⟨(bI T key text).2,(ofT T key).2,(ofT (ofT T key).1 text).2,fun T' hO hlen=> ?_⟩
 have hbl:(gX T key text).length=text.length+48:=iL _ _
 have htk:(gX T key text).take 32=aC (bI T key text).2:=by
  have :=QX (aC (bI T key text).2) (text.length+48) (by rw[cO];omega)
  rwa[cO] at this
 have hy2:=hy.onto hO
 have hterm:=Jr hy2 hlen (by rw[hq.1];decide) (by rw[hq.1];decide)
 have hpar:y.parts=[(ofT T key).2,(ofT (ofT T key).1 text).2]:=by
  unfold Nd.parts
  rw[hq.1,hq.2.1,hq.2.2.1]
  rfl
 exact⟨by rw[htk,hterm],by rw[hy2.kind,hq.1],by rw[hy2.parts,hpar],by rw[hbl];rfl,by rw[ha.Cn (oA.trans hO),hha],by rw[hb.Cn (oB.trans hO),hhb],hbl,
  by have :=hy2.2.1;omega,by have :=(ha.onto (oA.trans hO)).2.1;omega,by have :=(hb.onto (oB.trans hO)).2.1;omega⟩
section
variable {w0 w:World} {p g bm bs:Nat} {T:List Nd}
end
end
section
open Go.RowKit Go.Maps
theorem OH {P:Program} {o:Oper} {a:Act} {w w1:World} {K:Act→World→Prop} {Q:Exit→Act→World→Prop} {t:TypeId} {m k x:Operand} (hop:o.op=Op.mapUpdate t m k x) (hrun:(Instr.mapUpdate t (a.eval m) (a.eval k) (a.eval x)).run P w= .ok () w1)
 (h:K (a.put o.dst undef) w1):o.wp P a w K Q:=by
 unfold Oper.wp
 simp[execOp,hop,hrun,Result.andThen]
 exact h
abbrev wB:Obj:= .cells #[.int .u8 255,.int .u8 253] 5 (2,3)
theorem TQ (w:World):Sl (w.alloc wB) (some ⟨w.heap.size,0,none⟩) 2 2 1 (([255,253]:List UInt8).map u8c):=by
 refine⟨rfl,Nat.le_refl _,Xg,fun _=>⟨_,_,rfl,fun j u hu=> ?_⟩⟩
 change [Value.int .u8 255,.int .u8 253][j]?=some u at hu
 have hj:(w.alloc wB).heap[w.heap.size]?=some wB:=heap_alloc_new w _
 simp only[World.cell?,hj,Nat.zero_add]
 rw[if_neg Xg]
 simpa using hu
section
variable {w0 w:World} {p g bs:Nat}
theorem Fe (hb:Blk w p 66 [.pointer (some ⟨g,0,none⟩),.map (some bs),.pointer none]):Calls Tryz.prog 87 #[.pointer (some ⟨p,0,none⟩)] w fun e w'=>e= .returned (.bool false)∧w=w':=by
 have c0:w.cell? ⟨p,0,none⟩=some (.pointer (some ⟨g,0,none⟩)):=(hb.cell 0).trans rfl
 have c2:w.cell? ⟨p,2,none⟩=some (.pointer none):=(hb.cell 2).trans rfl
 clear hb
 go_in
 go_wp2_with fail
 go_ret
 exact⟨rfl,rfl⟩
theorem ER (hb:Blk w p 66 [.pointer (some ⟨g,0,none⟩),.map (some bs),.pointer none]):Calls Tryz.prog 88 #[.pointer (some ⟨p,0,none⟩)] w fun e w'=>e= .returned (.bool false)∧w=w':=by
 have c2:w.cell? ⟨p,2,none⟩=some (.pointer none):=(hb.cell 2).trans rfl
 clear hb
 go_in
 go_wp2_with fail
 go_ret
 exact⟨rfl,rfl⟩
theorem uD:Keyed Tryz.prog 9:=string_keyed Tryz.underlying9
theorem VE {s:ByteArray} (h:s.size≤maxLen):keyOf Tryz.prog 9 (.string s)=some (.string s.data.toList):=Go.WideMaps.keyOf_string_mk Tryz.underlying9 h
theorem gM {w:World} {P:Program} {k b n:Nat} {D:DataW Value} (h:w.ownsMap P k Rv b n D):w.drew.ownsMap P k Rv b n D:=h
end
end
section
open Go.RowKit
def dO (S:List (List UInt8)) (b:List UInt8):Option Nat:=S.findIdx? (fun l=>l==b)
def WZ:Option Nat→Int
 |some i=>(i:Int)
 |none=> -1
theorem Qp {S:List (List UInt8)} {b l:List UInt8} {k:Nat} (h:S[k]?=some l) (e:(l==b)=true) (hp:∀(j:Nat) (l':List UInt8),j<k→S[j]?=some l'→(l'==b)=false):dO S b=some k:=by
 unfold dO
 rw[List.findIdx?_eq_some_iff_getElem]
 have hk:=(List.getElem?_eq_some_iff.1 h).1
 refine⟨hk,?_,fun j hj=> ?_⟩
 · have :=(List.getElem?_eq_some_iff.1 h).2
   rw[this];exact e
 · have hj':j<S.length:=by omega
   rw[hp j S[j] hj (List.getElem?_eq_getElem hj')]
   decide
theorem Ku {S:List (List UInt8)} {b:List UInt8} {k:Nat} (h:dO S b=some k):k<S.length:=by
 unfold dO at h
 rw[List.findIdx?_eq_some_iff_getElem] at h
 exact h.1
def jC (i:Nat):List UInt8:=[255,253]++be i 6
theorem jf (i:Nat):(jC i).length=8:=by unfold jC;rw[List.length_append,aQ];rfl
def r9 (S:List (List UInt8)) (b:List UInt8):List (List UInt8):=match dO S b with
 |some _=>S
 |none=>S++ [b]
def nU (S:List (List UInt8)) (b:List UInt8):Nat:=match dO S b with
 |some i=>i
 |none=>S.length
theorem Og {S:List (List UInt8)} {b:List UInt8} (h:dO S b=none):dO (S++ [b]) b=some S.length:=by
 refine Qp (l:=b) (by rw[List.getElem?_append_right (Nat.le_refl _)];simp) (by simp) (fun j l' hj he=> ?_)
 rw[List.getElem?_append_left hj] at he
 unfold dO at h
 rw[List.findIdx?_eq_none_iff] at h
 exact h l' (List.mem_of_getElem? he)
def mO (S:List (List UInt8)) (b s:List UInt8):Bool:=match dO S b with
 |some i=>jC i==s
 |none=>false
end
section
open Go.RowKit Go.Maps
def eZ (w:World) (bs:Nat) (S:List (List UInt8)):Prop:=∃D:DataW Value,Tidy D∧Maps.size D=S.length∧(∀b:List UInt8,has D (.string b)=(dO S b).isSome)∧(∀b:List UInt8,D.atKey (.string b) (.held (.int .i64 0))= .held (.int .i64 (((dO S b).getD 0:Nat):Int)))∧w.ownsMap Tryz.prog 9 Rv bs S.length D
theorem eZ.nil {w:World} {bs:Nat} (h:w.heap[bs]?=some (.map #[] 0)):eZ w bs []:=
 ⟨.map [],tidy_empty,rfl,fun b=>rfl,fun b=>rfl,#[],0,h,⟨by simp,MapKept.stamped_empty 0,by simp⟩,Nat.le_refl _,rfl⟩
theorem eZ.keep {w w':World} {bs:Nat} {S:List (List UInt8)} (h:eZ w bs S) (e:w'.heap[bs]?=w.heap[bs]?):eZ w' bs S:=by
 obtain⟨D,h1,h2,h3,h4,es,clock,hb,hr⟩:=h
 exact⟨D,h1,h2,h3,h4,es,clock,e.trans hb,hr⟩
theorem eZ.map {w:World} {bs:Nat} {S:List (List UInt8)} (h:eZ w bs S):∃es clock,w.heap[bs]?=some (.map es clock):=by
 obtain⟨D,h1,h2,h3,h4,es,clock,hb,hr⟩:=h
 exact⟨es,clock,hb⟩
theorem eZ.lt {w:World} {bs:Nat} {S:List (List UInt8)} (h:eZ w bs S):bs<w.heap.size:=by
 obtain⟨es,clock,hb⟩:=h.map
 exact (Array.getElem?_eq_some_iff.1 hb).1
theorem eZ.iV {w:World} {bs:Nat} {S:List (List UInt8)} (h:eZ w bs S) (t:TypeId) (cs:List Value):¬Blk w bs t cs:=fun k=>by
 obtain⟨es,clock,hb⟩:=h.map
 unfold Blk at k
 rw[k] at hb
 cases hb
theorem eZ.gr {w w':World} {bs:Nat} {S:List (List UInt8)} (h:eZ w bs S) (g:Gr w w'):eZ w' bs S:=h.keep (g.block bs h.lt)
theorem eZ.kz {w w':World} {g bs bm:Nat} {S:List (List UInt8)} (h:eZ w bs S) (hn:bs≠bm) (k:KZ g bm w w'):eZ w' bs S:=h.keep (k.2 bs h.lt hn (fun t cs q=>absurd q (h.iV t cs)))
theorem Fx {S:List (List UInt8)} {b:List UInt8} (h:dO S b=none) (c:List UInt8):dO (S++ [b]) c=if c=b then some S.length else dO S c:=by
 by_cases e:c=b
 · subst e;rw[if_pos rfl,Og h]
 · rw[if_neg e]
   unfold dO
   rw[List.findIdx?_append]
   have e1:([b]:List (List UInt8)).findIdx? (fun l=>l==c)=none:=by
    rw[List.findIdx?_eq_none_iff]
    intro x hx
    rw[List.mem_singleton] at hx
    subst hx
    rw[beq_eq_false_iff_ne]
    exact fun q=>e q.symm
   rw[e1]
   cases S.findIdx? (fun l=>l==c)<;>rfl
theorem eZ.put {w:World} {S:List (List UInt8)} {D:DataW Value} {b:List UInt8} {bs:Nat} (h1:Tidy D) (h2:Maps.size D=S.length) (h3:∀c:List UInt8,has D (.string c)=(dO S c).isSome) (h4:∀c:List UInt8,D.atKey (.string c) (.held (.int .i64 0))= .held (.int .i64 (((dO S c).getD 0:Nat):Int))) (hb:dO S b=none)
 (ho:w.ownsMap Tryz.prog 9 Rv bs (S.length+1) (D.put (.string b) (.held (.int .i64 (S.length:Int))))):eZ w bs (S++ [b]):=by
 have hk:WideAt.IsKeyLit (Lit.string b):=trivial
 refine⟨D.put (.string b) (.held (.int .i64 (S.length:Int))),h1.put hk _,?_,fun c=> ?_,fun c=> ?_,?_⟩
 · rw[size_put h1,h3 b,hb,List.length_append,h2]
   rfl
 · rw[Fx hb]
   by_cases e:c=b
   · subst e
     rw[if_pos rfl,has_put_same h1.isMap hk]
     rfl
   · rw[if_neg e,has_put_other (by intro q;injection q with q;exact e q),h3 c]
 · rw[Fx hb]
   by_cases e:c=b
   · subst e
     rw[if_pos rfl]
     exact atKey_put_same h1.isMap hk _ _
   · rw[if_neg e,←h4 c]
     exact atKey_put_other (by intro q;injection q with q;exact e q) _ _
 · rw[List.length_append]
   exact ho
theorem yN (n:Nat) (w:World) (hn:n≤100000):Calls Tryz.prog 244 #[.int .i64 (n:Int)] w (fK w (jC n)):=by
 have e1:mV (n:Int) 6=be n 6:=by unfold mV;rw[if_pos Xg];rfl
 have hb6:(be n 6).length=6:=aQ 6 n
 have HP:=Xh (kV (n:Int) 6 (w.alloc wB) Xf Xf)
 rw[e1] at HP
 have HM:=Xh (TQ w)
 have HG:=Xh (Gr.alloc w wB)
 have hcv:=fun (W:World) (C:Array Value) (n c:Nat)=>Lib.run_convert_bytes_const (P:=Tryz.prog) W 43 5 C n c Tryz.underlying43 Tryz.underlying5
 have hwr:IntKind.u64.wrap (n:Int)=n:=IntWalk.u64_in _ Xf
 clear e1
 go_in
 go_wp2_with fail
 refine HP.out.mono ?_
 rintro e w1 ⟨v1,rfl,o1⟩
 rw[hb6] at o1
 have G1:Hid (Gr (w.alloc wB) w1):=o1.below
 have M1:=Xh (HM.out.mono o1.below)
 obtain⟨A1,c1,rfl,s1⟩:=o1.slice
 have S1:Hid (Sl w1 A1 6 c1 1 ((be n 6).map u8c)):=s1
 clear o1 s1
 go_wp2_with (at_builtin;refine rz rfl (.tmp 4) (.tmp 7) 43 rfl bC rfl M1.out Xf rfl S1.out Xf Xf Xf ?_;intro v2 w2 own2;rw[←List.map_append] at own2;have O2:=Xh own2;clear own2)
 go_ret
 exact⟨_,rfl,by rw[jf];exact O2.out.base (Gr.trans HG.out G1.out)⟩
section
variable {w0 w:World} {p g bs:Nat}
theorem Sw {S:List (List UInt8)} (hb:Blk w p 66 [.pointer (some ⟨g,0,none⟩),.map (some bs),.pointer none]) (hm:eZ w bs S) (hS:S.length≤90000) (A:Option Addr) (n c:Nat) (text:List UInt8) (ht:Bs w A n c text):
 Calls Tryz.prog 167 #[.pointer (some ⟨p,0,none⟩),.slice A n c] w fun e w'=>
  ∃A' c',e= .returned (.slice A' 8 c')∧Bs w' A' 8 c' (jC (nU S text))∧eZ w' bs (r9 S text)∧Tch (fun b=>b=bs) w w':=by
 have hl:text.length=n:=by have :=ht.len;simpa using this
 have hcp:=ht.cap;have hmx:=ht.max
 have HN:=Xh (Fe hb);have HR:=Xh (ER hb)
 have c1:w.cell? ⟨p,1,none⟩=some (.map (some bs)):=(hb.cell 1).trans rfl
 have hkey:=VE (s:=⟨text.toArray⟩) (by show text.length≤_;simp only[maxLen];omega)
 have hpbs:p≠bs:=fun e=>by subst e;exact hm.iV _ _ hb
 have HMM:=Xh hm
 have HTX:=Xh ht;have HBL:=Xh hb
 have hc5:=cZ Tryz.underlying43 Tryz.underlying5 Tryz.underlying9 (ht.mono (Gr.drew w))
 clear hb ht
 cases hnl:dO S text with
 |some i=>
  have hi:i<S.length:=Ku hnl
  have HSI:Hid (nU S text=i):=by show _=_;unfold nU;rw[hnl]
  have HSS:Hid (r9 S text=S):=by show _=_;unfold r9;rw[hnl]
  obtain⟨D,hti,hsz,hhas0,hat,hown⟩:=hm
  obtain⟨v5,ps5,hlook,hRv⟩:=(gM hown).look_ok uD Tryz.underlying61 (z:= .int .i64 0) Xe (zd:= .held (.int .i64 0)) (zp:=[]) rfl hkey
  have hv5:v5= .int .i64 (((dO S text).getD 0:Nat):Int):=by
   unfold Rv at hRv
   injection hRv with hRv
   injection hRv with h1 h2
   have h3:D.atKey (.string (⟨text.toArray⟩:ByteArray).data.toList) (.held (.int .i64 0))= .held (.int .i64 (((dO S text).getD 0:Nat):Int)):=hat text
   rw[h3] at h1
   injection h1
  subst hv5
  have hhas:has D (.string (⟨text.toArray⟩:ByteArray).data.toList)=(dO S text).isSome:=hhas0 text
  rw[hhas] at hlook
  rw[hnl] at hlook
  simp only[Option.isSome_some,Option.getD_some] at hlook
  have HMK:=Xh (fun W=>yN i W Xf)
  clear hnl hsz hhas0 hat hown hti hhas hRv
  go_in
  go_wp2_with fail
  refine HN.out.mono ?_
  rintro e w1 ⟨rfl,h1⟩
  subst h1
  go_wp2_with fail
  refine HR.out.mono ?_
  rintro e w1 ⟨rfl,h1⟩
  subst h1
  go_upto_region 5 with fail
  refine wrP Xe (fun w'=>w'=w.drew) (fun i=>i==4 || i==6 || i==7) (fun _=>false) [0,1,2,3,5,4,6,7,8,9,10,11,12] 0 Xe Xe Xe rfl ?_
  refine rP ?_
  refine rP ?_
  refine rP ?_
  refine rP ?_
  refine rP ?_
  refine rQ (fun _ hq=>hq) ?_
  refine rQ (fun _ hq=>hq) ?_
  refine rQ (fun _ hq=>hq) ?_
  refine rP ?_
  refine rP ?_
  refine rP ?_
  refine rP ?_
  refine rP ?_
  refine dQ ?_
  refine aR Xe ?_
  clear hlook hc5
  go_wp2_with fail
  refine (HMK.out _).mono ?_
  rintro e w9 ⟨v9,rfl,o9⟩
  rw[jf] at o9
  obtain⟨A9,c9,rfl,s9⟩:=o9.slice
  have HF:Hid (Bs w9 A9 8 c9 (jC i)∧eZ w9 bs S∧Tch (fun b=>b=bs) w w9):=⟨s9,HMM.out.gr ((Gr.drew w).trans o9.below),Tch.gr ((Gr.drew w).trans o9.below)⟩
  clear o9 s9
  go_wp2_with fail
  go_ret
  exact⟨_,_,rfl,by rw[HSI.out];exact HF.out.1,by rw[HSS.out];exact HF.out.2.1,HF.out.2.2⟩
 |none=>
  have HSI:Hid (nU S text=S.length):=by show _=_;unfold nU;rw[hnl]
  have HSS:Hid (r9 S text=S++ [text]):=by show _=_;unfold r9;rw[hnl]
  obtain⟨D,hti,hsz,hhas0,hat,hown⟩:=hm
  obtain⟨v5,ps5,hlook,hRv⟩:=(gM hown).look_ok uD Tryz.underlying61 (z:= .int .i64 0) Xe (zd:= .held (.int .i64 0)) (zp:=[]) rfl hkey
  have hv5:v5= .int .i64 (((dO S text).getD 0:Nat):Int):=by
   unfold Rv at hRv
   injection hRv with hRv
   injection hRv with h1 h2
   have h3:D.atKey (.string (⟨text.toArray⟩:ByteArray).data.toList) (.held (.int .i64 0))= .held (.int .i64 (((dO S text).getD 0:Nat):Int)):=hat text
   rw[h3] at h1
   injection h1
  subst hv5
  have hhas:has D (.string (⟨text.toArray⟩:ByteArray).data.toList)=(dO S text).isSome:=hhas0 text
  rw[hhas] at hlook
  rw[hnl] at hlook
  simp only[Option.isSome_none,Option.getD_none] at hlook
  have HMK:=Xh (fun W=>yN S.length W Xf)
  have HOW:=Xh hown
  have HPU:=Xh (fun w'=>eZ.put (w:=w') (bs:=bs) hti hsz hhas0 hat hnl)
  have HSZ:=Xh hsz
  clear hnl hsz hhas0 hat hown hti hhas hRv
  go_in
  go_wp2_with fail
  refine HN.out.mono ?_
  rintro e w1 ⟨rfl,h1⟩
  subst h1
  go_wp2_with fail
  refine HR.out.mono ?_
  rintro e w1 ⟨rfl,h1⟩
  subst h1
  go_upto_region 5 with fail
  refine wrP Xe (fun w'=>w'=w.drew) (fun i=>i==4 || i==6 || i==7) (fun _=>false) [0,1,2,3,5,4,6,7,8,9,10,11,12] 0 Xe Xe Xe rfl ?_
  refine rP ?_
  refine rP ?_
  refine rP ?_
  refine rP ?_
  refine rP ?_
  refine rQ (fun _ hq=>hq) ?_
  refine rQ (fun _ hq=>hq) ?_
  refine rQ (fun _ hq=>hq) ?_
  refine rP ?_
  refine rP ?_
  refine rP ?_
  refine rP ?_
  refine rP ?_
  refine dQ ?_
  refine aR Xe ?_
  have hlen:=(gM HOW.out).len (t:=61) (e:=3) Tryz.underlying61 3
  rw[HSZ.out] at hlen
  have d1:w.drew.cell? ⟨p,1,none⟩=some (.map (some bs)):=c1
  have d2:w.drew.drew.cell? ⟨p,1,none⟩=some (.map (some bs)):=c1
  have hc8:=cZ Tryz.underlying43 Tryz.underlying5 Tryz.underlying9 (HTX.out.mono ((Gr.drew w).trans (Gr.drew _)))
  obtain⟨w8,hrun8,own8,gr8⟩:=(gM (gM HOW.out)).update uD Tryz.underlying61 (by unfold maxLen;omega) hkey (val:= .int .i64 (S.length:Int)) (d:= .held (.int .i64 (S.length:Int))) (ps:=[]) rfl
  have T8:Tch (fun b=>b=bs) w w8:=(Tch.gr ((Gr.drew w).trans (Gr.drew _))).trans (Tch.grown gr8 (fun b e=>by injection e with e;exact e.symm))
  have HT8:=Xh T8
  have HO8:=Xh (HPU.out w8 own8)
  clear hlook hc5 own8 gr8 T8
  go_upto_region 8 with fail
  refine wrP Xe (fun w'=>w'=w.drew.drew) (fun i=>i==4 || i==6) (fun i=>i==8) [0,1,2,3,5,7,4,6] 1 Xe Xe Xe rfl ?_
  refine rP ?_
  refine rP ?_
  refine rP ?_
  refine rP ?_
  refine rP ?_
  refine rP ?_
  refine rQ (fun _ hq=>hq) ?_
  refine rQ (fun _ hq=>hq) ?_
  refine dQ ?_
  refine wR1 (i:=8) Xe rfl rfl ?_
  intro K hK
  refine OH (w1:=w8) rfl (by exact hrun8) ?_
  refine hK _ _ (fun h=>absurd h Xg) ?_
  clear hK
  go_simp
  refine aR Xe ?_
  go_wp2_with fail
  refine (HMK.out w8).mono ?_
  rintro e w9 ⟨v9,rfl,o9⟩
  rw[jf] at o9
  obtain⟨A9,c9,rfl,s9⟩:=o9.slice
  have HF:Hid (Bs w9 A9 8 c9 (jC S.length)∧eZ w9 bs (S++ [text])∧Tch (fun b=>b=bs) w w9):=⟨s9,HO8.out.gr o9.below,HT8.out.trans (Tch.gr o9.below)⟩
  clear o9 s9
  go_wp2_with fail
  go_ret
  exact⟨_,_,rfl,by rw[HSI.out];exact HF.out.1,by rw[HSS.out];exact HF.out.2.1,HF.out.2.2⟩
theorem MF {S:List (List UInt8)} (hb:Blk w p 66 [.pointer (some ⟨g,0,none⟩),.map (some bs),.pointer none]) (hm:eZ w bs S) (hS:S.length≤90000) (A B:Option Addr) (n c m d:Nat) (text s:List UInt8) (ht:Bs w A n c text) (hs:Bs w B m d s):
 Calls Tryz.prog 299 #[.pointer (some ⟨p,0,none⟩),.slice A n c,.slice B m d] w fun e w'=>e= .returned (.bool (mO S text s))∧Gr w w':=by
 have hl:text.length=n:=by have :=ht.len;simpa using this
 have hcp:=ht.cap;have hmx:=ht.max
 have HN:=Xh (Fe hb);have HR:=Xh (ER hb)
 have c1:w.cell? ⟨p,1,none⟩=some (.map (some bs)):=(hb.cell 1).trans rfl
 have hkey:=VE (s:=⟨text.toArray⟩) (by show text.length≤_;simp only[maxLen];omega)
 have HSX:=Xh hs
 have hc5:=cZ Tryz.underlying43 Tryz.underlying5 Tryz.underlying9 (ht.mono (Gr.drew w))
 clear hb ht hs
 obtain⟨r,hr⟩:∃r,r=mO S text s:=⟨_,rfl⟩
 rw[←hr]
 unfold mO at hr
 cases hnl:dO S text with
 |some i=>
  have hi:i<S.length:=Ku hnl
  rw[hnl] at hr
  simp only at hr
  have HRR:=Xh hr
  obtain⟨D,hti,hsz,hhas0,hat,hown⟩:=hm
  obtain⟨v5,ps5,hlook,hRv⟩:=(gM hown).look_ok uD Tryz.underlying61 (z:= .int .i64 0) Xe (zd:= .held (.int .i64 0)) (zp:=[]) rfl hkey
  have hv5:v5= .int .i64 (((dO S text).getD 0:Nat):Int):=by
   unfold Rv at hRv
   injection hRv with hRv
   injection hRv with h1 h2
   have h3:D.atKey (.string (⟨text.toArray⟩:ByteArray).data.toList) (.held (.int .i64 0))= .held (.int .i64 (((dO S text).getD 0:Nat):Int)):=hat text
   rw[h3] at h1
   injection h1
  subst hv5
  have hhas:has D (.string (⟨text.toArray⟩:ByteArray).data.toList)=(dO S text).isSome:=hhas0 text
  rw[hhas] at hlook
  rw[hnl] at hlook
  simp only[Option.isSome_some,Option.getD_some] at hlook
  have HMK:=Xh (fun W=>yN i W Xf)
  clear hnl hsz hhas0 hat hown hti hhas hRv hr
  go_in
  go_wp2_with fail
  refine HN.out.mono ?_
  rintro e w1 ⟨rfl,h1⟩
  subst h1
  go_wp2_with fail
  refine HR.out.mono ?_
  rintro e w1 ⟨rfl,h1⟩
  subst h1
  go_upto_region 5 with fail
  refine wrP Xe (fun w'=>w'=w.drew) (fun i=>i==4 || i==6 || i==7) (fun _=>false) [0,1,2,3,5,4,6,7,8,9,10,11,12] 0 Xe Xe Xe rfl ?_
  refine rP ?_
  refine rP ?_
  refine rP ?_
  refine rP ?_
  refine rP ?_
  refine rQ (fun _ hq=>hq) ?_
  refine rQ (fun _ hq=>hq) ?_
  refine rQ (fun _ hq=>hq) ?_
  refine rP ?_
  refine rP ?_
  refine rP ?_
  refine rP ?_
  refine rP ?_
  refine dQ ?_
  refine aR Xe ?_
  clear hlook hc5
  go_wp2_with fail
  refine (HMK.out _).mono ?_
  rintro e w9 ⟨v9,rfl,o9⟩
  rw[jf] at o9
  obtain⟨A9,c9,rfl,s9⟩:=o9.slice
  have G9:Hid (Gr w w9):=Gr.trans (Gr.drew w) o9.below
  have HSM:=Xh (jM A9 B 8 m c9 d (jC i) s w9 s9 (HSX.out.mono G9.out))
  rw[←HRR.out] at HSM
  clear o9 s9
  go_wp2_with fail
  refine HSM.out.mono ?_
  rintro e w10 ⟨rfl,h10⟩
  subst h10
  go_wp2_with fail
  go_ret
  exact⟨rfl,G9.out⟩
 |none=>
  rw[hnl] at hr
  simp only at hr
  have HRR:=Xh hr
  obtain⟨D,hti,hsz,hhas0,hat,hown⟩:=hm
  obtain⟨v5,ps5,hlook,hRv⟩:=(gM hown).look_ok uD Tryz.underlying61 (z:= .int .i64 0) Xe (zd:= .held (.int .i64 0)) (zp:=[]) rfl hkey
  have hv5:v5= .int .i64 (((dO S text).getD 0:Nat):Int):=by
   unfold Rv at hRv
   injection hRv with hRv
   injection hRv with h1 h2
   have h3:D.atKey (.string (⟨text.toArray⟩:ByteArray).data.toList) (.held (.int .i64 0))= .held (.int .i64 (((dO S text).getD 0:Nat):Int)):=hat text
   rw[h3] at h1
   injection h1
  subst hv5
  have hhas:has D (.string (⟨text.toArray⟩:ByteArray).data.toList)=(dO S text).isSome:=hhas0 text
  rw[hhas] at hlook
  rw[hnl] at hlook
  simp only[Option.isSome_none,Option.getD_none] at hlook
  clear hnl hsz hhas0 hat hown hti hhas hRv
  subst hr
  go_in
  go_wp2_with fail
  refine HN.out.mono ?_
  rintro e w1 ⟨rfl,h1⟩
  subst h1
  go_wp2_with fail
  refine HR.out.mono ?_
  rintro e w1 ⟨rfl,h1⟩
  subst h1
  go_upto_region 5 with fail
  refine wrP Xe (fun w'=>w'=w.drew) (fun i=>i==4 || i==6 || i==7) (fun _=>false) [0,1,2,3,5,4,6,7,8,9,10,11,12] 0 Xe Xe Xe rfl ?_
  refine rP ?_
  refine rP ?_
  refine rP ?_
  refine rP ?_
  refine rP ?_
  refine rQ (fun _ hq=>hq) ?_
  refine rQ (fun _ hq=>hq) ?_
  refine rQ (fun _ hq=>hq) ?_
  refine rP ?_
  refine rP ?_
  refine rP ?_
  refine rP ?_
  refine rP ?_
  refine dQ ?_
  refine aR Xe ?_
  clear hlook hc5
  go_wp2_with fail
  go_ret
  exact⟨rfl,Gr.drew _⟩
end
end
end Go.Proofs.YtipdlnejmcmbbaaGreatDoor
