/- Own texts, one behind the other. No condition. -/
import Derived.Test.YtipdlnejmcmbbaaGreatDoorObPkBM
import Derived.Test.YtipdlnejmcmbbaaGreatDoorObPkBN
import Derived.WideKeyEntry
set_option linter.unusedVariables false
set_option maxRecDepth 100000
set_option maxHeartbeats 8000000
set_option linter.unusedSimpArgs false
namespace Go.Proofs.YtipdlnejmcmbbaaGreatDoor
section
open Go.RowKit
theorem QJ {s t:List UInt8} (h:aB s=true) (k:aB t=true):dD s t=cmpL s t:=by simp[dD,h,k]
theorem RQ {s t:List UInt8} (h:aB s=true) (k:aB t=false):dD s t=1:=by simp[dD,h,k]
theorem QV {s t:List UInt8} (h:aB s=false) (k:aB t=true):dD s t= -1:=by simp[dD,h,k]
theorem RS {s t:List UInt8} (h:aB s=false) (k:aB t=false):dD s t=dN s t:=by simp[dD,h,k]
theorem MV (s t:List UInt8) (w:World):Calls Tryz.prog 144 #[ak s,ak t] w fun e w'=>e= .returned (.int .i64 (dN s t))∧w'=w:=by
 have h:=zV ⟨s.toArray⟩ ⟨t.toArray⟩ w
 have e:∀l:List UInt8,(⟨l.toArray⟩:ByteArray).toList=l:=fun l=>by rw[ByteArray.toList_eq]
 rw[e,e] at h
 exact h
theorem NR (s t:List UInt8) (w:World) (hs:s.length≤100000) (ht:t.length≤100000) (hT:U8 w) (hM:gL w):Calls Tryz.prog 72 #[ak s,ak t] w fun e w'=>e= .returned (.int .i64 (dD s t))∧Gr w w':=by
 have H1:Hid (∀wr,Gr w wr→Calls Tryz.prog 104 #[ak s] wr fun e w'=>e= .returned (.bool (aB s))∧Gr wr w'):=fun wr g=>eu s wr hs (hT.mono g)
 have H2:Hid (∀wr,Gr w wr→Calls Tryz.prog 104 #[ak t] wr fun e w'=>e= .returned (.bool (aB t))∧Gr wr w'):=fun wr g=>eu t wr ht (hT.mono g)
 have H3:Hid (∀wr,Gr w wr→Calls Tryz.prog 143 #[ak s,ak t] wr fun e w'=>e= .returned (.int .i64 (cmpL s t))∧Gr wr w'):=fun wr g=>UU s t wr hs ht (hT.mono g) (hM.mono g)
 have H4:Hid (∀wr,Calls Tryz.prog 144 #[ak s,ak t] wr fun e w'=>e= .returned (.int .i64 (dN s t))∧w'=wr):=fun wr=>MV s t wr
 obtain⟨q,hq⟩:∃q,q=dD s t:=⟨_,rfl⟩
 rw[←hq]
 have HQ:=Xh hq
 obtain⟨sx,hsx⟩:∃sx:ByteArray,ak s= .string sx:=⟨_,rfl⟩
 obtain⟨tx,htx⟩:∃tx:ByteArray,ak t= .string tx:=⟨_,rfl⟩
 rw[hsx] at H1 H3 H4 ⊢
 rw[htx] at H2 H3 H4 ⊢
 clear hq hsx htx hT hM
 cases hrs:aB s<;>cases hrt:aB t
 case false.false=>
  have HF:=Xh (HQ.out.trans (RS hrs hrt))
  rw[hrs] at H1
  rw[hrt] at H2
  clear hrs hrt HQ
  go_in
  go_wp2_with fail
  refine (H1.out _ (Gr.refl _)).mono ?_
  rintro e w1 ⟨rfl,g1⟩
  have G1:=Xh g1;clear g1
  go_wp2_with fail
  refine (H2.out _ G1.out).mono ?_
  rintro e w2 ⟨rfl,g2⟩
  have G2:=Xh (Gr.trans G1.out g2);clear g2
  go_wp2_with fail
  refine (H4.out _).mono ?_
  rintro e w3 ⟨rfl,rfl⟩
  go_wp2_with fail
  go_ret
  exact⟨by rw[HF.out];rfl,G2.out⟩
 case false.true=>
  have HF:=Xh (HQ.out.trans (QV hrs hrt))
  rw[hrs] at H1
  rw[hrt] at H2
  clear hrs hrt HQ
  go_in
  go_wp2_with fail
  refine (H1.out _ (Gr.refl _)).mono ?_
  rintro e w1 ⟨rfl,g1⟩
  have G1:=Xh g1;clear g1
  go_wp2_with fail
  refine (H2.out _ G1.out).mono ?_
  rintro e w2 ⟨rfl,g2⟩
  have G2:=Xh (Gr.trans G1.out g2);clear g2
  go_wp2_with fail
  go_ret
  exact⟨by rw[HF.out];rfl,G2.out⟩
 case true.false=>
  have HF:=Xh (HQ.out.trans (RQ hrs hrt))
  rw[hrs] at H1
  rw[hrt] at H2
  clear hrs hrt HQ
  go_in
  go_wp2_with fail
  refine (H1.out _ (Gr.refl _)).mono ?_
  rintro e w1 ⟨rfl,g1⟩
  have G1:=Xh g1;clear g1
  go_wp2_with fail
  refine (H2.out _ G1.out).mono ?_
  rintro e w2 ⟨rfl,g2⟩
  have G2:=Xh (Gr.trans G1.out g2);clear g2
  go_wp2_with fail
  go_ret
  exact⟨by rw[HF.out];rfl,G2.out⟩
 case true.true=>
  have HF:=Xh (HQ.out.trans (QJ hrs hrt))
  rw[hrs] at H1
  rw[hrt] at H2
  clear hrs hrt HQ
  go_in
  go_wp2_with fail
  refine (H1.out _ (Gr.refl _)).mono ?_
  rintro e w1 ⟨rfl,g1⟩
  have G1:=Xh g1;clear g1
  go_wp2_with fail
  refine (H2.out _ G1.out).mono ?_
  rintro e w2 ⟨rfl,g2⟩
  have G2:=Xh (Gr.trans G1.out g2);clear g2
  go_wp2_with fail
  refine (H3.out _ G2.out).mono ?_
  rintro e w3 ⟨rfl,g3⟩
  have G3:=Xh (Gr.trans G2.out g3);clear g3
  go_wp2_with fail
  go_ret
  exact⟨by rw[HF.out];rfl,G3.out⟩
end
section
open Go.RowKit
def Fy (ls:List (List UInt8)) (s:List UInt8):Int:=match ls.findIdx? (·==s) with
 |some i=>(i:Int)
 |none=> -1
abbrev mkB (l:List UInt8):ByteArray:=⟨l.toArray⟩
theorem TL {l m:List UInt8}:mkB l=mkB m↔l=m:=⟨fun h=>by
 have :=congrArg (fun b:ByteArray=>b.data.toList) h
 simpa using this,fun h=>by rw[h]⟩
theorem zI (s:List UInt8):∀(ls:List (List UInt8)) (i:Nat),Lib.idxFromS (ls.map mkB) (mkB s) i=(match ls.findIdx? (·==s) with
 |some k=>((i+k:Nat):Int)
 |none=> -1)
 | [],i=>rfl
 |l::ls,i=>by
  rw[List.map_cons,Lib.idxFromS,List.findIdx?_cons]
  by_cases h:l=s
  · subst h;simp
  · have h2:¬mkB l=mkB s:=fun e=>h (TL.1 e)
    have h3:(l==s)=false:=by simpa using h
    simp only[h2,h3,if_false,Bool.false_eq_true,beq_iff_eq,decide_false]
    rw[zI s ls (i+1)]
    cases ls.findIdx? (·==s) with
    |none=>rfl
    |some k=>simp only[Option.map_some];congr 1;omega
theorem VP (ls:List (List UInt8)) (s:List UInt8):Lib.idxOfS (ls.map mkB) (mkB s)=Fy ls s:=by
 unfold Lib.idxOfS
 rw[zI]
 unfold Fy
 cases ls.findIdx? (·==s) with
 |none=>rfl
 |some k=>simp
theorem Dr (A:Option Addr) (n c:Nat) (ls:List (List UInt8)) (s:List UInt8) (w:World) (h:Ws w A n c ls) (hn:n≤9223372036854775807):
 Calls Tryz.prog 67 #[.slice A n c,ak s] w fun e w'=>e= .returned (.int .i64 (Fy ls s))∧w'=w:=by
 have hl:=h.len
 by_cases h0:n=0
 · subst h0
   have e:ls=[]:=List.eq_nil_of_length_eq_zero hl
   subst e
   exact Tryz.slices_Index_string_empty A c (mkB s) w
 · obtain⟨b,o,rfl,hc⟩:=h.addr Xf
   have k:=Tryz.slices_Index_string b o n c (ls.map mkB) (mkB s) w (by rw[List.length_map];omega) hn (fun j hj=>by
    rw[List.length_map] at hj
    rw[List.getD_eq_getElem?_getD,List.getElem?_map,List.getElem?_eq_getElem hj]
    exact hc j hj)
   rw[List.take_of_length_le (by rw[List.length_map];omega),VP] at k
   exact k
end
section
open Go.RowKit
theorem FK (A:Option Addr) (n c:Nat) (ls:List (List UInt8)) (w:World) (h:Ws w A n c ls) (hn:n≤9223372036854775807):
 Calls Tryz.prog 105 #[.slice A n c] w fun e w'=>e= .returned (.int .i64 (jE ls))∧w'=w:=by
 have H:=Xh (Dr A n c ls [] w h hn)
 have HF:Hid (jE ls=Fy ls []):=rfl
 rw[HF.out]
 clear h
 go_in
 go_wp2_with fail
 refine H.out.mono ?_
 rintro e w1 ⟨rfl,rfl⟩
 go_wp2_with fail
 go_ret
 exact⟨rfl,rfl⟩
theorem Sy {ls:List (List UInt8)} {s:List UInt8} (h:s≠[]):bW ls s=Fy ls s:=by unfold bW;rw[if_neg h];rfl
theorem iU (A:Option Addr) (n c:Nat) (ls:List (List UInt8)) (s:List UInt8) (w:World) (h:Ws w A n c ls) (hn:n≤9223372036854775807):
 Calls Tryz.prog 31 #[.slice A n c,ak s] w fun e w'=>e= .returned (.int .i64 (bW ls s))∧w'=w:=by
 have H:=Xh (Dr A n c ls s w h hn)
 clear h
 obtain⟨sx,hsx⟩:∃sx:ByteArray,sx=⟨s.toArray⟩:=⟨_,rfl⟩
 have hl:sx.toList=s:=by rw[ByteArray.toList_eq,hsx]
 have hs2:ak s= .string sx:=by rw[hsx];rfl
 rw[hs2] at H ⊢
 by_cases hs:s=[]
 · have HF:Hid (bW ls s= -1):=by show _=_;unfold bW;rw[if_pos hs]
   rw[HF.out]
   have he:sx.toList.isEmpty=true:=by rw[hl,hs];rfl
   clear hs HF hsx hl hs2 H
   go_in
   go_wp2_with fail
   go_ret
   exact⟨rfl,rfl⟩
 · have HF:=Xh (Sy (ls:=ls) hs)
   rw[HF.out]
   have he:sx.toList.isEmpty=false:=by rw[hl];cases s with
    |nil=>exact absurd rfl hs
    |cons a b=>rfl
   clear hs HF hsx hl hs2
   go_in
   go_wp2_with fail
   refine H.out.mono ?_
   rintro e w1 ⟨rfl,rfl⟩
   go_wp2_with fail
   go_ret
   exact⟨rfl,rfl⟩
end
section
open Go.RowKit Go.Maps
structure TcV where
 d:TcD
 a:Option Addr
 m:Nat
 c:Nat
instance:Inhabited TcV:=⟨⟨⟨0,[],[],false⟩,none,0,0⟩⟩
def TcV.v (x:TcV):Value:= .agg #[.int .i64 (x.d.s:Int),ak x.d.h,.slice x.a x.m x.c,.bool x.d.g]
def TcV.cells (x:TcV):List Value:=[.int .i64 (x.d.s:Int),ak x.d.h,.slice x.a x.m x.c,.bool x.d.g]
theorem TcV.eX (x:TcV):x.cells.length=4:=rfl
def fu (l:List TcV):List (Int×Value):=l.map fun x=>((x.d.s:Int),x.v)
theorem uR (l:List TcV) (x:TcV):fu (l++ [x])=fu l++ [((x.d.s:Int),x.v)]:=by simp[fu]
theorem qZ:Keyed Tryz.prog 3:=int_keyed Tryz.underlying3
structure PL (w0 w:World) (P g mb n:Nat) (now:List (List UInt8)) (log:List TcV):Prop where
 gr:Gr w0 w
 hp:w0.heap.size≤P
 hg:w0.heap.size≤g
 hm:w0.heap.size≤mb
 pg:P≠g
 len:now.length=n
 bp:Blk w P 103 [.slice (some ⟨g,0,none⟩) n n,.map (some mb)]
 bg:Blk w g 9 (now.map ak)
 om:w.ownsMap Tryz.prog 3 Rv mb log.length (dOf (fu log))
 vs:∀x∈log,Bs w x.a x.m x.c x.d.v∧Ub w x.a
theorem PL.ws {w0 w:World} {P g mb n:Nat} {now:List (List UInt8)} {log:List TcV} (h:PL w0 w P g mb n now log) (hn:n≤maxLen):Ws w (some ⟨g,0,none⟩) n n now:=
 ⟨by rw[List.length_map,h.len,Nat.mul_one],Nat.le_refl _,hn,fun _=>⟨g,0,rfl,fun j u hu=>by rw[Nat.zero_add,h.bg.cell];exact hu⟩⟩
theorem ownsMap_at {w w':World} {P:Program} {k b n:Nat} {D:DataW Value} (h:w.ownsMap P k Rv b n D) (e:w'.heap[b]?=w.heap[b]?):w'.ownsMap P k Rv b n D:=by
 obtain⟨es,clock,h1,h2⟩:=h
 exact⟨es,clock,e.trans h1,h2⟩
theorem jA {w:World} {P:Program} {k b n:Nat} {D:DataW Value} (h:w.ownsMap P k Rv b n D):∃es clock,w.heap[b]?=some (.map es clock):=by
 obtain⟨es,clock,h1,h2⟩:=h
 exact⟨es,clock,h1⟩
theorem PL.mg {w0 w:World} {P g mb n:Nat} {now:List (List UInt8)} {log:List TcV} (h:PL w0 w P g mb n now log):mb≠g∧mb≠P:=by
 obtain⟨es,clock,h1⟩:=jA h.om
 refine⟨fun e=> ?_,fun e=> ?_⟩
 · have h2:=h.bg
   unfold Blk at h2
   rw[←e,h1] at h2
   cases h2
 · have h2:=h.bp
   unfold Blk at h2
   rw[←e,h1] at h2
   cases h2
theorem PL.mono {w0 w w':World} {P g mb n:Nat} {now:List (List UInt8)} {log:List TcV} (h:PL w0 w P g mb n now log) (k:Gr w w'):PL w0 w' P g mb n now log:=
 ⟨h.gr.trans k,h.hp,h.hg,h.hm,h.pg,h.len,h.bp.mono k,h.bg.mono k,ownsMap_at h.om (k.block mb h.om.lt),fun x hx=>⟨(h.vs x hx).1.mono k,(h.vs x hx).2.mono k⟩⟩
theorem PL.put {w0 w:World} {P g mb n:Nat} {now:List (List UInt8)} {log:List TcV} (h:PL w0 w P g mb n now log) (i:Nat) (s:List UInt8):PL w0 (w.setCell ⟨g,i,none⟩ (ak s)) P g mb n (now.set i s) log:=by
 refine⟨(Tch.set (S:=fun b=>b=g) ⟨g,i,none⟩ (ak s) rfl).below h.gr h.gr.size (fun b e=>e▸h.hg),h.hp,h.hg,h.hm,h.pg,by rw[List.length_set];exact h.len,h.bp.far (p:=⟨g,i,none⟩) h.pg _,?_,ownsMap_at h.om (Below.heap_setCell w ⟨g,i,none⟩ _ mb h.mg.1),fun x hx=>⟨(h.vs x hx).1.tch Xg (Tch.set (S:=fun b=>b=g) ⟨g,i,none⟩ (ak s) rfl) (fun _ b o e q=>(h.vs x hx).2.ne h.bg Xg b o e q),(h.vs x hx).2.keep (fun b a m z=>Below.heap_setCell w ⟨g,i,none⟩ _ b (fun e=>by have :=h.bg;unfold Blk at this;rw[←show b=g from e,z] at this;injection this with this;injection this with _ this _;exact absurd this Xg))⟩⟩
 rw[List.map_set]
 exact h.bg.set i (ak s)
theorem PL.upd {w0 w w':World} {P g mb n:Nat} {now:List (List UInt8)} {log:List TcV} (h:PL w0 w P g mb n now log) (x:TcV) (hx:Bs w x.a x.m x.c x.d.v) (hb:Ub w x.a)
 (k:w.grownBy w' (some mb)) (om:w'.ownsMap Tryz.prog 3 Rv mb (log.length+1) ((dOf (fu log)).put (.int .i64 (x.d.s:Int)) (.held x.v))):PL w0 w' P g mb n now (log++ [x]):=by
 have t:Tch (fun b=>b=mb) w w':=Tch.grown k (fun b e=>by injection e with e;exact e.symm)
 obtain⟨es,clock,h1⟩:=jA h.om
 refine⟨t.below h.gr h.gr.size (fun b e=>e▸h.hm),h.hp,h.hg,h.hm,h.pg,h.len,h.bp.tch t (fun e=>h.mg.2 e.symm),h.bg.tch t (fun e=>h.mg.1 e.symm),?_,fun y hy=> ?_⟩
 · rw[List.length_append,List.length_singleton,uR,sW]
   exact om
 · rcases List.mem_append.1 hy with hy|hy
   · exact⟨(h.vs y hy).1.tch Xg t (fun hn b o e=>(h.vs y hy).1.Ko Xg h1 hn e),(h.vs y hy).2.keep (fun b a m z=>t.keep b (Array.getElem?_eq_some_iff.1 z).1 (fun e=>by rw[e,h1] at z;cases z))⟩
   · simp only[List.mem_singleton] at hy
     subst hy
     exact⟨hx.tch Xg t (fun hn b o e=>hx.Ko Xg h1 hn e),hb.keep (fun b a m z=>t.keep b (Array.getElem?_eq_some_iff.1 z).1 (fun e=>by rw[e,h1] at z;cases z))⟩
end
section
open Go.RowKit Go.Maps
section
variable {w0 w:World} {P g mb n:Nat} {now:List (List UInt8)} {log:List TcV}
theorem PL.cells {w0 w:World} {P g mb n:Nat} {now:List (List UInt8)} {log:List TcV} (h:PL w0 w P g mb n now log):w.cell? ⟨P,0,none⟩=some (.slice (some ⟨g,0,none⟩) n n)∧w.cell? ⟨P,1,none⟩=some (.map (some mb)):=⟨h.bp.cell 0,h.bp.cell 1⟩
abbrev chO (s:Value) (a:Option Addr) (m c:Nat) (gn:Bool):Obj:= .cells #[s,.slice a m c,.bool gn] 45
theorem kN {w wr:World} {s:Value} {a:Option Addr} {m c:Nat} {gn:Bool} (h:Gr (w.alloc (chO s a m c gn)) wr):
 wr.cell? ⟨w.heap.size,0,none⟩=some s∧wr.cell? ⟨w.heap.size,1,none⟩=some (.slice a m c)∧wr.cell? ⟨w.heap.size,2,none⟩=some (.bool gn):=by
 have hb:=(Blk.new w 45 #[s,.slice a m c,.bool gn]).mono h
 exact⟨hb.cell 0,hb.cell 1,hb.cell 2⟩
theorem RN (h:PL w0 w P g mb n now log) (s:List UInt8) (a:Option Addr) (m c:Nat) (gn:Bool) (hs:s.length≤100000) (hT:U8 w0) (hr:aB s=false):
 Calls Tryz.prog 49 #[.pointer (some ⟨P,0,none⟩),.agg #[ak s,.slice a m c,.bool gn]] w fun e w'=>e= .returned (.int .i64 2)∧PL w0 w' P g mb n now log:=by
 have HP:=Xh (h.mono (Gr.alloc w (chO (ak s) a m c gn)))
 have H1:Hid (Calls Tryz.prog 104 #[ak s] (w.alloc (chO (ak s) a m c gn)) fun e w'=>e= .returned (.bool false)∧Gr (w.alloc (chO (ak s) a m c gn)) w'):=by
  have k:=eu s _ hs (hT.mono HP.out.gr);rw[hr] at k;exact k
 obtain⟨sx,hsx⟩:∃sx:ByteArray,ak s= .string sx:=⟨_,rfl⟩
 rw[hsx] at HP H1 ⊢
 have HC:=Xh (fun (wr:World) (k:Gr (w.alloc (chO (.string sx) a m c gn)) wr)=>kN k)
 clear h hsx hr hT
 go_in
 go_wp2_with fail
 refine H1.out.mono ?_
 rintro e w1 ⟨rfl,g1⟩
 have HP1:=Xh (HP.out.mono g1)
 have G1:=Xh g1
 obtain⟨d0,d1,d2⟩:=HC.out _ g1
 clear g1
 obtain⟨cp0,cp1⟩:=HP1.out.cells
 go_wp2_with fail
 go_ret
 exact⟨rfl,HP1.out⟩
theorem UF (h:PL w0 w P g mb n now log) (s:List UInt8) (a:Option Addr) (m c:Nat) (hs:s.length≤100000) (hT:U8 w0) (hr:aB s=true) (hm:350<m):
 Calls Tryz.prog 49 #[.pointer (some ⟨P,0,none⟩),.agg #[ak s,.slice a m c,.bool false]] w fun e w'=>e= .returned (.int .i64 2)∧PL w0 w' P g mb n now log:=by
 have HP:=Xh (h.mono (Gr.alloc w (chO (ak s) a m c false)))
 have H1:Hid (Calls Tryz.prog 104 #[ak s] (w.alloc (chO (ak s) a m c false)) fun e w'=>e= .returned (.bool true)∧Gr (w.alloc (chO (ak s) a m c false)) w'):=by
  have k:=eu s _ hs (hT.mono HP.out.gr);rw[hr] at k;exact k
 obtain⟨sx,hsx⟩:∃sx:ByteArray,ak s= .string sx:=⟨_,rfl⟩
 rw[hsx] at HP H1 ⊢
 have HC:=Xh (fun (wr:World) (k:Gr (w.alloc (chO (.string sx) a m c false)) wr)=>kN k)
 have t1:decide ((350:Int)<(m:Int))=true:=decide_eq_true Xf
 clear h hsx hr hT hm
 go_in
 go_wp2_with fail
 refine H1.out.mono ?_
 rintro e w1 ⟨rfl,g1⟩
 have HP1:=Xh (HP.out.mono g1)
 have G1:=Xh g1
 obtain⟨d0,d1,d2⟩:=HC.out _ g1
 clear g1
 obtain⟨cp0,cp1⟩:=HP1.out.cells
 go_wp2_with fail
 go_ret
 exact⟨rfl,HP1.out⟩
theorem Lu (h:PL w0 w P g mb n now log) (hn:n≤1000) (s:List UInt8) (a:Option Addr) (m c:Nat) (hs:s.length≤100000) (hT:U8 w0) (hr:aB s=true) (hf:bW now s= -1):
 Calls Tryz.prog 49 #[.pointer (some ⟨P,0,none⟩),.agg #[ak s,.slice a m c,.bool true]] w fun e w'=>e= .returned (.int .i64 7)∧PL w0 w' P g mb n now log:=by
 have HP:=Xh (h.mono (Gr.alloc w (chO (ak s) a m c true)))
 have H1:Hid (Calls Tryz.prog 104 #[ak s] (w.alloc (chO (ak s) a m c true)) fun e w'=>e= .returned (.bool true)∧Gr (w.alloc (chO (ak s) a m c true)) w'):=by
  have k:=eu s _ hs (hT.mono HP.out.gr);rw[hr] at k;exact k
 have H2:Hid (∀wr,PL w0 wr P g mb n now log→Calls Tryz.prog 31 #[.slice (some ⟨g,0,none⟩) n n,ak s] wr fun e w'=>e= .returned (.int .i64 (-1))∧w'=wr):=fun wr k=>by
  have q:=iU _ n n now s wr (k.ws (by unfold maxLen;omega)) Xf;rw[hf] at q;exact q
 obtain⟨sx,hsx⟩:∃sx:ByteArray,ak s= .string sx:=⟨_,rfl⟩
 rw[hsx] at HP H1 H2 ⊢
 have HC:=Xh (fun (wr:World) (k:Gr (w.alloc (chO (.string sx) a m c true)) wr)=>kN k)
 clear h hsx hr hT hf
 go_in
 go_wp2_with fail
 refine H1.out.mono ?_
 rintro e w1 ⟨rfl,g1⟩
 have HP1:=Xh (HP.out.mono g1)
 have G1:=Xh g1
 obtain⟨d0,d1,d2⟩:=HC.out _ g1
 clear g1
 obtain⟨cp0,cp1⟩:=HP1.out.cells
 go_wp2_with fail
 have H2q:=Xh (fun q=>H2.out (w1.drewN q) (HP1.out.mono (dG (Below.refl _ _) q)))
 go_quiet ((go_at_call 31;exact Calls.quiet_of_same (H2q.out _)))
 have HP2:=Xh (HP1.out.mono (dG (Below.refl _ _) nq))
 clear cp0 cp1 d0 d1 d2
 obtain⟨cp0,cp1⟩:=HP2.out.cells
 obtain⟨d0,d1,d2⟩:=HC.out _ (dG G1.out nq)
 go_wp2_with fail
 go_ret
 exact⟨rfl,HP2.out⟩
theorem Un (h:PL w0 w P g mb n now log) (hn:n≤1000) (s:List UInt8) (a:Option Addr) (m c:Nat) (hs:s.length≤100000) (hT:U8 w0) (hr:aB s=true) (hm:m≤350) (hf:bW now s= -1) (he:jE now= -1):
 Calls Tryz.prog 49 #[.pointer (some ⟨P,0,none⟩),.agg #[ak s,.slice a m c,.bool false]] w fun e w'=>e= .returned (.int .i64 5)∧PL w0 w' P g mb n now log:=by
 have HP:=Xh (h.mono (Gr.alloc w (chO (ak s) a m c false)))
 have H1:Hid (Calls Tryz.prog 104 #[ak s] (w.alloc (chO (ak s) a m c false)) fun e w'=>e= .returned (.bool true)∧Gr (w.alloc (chO (ak s) a m c false)) w'):=by
  have k:=eu s _ hs (hT.mono HP.out.gr);rw[hr] at k;exact k
 have H2:Hid (∀wr,PL w0 wr P g mb n now log→Calls Tryz.prog 31 #[.slice (some ⟨g,0,none⟩) n n,ak s] wr fun e w'=>e= .returned (.int .i64 (-1))∧w'=wr):=fun wr k=>by
  have q:=iU _ n n now s wr (k.ws (by unfold maxLen;omega)) Xf;rw[hf] at q;exact q
 have H3:Hid (∀wr,PL w0 wr P g mb n now log→Calls Tryz.prog 105 #[.slice (some ⟨g,0,none⟩) n n] wr fun e w'=>e= .returned (.int .i64 (-1))∧w'=wr):=fun wr k=>by
  have q:=FK _ n n now wr (k.ws (by unfold maxLen;omega)) Xf;rw[he] at q;exact q
 obtain⟨sx,hsx⟩:∃sx:ByteArray,ak s= .string sx:=⟨_,rfl⟩
 rw[hsx] at HP H1 H2 ⊢
 have HC:=Xh (fun (wr:World) (k:Gr (w.alloc (chO (.string sx) a m c false)) wr)=>kN k)
 have t1:decide ((350:Int)<(m:Int))=false:=decide_eq_false Xf
 clear h hsx hr hT hf he hm
 go_in
 go_wp2_with fail
 refine H1.out.mono ?_
 rintro e w1 ⟨rfl,g1⟩
 have HP1:=Xh (HP.out.mono g1)
 have G1:=Xh g1
 obtain⟨d0,d1,d2⟩:=HC.out _ g1
 clear g1
 obtain⟨cp0,cp1⟩:=HP1.out.cells
 go_wp2_with fail
 have H2q:=Xh (fun q=>H2.out (w1.drewN q) (HP1.out.mono (dG (Below.refl _ _) q)))
 go_quiet ((go_at_call 31;exact Calls.quiet_of_same (H2q.out _)))
 have HP2:=Xh (HP1.out.mono (dG (Below.refl _ _) nq))
 clear cp0 cp1 d0 d1 d2
 obtain⟨cp0,cp1⟩:=HP2.out.cells
 obtain⟨d0,d1,d2⟩:=HC.out _ (dG G1.out nq)
 go_wp2_with fail
 refine (H3.out _ HP2.out).mono ?_
 rintro e w3 ⟨rfl,rfl⟩
 go_wp2_with fail
 go_ret
 exact⟨rfl,HP2.out⟩
end
end
section
open Go.RowKit Go.ChangeMaps Go.MapKept
open Go.WideElems (Fit rg)
open Go.Maps (Keyed)
theorem KW {w:World} {b:Nat} {o o':Obj} {es:Array MapEntry} {clock:Nat} (hb:w.heap[b]?=some (.map es clock)) (h:setBlock w b o=setBlock w b o'):o=o':=by
 have h1:=heap_setBlock_same hb o
 rw[h,heap_setBlock_same hb o'] at h1
 injection h1 with h1
 exact h1.symm
theorem RZ {a b:Array MapEntry} {c d:Nat} (h:Obj.map a c=Obj.map b d):a=b∧c=d:=by
 injection h with h1 h2
 exact⟨h1,h2⟩
theorem qH {H:Type} {P:Program} {w:World} {t k e:TypeId} {R:Value→Option (DataW H×List MemPlace)} {b n:Nat} {D:DataW H} (h:w.ownsMap P k R b n D) (K:Keyed P k) (ht:P.underlying t=some (.map k e)) {z:Value} (hz:∀u:World,(zeroValue e).run P u= .ok z u) (hn:n<maxLen)
 {key:Value} {kl:Lit} (hkey:keyOf P k key=some kl):
 ∃(v0:Value) (st:Nat) (w1:World),(Instr.mapEntry t (.map (some b)) key).run P w= .ok (.tuple #[v0,goInt st]) w1∧w.grownBy w1 (some b)∧w1.heap.size=w.heap.size∧
  ∀(w2:World) (val:Value) (d:DataW H) (ps:List MemPlace),R val=some (d,ps)→w2.heap[b]?=w1.heap[b]?→∃w3,(Instr.entryStore t (.map (some b)) (goInt st) val).run P w2= .ok () w3∧w3.ownsMap P k R b (n+1) (D.put kl d)∧w2.grownBy w3 (some b):=by
 obtain⟨es,clock,hb,F,hs,rfl⟩:=h
 obtain⟨s1,s2,_⟩:=F.stamped
 have fin:∀(es1:Array MapEntry) (clock1 st:Nat),(∀(w2:World) (val:Value),w2.heap[b]?=some (.map es1 clock1)→∃es' clock',(Instr.entryStore t (.map (some b)) (goInt st) val).run P w2= .ok () (setBlock w2 b (.map es' clock'))∧(Instr.mapUpdate t (.map (some b)) key val).run P w= .ok () (setBlock w b (.map es' clock')))→
  w.grownBy (setBlock w b (.map es1 clock1)) (some b)∧(setBlock w b (.map es1 clock1)).heap.size=w.heap.size∧
  ∀(w2:World) (val:Value) (d:DataW H) (ps:List MemPlace),R val=some (d,ps)→w2.heap[b]?=(setBlock w b (.map es1 clock1)).heap[b]?→∃w3,(Instr.entryStore t (.map (some b)) (goInt st) val).run P w2= .ok () w3∧w3.ownsMap P k R b (n+1) (.put (.map ((es.toList.map (rg P k R)).foldr DataW.insert [])) kl d)∧w2.grownBy w3 (some b):=by
  intro es1 clock1 st hst
  refine⟨⟨rfl,rfl,rfl,by simp[setBlock],fun i _ hi=>heap_setBlock_other hb _ (fun e=>hi (by rw[e]))⟩,by simp[setBlock],fun w2 val d ps hv h2=> ?_⟩
  rw[heap_setBlock_same hb] at h2
  obtain⟨es',clock',r1,r2⟩:=hst w2 val h2
  obtain⟨es2,clock2,hrun,F',hput,_⟩:=Maps.fit_store (R':=R) K ht hb F (Nat.lt_of_le_of_lt hs hn) (fun _ _ _ _ hz=>hz) hkey hv
  rw[r2] at hrun
  injection hrun with _ hrun
  obtain⟨rfl,rfl⟩:=RZ (KW hb hrun)
  refine⟨_,r1,⟨es',clock',heap_setBlock_same h2 _,F',?_,by rw[DataW.put_eq,hput]⟩,⟨rfl,rfl,rfl,by simp[setBlock],fun i _ hi=>heap_setBlock_other h2 _ (fun e=>hi (by rw[e]))⟩⟩
  have e1:es'.size=((es'.toList.map (rg P k R)).foldr DataW.insert []).length:=by rw[length_sorted];simp
  rw[e1,hput]
  unfold putKey
  rw[length_insert]
  have e2:=List.length_filter_le (notKey kl) ((es.toList.map (rg P k R)).foldr DataW.insert [])
  rw[length_sorted] at e2
  simp at e2
  omega
 rcases K.find w hkey es.toList F.keys with⟨h1,h2⟩| ⟨j,e0,h1,h2,h3⟩
 · refine⟨z,clock,setBlock w b (.map (es.push ⟨key,z,clock⟩) (clock+1)),?_,fin _ _ _ fun w2 val hw2=>⟨es.push ⟨key,val,clock⟩,clock+1,?_,?_⟩⟩
   · simp[Instr.mapEntry,run_underlying ht,MapKept.run_getObj_map hb,K.check w false hkey,h1,hz,MapKept.run_setObj_map _ hb,Result.andThen,setBlock]
   · have hidx:(es.push ⟨key,z,clock⟩).findIdx? (fun e=>((e.born:Nat):Int)==((clock:Nat):Int))=some es.size:=by
      rw[WideElems.findIdx_arr]
      have :=WideElems.findIdx_born (l:=(es.push ⟨key,z,clock⟩).toList) (j:=es.size) (e0:=⟨key,z,clock⟩) (by
       simp only[Array.toList_push,List.map_append,List.map_cons,List.map_nil]
       refine List.nodup_append.2 ⟨s2,by simp,fun a ha c hc e1=> ?_⟩
       simp only[List.mem_singleton] at hc
       obtain⟨x,hx,rfl⟩:=List.mem_map.1 ha
       have :=s1 x hx
       omega) (by simp)
      exact this
     have hmod:(es.push ⟨key,z,clock⟩).modify es.size (fun e=>{e with val:=val})=es.push ⟨key,val,clock⟩:=by
      apply Array.ext'
      rw[Array.toList_modify,Array.toList_push,Array.toList_push,←Array.length_toList,WideElems.modify_last]
     simp[Instr.entryStore,MapKept.run_getObj_map hw2,asInt,asIntOf,goInt,hidx,hmod,MapKept.run_setObj_map _ hw2,Result.andThen,setBlock]
   · simp[Instr.mapUpdate,run_underlying ht,MapKept.run_getObj_map hb,K.check w false hkey,h1,MapKept.run_setObj_map _ hb,Result.andThen,setBlock]
 · have hj:es[j]?=some e0:=by simpa using h2
   have hsame:es.modify j (fun e=>{e with key:=key})=es:=by
    apply Array.ext'
    rw[Array.toList_modify,modify_eq_set _ _ _ _ h2]
    have :({e0 with key:=key}:MapEntry)=e0:=by rw[←h3]
    rw[this]
    exact WideElems.set_self _ _ _ h2
   refine⟨e0.val,e0.born,setBlock w b (.map es clock),?_,fin _ _ _ fun w2 val hw2=>⟨es.modify j (fun e'=>{e' with key:=key,val:=val}),clock,?_,?_⟩⟩
   · simp[Instr.mapEntry,run_underlying ht,MapKept.run_getObj_map hb,K.check w false hkey,h1,hj,h3,K.stays w hkey,hsame,MapKept.run_setObj_map _ hb,Result.andThen,setBlock]
   · have hidx:es.findIdx? (fun e=>((e.born:Nat):Int)==((e0.born:Nat):Int))=some j:=by
      rw[WideElems.findIdx_arr]
      exact WideElems.findIdx_born s2 h2
     have hmod:es.modify j (fun e=>{e with val:=val})=es.modify j (fun e'=>{e' with key:=key,val:=val}):=by
      apply Array.ext'
      rw[Array.toList_modify,Array.toList_modify,modify_eq_set _ _ _ _ h2,modify_eq_set _ _ _ _ h2,←h3]
     simp[Instr.entryStore,MapKept.run_getObj_map hw2,asInt,asIntOf,goInt,hidx,hmod,MapKept.run_setObj_map _ hw2,Result.andThen,setBlock]
   · simp[Instr.mapUpdate,run_underlying ht,MapKept.run_getObj_map hb,K.check w false hkey,h1,hj,h3,K.stays w hkey,MapKept.run_setObj_map _ hb,Result.andThen,setBlock]
theorem fD {P:Program} {o:Oper} {a:Act} {w w1:World} {K:Act→World→Prop} {Q:Exit→Act→World→Prop} {t:TypeId} {m x:Operand} {v:Value} (hop:o.op=Op.mapEntry t m x) (hrun:(Instr.mapEntry t (a.eval m) (a.eval x)).run P w= .ok v w1)
 (h:K (a.put o.dst v) w1):o.wp P a w K Q:=by
 unfold Oper.wp
 simp[execOp,hop,hrun,Result.andThen]
 exact h
theorem dh {P:Program} {o:Oper} {a:Act} {w w1:World} {K:Act→World→Prop} {Q:Exit→Act→World→Prop} {t:TypeId} {m s x:Operand} (hop:o.op=Op.entryStore t m s x) (hrun:(Instr.entryStore t (a.eval m) (a.eval s) (a.eval x)).run P w= .ok () w1)
 (h:K (a.put o.dst undef) w1):o.wp P a w K Q:=by
 unfold Oper.wp
 simp[execOp,hop,hrun,Result.andThen]
 exact h
end
section
open Go.RowKit Go.Maps
theorem wfI {x:Nat} (h:x≤1000000):(Lit.int .i64 (x:Int)).wf=true:=by
 simp[Lit.wf,IntKind.min,IntKind.max,IntKind.signed,IntKind.bits];omega
section
variable {w0 w:World} {P g mb n:Nat} {now:List (List UInt8)} {log:List TcV}
theorem U4 (h:PL w0 w P g mb n now log) (hn:n≤1000) (hlog:log.length≤1000) (s:List UInt8) (a:Option Addr) (m c:Nat) (hs:s.length≤100000) (hT:U8 w0) (hr:aB s=true) (i:Nat) (hi:i<n) (hf:bW now s=(i:Int)):
 Calls Tryz.prog 49 #[.pointer (some ⟨P,0,none⟩),.agg #[ak s,.slice a m c,.bool true]] w fun e w'=>e= .returned (.int .i64 0)∧PL w0 w' P g mb n (now.set i []) (log++ [⟨⟨i,[],[],true⟩,none,0,0⟩]):=by
 have HP:=Xh (h.mono (Gr.alloc w (chO (ak s) a m c true)))
 have H1:Hid (Calls Tryz.prog 104 #[ak s] (w.alloc (chO (ak s) a m c true)) fun e w'=>e= .returned (.bool true)∧Gr (w.alloc (chO (ak s) a m c true)) w'):=by
  have k:=eu s _ hs (hT.mono HP.out.gr);rw[hr] at k;exact k
 have H2:Hid (∀wr,PL w0 wr P g mb n now log→Calls Tryz.prog 31 #[.slice (some ⟨g,0,none⟩) n n,ak s] wr fun e w'=>e= .returned (.int .i64 (i:Int))∧w'=wr):=fun wr k=>by
  have q:=iU _ n n now s wr (k.ws (by unfold maxLen;omega)) Xf;rw[hf] at q;exact q
 obtain⟨sx,hsx⟩:∃sx:ByteArray,ak s= .string sx:=⟨_,rfl⟩
 rw[hsx] at HP H1 H2 ⊢
 have HC:=Xh (fun (wr:World) (k:Gr (w.alloc (chO (.string sx) a m c true)) wr)=>kN k)
 have hkey:keyOf Tryz.prog 3 (.int .i64 (i:Int))=some (.int .i64 (i:Int)):=keyOf_int_mk Tryz.underlying3 (wfI Xf)
 clear h hsx hr hT hf
 go_in
 go_wp2_with fail
 refine H1.out.mono ?_
 rintro e w1 ⟨rfl,g1⟩
 have HP1:=Xh (HP.out.mono g1)
 have G1:=Xh g1
 obtain⟨d0,d1,d2⟩:=HC.out _ g1
 clear g1
 obtain⟨cp0,cp1⟩:=HP1.out.cells
 go_wp2_with fail
 have H2q:=Xh (fun q=>H2.out (w1.drewN q) (HP1.out.mono (dG (Below.refl _ _) q)))
 go_quiet ((go_at_call 31;exact Calls.quiet_of_same (H2q.out _)))
 have HP2:=Xh (HP1.out.mono (dG (Below.refl _ _) nq))
 clear cp0 cp1 d0 d1 d2
 obtain⟨cp0,cp1⟩:=HP2.out.cells
 obtain⟨d0,d1,d2⟩:=HC.out _ (dG G1.out nq)
 have HG2:=Xh (dG G1.out nq)
 clear H2q
 obtain⟨wb,hwb⟩:∃wb,wb=w1.drewN nq:=⟨_,rfl⟩
 rw[←hwb] at HP2 cp0 cp1 d0 d1 d2 HG2 ⊢
 clear hwb
 go_upto_region 11 with fail
 refine wrP Xe (fun w'=>w'.cell? ⟨P,0,none⟩=some (.slice (some ⟨g,0,none⟩) n n)∧w'.cell? ⟨P,1,none⟩=some (.map (some mb))) (fun i=>i==3 || i==8) (fun _=>false) [0,1,2,3,4,5,6,7,8,9,10,11,12] 4 Xe Xe Xe ⟨cp0,cp1⟩ ?_
 refine rP ?_
 refine rP ?_
 refine rP ?_
 refine rQ (fun _ hq=>hq) ?_
 refine rP ?_
 refine rP ?_
 refine rP ?_
 refine rP ?_
 refine rQ (fun _ hq=>hq) ?_
 refine rP ?_
 refine rP ?_
 refine rP ?_
 refine rP ?_
 refine dQ ?_
 clear cp0 cp1
 have HP3:=Xh (HP2.out.mono (Gr.drew wb))
 have hlen:=HP3.out.len
 have y0:=HP3.out.bg.free i
 have y1:wb.drew.cell? ⟨g,i,none⟩=some (ak (now[i]' Xf)):=by rw[HP3.out.bg.cell,List.getElem?_map,List.getElem?_eq_getElem Xf];rfl
 have HP4:=Xh (HP3.out.put i [])
 obtain⟨v0,st,w5,hrun5,hg5,hsz5,hst⟩:=qH HP4.out.om qZ Tryz.underlying101 (z:= .agg #[.int .i64 0,.string ByteArray.empty,.slice none 0 0,.bool false]) (fun u=>by kernel_rfl) (by unfold maxLen;omega) hkey
 obtain⟨w6,hrun6,om6,hg6⟩:=hst w5 (.agg #[.int .i64 (i:Int),.string ⟨#[]⟩,.slice none 0 0,.bool true]) _ [] rfl rfl
 have HP6:=Xh (HP4.out.upd ⟨⟨i,[],[],true⟩,none,0,0⟩ (Sl.nil _ _) (fun b o e=>by cases e) (hg5.trans hg6) om6)
 have HC5:Hid (w5.cell? ⟨P,0,none⟩=some (.slice (some ⟨g,0,none⟩) n n)∧w5.cell? ⟨P,1,none⟩=some (.map (some mb))):=by
  have hb:=HP4.out.bp.tch (Tch.grown (S:=fun b=>b=mb) hg5 (fun b e=>by injection e with e;exact e.symm)) (fun e=>HP4.out.mg.2 e.symm)
  exact⟨hb.cell 0,hb.cell 1⟩
 clear hst om6 hg5 hg6 hsz5
 refine wR1 (i:=13) Xe rfl rfl ?_
 intro K hK
 go_simp
 refine hK _ _ (fun _=>HP4.out.cells) ?_
 clear hK
 go_simp
 refine wR1 (i:=14) Xe rfl rfl ?_
 intro K hK
 refine fD (w1:=w5) (v:= .tuple #[v0,goInt st]) rfl (by exact hrun5) ?_
 refine hK _ _ (fun _=>HC5.out) ?_
 clear hK
 go_simp
 refine wR1 (i:=15) Xe rfl rfl ?_
 intro K hK
 go_simp
 refine hK _ _ (fun _=>HC5.out) ?_
 clear hK
 go_simp
 refine wR1 (i:=16) Xe rfl rfl ?_
 intro K hK
 refine dh (w1:=w6) rfl (by exact hrun6) ?_
 refine hK _ _ (fun _=>HP6.out.cells) ?_
 clear hK
 go_simp
 refine aR Xe ?_
 go_wp2_with fail
 go_ret
 exact⟨rfl,HP6.out⟩
end
end
end Go.Proofs.YtipdlnejmcmbbaaGreatDoor
