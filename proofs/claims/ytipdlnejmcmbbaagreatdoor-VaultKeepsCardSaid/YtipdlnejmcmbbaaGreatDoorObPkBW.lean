/- Own texts, one behind the other. No condition. -/
import Derived.Test.YtipdlnejmcmbbaaGreatDoorObPkBV
import Derived.Lib.SlicesCompact
import Derived.Shelf.SlSortCmp.NoneTotal
set_option linter.unusedVariables false
set_option maxRecDepth 100000
set_option maxHeartbeats 8000000
set_option linter.unusedSimpArgs false
namespace Go.Proofs.YtipdlnejmcmbbaaGreatDoor
section
open Go.RowKit
theorem Db {w0 w:World} (g:Gr w0 w) {blk:Nat} (hb:w0.heap.size≤blk) (off q:Nat) (d:Array (List UInt8)):Gr w0 (Go.Sort.putRow ak (Go.Sort.ahead w q) blk off d):=by
 have h:=AJ g hb ak off q d #[]
 unfold Go.Proofs.sortWorld at h
 rwa[Go.Sort.grow_empty] at h
theorem zF {w:World} {blk off q:Nat} {ls ms:List (List UInt8)} (h:Go.Sort.Holds ak w blk off ls.toArray) (z:List (List UInt8)) (hz:ms.length+z.length=ls.length):
 Go.Sort.Holds ak (Go.Sort.putRow ak (Go.Sort.ahead w q) blk off (ms++z).toArray) blk off ms.toArray:=fun j hj=>by
 have h2:=Go.Sort.holds_putRow ak (Go.Sort.ahead w q) blk off ls.toArray (ms++z).toArray h (by simp;omega) j (by simp at hj ⊢;omega)
 have hj':j<ms.length:=by simpa using hj
 have e:(ms++z).toArray[j]! =ms.toArray[j]! :=by
  rw[getElem!_pos (ms++z).toArray j (by simp;omega),getElem!_pos ms.toArray j hj]
  simp[hj']
 rw[e] at h2
 exact h2
theorem JB {w0 w:World} (gr:Gr w0 w) (g n c:Nat) (ls:List (List UInt8)) (hl:ls.length=n) (hc:n≤c) (hcm:c≤9223372036854775807) (hg:w0.heap.size≤g) (hw:g<w.heap.size) (hH:Go.Sort.Holds ak w g 0 ls.toArray) (hn:n≤1000):
 Calls Tryz.prog 68 #[.slice (some ⟨g,0,none⟩) n c,.func (.func 70) #[] #[]] w fun e w'=>∃A' n' c',e= .returned (.slice A' n' c')∧Rw w0 w' A' n' c' (fU ls)∧Gr w0 w':=by
 have k:=Go.Proofs.AnyE.slices_DeleteFunc Tryz.Us ak (fun _=>rfl) (fun x:List UInt8=>x==[]) 70 #[] (enters_of Tryz.func70 Xe rfl) [] (fun w=>Tryz.zeroValue9 w) g 0 c ls.toArray w (Ns w) (IC _ _ _ w) hH (by simp;omega) (by simp;omega)
 have e1:ls.toArray.size=n:=by simpa using hl
 rw[e1] at k
 refine k.mono fun e w' ⟨he,q,hq⟩=> ?_
 have hle:(fU ls).length≤ls.length:=List.length_filter_le _ _
 subst hq
 refine⟨_,_,_,he,⟨rfl,⟨?_,hcm⟩,.inr ⟨g,rfl,hg,?_,zF hH _ ?_⟩⟩,Db gr hg 0 q _⟩
 · show (fU ls).length≤c
   omega
 · rw[Go.Sort.size_putRow];exact hw
 · show (fU ls).length+(List.replicate (n - (fU ls).length) _).length=ls.length
   rw[List.length_replicate];omega
end
section
open Go.RowKit
theorem uw:∀(l:List (List UInt8)) (x:List UInt8),aV (l++ [x])=aV l++(if l.getLast?=some x then [] else [x])
 | [],x=>rfl
 | [y],x=>by
  show (if y=x then aV [x] else y::aV [x])=_
  by_cases h:y=x
  · subst h;simp[aV]
  · simp[aV,h]
 |y::z::l,x=>by
  have ih:=uw (z::l) x
  have e:(y::z::l).getLast?=(z::l).getLast?:=List.getLast?_cons_cons
  rw[e]
  show (if y=z then aV ((z::l)++ [x]) else y::aV ((z::l)++ [x]))=(if y=z then aV (z::l) else y::aV (z::l))++_
  rw[ih]
  by_cases h:y=z
  · rw[if_pos h,if_pos h]
  · rw[if_neg h,if_neg h];rfl
theorem uU (ls:List (List UInt8)):∀m,m≤ls.length→Lib.compactUpTo ls.toArray m=aV (ls.take m)
 |0,_=>by simp[Lib.compactUpTo,aV]
 |m+1,h=>by
  have hm:m<ls.length:=by omega
  rw[Lib.compactUpTo_succ,uU ls m Xf,List.take_succ_eq_append_getElem hm,uw]
  congr 1
  have e1:ls.toArray[m]! =ls[m]:=by rw[getElem!_pos ls.toArray m (by simpa using hm)];simp
  rw[e1]
  by_cases h0:m=0
  · subst h0
    simp[Lib.keeps]
  · have hm1:m - 1<ls.length:=by omega
    have e2:ls.toArray[m - 1]! =ls[m - 1]:=by rw[getElem!_pos ls.toArray (m - 1) (by simpa using hm1)];simp
    have e3:(ls.take m).getLast?=some ls[m - 1]:=by
     rw[List.getLast?_eq_getElem?,List.length_take,Nat.min_eq_left Xf,List.getElem?_take_of_lt Xf,List.getElem?_eq_getElem hm1]
    rw[e3]
    unfold Lib.keeps
    rw[e1,e2]
    by_cases h1:ls[m]=ls[m - 1]
    · simp[h0,h1]
    · have h2:¬ls[m - 1]=ls[m]:=fun e=>h1 e.symm
      simp[h0,h1,h2]
theorem JL (ls:List (List UInt8)):Lib.compact ls=aV ls:=by
 unfold Lib.compact
 rw[uU ls _ (Nat.le_refl _),List.take_length]
end
section
open Go.RowKit
theorem II {w0 w:World} (gr:Gr w0 w) (A:Option Addr) (n c:Nat) (ls:List (List UInt8)) (h:Rw w0 w A n c ls) (hn:n≤1000):
 Calls Tryz.prog 73 #[.slice A n c] w fun e w'=>∃A' n' c',e= .returned (.slice A' n' c')∧Rw w0 w' A' n' c' (aV ls)∧Gr w0 w':=by
 obtain⟨hl,hc,h⟩:=h
 rcases h with⟨rfl,rfl,rfl⟩| ⟨g,rfl,hg,hw,hH⟩
 · have e:ls=[]:=List.eq_nil_of_length_eq_zero hl
   subst e
   exact (Tryz.slices_Compact_string_empty none 0 w).mono fun e w' ⟨he,h2⟩=>⟨none,0,0,he,⟨rfl,⟨Nat.zero_le _,Xf⟩,.inl ⟨rfl,rfl,rfl⟩⟩,h2▸gr⟩
 · subst hl
   have k:=Tryz.slices_Compact_string g 0 c ls w hH Xf hc.1
   rw[JL] at k
   refine k.mono fun e w' ⟨he,q,hq⟩=> ?_
   have hle:(aV ls).length≤ls.length:=qA ls
   subst hq
   refine⟨_,_,_,he,⟨rfl,⟨Xf,hc.2⟩,.inr ⟨g,rfl,hg,?_,zF hH _ ?_⟩⟩,Db gr hg 0 q _⟩
   · rw[Go.Sort.size_putRow];exact hw
   · rw[List.length_replicate];omega
end
section
open Go.RowKit
theorem GH (CL:Nat) (w:World):Calls Tryz.prog 140 #[.slice none 0 0,.func (.func CL) #[] #[]] w fun e w'=>e= .returned (.int .i64 (-1))∧w'=w:=by
 go_in
 go_wp2
 go_loopw [8] (fun i wr=>i= .int .i64 0∧wr=w) (fun i _=>0)
 case atStart=>exact⟨rfl,rfl⟩
 case round=>
  obtain⟨rfl,rfl⟩:=hrel
  go_wp2_with fail
  go_ret
  exact⟨rfl,rfl⟩
theorem LJ (w:World):Calls Tryz.prog 68 #[.slice none 0 0,.func (.func 70) #[] #[]] w fun e w'=>e= .returned (.slice none 0 0)∧w'=w:=by
 have H:=fun W=>Xh (GH 70 W)
 go_in
 go_wp2_with fail
 refine (H _).out.mono ?_
 rintro e w1 ⟨rfl,rfl⟩
 go_wp2_with fail
 go_ret
 exact⟨rfl,rfl⟩
theorem Mt {w0 w:World} (gr:Gr w0 w) (A:Option Addr) (n c:Nat) (ls:List (List UInt8)) (h:Rw w0 w A n c ls) (hn:n≤1000):
 Calls Tryz.prog 68 #[.slice A n c,.func (.func 70) #[] #[]] w fun e w'=>∃A' n' c',e= .returned (.slice A' n' c')∧Rw w0 w' A' n' c' (fU ls)∧Gr w0 w':=by
 obtain⟨hl,hc,h⟩:=h
 rcases h with⟨rfl,rfl,rfl⟩| ⟨g,rfl,hg,hw,hH⟩
 · have e:ls=[]:=List.eq_nil_of_length_eq_zero hl
   subst e
   exact (LJ w).mono fun e w' ⟨he,h2⟩=>⟨none,0,0,he,⟨rfl,⟨Nat.le_refl _,Xf⟩,.inl ⟨rfl,rfl,rfl⟩⟩,h2▸gr⟩
 · exact JB gr g n c ls hl hc.1 hc.2 hg hw hH hn
end
section
open Go.RowKit
theorem Kj (d:Array Hd) (j:Nat) (hj:j<d.size):(jo d).toArray[j]! =d[j]!.1:=by
 rw[getElem!_pos (jo d).toArray j (by unfold jo;simpa using hj),getElem!_pos d j hj]
 simp[jo]
theorem zB {w:World} {g o:Nat} {d:Array Hd}:Go.Sort.Holds qE w g o d↔Go.Sort.Holds ak w g o (jo d).toArray:=by
 have hs:(jo d).toArray.size=d.size:=by unfold jo;simp
 constructor
 · intro h j hj
   rw[hs] at hj
   rw[Kj d j hj]
   exact h j hj
 · intro h j hj
   have :=h j (by rw[hs];exact hj)
   rw[Kj d j hj] at this
   exact this
theorem Ov {w0 w:World} (gr:Gr w0 w) (g n c:Nat) (ls:List (List UInt8)) (hl:ls.length=n) (hc:n≤c) (hcm:c≤9223372036854775807) (hg:w0.heap.size≤g) (hw:g<w.heap.size) (hH:Go.Sort.Holds ak w g 0 ls.toArray) (hn:n≤1000)
 (hb:∀x∈ls,x.length≤100000) (hT:U8 w0) (hM:gL w0):
 Calls Tryz.prog 71 #[.slice (some ⟨g,0,none⟩) n c,.func (.func 72) #[] #[]] w fun e w'=>e= .returned (.tuple #[])∧∃S,S.Perm ls∧Weak S∧Rw w0 w' (some ⟨g,0,none⟩) n c S∧Gr w0 w':=by
 have hd:=RD ls hb
 have hH2:Go.Sort.Holds qE w g 0 (mZ ls hb):=zB.2 (by rw[Ie];exact hH)
 have k:=Sk gr g 0 c hg hT hM (mZ ls hb) hH2 hw (by rw[hd];omega)
 rw[hd,hl] at k
 refine k.mono fun e w' ⟨he,d',m,os,hp,hs,hq⟩=>⟨he,jo d',?_,?_,?_,?_⟩
 · have h2:=PI (d:=mZ ls hb) (d':=d') (by rw[hd,hl];exact hp)
   rwa[Ie] at h2
 · exact PO (d:=mZ ls hb) (by rw[hd,hl,hp.1,hd,hl]) (by rw[hd,hl];exact hs)
 · have hsz:d'.size=n:=by rw[hp.1,hd,hl]
   refine⟨by unfold jo;simpa using hsz,⟨hc,hcm⟩,.inr ⟨g,rfl,hg,?_,?_⟩⟩
   · subst hq
     show g<((Go.Sort.putRow qE (Go.Sort.ahead w m) g 0 d').heap++os).size
     rw[Array.size_append,Go.Sort.size_putRow]
     show g<w.heap.size+os.size
     omega
   · subst hq
     exact zB.1 (Go.Proofs.holds_sortWorld qE w g 0 m (mZ ls hb) d' os hw hH2 (by rw[hsz,hd,hl]))
 · subst hq
   exact AJ gr hg qE 0 m d' os
end
section
open Go.RowKit
theorem QY {w0 w:World} (gr:Gr w0 w) (A:Option Addr) (n c:Nat) (ls:List (List UInt8)) (h:Rw w0 w A n c ls) (hn:n≤1000)
 (hb:∀x∈ls,x.length≤100000) (hT:U8 w0) (hM:gL w0):
 Calls Tryz.prog 71 #[.slice A n c,.func (.func 72) #[] #[]] w fun e w'=>e= .returned (.tuple #[])∧∃S,S.Perm ls∧Weak S∧Rw w0 w' A n c S∧Gr w0 w':=by
 obtain⟨hl,hc,h⟩:=h
 rcases h with⟨rfl,rfl,rfl⟩| ⟨g,rfl,hg,hw,hH⟩
 · have e:ls=[]:=List.eq_nil_of_length_eq_zero hl
   subst e
   exact (Go.Proofs.AnyF.slices_SortFunc_none {Tryz.BX with} none 0 (.func (.func 72) #[] #[]) w).mono fun e w' ⟨he,h2⟩=>
    ⟨he,[],List.Perm.refl _,List.Pairwise.nil,⟨rfl,⟨Nat.le_refl _,Xf⟩,.inl ⟨rfl,rfl,rfl⟩⟩,h2▸gr⟩
 · exact Ov gr g n c ls hl hc.1 hc.2 hg hw hH hn hb hT hM
theorem Rz (ls:List (List UInt8)):(fU ls).length=fA ls:=rfl
theorem Ru {ls:List (List UInt8)} {x:List UInt8} (h:x∈fU ls):x∈ls:=(List.mem_filter.1 h).1
theorem uT (A:Option Addr) (n c:Nat) (ls:List (List UInt8)) (w:World) (h:Ws w A n c ls) (hn:n≤1000) (hb:∀x∈ls,x.length≤100000) (hT:U8 w) (hM:gL w):
 Calls Tryz.prog 33 #[.slice A n c] w fun e w'=>∃A' n' c' N,e= .returned (.slice A' n' c')∧jU ls N∧N.length≤fA ls∧Rw w w' A' n' c' N∧Gr w w':=by
 have hll:=h.len
 have H1:=Xh (Mi A n c ls w h hn)
 have H2:Hid (∀wr A1 c1,Gr w wr→Rw w wr A1 n c1 ls→Calls Tryz.prog 68 #[.slice A1 n c1,.func (.func 70) #[] #[]] wr fun e w'=>∃A' n' c',e= .returned (.slice A' n' c')∧Rw w w' A' n' c' (fU ls)∧Gr w w'):=fun wr A1 c1 g r=>Mt g A1 n c1 ls r hn
 have hfl:(fU ls).length≤n:=by rw[←hll];exact List.length_filter_le _ _
 have H3:Hid (∀wr A1 n1 c1,Gr w wr→Rw w wr A1 n1 c1 (fU ls)→Calls Tryz.prog 71 #[.slice A1 n1 c1,.func (.func 72) #[] #[]] wr fun e w'=>e= .returned (.tuple #[])∧∃S,S.Perm (fU ls)∧Weak S∧Rw w w' A1 n1 c1 S∧Gr w w'):=fun wr A1 n1 c1 g r=>QY g A1 n1 c1 (fU ls) r (by have :=r.1;omega) (fun x hx=>hb x (Ru hx)) hT hM
 have H4:Hid (∀wr A1 n1 c1 S,S.Perm (fU ls)→Gr w wr→Rw w wr A1 n1 c1 S→Calls Tryz.prog 73 #[.slice A1 n1 c1] wr fun e w'=>∃A' n' c',e= .returned (.slice A' n' c')∧Rw w w' A' n' c' (aV S)∧Gr w w'):=fun wr A1 n1 c1 S hp g r=>II g A1 n1 c1 S r (by have :=r.1;have :=hp.length_eq;omega)
 have HF:Hid (∀S,S.Perm (fU ls)→Weak S→jU ls (aV S)∧(aV S).length≤fA ls):=fun S hp hw=>⟨D5 hp hw,by rw[←Rz,←hp.length_eq];exact qA S⟩
 clear h hb hT hM hll hfl
 go_in
 go_wp2_with fail
 refine H1.out.mono ?_
 rintro e w1 ⟨A1,c1,rfl,r1,g1⟩
 have R1:=Xh r1;clear r1
 have G1:=Xh g1;clear g1
 go_wp2_with fail
 refine (H2.out _ _ _ G1.out R1.out).mono ?_
 rintro e w2 ⟨A2,n2,c2,rfl,r2,g2⟩
 have R2:=Xh r2;clear r2
 have G2:=Xh g2;clear g2
 go_wp2_with fail
 refine (H3.out _ _ _ _ G2.out R2.out).mono ?_
 rintro e w3 ⟨rfl,S,hp,hwk,r3,g3⟩
 have R3:=Xh r3;clear r3
 have G3:=Xh g3;clear g3
 have HP:=Xh hp;clear hp
 have HW:=Xh hwk;clear hwk
 go_wp2_with fail
 refine (H4.out _ _ _ _ S HP.out G3.out R3.out).mono ?_
 rintro e w4 ⟨A4,n4,c4,rfl,r4,g4⟩
 have R4:=Xh r4;clear r4
 have G4:=Xh g4;clear g4
 go_wp2_with fail
 go_ret
 exact⟨_,_,_,_,rfl,(HF.out S HP.out HW.out).1,(HF.out S HP.out HW.out).2,R4.out,G4.out⟩
end
section
open Go.RowKit Go.Maps
def kE (hs:List (List UInt8)):List (List UInt8):=hs.foldl MH []
theorem pO:∀hs:List (List UInt8),jU hs (kE hs):=oF Dv fun l x h=>by
 unfold kE
 rw[List.foldl_append]
 exact Lx h x
theorem yX {w0 w:World} {A:Option Addr} {n c:Nat} {ls:List (List UInt8)} (h:Rw w0 w A n c ls):Ws w A n c ls:=by
 obtain⟨hl,⟨hc,hm⟩,h⟩:=h
 refine⟨by rw[List.length_map,hl,Nat.mul_one],hc,hm,fun hn=> ?_⟩
 rcases h with⟨rfl,rfl,rfl⟩| ⟨g,rfl,hg,hw,hH⟩
 · omega
 · refine⟨g,0,rfl,fun j u hu=> ?_⟩
   have hj:j<ls.length:=by have :=(List.getElem?_eq_some_iff.1 hu).1;rwa[List.length_map] at this
   have h1:=(hH j (by simpa using hj)).1
   rw[h1]
   rw[List.getElem?_map,List.getElem?_eq_getElem hj] at hu
   rw[getElem!_pos ls.toArray j (by simpa using hj)]
   exact hu
theorem Was.push {w0 w w':World} {kb:Nat} {v v':Value} {E:List EnV} {cs:Array Value} (h:Was w0 kb v E w) (x:EnV) (hx:QB kb w x.a x.m x.c x.v) (o:Own w0 w' 47 2 v' (E.length+1) (E.flatMap EnV.cells++x.cells)) (k:Kept (w.alloc (.cells cs 47)) w' v v'):Was w0 kb v' (E++ [x]) w':=by
 refine⟨by rw[List.length_append,List.flatMap_append];simpa using o,fun y hy=> ?_⟩
 have kx:KX (fun z=>v.ownBlock=some z) kb (w.alloc (.cells cs 47)) w':=⟨k.2.1,fun b a t m e _ _ h3=>(k.1 b (fV e) h3).trans e⟩
 have hy2:QB kb w y.a y.m y.c y.v:=by
  rcases List.mem_append.1 hy with hy|hy
  · exact h.q y hy
  · rw[List.mem_singleton.1 hy];exact hx
 refine (hy2.mono (Gr.alloc w (.cells cs 47))).kx kx (fun z s=> ?_)
 obtain⟨cs2,z2⟩:=(h.o.mono (Gr.alloc w (.cells cs 47))).aA s
 exact⟨_,_,z2,by unfold tyB;decide⟩
theorem tEn:eB Tryz.prog 38 47 (.agg #[.string ⟨#[]⟩,.slice none 0 0]) 2 40:=⟨Tryz.underlying38,by kernel_rfl,rfl,Xg,Xg⟩
section
variable {w0 w w':World} {L:Pl} {a d l:Int} {N:Nat} {m:Mc} {n:Nat} {x:Spr} {vl:Value} {next:Nat} {due:Bool} {pt ps b c pv kc LV:Nat} {A:Option Addr} {R:List aj} {K:Nat→List UInt8} {cs:Nat→Option (List UInt8×List UInt8)}
theorem xP (h:TrG w0 L a d l N m n x vl next due (.slice A 32 kc) pt ps b c R w) (hI:TrI a d l m.T (R.map aj.l) K cs) (hLV:ay a d l=LV):∀y∈aF LV cs,y.length≤60:=fun y hy=>by
 have hn:=dM a d l
 have hp:au a d l=av a d l+ay a d l:=rfl
 unfold aF at hy
 obtain⟨k,hk,rfl⟩:=List.mem_map.1 hy
 have hk:=List.mem_range.1 hk
 have :=hI.leaf (p:=(av a d l).toNat+k) Xf Xf
 rw[show (av a d l).toNat+k - (av a d l).toNat=k by omega] at this
 cases hc:cs k with
 |none=>exact Nat.zero_le _
 |some z=>
  rw[hc] at this
  obtain⟨_,_,_,_,h4,_⟩:=this
  exact h4
theorem vR (h:TrG w0 L a d l N m n x vl next due (.slice A 32 kc) pt ps b c R w) (hI:TrI a d l m.T (R.map aj.l) K cs) (hU:U8 w) (hLV:ay a d l=(LV:Int)) (hv:Blk w pv 76 [.pointer (some ⟨pt,0,none⟩)]) (hb:Bs w A 32 kc (K 0)) (s:List UInt8):
 Calls Tryz.prog 14 #[.pointer (some ⟨pv,0,none⟩),ak s] w (mQ w (kJ a d l LV cs s)):=by
 have hl64:LV≤64:=by have :=bM a d l;omega
 have HHE:=Xh (fun wr (g:Gr w wr)=>jN (h.gr g) hI (hU.mono g) LV hLV (hv.mono g))
 have HFI:=Xh (fun wr A c (q:Ws wr A LV c (aF LV cs))=>iU A LV c (aF LV cs) s wr q Xf)
 have HGT:=Xh (fun wr (g:Gr w wr)=>JF (h.gr g) hI (hU.mono g) (hb.mono g) (bW (aF LV cs) s))
 have HV:=Xh hv
 unfold kJ
 obtain⟨sx,hsx⟩:∃sx:ByteArray,ak s= .string sx:=⟨_,rfl⟩
 rw[hsx] at HFI ⊢
 generalize bW (aF LV cs) s=fi at *
 generalize vZ a d l cs fi=gv at *
 clear h hI hU hv hb hsx
 go_in
 go_upto_region 3 with fail
 refine wrG Xe [0,1,3,7,0,16,0,112,255,511,511,2047,4095] [.p 0,.p 1,.p 2,.p 4,.p 6,.q 3,.c 5,.c 7,.c 8,.p 9,.p 10,.p 11,.p 12] Xe (trivial) ?_
 iterate 5 refine gP ?_
 refine gQ (fun wq hq=>(HV.out.mono (Xk hq)).cell 0) ?_
 refine gC ?_
 intro w5 g5 K hK
 refine (HHE.out w5 ((Gr.drew _).trans g5)).mono ?_
 rintro e wn ⟨v6,rfl,o6⟩
 refine hK _ _ o6.below ?_;obtain⟨A6,c6,rfl,s6⟩:=o6.slice;have G6:=Xh (((Gr.drew w).trans g5).trans (show Gr w5 wn from o6.below));have S6:=Xh (show Ws wn A6 LV c6 (aF LV cs) from s6);clear g5 o6 s6 hK
 go_simp
 refine gC ?_
 intro w7 g7 K hK
 refine (HFI.out w7 A6 c6 (S6.out.mono g7)).mono ?_
 rintro e wn ⟨rfl,e7⟩
 subst e7;refine hK _ _ (Gr.refl _) ?_;have G7:=Xh (G6.out.trans g7);clear g7 hK
 go_simp
 refine gC ?_
 intro w8 g8 K hK
 refine (HGT.out w8 (G7.out.trans g8)).mono ?_
 rintro e wn ⟨A9,n9,c9,rfl,b9,g9,u9⟩
 refine hK _ _ g9 ?_;have G9:=Xh ((G7.out.trans g8).trans g9);have B9:=Xh b9;have U9:=Xh u9;clear g8 b9 g9 u9 hK
 go_simp
 iterate 4 refine gP ?_
 refine wNi fun wf gf=> ?_
 have Bf:=Xh (B9.out.mono gf);have Gf:=Xh (G9.out.trans gf);have Uf:=Xh (U9.out.mono gf)
 clear gf
 go_wp2_with fail
 go_ret2
 exact⟨A9,n9,c9,rfl,Bf.out,Gf.out,Uf.out⟩
theorem Bt (h:TrG w0 L a d l N m n x vl next due (.slice A 32 kc) pt ps b c R w) (hI:TrI a d l m.T (R.map aj.l) K cs) (hU:U8 w) (hM:gL w) (hLV:ay a d l=(LV:Int)) (hv:Blk w pv 76 [.pointer (some ⟨pt,0,none⟩)]):
 Calls Tryz.prog 17 #[.pointer (some ⟨pv,0,none⟩)] w fun e w'=>∃A n c,e= .returned (.slice A n c)∧Ws w' A n c (kE (aF LV cs))∧Gr w w':=by
 have hl64:LV≤64:=by have :=bM a d l;omega
 have hsh:=xP h hI hLV
 have HHE:=Xh (jN h hI hU LV hLV hv)
 have HNA:=Xh (fun wr A c (g:Gr w wr) (q:Ws wr A LV c (aF LV cs))=>uT A LV c (aF LV cs) wr q Xf (fun y hy=>by have :=hsh y hy;omega) (hU.mono g) (hM.mono g))
 clear h hI hU hM hv hsh
 go_in
 go_wp2_with fail
 refine HHE.out.mono ?_
 rintro e w1 ⟨v1,rfl,o1⟩
 obtain⟨A1,c1,rfl,s1⟩:=o1.slice
 have G1:=Xh (show Gr w w1 from o1.below)
 have HN1:=Xh (HNA.out w1 A1 c1 G1.out s1)
 clear o1 s1 HNA HHE
 go_wp2_with fail
 refine HN1.out.mono ?_
 rintro e w2 ⟨A2,n2,c2,NN,rfl,hN,_,r2,g2⟩
 have hNN:=sH hN (pO _)
 subst hNN
 have R2:=Xh (yX r2);have G2:=Xh (G1.out.trans g2)
 clear hN r2 g2 HN1
 go_wp2_with fail
 go_ret
 exact⟨A2,n2,c2,rfl,R2.out,G2.out⟩
end
end
section
open Go.RowKit Go.Maps
def LB (kb:Nat) (w:World) (s v:List UInt8) (e:Ending) (w':World):Prop:=∃A n c,e= .returned (.agg #[ak s,.slice A n c])∧QB kb w' A n c v∧Gr w w'
theorem VU:(Tryz.prog.info? 47).map (·.size)=some 2:=by kernel_rfl
section
variable {w0 w w':World} {kb:Nat}
theorem Po {v:Value} (s b:List UInt8) (bx:Nat) (kv:∃z,v= .pointer z) (hb:Blk w bx 35 [v]) (hG:∀wr,Gr w wr→Calls Tryz.prog 14 #[v,ak s] wr fun e w'=>∃A n c q,e= .returned (.tuple #[.slice A n c,.bool q])∧QB kb w' A n c b∧Gr wr w'):
 Calls Tryz.prog 27 #[ak s,.pointer (some ⟨bx,0,none⟩)] w (LB kb w s b):=by
 obtain⟨z,rfl⟩:=kv
 have HB:=Xh hb;have HG:=Xh hG
 unfold LB
 obtain⟨sx,hsx⟩:∃sx:ByteArray,ak s= .string sx:=⟨_,rfl⟩
 rw[hsx] at HG ⊢
 clear hb hG hsx
 obtain⟨W,hW⟩:∃W,W=w.alloc (.cells #[.string ⟨#[]⟩,.slice none 0 0] 47):=⟨_,rfl⟩
 have HW:=Xh hW
 have GW:Hid (Gr w W):=by show Gr _ _;rw[hW];exact Gr.alloc _ _
 have BW:Hid (Blk W w.heap.size 47 [.string ⟨#[]⟩,.slice none 0 0]):=by show Blk _ _ _ _;rw[hW];exact Blk.new w _ #[.string ⟨#[]⟩,.slice none 0 0]
 clear hW
 have hbx:=(HB.out.mono GW.out).cell 0
 go_in
 go_upto_region 1 with fail
 rw[←HW.out]
 go_wp2_with fail
 refine (HG.out W GW.out).mono ?_
 rintro e w1 ⟨A,n,c,q,rfl,q1,g1⟩
 have Q1:=Xh q1;have B1:=Xh (BW.out.mono g1);have G1:=Xh (GW.out.trans g1)
 clear q1 g1 hbx
 have f0:=B1.out.free 0
 have f1:=B1.out.free 1
 have c0:=B1.out.cell 0
 have c1:=B1.out.cell 1
 have hge:w.heap.size≤w.heap.size:=Nat.le_refl _
 have B2:=(B1.out.set 0 (.string sx)).set 1 (.slice A n c)
 have T2:Tch (fun b=>b=w.heap.size) w1 ((w1.setCell ⟨w.heap.size,0,none⟩ (.string sx)).setCell ⟨w.heap.size,1,none⟩ (.slice A n c)):=(Tch.set (S:=fun b=>b=w.heap.size) ⟨w.heap.size,0,none⟩ (.string sx) rfl).trans (Tch.set (S:=fun b=>b=w.heap.size) ⟨w.heap.size,1,none⟩ (.slice A n c) rfl)
 have Q2:=Xh (Q1.out.gK T2 (fun z e=>e▸⟨_,_,B1.out,by unfold tyB;decide⟩))
 have G2:Hid (Gr w ((w1.setCell ⟨w.heap.size,0,none⟩ (.string sx)).setCell ⟨w.heap.size,1,none⟩ (.slice A n c))):=Tch.below G1.out T2 G1.out.size (fun z e=>e▸hge)
 have HN:=Xh B2
 clear B2 T2 hge
 go_wp2_with fail
 exact bodyPost_ret (v:= .agg #[.string sx,.slice A n c]) (results_cell_row Tryz.results27 _ _ w.heap.size 47 #[.string sx,.slice A n c] (0,0) _ rfl HN.out Tryz.underlying47 rfl VU) rfl ⟨A,n,c,rfl,Q2.out,G2.out⟩
theorem Was.base {w1:World} {v:Value} {E:List EnV} (h:Was w1 kb v E w) (g:Gr w0 w1):Was w0 kb v E w:=⟨h.o.base g,h.q⟩
theorem uZ {v:Value} (kv:∃z,v= .pointer z) (NN:List (List UInt8)) (f:List UInt8→List UInt8) (hN:NN.length≤1000) (hNa:∀wr,Gr w wr→Calls Tryz.prog 17 #[v] wr fun e w'=>∃A n c,e= .returned (.slice A n c)∧Ws w' A n c NN∧Gr wr w')
 (hG:∀s∈NN,∀wr,Gr w wr→Calls Tryz.prog 14 #[v,ak s] wr fun e w'=>∃A n c q,e= .returned (.tuple #[.slice A n c,.bool q])∧QB kb w' A n c (f s)∧Gr wr w'):
 Calls Tryz.prog 11 #[v] w fun e w'=>∃v' E,e= .returned v'∧Was w kb v' E w'∧E.map EnV.p=NN.map (fun s=>(s,f s)):=by
 have HEN:=Xh (fun s hs bx wr (g:Gr w wr) hb=>Po (kb:=kb) (w:=wr) s (f s) bx kv hb (fun wq gq=>hG s hs wq (g.trans gq)))
 obtain⟨z,rfl⟩:=kv
 obtain⟨W,hW⟩:∃W,W=w.alloc (.cells #[.pointer z] 35):=⟨_,rfl⟩
 have HW:=Xh hW
 have GW:Hid (Gr w W):=by show Gr _ _;rw[hW];exact Gr.alloc _ _
 have BW:Hid (Blk W w.heap.size 35 [.pointer z]):=by show Blk _ _ _ _;rw[hW];exact Blk.new w _ #[.pointer z]
 have HNW:=Xh (hNa W GW.out)
 have hbx:=BW.out.cell 0
 have HNL:=Xh hN
 unfold LB at HEN
 clear hW hNa hG hN
 go_in
 go_upto_region 1 with fail
 rw[←HW.out]
 go_wp2_with fail
 refine HNW.out.mono ?_
 rintro e w1 ⟨A1,n1,c1,rfl,s1,g1⟩
 have S1:=Xh s1;have G1:=Xh (GW.out.trans g1);have B1:=Xh (BW.out.mono g1)
 have hn1:NN.length=n1:=s1.len
 have hmx:=s1.max;have hcp:=s1.cap
 have hn9:n1≤1000:=by have :=HNL.out;omega
 have HNN:=Xh hn1
 clear s1 g1 hbx HNW hn1
 go_wp2_with fail
 go_loopw [2,10] (fun v i wr=>∃(k:Nat) (E:List EnV),k≤n1∧i= .int .i64 (k:Int)∧Was w1 kb v E wr∧E.length=k∧E.map EnV.p=(NN.take k).map (fun s=>(s,f s))) (fun _ i _=>n1 - (Go.RowKit.intOf i).toNat)
 case atStart=>exact⟨0,[],Nat.zero_le _,rfl,⟨Own.nil _ _ _,fun x hx=>by cases hx⟩,rfl,rfl⟩
 case round=>
  obtain⟨k,E,hk,rfl,hw,hEl,hEp⟩:=hrel
  have HWA:=Xh hw;have HEP:=Xh hEp;have HEL:=Xh hEl
  have GR:=Xh (show Gr w1 wr from hw.o.below)
  clear hw hEp hEl
  by_cases hlt:k<n1
  · have t:decide ((k:Int)<(n1:Int))=true:=decide_eq_true Xf
    have wk:IntKind.i64.wrap ((k:Int)+1)=(k:Int)+1:=IntWalk.i64_in _ Xf
    have hkl:k<NN.length:=by have :=HNN.out;omega
    obtain⟨b1,o1,rfl,hcc⟩:=Ws.addr (S1.out.mono GR.out) Xf
    have c3:=hcc k hkl
    have HE:=Xh (HEN.out NN[k] (List.getElem_mem hkl) w.heap.size wr (G1.out.trans GR.out) (B1.out.mono GR.out))
    have HTK:Hid ((NN.take (k+1)).map (fun s=>(s,f s))=(NN.take k).map (fun s=>(s,f s))++ [(NN[k],f NN[k])]):=by
     show _=_
     rw[List.take_succ_eq_append_getElem hkl,List.map_append]
     rfl
    clear hcc
    generalize NN[k]=s at *
    have HSX:Hid (ak s= .string ⟨s.toArray⟩):=Xh rfl
    obtain⟨sx,hsx⟩:∃sx:ByteArray,sx=⟨s.toArray⟩:=⟨_,rfl⟩
    rw[←hsx] at c3 HSX
    rw[HSX.out] at HE
    clear hsx
    go_wp2_with fail
    refine HE.out.mono ?_
    rintro e w3 ⟨A3,n3,c3',rfl,q3,g3⟩
    have WA3:=Xh (HWA.out.gr g3);have Q3:=Xh q3
    have OW:=Xh WA3.out.o
    have hE9:E.length≤1000:=by have :=HEL.out;omega
    clear q3 g3 c3 HE
    go_wp2_with (at_builtin;refine nW rfl (.tmp 14) (.tmp 18) 38 rfl tEn rfl OW.out #[.string sx,.slice A3 n3 c3'] rfl rfl (by intro u hu;simp at hu;rcases hu with rfl|rfl<;>rfl) Xf ?_;intro v7 w7 o7 k7;have O7:=Xh o7;have K7:=Xh k7;clear o7 k7)
    have FIN:Hid (Was w1 kb v7 (E++ [⟨s,f s,A3,n3,c3'⟩]) w7):=WA3.out.push ⟨s,f s,A3,n3,c3'⟩ Q3.out (by have :=O7.out;unfold EnV.cells;rw[HSX.out];exact this) K7.out
    have FEP:Hid ((E++ [(⟨s,f s,A3,n3,c3'⟩:EnV)]).map EnV.p=(NN.take (k+1)).map (fun s=>(s,f s))):=by
     show _=_
     rw[List.map_append,HEP.out,HTK.out]
     rfl
    have FEL:Hid ((E++ [(⟨s,f s,A3,n3,c3'⟩:EnV)]).length=k+1):=by show _=_;rw[List.length_append,HEL.out];rfl
    go_roundw
    case rel=>exact⟨k+1,_,Xf,by go_num,FIN.out,FEL.out,FEP.out⟩
    case measure=>simp[Go.RowKit.intOf];omega
  · obtain rfl:k=n1:=by omega
    have t:decide ((k:Int)<(k:Int))=false:=decide_eq_false Xf
    have FEP:Hid (E.map EnV.p=NN.map (fun s=>(s,f s))):=by have :=HEP.out;rwa[List.take_of_length_le (by have :=HNN.out;omega)] at this
    have FWA:=Xh (HWA.out.base G1.out)
    clear HEP HWA
    go_wp2_with fail
    go_ret
    exact⟨_,E,rfl,FWA.out,FEP.out⟩
theorem Lf {wa wb:World} {v v':Value} {E E':List EnV} (h:Was wa kb v E w) (h':Was wb kb v' E' w) (he:E.map EnV.p=E'.map EnV.p):
 Calls Tryz.prog 13 #[v,v'] w fun e w'=>e= .returned (.bool true)∧Gr w w':=by
 obtain⟨A,c,rfl,s1⟩:=h.o.slice
 obtain⟨A',c',rfl,s2⟩:=h'.o.slice
 have hll:E'.length=E.length:=by have :=congrArg List.length he;rw[List.length_map,List.length_map] at this;exact this.symm
 have hm1:=s1.max;have hc1:=s1.cap;have hm2:=s2.max;have hc2:=s2.cap
 have HH:=Xh h;have HH':=Xh h';have HLL:=Xh hll;have HEE:=Xh he
 rw[hll] at hc2 ⊢
 obtain⟨n,hn⟩:∃n,n=E.length:=⟨_,rfl⟩
 have HN:=Xh hn
 rw[←hn] at hc1 hc2 ⊢
 clear h h' he s1 s2 hll hn
 go_in
 go_wp2_with fail
 go_loopw [5] (fun i wr=>∃k:Nat,k≤n∧i= .int .i64 (k:Int)∧Gr w wr) (fun i _=>n - (Go.RowKit.intOf i).toNat)
 case atStart=>exact⟨0,Nat.zero_le _,rfl,Gr.refl _⟩
 case round=>
  obtain⟨k,hk,rfl,g⟩:=hrel
  have G:=Xh g
  by_cases hlt:k<n
  · have t:decide ((k:Int)<(n:Int))=true:=decide_eq_true Xf
    have wk:IntKind.i64.wrap ((k:Int)+1)=(k:Int)+1:=IntWalk.i64_in _ Xf
    have hk1:k<E.length:=by have :=HN.out;omega
    have hk2:k<E'.length:=by have :=HLL.out;omega
    obtain⟨b1,o1,q1,e1,c1,c2,b3⟩:=(HH.out.gr g).row hk1
    obtain⟨b2,o2,q2,e2,d1,d2,d3⟩:=(HH'.out.gr g).row hk2
    injection e1 with e1 _ _
    injection e2 with e2 _ _
    subst e1 e2
    have hpe:E[k].p=E'[k].p:=by
     have :=congrArg (fun L=>L[k]?) HEE.out
     simp only[List.getElem?_map,List.getElem?_eq_getElem hk1,List.getElem?_eq_getElem hk2,Option.map_some,Option.some.injEq] at this
     exact this
    generalize E[k]=x at *
    generalize E'[k]=y at *
    obtain⟨xn,xv,xa,xm,xc⟩:=x
    obtain⟨yn,yv,ya,ym,yc⟩:=y
    simp only[EnV.p,Prod.mk.injEq] at hpe
    obtain⟨rfl,rfl⟩:=hpe
    simp only at c1 c2 b3 d1 d2 d3
    obtain⟨sx,hsx⟩:∃sx:ByteArray,ak xn= .string sx:=⟨_,rfl⟩
    rw[hsx] at c1 d1
    have CC:=Xh (fun wq (gq:Gr wr wq)=>And.intro ((gq.cell (World.block_lt_of_cell? _ _ c1)).trans c1) (And.intro ((gq.cell (World.block_lt_of_cell? _ _ c2)).trans c2) (And.intro ((gq.cell (World.block_lt_of_cell? _ _ d1)).trans d1) ((gq.cell (World.block_lt_of_cell? _ _ d2)).trans d2))))
    have HSM:=Xh (fun wq (gq:Gr wr wq)=>C9 xa ya xm ym xc yc xv xv wq (b3.mono gq).b (d3.mono gq).b)
    have tb:(xv==xv)=true:=by simp
    simp only[tb] at HSM
    have ts:(sx.toList !=sx.toList)=false:=by simp
    clear hsx c1 c2 d1 d2 b3 d3 tb
    go_upto_region 6 with fail
    refine wrG Xe [0,0,3,7,15,0,0,96,224,480,1023,2047,4095,4095,16383,32767,65535,4095,4095,397311,921599,1970175,4194303,8388607,16777215] [.p 0,.p 1,.p 2,.p 3,.p 5,.p 6,.p 7,.p 8,.q 4,.q 9,.p 10,.p 11,.p 12,.p 13,.p 14,.p 15,.p 17,.p 18,.p 19,.p 20,.q 16,.q 21,.c 22,.p 23,.p 24] Xe (trivial) ?_
    iterate 8 refine gP ?_
    iterate 2 refine gQ (fun wq hq=>CC.out wq (Xk hq)) ?_
    iterate 10 refine gP ?_
    iterate 2 refine gQ (fun wq hq=>CC.out wq (Xk hq)) ?_
    refine gC ?_
    intro w6 g6 K hK
    refine (HSM.out w6 ((Gr.drew _).trans g6)).mono ?_
    rintro e wn ⟨rfl,g7⟩
    refine hK _ _ g7 ?_;have G7:=Xh (((Gr.drew wr).trans g6).trans (show Gr w6 wn from g7));clear g6 g7 hK
    go_simp
    iterate 2 refine gP ?_
    refine wNi fun wf gf=> ?_
    have Gf:=Xh (G.out.trans (G7.out.trans gf))
    clear gf
    go_wp2_with fail
    go_roundw
    case rel=>exact⟨k+1,Xf,by go_num,Gf.out⟩
    case measure=>simp[Go.RowKit.intOf];omega
  · obtain rfl:k=n:=by omega
    have t:decide ((k:Int)<(k:Int))=false:=decide_eq_false Xf
    clear g
    go_wp2_with fail
    go_ret
    exact⟨rfl,G.out⟩
end
end
end Go.Proofs.YtipdlnejmcmbbaaGreatDoor
