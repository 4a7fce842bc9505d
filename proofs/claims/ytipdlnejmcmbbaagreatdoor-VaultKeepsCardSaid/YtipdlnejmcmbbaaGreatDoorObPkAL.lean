/- Own texts, one behind the other. No condition. -/
import Derived.Test.YtipdlnejmcmbbaaGreatDoorObPkAD
import Derived.Lib.IndexLaws
import Derived.Lib.ValidU
import Derived.Laws.RangeAny
import Derived.Deep.DeepCutAuto
import Derived.Lib.RuneCount
import Derived.Shelf.Unicode.ValidAny
set_option linter.unusedVariables false
set_option maxRecDepth 100000
set_option maxHeartbeats 8000000
set_option linter.unusedSimpArgs false
namespace Go.Proofs.YtipdlnejmcmbbaaGreatDoor
section
open Go.RowKit
def iQ (b:UInt8):Bool:=(decide (48≤b.toNat) && decide (b.toNat≤57)) || (decide (97≤b.toNat) && decide (b.toNat≤122))
def kr (b:UInt8):Bool:=decide (159≤b.toNat) && decide (b.toNat≤191) && decide (b.toNat≠183)
def fq (r:Nat):Bool:=(decide (48≤r) && decide (r≤57)) || (decide (97≤r) && decide (r≤122)) || (decide (223≤r) && decide (r≤255) && decide (r≠247))
def aS:List UInt8→Option Nat
 | []=>some 0
 | [b]=>if iQ b=true then some 1 else none
 |b::c::l=>if iQ b=true then (aS (c::l)).map (· +1) else if b=195∧kr c=true then (aS l).map (· +1) else none
def iD (l:List UInt8):Bool:=match aS l with
 |some n=>decide (1≤n) && decide (n≤8)
 |none=>false
def d9:List UInt8→Nat
 | []=>0
 | [b]=>if iQ b=true then 1 else 0
 |b::c::_=>if iQ b=true then 1 else if b=195∧kr c=true then 2 else 0
theorem qw:∀{l:List UInt8} {k:Nat},d9 l=k→0<k→k≤l.length∧k≤2∧aS l=(aS (l.drop k)).map (· +1)
 | [],k,h,hk=>by simp only[d9] at h;omega
 | [b],k,h,hk=>by
  simp only[d9] at h
  by_cases hb:iQ b=true
  · rw[if_pos hb] at h
    subst h
    refine⟨Nat.le_refl _,Xg,?_⟩
    simp only[aS]
    rw[if_pos hb]
    rfl
  · rw[if_neg hb] at h;omega
 |b::c::l,k,h,hk=>by
  simp only[d9] at h
  by_cases hb:iQ b=true
  · rw[if_pos hb] at h
    subst h
    refine⟨by simp,Xg,?_⟩
    rw[aS,if_pos hb]
    rfl
  · rw[if_neg hb] at h
    by_cases hc:b=195∧kr c=true
    · rw[if_pos hc] at h
      subst h
      refine⟨by simp,Xg,?_⟩
      rw[aS,if_neg hb,if_pos hc]
      rfl
    · rw[if_neg hc] at h;omega
theorem wW:∀{l:List UInt8},d9 l=0→l≠[]→aS l=none
 | [],_,hl=>absurd rfl hl
 | [b],h,_=>by
  simp only[d9] at h
  by_cases hb:iQ b=true
  · rw[if_pos hb] at h;omega
  · simp only[aS];rw[if_neg hb]
 |b::c::l,h,_=>by
  simp only[d9] at h
  by_cases hb:iQ b=true
  · rw[if_pos hb] at h;omega
  · rw[if_neg hb] at h
    by_cases hc:b=195∧kr c=true
    · rw[if_pos hc] at h;omega
    · rw[aS,if_neg hb,if_neg hc]
theorem Kz (l:List UInt8) (i:Nat) (h:i<l.length):(⟨l.toArray⟩:ByteArray).get! i=l[i]:=by
 unfold ByteArray.get!
 simp[h]
theorem oU (l:List UInt8) (i:Nat) (hi:i<l.length):d9 (l.drop i)=if fq (Utf8.decode ⟨l.toArray⟩ i).1=true then (Utf8.decode ⟨l.toArray⟩ i).2 else 0:=by
 have hsz:(⟨l.toArray⟩:ByteArray).size=l.length:=by simp[ByteArray.size]
 have h0:(⟨l.toArray⟩:ByteArray).get! (i+0)=l[i]:=Kz l i hi
 have hd:l.drop i=l[i]::l.drop (i+1):=List.drop_eq_getElem_cons hi
 have hb:=(l[i]).toNat_lt
 generalize l[i]=b at *
 unfold Utf8.decode
 simp only[hsz,h0]
 by_cases h1:b.toNat<128
 · rw[if_pos h1]
   have hA:fq b.toNat=iQ b:=by
    unfold fq iQ
    have :(decide (223≤b.toNat) && decide (b.toNat≤255) && decide (b.toNat≠247))=false:=by simp;omega
    rw[this,Bool.or_false]
   simp only[hA]
   rw[hd]
   have hne:b≠195:=by intro e;rw[e] at h1;revert h1;decide
   match l.drop (i+1) with
   | []=>rfl
   |c::t=>
    simp only[d9]
    by_cases ha:iQ b=true
    · rw[if_pos ha,if_pos ha]
    · rw[if_neg ha,if_neg ha,if_neg (fun e=>hne e.1)]
 · rw[if_neg h1]
   have ha:¬iQ b=true:=by unfold iQ;simp;omega
   have hR:∀r,256≤r→¬fq r=true:=fun r hr=>by unfold fq;simp;omega
   have hE:¬fq Utf8.runeError=true:=by decide
   have hS:d9 (l.drop i)=if i+1<l.length∧b=195∧kr (l.getD (i+1) 0)=true then 2 else 0:=by
    rw[hd]
    by_cases hl:i+1<l.length
    · rw[List.drop_eq_getElem_cons hl]
      simp only[d9]
      rw[if_neg ha]
      have :l.getD (i+1) 0=l[i+1]:=by rw[List.getD_eq_getElem?_getD,List.getElem?_eq_getElem hl];rfl
      rw[this]
      by_cases h:b=195∧kr l[i+1]=true
      · rw[if_pos h,if_pos ⟨hl,h⟩]
      · rw[if_neg h,if_neg (fun e=>h e.2)]
    · rw[List.drop_eq_nil_of_le Xf,if_neg (fun e=>hl e.1)]
      simp only[d9]
      rw[if_neg ha]
   have hg:∀h:i+1<l.length,(⟨l.toArray⟩:ByteArray).get! (i+1)=l.getD (i+1) 0:=fun h=>by
    rw[Kz l (i+1) h,List.getD_eq_getElem?_getD,List.getElem?_eq_getElem h];rfl
   have hcl:(l.getD (i+1) 0).toNat<256:=(l.getD (i+1) 0).toNat_lt
   obtain⟨c,hc⟩:∃c,c=l.getD (i+1) 0:=⟨_,rfl⟩
   rw[←hc] at hS hg hcl
   rw[hS]
   have h195:b=195↔b.toNat=195:=⟨fun h=>by rw[h];rfl,fun h=>UInt8.toNat_inj.1 h⟩
   by_cases h2:b.toNat / 32=6∧i+1<l.length∧c.toNat / 64=2
   · obtain⟨h2,h3,h4⟩:=h2
     have hc2:(b.toNat / 32==6 && (decide (i+1<l.length) && ((⟨l.toArray⟩:ByteArray).get! (i+1)).toNat / 64==2))=true:=by
      rw[hg h3];simp[h2,h3,h4]
     rw[if_pos hc2,hg h3]
     by_cases h5:(b.toNat % 32)*64+c.toNat % 64≥128
     · rw[if_pos h5]
       by_cases h6:b.toNat=195∧kr c=true
       · have hr:fq ((b.toNat % 32)*64+c.toNat % 64)=true:=by
          obtain⟨h7,h8⟩:=h6
          unfold kr at h8
          simp at h8
          unfold fq
          simp
          omega
         rw[if_pos ⟨h3,h195.2 h6.1,h6.2⟩,if_pos hr]
       · have hr:¬fq ((b.toNat % 32)*64+c.toNat % 64)=true:=by
          intro hr
          apply h6
          unfold fq at hr
          simp at hr
          have h7:b.toNat=195:=by omega
          refine⟨h7,?_⟩
          unfold kr
          simp
          omega
         rw[if_neg hr,if_neg (fun e=>h6 ⟨h195.1 e.2.1,e.2.2⟩)]
     · rw[if_neg h5,if_neg hE,if_neg]
       rintro⟨_,e1,e2⟩
       have :=h195.1 e1
       omega
   · have hc2:¬(b.toNat / 32==6 && (decide (i+1<l.length) && ((⟨l.toArray⟩:ByteArray).get! (i+1)).toNat / 64==2))=true:=by
      intro h
      simp only[Bool.and_eq_true,beq_iff_eq,decide_eq_true_eq] at h
      obtain⟨e1,e2,e3⟩:=h
      rw[hg e2] at e3
      exact h2 ⟨e1,e2,e3⟩
     rw[if_neg hc2,if_neg (by
      rintro⟨e0,e1,e2⟩
      apply h2
      have :=h195.1 e1
      unfold kr at e2
      simp at e2
      exact⟨Xf,e0,Xf⟩)]
     split
     · split
       · next h=>
         simp only[Bool.and_eq_true,decide_eq_true_eq] at h
         rw[if_neg (hR _ Xf)]
       · first|rfl|rw[if_neg hE]
     · split
       · split
         · next h=>
           simp only[Bool.and_eq_true,decide_eq_true_eq] at h
           rw[if_neg (hR _ Xf)]
         · first|rfl|rw[if_neg hE]
       · first|rfl|rw[if_neg hE]
end
section
open Go.RowKit
def MB (b:UInt8):List (List UInt8)→List (List UInt8)
 | []=>[[b]]
 |p::ps=>(b::p)::ps
def pcL:List UInt8→List (List UInt8)
 | []=>[[]]
 |b::t=>if b=46 then []::pcL t else MB b (pcL t)
theorem lq:∀l,pcL l≠[]
 | [],h=>by cases h
 |b::t,h=>by
  unfold pcL at h
  split at h
  · cases h
  · cases hp:pcL t with
    |nil=>exact lq t hp
    |cons p ps=>rw[hp] at h;cases h
theorem xH:∀l:List UInt8,(∀b∈l,b≠46)→pcL l=[l]
 | [],_=>rfl
 |b::t,h=>by
  unfold pcL
  rw[if_neg (h b List.mem_cons_self),xH t (fun c hc=>h c (List.mem_cons_of_mem _ hc))]
  rfl
theorem Aa:∀(l:List UInt8) (i:Nat),l[i]?=some 46→(∀j,j<i→l[j]?≠some 46)→pcL l=l.take i::pcL (l.drop (i+1))
 | [],i,h,_=>by simp at h
 |b::t,0,h,_=>by
  have :b=46:=by simpa using h
  show (if b=46 then []::pcL t else MB b (pcL t))=_
  rw[if_pos this]
  rfl
 |b::t,i+1,h,hj=>by
  have hb:b≠46:=fun e=>hj 0 Xf (by simp[e])
  have ih:=Aa t i (by simpa using h) (fun j hji=>by have :=hj (j+1) Xf;simpa using this)
  show (if b=46 then []::pcL t else MB b (pcL t))=_
  rw[if_neg hb,ih]
  rfl
theorem oq (l:List UInt8) (i:Int) (h:Lib.indexByte l 46=i):(i= -1∧pcL l=[l])∨∃k:Nat,i=k∧k<l.length∧pcL l=l.take k::pcL (l.drop (k+1)):=by
 by_cases h0:i<0
 · have :=Lib.indexByte_ge l 46
   have hi:i= -1:=by omega
   subst hi
   left
   refine⟨rfl,xH l fun b hb e=> ?_⟩
   subst e
   obtain⟨k,hk,he⟩:=List.getElem_of_mem hb
   exact Lib.indexByte_none h k ((List.getElem?_eq_getElem hk).trans (by rw[he]))
 · right
   obtain⟨k,rfl⟩:∃k:Nat,i=k:=⟨i.toNat,Xf⟩
   obtain⟨h1,h2⟩:=Lib.indexByte_some h
   exact⟨k,rfl,(List.getElem?_eq_some_iff.1 h1).1,Aa l k h1 h2⟩
def jJ (ps:List (List UInt8)):Nat:=(ps.map fun p=>(aS p).getD 0+1).sum
def aB (l:List UInt8):Bool:=(pcL l).all iD && decide ((pcL l).length≤4) && decide (jJ (pcL l)≤25)
theorem Qv {p:List UInt8} (h:iD p=true):aS p≠none:=by
 intro e
 unfold iD at h
 rw[e] at h
 cases h
end
section
open Go.RowKit
theorem DX {l:List UInt8} {k:Nat} (h:d9 l=k) (hk:0<k) (hl:l≠[]):(Lib.decodeL l).2=k∧fq (Lib.decodeL l).1=true:=by
 have hpos:0<l.length:=List.length_pos_iff.2 hl
 have hd:=oU l 0 hpos
 rw[List.drop_zero] at hd
 show (Utf8.decode ⟨l.toArray⟩ 0).2=k∧fq (Utf8.decode ⟨l.toArray⟩ 0).1=true
 by_cases hs:fq (Utf8.decode ⟨l.toArray⟩ 0).1=true
 · rw[if_pos hs] at hd
   exact⟨Xf,hs⟩
 · rw[if_neg hs] at hd
   omega
theorem wQ {l:List UInt8} (h:aS l≠none) (hl:l≠[]):0<d9 l:=by
 rcases Nat.eq_zero_or_pos (d9 l) with h0|h0
 · exact absurd (wW h0 hl) h
 · exact h0
theorem xS:∀(f:Nat) (l:List UInt8),l.length≤f→aS l≠none→Lib.validGoD f l=true
 |0,_,_,_=>rfl
 |f+1,l,hf,h=>by
  unfold Lib.validGoD
  by_cases hl:l=[]
  · rw[if_pos hl]
  · rw[if_neg hl]
    have hp:=wQ h hl
    obtain⟨h1,h2⟩:=DX rfl hp hl
    obtain⟨h3,h4,h5⟩:=qw rfl hp
    rw[if_neg (fun e=>by rw[e.1] at h2;revert h2;decide),h1]
    exact xS f (l.drop (d9 l)) (by rw[List.length_drop];omega) (fun e=>h (by rw[h5,e];rfl))
theorem Si {l:List UInt8} (h:aS l≠none):Lib.validD l=true:=xS l.length l (Nat.le_refl _) h
end
section
open Go.RowKit
def dZ (r:Nat):Bool:=(decide (65≤r) && decide (r≤90)) || (decide (192≤r) && decide (r≤222) && decide (r≠215))
def iY (r:Nat):Bool:=dZ r || (decide (97≤r) && decide (r≤122)) || (decide (223≤r) && decide (r≤255) && decide (r≠247))
theorem PY (r:Nat):fq r=((decide (48≤r) && decide (r≤57)) || (iY r && !dZ r)):=by
 rw[Bool.eq_iff_iff]
 simp[fq,iY,dZ]
 omega
theorem CO (r:Nat) (w:World):Calls Tryz.prog 307 #[.int .i32 (r:Int)] w fun e w'=>e= .returned (.bool (dZ r))∧w=w':=by
 by_cases h1:r<65
 · skip
   have hv:dZ r=false:=by simp[dZ]<;>omega
   rw[hv]
   clear hv
   go_in
   go_wp2_with fail
   go_ret
   exact⟨rfl,rfl⟩
 by_cases h2:r≤90
 · skip
   have hv:dZ r=true:=by simp[dZ]<;>omega
   rw[hv]
   clear hv
   go_in
   go_wp2_with fail
   go_ret
   exact⟨rfl,rfl⟩
 have t90:decide ((r:Int)≤90)=false:=decide_eq_false Xf
 by_cases h3:r<192
 · skip
   have hv:dZ r=false:=by simp[dZ]<;>omega
   rw[hv]
   clear hv
   go_in
   go_wp2_with fail
   go_ret
   exact⟨rfl,rfl⟩
 by_cases h4:222<r
 · have t222:decide ((r:Int)≤222)=false:=decide_eq_false Xf
   have hv:dZ r=false:=by simp[dZ]<;>omega
   rw[hv]
   clear hv
   go_in
   go_wp2_with fail
   go_ret
   exact⟨rfl,rfl⟩
 by_cases h5:r=215
 · subst h5
   have hv:dZ 215=false:=by decide
   rw[hv]
   go_in
   go_wp2_with fail
   go_ret
   exact⟨rfl,rfl⟩
 have hv:dZ r=true:=by simp[dZ];omega
 have tne:((r:Int) !=215)=true:=bne_iff_ne.2 Xf
 rw[hv]
 clear hv
 go_in
 go_wp2_with fail
 go_ret
 exact⟨rfl,rfl⟩
theorem Mq (r:Nat) (w:World):Calls Tryz.prog 306 #[.int .i32 (r:Int)] w fun e w'=>e= .returned (.bool (iY r))∧w=w':=by
 have HU:=Xh (CO r w)
 cases hu:dZ r with
 |true=>
  rw[hu] at HU
  have hv:iY r=true:=by unfold iY;rw[hu];rfl
  rw[hv]
  clear hv hu
  go_in
  go_wp2_with fail
  refine HU.out.mono ?_
  rintro e w1 ⟨rfl,h1⟩
  obtain rfl:w=w1:=h1
  go_wp2_with fail
  go_ret
  exact⟨rfl,rfl⟩
 |false=>
  rw[hu] at HU
  have hv:iY r=((decide (97≤r) && decide (r≤122)) || (decide (223≤r) && decide (r≤255) && decide (r≠247))):=by unfold iY;rw[hu,Bool.false_or]
  rw[hv]
  clear hv hu
  have HLB:Hid (∀b:Bool,((decide (97≤r) && decide (r≤122)) || (decide (223≤r) && decide (r≤255) && decide (r≠247)))=b→Calls Tryz.prog 306 #[.int .i32 (r:Int)] w fun e w'=>e= .returned (.bool b)∧w=w'):=by
   intro b hb
   by_cases h0:r=247
   · subst h0
     obtain rfl:b=false:=by rw[←hb];decide
     clear hb
     go_in
     go_wp2_with fail
     refine HU.out.mono ?_
     rintro e w1 ⟨rfl,h1⟩
     obtain rfl:w=w1:=h1
     go_wp2_with fail
     go_ret
     exact⟨rfl,rfl⟩
   have teq:((r:Int)==247)=false:=beq_eq_false_iff_ne.2 Xf
   by_cases h1:r<97
   · obtain rfl:b=false:=by rw[←hb];simp;omega
     clear hb
     go_in
     go_wp2_with fail
     refine HU.out.mono ?_
     rintro e w1 ⟨rfl,h1⟩
     obtain rfl:w=w1:=h1
     go_wp2_with fail
     go_ret
     exact⟨rfl,rfl⟩
   by_cases h2:r≤122
   · obtain rfl:b=true:=by rw[←hb];simp;omega
     clear hb
     go_in
     go_wp2_with fail
     refine HU.out.mono ?_
     rintro e w1 ⟨rfl,h1⟩
     obtain rfl:w=w1:=h1
     go_wp2_with fail
     go_ret
     exact⟨rfl,rfl⟩
   have t122:decide ((r:Int)≤122)=false:=decide_eq_false Xf
   by_cases h3:r<223
   · obtain rfl:b=false:=by rw[←hb];simp;omega
     clear hb
     go_in
     go_wp2_with fail
     refine HU.out.mono ?_
     rintro e w1 ⟨rfl,h1⟩
     obtain rfl:w=w1:=h1
     go_wp2_with fail
     go_ret
     exact⟨rfl,rfl⟩
   by_cases h4:r≤255
   · have t255:decide ((r:Int)≤255)=true:=decide_eq_true Xf
     obtain rfl:b=true:=by rw[←hb];simp;omega
     clear hb
     go_in
     go_wp2_with fail
     refine HU.out.mono ?_
     rintro e w1 ⟨rfl,h1⟩
     obtain rfl:w=w1:=h1
     go_wp2_with fail
     go_ret
     exact⟨rfl,rfl⟩
   have t255:decide ((r:Int)≤255)=false:=decide_eq_false Xf
   obtain rfl:b=false:=by rw[←hb];simp;omega
   clear hb
   go_in
   go_wp2_with fail
   refine HU.out.mono ?_
   rintro e w1 ⟨rfl,h1⟩
   obtain rfl:w=w1:=h1
   go_wp2_with fail
   go_ret
   exact⟨rfl,rfl⟩
  exact HLB.out _ rfl
theorem ND (r:Nat) (w:World):Calls Tryz.prog 254 #[.int .i32 (r:Int)] w fun e w'=>e= .returned (.bool (fq r))∧w=w':=by
 have HL:=Xh (Mq r w)
 have HU:=Xh (CO r w)
 rw[PY]
 by_cases h0:48≤r∧r≤57
 · have hv:((decide (48≤r) && decide (r≤57)) || (iY r && !dZ r))=true:=by rw[decide_eq_true h0.1,decide_eq_true h0.2];rfl
   obtain⟨h1,h2⟩:=h0
   rw[hv]
   clear hv
   go_in
   go_wp2_with fail
   go_ret
   exact⟨rfl,rfl⟩
 have hv:((decide (48≤r) && decide (r≤57)) || (iY r && !dZ r))=(iY r && !dZ r):=by
  have :(decide (48≤r) && decide (r≤57))=false:=by simp;omega
  rw[this,Bool.false_or]
 rw[hv]
 clear hv
 generalize iY r=a at *
 generalize dZ r=b at *
 by_cases h1:r<48
 · cases a with
   |false=>
    go_in
    go_wp2_with fail
    refine HL.out.mono ?_
    rintro e w1 ⟨rfl,h1⟩
    obtain rfl:w=w1:=h1
    go_wp2_with fail
    go_ret
    exact⟨rfl,rfl⟩
   |true=>
    go_in
    go_wp2_with fail
    refine HL.out.mono ?_
    rintro e w1 ⟨rfl,h1⟩
    obtain rfl:w=w1:=h1
    go_wp2_with fail
    refine HU.out.mono ?_
    rintro e w2 ⟨rfl,h2⟩
    obtain rfl:w=w2:=h2
    go_wp2_with fail
    go_ret
    exact⟨rfl,rfl⟩
 · have t57:decide ((r:Int)≤57)=false:=decide_eq_false Xf
   cases a with
   |false=>
    go_in
    go_wp2_with fail
    refine HL.out.mono ?_
    rintro e w1 ⟨rfl,h1⟩
    obtain rfl:w=w1:=h1
    go_wp2_with fail
    go_ret
    exact⟨rfl,rfl⟩
   |true=>
    go_in
    go_wp2_with fail
    refine HL.out.mono ?_
    rintro e w1 ⟨rfl,h1⟩
    obtain rfl:w=w1:=h1
    go_wp2_with fail
    refine HU.out.mono ?_
    rintro e w2 ⟨rfl,h2⟩
    obtain rfl:w=w2:=h2
    go_wp2_with fail
    go_ret
    exact⟨rfl,rfl⟩
end
section
open Go.RowKit
theorem kI (l:List UInt8):(⟨l.toArray⟩:ByteArray).size=l.length:=by simp[ByteArray.size]
end
section
open Go.RowKit
theorem Dq (l:List UInt8) (s:ByteArray) (hs:s=⟨l.toArray⟩) (k:Nat):s.extract k s.size=⟨(l.drop k).toArray⟩:=by
 subst hs
 apply ByteArray.ext
 rw[kI]
 simp[ByteArray.extract,ByteArray.copySlice]
 rw[List.take_of_length_le (by simp)]
end
section
open Go.RowKit
theorem Nt:eB Tryz.prog 51 9 (.string ⟨#[]⟩) 1 16:=⟨Tryz.underlying51,by kernel_rfl,rfl,Xg,Xg⟩
def ak (p:List UInt8):Value:= .string ⟨p.toArray⟩
theorem kD:∀l:List UInt8,(pcL l).length≤l.length+1∧∀p∈pcL l,p.length≤l.length
 | []=>⟨by simp[pcL],by simp[pcL]⟩
 |b::t=>by
  obtain⟨h1,h2⟩:=kD t
  unfold pcL
  by_cases hb:b=46
  · rw[if_pos hb]
    refine⟨by simp;exact h1,fun p hp=> ?_⟩
    rcases List.mem_cons.1 hp with rfl|hp
    · simp
    · have :=h2 p hp;simp;omega
  · rw[if_neg hb]
    cases hq:pcL t with
    |nil=>exact absurd hq (lq t)
    |cons q ps=>
     rw[hq] at h1 h2
     refine⟨by show ((b::q)::ps).length≤_;simp at h1 ⊢;omega,fun p hp=> ?_⟩
     have hp:p∈(b::q)::ps:=hp
     rcases List.mem_cons.1 hp with rfl|hp
     · have :=h2 q List.mem_cons_self;simp;omega
     · have :=h2 p (List.mem_cons_of_mem _ hp);simp;omega
def Tg (w:World) (ps:List (List UInt8)) (e:Ending) (w':World):Prop:=∃v,e= .returned v∧Own w w' 9 1 v ps.length (ps.map ak)
end
section
open Go.RowKit
abbrev Ws (w:World) (A:Option Addr) (n c:Nat) (ps:List (List UInt8)):Prop:=Sl w A n c 1 (ps.map ak)
theorem Ws.len {w:World} {A:Option Addr} {n c:Nat} {ps:List (List UInt8)} (h:Ws w A n c ps):ps.length=n:=by have :=Sl.len h;simpa using this
theorem Ws.addr {w:World} {A:Option Addr} {n c:Nat} {ps:List (List UInt8)} (h:Ws w A n c ps) (hn:0<n):∃b o,A=some ⟨b,o,none⟩∧∀j (hj:j<ps.length),w.cell? ⟨b,o+j,none⟩=some (.string ⟨ps[j].toArray⟩):=by
 obtain⟨b,o,e,hc⟩:=Sl.addr h hn
 exact⟨b,o,e,fun j hj=>hc j _ (by rw[List.getElem?_map,List.getElem?_eq_getElem hj];rfl)⟩
theorem Own.onto {w0 w1 w:World} {e:TypeId} {size n:Nat} {v:Value} {xs:List Value} (h:Own w1 w e size v n xs) (hb:Below w0.heap.size w0 w1):Own w0 w e size v n xs:=by
 refine⟨⟨h.1.1,?_⟩,hb.trans (h.2.mono hb.size)⟩
 rcases h.1.2 with h'| ⟨g,cap,cur,hv,hg,r⟩
 · exact .inl h'
 · exact .inr ⟨g,cap,cur,hv,Nat.le_trans hb.size hg,r⟩
theorem Sl.gr {w w':World} {A:Option Addr} {n c s:Nat} {xs:List Value} (h:Sl w A n c s xs) (g:Gr w w'):Sl w' A n c s xs:=h.mono g
def rG (l:List UInt8):List (List UInt8):=if aB l=true then pcL l else []
end
section
open Go.RowKit
theorem Ar (l:List UInt8):(⟨l.toArray⟩:ByteArray).size=l.length:=by simp[ByteArray.size]
theorem JN {o:Option Nat} {a b:Nat}:(o.map (· +a)).map (· +b)=o.map (· +(b+a)):=by cases o<;>simp;omega
theorem RY (l:List UInt8) (w:World) (hl:l.length<9223372036854775807):Calls Tryz.prog 182 #[.string ⟨l.toArray⟩] w fun e w'=>e= .returned (.bool (iD l))∧Gr w w':=by
 obtain⟨r,hr⟩:∃r,r=iD l:=⟨_,rfl⟩
 rw[←hr]
 have HR:=Xh hr
 obtain⟨s,hs⟩:∃s:ByteArray,s=⟨l.toArray⟩:=⟨_,rfl⟩
 rw[←hs]
 have hsz:s.size=l.length:=by rw[hs];exact Ar l
 have HS:=Xh hs;have HSZ:=Xh hsz
 clear hr hs hsz
 go_in
 go_wp2_with fail
 go_loopw [3] (fun n w'=>∃(pos acc:Nat),w'=w.iter s pos∧n= .int .i64 acc∧acc≤pos∧pos≤s.size∧aS l=(aS (l.drop pos)).map (· +acc)) (fun _ w'=>s.size - w'.iterPos w.heap.size)
 case atStart=>exact⟨0,0,rfl,rfl,Nat.le_refl _,Nat.zero_le _,by rw[List.drop_zero];cases aS l<;>rfl⟩
 case round=>
  obtain⟨pos,acc,rfl,rfl,ha,hps,hrn⟩:=hrel
  have HRN:=Xh hrn;clear hrn
  have GI:Hid (∀q,Gr w (w.iter s q)):=fun q=>Gr.alloc w (.stringIter s q)
  by_cases hp:pos<s.size
  · have hnx:∀ty,(Instr.next (.pointer (some ⟨w.heap.size,0,none⟩)) true ty).run Tryz.prog (w.iter s pos)=_:=fun ty=>run_next_any w s pos ty hp
    have hd:=oU l pos (by rw[←HSZ.out];exact hp)
    rw[←HS.out] at hd
    have hne:l.drop pos≠[]:=by
     intro e
     have :=congrArg List.length e
     rw[List.length_drop] at this
     have :=HSZ.out
     simp at *
     omega
    have hsm:=Xh (ND (Utf8.decode s pos).1)
    generalize hdec:Utf8.decode s pos=dc at *
    obtain⟨rn,wd⟩:=dc
    simp only at hd hsm hnx
    cases hb:fq rn with
    |false=>
     rw[hb] at hd hsm
     rw[if_neg Xg] at hd
     have HF:Hid (r=false):=by
      show r=false
      rw[HR.out]
      unfold iD
      rw[HRN.out,wW hd hne]
      rfl
     clear hd hb hne hdec
     go_wp2_with fail
     refine (hsm.out _).mono ?_
     rintro e w1 ⟨rfl,h1⟩
     subst h1
     go_wp2_with fail
     go_ret
     exact⟨by rw[HF.out];rfl,GI.out _⟩
    |true=>
     rw[hb] at hd hsm
     rw[if_pos rfl] at hd
     have hwp:0<wd:=by have :=Lib.decode_width_pos s pos hp;rw[hdec] at this;exact this
     obtain⟨h3,h4,h5⟩:=qw hd hwp
     rw[List.drop_drop] at h5
     rw[List.length_drop] at h3
     have HN2:Hid (aS l=(aS (l.drop (pos+wd))).map (· +(acc+1))):=by
      show _=_
      rw[HRN.out,h5,JN]
     have hpw:pos+wd≤s.size:=by rw[HSZ.out];have :=HSZ.out;omega
     have hz:=HSZ.out
     clear hd hb hne hdec h3 h5
     go_wp2_with fail
     refine (hsm.out _).mono ?_
     rintro e w1 ⟨rfl,h1⟩
     subst h1
     go_wp2_with fail
     go_roundw
     case rel=>exact⟨pos+wd,acc+1,rfl,by go_num,Xf,hpw,HN2.out⟩
     case measure=>simp;omega
  · have hnx:∀ty,(Instr.next (.pointer (some ⟨w.heap.size,0,none⟩)) true ty).run Tryz.prog (w.iter s pos)=_:=fun ty=>run_next_end w s pos ty hp
    have hpe:pos=l.length:=by have :=HSZ.out;omega
    have HE:Hid (r=(decide (1≤acc) && decide (acc≤8))):=by
     show r=_
     rw[HR.out]
     unfold iD
     rw[HRN.out,hpe,List.drop_length]
     simp[aS]
    clear hpe
    by_cases h1:acc<1
    · have HF:Hid (r=false):=by show r=false;rw[HE.out];simp;omega
      go_wp2_with fail
      go_ret
      exact⟨by rw[HF.out];rfl,GI.out _⟩
    by_cases h8:acc≤8
    · have HF:Hid (r=true):=by show r=true;rw[HE.out];simp;omega
      have t8:decide ((acc:Int)≤8)=true:=decide_eq_true Xf
      go_wp2_with fail
      go_ret
      exact⟨by rw[HF.out];rfl,GI.out _⟩
    · have HF:Hid (r=false):=by show r=false;rw[HE.out];simp;omega
      have t8:decide ((acc:Int)≤8)=false:=decide_eq_false Xf
      go_wp2_with fail
      go_ret
      exact⟨by rw[HF.out];rfl,GI.out _⟩
end
end Go.Proofs.YtipdlnejmcmbbaaGreatDoor
namespace Go.Proofs
section
open YtipdlnejmcmbbaaGreatDoor (Xc Xd Xe Xf Xg Xh)
open Go.Shelf
def Tryz.Jf:Go.Shelf.Ren:=⟨fun|196=>255|259=>308|n=>n,fun|9=>9|4=>4|3=>3|5=>5|12=>12|119=>350|0=>0|46=>180|139=>353|138=>352|53=>95|n=>n,fun|3=>0|4=>1|n=>n⟩
theorem Tryz.TY:Go.Proofs.Lays.n196 Tryz.prog Tryz.Jf:={
 mixed:=by kernel_rfl
 f196:=Tryz.func255.trans Xc
 f259:=Tryz.func308.trans Xc
 t0:=Tryz.underlying0
 a0:=Tryz.isAgg0
 z0:=Tryz.sizeOf0
 v0:=Tryz.zeroValue0
 t3:=Tryz.underlying3
 a3:=Tryz.isAgg3
 z3:=Tryz.sizeOf3
 v3:=Tryz.zeroValue3
 t4:=Tryz.underlying4
 a4:=Tryz.isAgg4
 z4:=Tryz.sizeOf4
 v4:=Tryz.zeroValue4
 t5:=Tryz.underlying5
 a5:=Tryz.isAgg5
 z5:=Tryz.sizeOf5
 v5:=Tryz.zeroValue5
 t9:=Tryz.underlying9
 a9:=Tryz.isAgg9
 z9:=Tryz.sizeOf9
 v9:=Tryz.zeroValue9
 t12:=Tryz.underlying12
 a12:=Tryz.isAgg12
 z12:=Tryz.sizeOf12
 v12:=Tryz.zeroValue12
 t46:=Tryz.underlying180
 a46:=Tryz.isAgg180
 z46:=Tryz.sizeOf180
 v46:=Tryz.zeroValue180
 t53:=Tryz.underlying95
 a53:=Tryz.isAgg95
 z53:=Tryz.sizeOf95
 v53:=Tryz.zeroValue95
 t119:=Tryz.underlying350
 a119:=Tryz.isAgg350
 z119:=Tryz.sizeOf350
 t138:=Tryz.underlying352
 a138:=Tryz.isAgg352
 z138:=Tryz.sizeOf352
 v138:=Tryz.zeroValue352
 t139:=Tryz.underlying353
 a139:=Tryz.isAgg353
 z139:=Tryz.sizeOf353
 v139:=Tryz.zeroValue353
 g3:=by kernel_rfl
 g4:=by kernel_rfl}
open Go.RowKit Go.Lib in
theorem Tryz.utf8_ValidString (s:ByteArray) (w:World) (hs:s.size≤9223372036854775807) (hT:Lib.Utf8Tabs 0 1 w):
 Calls Tryz.prog 255 #[.string s] w fun e w'=>e= .returned (.bool (Lib.validD s.data.toList))∧Below w.heap.size w w':=Any.utf8_ValidString Tryz.TY s w hs hT
end
end Go.Proofs
namespace Go.Proofs.YtipdlnejmcmbbaaGreatDoor
section
open Go.RowKit
abbrev U8 (w:World):Prop:=Lib.Utf8Tabs 0 1 w
theorem EZ (l:List UInt8) (k:Nat) (hk:aS l=some k) (w:World) (hl:l.length<9223372036854775807) (hT:U8 w):Calls Tryz.prog 183 #[.string ⟨l.toArray⟩] w fun e w'=>e= .returned (.int .i64 (k:Int))∧Gr w w':=by
 have hne:aS l≠none:=by rw[hk];exact fun e=>by cases e
 have hv:=Tryz.utf8_ValidString ⟨l.toArray⟩ w (by rw[Ar];omega) hT
 have hd0:(⟨l.toArray⟩:ByteArray).data.toList=l:=rfl
 rw[hd0,Si hne] at hv
 have HV:=Xh hv
 obtain⟨s,hs⟩:∃s:ByteArray,s=⟨l.toArray⟩:=⟨_,rfl⟩
 rw[←hs] at HV ⊢
 have hsz:s.size=l.length:=by rw[hs];exact Ar l
 have HS:=Xh hs;have HSZ:=Xh hsz;have HK:=Xh hk
 clear hs hsz hT hv hk hne hd0
 go_in
 go_wp2_with fail
 refine HV.out.mono ?_
 rintro e w1 ⟨rfl,g1⟩
 have G1:Hid (Gr w w1):=g1
 clear g1
 go_wp2_with fail
 go_loopw [2] (fun n w'=>∃(pos acc:Nat),w'=w1.iter s pos∧n= .int .i64 acc∧acc≤pos∧pos≤s.size∧aS l=(aS (l.drop pos)).map (· +acc)) (fun _ w'=>s.size - w'.iterPos w1.heap.size)
 case atStart=>exact⟨0,0,rfl,rfl,Nat.le_refl _,Nat.zero_le _,by rw[List.drop_zero];cases aS l<;>rfl⟩
 case round=>
  obtain⟨pos,acc,rfl,rfl,ha,hps,hrn⟩:=hrel
  have HRN:=Xh hrn;clear hrn
  have GI:Hid (∀q,Gr w (w1.iter s q)):=fun q=>G1.out.trans (Gr.alloc w1 (.stringIter s q))
  by_cases hp:pos<s.size
  · have hnx:∀ty,(Instr.next (.pointer (some ⟨w1.heap.size,0,none⟩)) true ty).run Tryz.prog (w1.iter s pos)=_:=fun ty=>run_next_any w1 s pos ty hp
    have hd:=oU l pos (by rw[←HSZ.out];exact hp)
    rw[←HS.out] at hd
    have hne:l.drop pos≠[]:=by
     intro e
     have :=congrArg List.length e
     rw[List.length_drop] at this
     have :=HSZ.out
     simp at *
     omega
    have hpn:aS (l.drop pos)≠none:=fun e=>by
     have h:=HRN.out
     rw[e,HK.out] at h
     cases h
    have hsp:=wQ hpn hne
    have hwp:0<(Utf8.decode s pos).2:=Lib.decode_width_pos s pos hp
    generalize hdec:Utf8.decode s pos=dc at *
    obtain⟨rn,wd⟩:=dc
    simp only at hd hnx hwp
    have hd:d9 (l.drop pos)=wd:=by
     by_cases h:fq rn=true
     · rw[if_pos h] at hd;exact hd
     · rw[if_neg h] at hd;omega
    obtain⟨h3,h4,h5⟩:=qw hd hwp
    rw[List.drop_drop] at h5
    rw[List.length_drop] at h3
    have HN2:Hid (aS l=(aS (l.drop (pos+wd))).map (· +(acc+1))):=by
     show _=_
     rw[HRN.out,h5,JN]
    have hpw:pos+wd≤s.size:=by rw[HSZ.out];have :=HSZ.out;omega
    have hz:=HSZ.out
    clear hd hne hdec h3 h5 hpn hsp
    go_wp2_with fail
    go_roundw
    case rel=>exact⟨pos+wd,acc+1,rfl,by go_num,Xf,hpw,HN2.out⟩
    case measure=>simp;omega
  · have hnx:∀ty,(Instr.next (.pointer (some ⟨w1.heap.size,0,none⟩)) true ty).run Tryz.prog (w1.iter s pos)=_:=fun ty=>run_next_end w1 s pos ty hp
    have hpe:pos=l.length:=by have :=HSZ.out;omega
    have HE:Hid (k=acc):=by
     have h:=HRN.out
     rw[hpe,List.drop_length,HK.out] at h
     simp[aS] at h
     exact h
    clear hpe
    go_wp2_with fail
    go_ret
    exact⟨by rw[HE.out];rfl,GI.out _⟩
end
end Go.Proofs.YtipdlnejmcmbbaaGreatDoor
