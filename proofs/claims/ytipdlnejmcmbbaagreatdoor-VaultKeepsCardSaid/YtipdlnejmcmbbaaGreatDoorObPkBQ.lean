/- Own texts, one behind the other. No condition. -/
import Derived.Test.YtipdlnejmcmbbaaGreatDoorObPkBP
set_option linter.unusedVariables false
set_option maxRecDepth 100000
set_option maxHeartbeats 8000000
set_option linter.unusedSimpArgs false
namespace Go.Proofs.YtipdlnejmcmbbaaGreatDoor
section
open Go.RowKit Go.Maps
def dB (log:List TcV) (s:Nat):Option TcV:=log.reverse.find? fun x=>x.d.s==s
theorem nG (log:List TcV) (t:TcV) (s:Nat):dB (log++ [t]) s=if t.d.s=s then some t else dB log s:=by
 unfold dB
 rw[List.reverse_append,List.reverse_singleton,List.singleton_append,List.find?_cons]
 by_cases h:t.d.s=s
 · rw[if_pos h];simp[h]
 · rw[if_neg h]
   have :(t.d.s==s)=false:=by simpa using h
   rw[this]
theorem oF {α:Type} {C:List α→Prop} (h0:C []) (h1:∀l x,C l→C (l++ [x])):∀l,C l:=by
 have :∀n (l:List α),l.length=n→C l:=by
  intro n
  induction n with
  |zero=>intro l hl;rw[List.length_eq_zero_iff.1 hl];exact h0
  |succ n ih=>
   intro l hl
   rcases List.eq_nil_or_concat l with h| ⟨a,c,h⟩
   · rw[h] at hl;simp at hl
   · rw[List.concat_eq_append] at h
     subst h
     exact h1 a c (ih a (by simpa using hl))
 exact fun l=>this l.length l rfl
theorem TD:∀l:List (Int×Value),IsMap (dOf l):=oF isMap_empty fun l x h=>by
 obtain⟨a,b⟩:=x
 rw[sW]
 exact h.put _ _
theorem last_at (s:Nat) (zd:DataW Value):∀log:List TcV,(dOf (fu log)).atKey (.int .i64 (s:Int)) zd=match dB log s with
 |some x=> .held x.v
 |none=>zd:=oF (by rfl) fun log t ih=>by
 rw[uR,sW,nG]
 by_cases h:t.d.s=s
 · rw[if_pos h,h]
   exact atKey_put_same (TD _) (show WideAt.IsKeyLit (Lit.int .i64 (s:Int)) from trivial) _ _
 · rw[if_neg h,←ih]
   exact atKey_put_other (by intro e;injection e with _ e;exact h Xf) _ _
theorem Vg (s:Nat):∀log:List TcV,(dB log s).map TcV.d=lastOf (log.map TcV.d) s:=oF rfl fun log t ih=>by
 rw[nG,List.map_append,List.map_cons,List.map_nil,Cz]
 split
 · rfl
 · exact ih
theorem iB {log:List TcV} {s:Nat} {x:TcV} (h:dB log s=some x):x∈log∧x.d.s=s:=by
 unfold dB at h
 exact⟨by simpa using List.mem_of_find?_eq_some h,by simpa using List.find?_some h⟩
theorem CJ (log:List TcV):(fu log).map Prod.fst=(log.map TcV.d).map fun t=>(t.s:Int):=by
 unfold fu
 rw[List.map_map,List.map_map]
 rfl
theorem OO {log:List TcV} {x:Int} (h:x∈slotsOf (log.map TcV.d)):∃s:Nat,x=s∧∃t,dB log s=some t:=by
 unfold slotsOf at h
 rw[gG,List.map_map] at h
 obtain⟨t,ht,e⟩:=List.mem_map.1 h
 refine⟨t.d.s,e.symm,?_⟩
 cases hl:dB log t.d.s with
 |some x=>exact⟨x,rfl⟩
 |none=>
  unfold dB at hl
  rw[List.find?_eq_none] at hl
  exact absurd (by simp) (hl t (by simpa using ht))
theorem FL {l:List Int} {k:Nat} (hk:k<l.length):iAt l k=l[k]:=by unfold iAt;rw[List.getD_eq_getElem?_getD,List.getElem?_eq_getElem hk];rfl
theorem FX (x:Int):∀l:List Int,(kK x l).length≤l.length+1
 | []=>by simp[kK]
 |y::l=>by
  have ih:=FX x l
  unfold kK
  split
  · rw[List.length_cons,List.length_cons];omega
  · split
    · simp
    · simp only[List.length_cons];omega
theorem Cr:∀l:List Int,(gV l).length≤l.length:=oF (by simp[gV]) fun l x h=>by
 rw[Lh,List.length_append,List.length_singleton]
 exact Nat.le_trans (FX x _) Xf
theorem Oe (log:List TcV):(slotsOf (log.map TcV.d)).length≤log.length:=by
 unfold slotsOf
 refine Nat.le_trans (Cr _) ?_
 simp
theorem Vu (m:Nat):AnyZI.SortsIn Tryz.prog Tryz.qD Fence.wide m:=
 ⟨fun blk off cap ss W hH hblk hsz=>callsIn_wide.2 (AnyM.slices_Sort_int Tryz.EF blk off cap ss W hH hblk hsz),
  fun p cap W=>callsIn_wide.2 (AnyM.slices_Sort_int_none Tryz.EF p cap W)⟩
theorem Np {w0 wr:World} {P g mb n:Nat} {now:List (List UInt8)} {log:List TcV} (hp:PL w0 wr P g mb n now log) (hl:log.length≤1000):
 Calls Tryz.prog 51 #[.map (some mb)] wr (fun e w'=>e= .returned (.func (.func 108) #[] #[.pointer (some ⟨wr.heap.size,0,none⟩)])∧w'=wr.alloc (.cells #[.map (some mb)] 101))∧
 Calls Tryz.prog 50 #[.func (.func 108) #[] #[.pointer (some ⟨wr.heap.size,0,none⟩)]] (wr.alloc (.cells #[.map (some mb)] 101)) (fun e w'=>wM wr (slotsOf (log.map TcV.d)) e w'):=by
 have hown:=hp.om
 have hszD:Maps.size (dOf (fu log))≤log.length:=hown.size_le
 refine⟨(callsIn_wide (n:=5)).1 (AnyZI.keys_in Tryz.EB Fence.wide 5 trivial rfl (some mb) wr),?_⟩
 have hseq:SeqGives Fence.wide 2 Tryz.prog 108 #[.pointer (some ⟨wr.heap.size,0,none⟩)] encZ (fun ss=>ss.Perm (intKeys (dOf (fu log)))) (Maps.size (dOf (fu log))) (wr.alloc (.cells #[.map (some mb)] 101)):=
  AnyZI.keys_gives (ρ:=Tryz.uz) {Tryz.EB with} Fence.wide _ trivial rfl Xf wr.heap.size mb log.length (dOf (fu log)) _ (by simp) (by simp) (hown.alloc _)
 have cS:=AnyZI.sorted_in Tryz.JR Fence.wide 5 trivial trivial trivial trivial rfl Xf (Vu _) (enters_of Tryz.func107 Xe rfl) 108 #[.pointer (some ⟨wr.heap.size,0,none⟩)] trivial (enters_of Tryz.func108 Xe rfl) _ _ (by simp only[maxLen];omega) Xf _ hseq
 change CallsIn _ _ Tryz.prog 50 _ _ _ at cS
 refine (callsIn_wide.1 cS).mono ?_
 rintro e w' ⟨v,ss,rfl,hS,hrow,hnil,hb⟩
 have hsort:=xU Tryz.underlying3 qZ hown hS
 rw[CJ] at hsort
 have hsort:ss.mergeSort (fun x y=>decide (x≤y))=slotsOf (log.map TcV.d):=hsort
 have hlen:ss.length=(slotsOf (log.map TcV.d)).length:=by
  have h1:=congrArg List.length hsort
  rwa[List.length_mergeSort] at h1
 refine⟨v,rfl,?_,bBo ((Below.refl _ wr).alloc (Nat.le_refl _) _) hb⟩
 have h2:=ownsRow_base_a hrow (show wr.heap.size≤_ by simp)
 rw[hsort,hlen] at h2
 exact h2
end
section
open Go.RowKit Go.Maps
def ChL (w:World) (mb:Nat) (T:List TcV):Prop:=w.ownsMap Tryz.prog 3 Rv mb T.length (dOf (fu T))
theorem ChL.mono {w w':World} {mb:Nat} {T:List TcV} (h:ChL w mb T) (g:Gr w w'):ChL w' mb T:=by
 have hbl:=World.ownsMap.lt h
 obtain⟨es,clock,hb,Ft,hs,hD⟩:=h
 exact⟨es,clock,(g.block mb hbl).trans hb,Ft,hs,hD⟩
def iH (T:List TcV):List Int:=T.map fun x=>(x.d.s:Int)
abbrev tcC (x:TcV):Array Value:=#[.int .i64 (x.d.s:Int),ak x.d.h,.slice x.a x.m x.c,.bool x.d.g]
abbrev tcZ:Array Value:=#[.int .i64 0,.string ⟨#[]⟩,.slice none 0 0,.bool false]
theorem Hy:(Tryz.prog.info? 110).map (·.size)=some 4:=by kernel_rfl
theorem Tf (x:TcV):(tcC x).all (·.oneCell')=true:=by
 rw[Array.all_eq_true']
 intro v hv
 have :v∈[Value.int .i64 (x.d.s:Int),ak x.d.h,.slice x.a x.m x.c,.bool x.d.g]:=by simpa using hv
 simp only[List.mem_cons,List.not_mem_nil,or_false] at this
 rcases this with h|h|h|h<;>subst h<;>rfl
structure TcS (w:World) (A:Option Addr) (n c:Nat) (T:List TcV):Prop where
 s:Sl w A n c 4 (T.flatMap TcV.cells)
 n:T.length=n
theorem TcS.mono {w w':World} {A:Option Addr} {n c:Nat} {T:List TcV} (h:TcS w A n c T) (g:Gr w w'):TcS w' A n c T:=⟨Sl.gr h.s g,h.n⟩
theorem TcS.row {w:World} {A:Option Addr} {n c:Nat} {T:List TcV} (h:TcS w A n c T) {k:Nat} {x:TcV} (hx:T[k]?=some x):
 ∃b o,A=some ⟨b,o,none⟩∧w.rangeAt b (o+k*4) (tcC x).toList:=by
 have hk:k<T.length:=(List.getElem?_eq_some_iff.1 hx).1
 obtain⟨b,o,e,hc⟩:=h.s.addr (by have :=h.n;omega)
 refine⟨b,o,e,fun j v hj=> ?_⟩
 have hj4:j<4:=(List.getElem?_eq_some_iff.1 hj).1
 rw[Nat.add_assoc]
 exact hc _ _ ((kY (s:=4) TcV.eX T k j hj4 _ hx).trans hj)
theorem CP {a d l:Int} {S S':List Int} (h:∀z,z∈S↔z∈S') (k:Nat):jl a d l S k=jl a d l S' k:=by
 unfold jl
 have :∀u,S.contains u=S'.contains u:=fun u=>by
  rw[Bool.eq_iff_iff,List.contains_iff_mem,List.contains_iff_mem]
  exact h u
 simp only[this]
theorem CG (mb:Nat) (W:World):Calls Tryz.prog 51 #[.map (some mb)] W fun e w'=>e= .returned (.func (.func 108) #[] #[.pointer (some ⟨W.heap.size,0,none⟩)])∧w'=W.alloc (.cells #[.map (some mb)] 101):=(callsIn_wide (n:=5)).1 (AnyZI.keys_in Tryz.EB Fence.wide 5 trivial rfl (some mb) W)
theorem vV (mb Bm:Nat) (T:List TcV) (hT:T.length≤1000) (W:World) (h1:Blk W Bm 101 [.map (some mb)]) (hown:ChL W mb T):Calls Tryz.prog 56 #[.func (.func 108) #[] #[.pointer (some ⟨Bm,0,none⟩)]] W fun e w'=>∃ss,(∀z,z∈ss↔z∈iH T)∧ss.length≤T.length∧wM W ss e w':=by
 have hown':W.ownsMap Tryz.prog 3 Rv mb T.length (dOf (fu T)):=hown
 have hszD:Maps.size (dOf (fu T))≤T.length:=hown'.size_le
 have hseq:SeqGives Fence.wide 3 Tryz.prog 108 #[.pointer (some ⟨Bm,0,none⟩)] encZ (fun ss=>ss.Perm (intKeys (dOf (fu T)))) (Maps.size (dOf (fu T))) W:=
  AnyZI.keys_gives (ρ:=Tryz.uz) {Tryz.EB with} Fence.wide _ trivial rfl Xf Bm mb T.length (dOf (fu T)) _ h1.lt (h1.cell 0) hown
 have cS:=AnyZI.collect_in Tryz.Qx Fence.wide 5 trivial trivial rfl Xf 108 #[.pointer (some ⟨Bm,0,none⟩)] trivial (enters_of Tryz.func108 Xe rfl) _ _ (show Maps.size (dOf (fu T))≤maxLen by simp only[maxLen];omega) (show Maps.size (dOf (fu T))*8≤_ by omega) W hseq
 change CallsIn _ _ Tryz.prog 56 _ _ _ at cS
 refine (callsIn_wide.1 cS).mono ?_
 rintro e w' ⟨v,ss,rfl,hS,hrow,_,hb⟩
 have hsort:=xU Tryz.underlying3 qZ hown' hS
 have hm:(fu T).map Prod.fst=iH T:=by rw[CJ];unfold iH;rw[List.map_map];rfl
 rw[hm] at hsort
 refine⟨ss,fun z=> ?_,?_,v,rfl,hrow,hb⟩
 · rw[←List.mem_mergeSort (le:=fun x y=>decide (x≤y)),hsort,gG]
 · have h1:=congrArg List.length hsort
   rw[List.length_mergeSort] at h1
   have h2:=Cr (iH T)
   unfold iH at h2
   rw[List.length_map] at h2
   unfold iH at h1
   omega
def EU (x:TcD):Bool:= !x.g
def gN (a d l:Int) (T:List TcV):List Int:=jl a d l (iH T) (au a d l).toNat
def qd (a d l:Int) (T:List TcV):Bool:=decide (((gN a d l T).length:Int)<l)
section
variable {w0 w w':World} {L:Pl} {a d l:Int} {N:Nat} {m m':Mc} {n n':Nat} {x:Spr} {vl vk:Value} {next:Nat} {due:Bool} {pt ps b c:Nat} {R:List aj}
theorem Ql {T:List TcV} {k:Nat} {t:TcV} (h:T[k]?=some t):fu (T.take (k+1))=fu (T.take k)++ [((t.d.s:Int),t.v)]:=by
 rw[List.take_add_one,h]
 exact uR _ _
theorem D6 (h:TrG w0 L a d l N m n x vl next due vk pt ps b c R w) (hU:U8 w) (A:Option Addr) (K cc:Nat) (T:List TcV) (hl:TcS w A K cc T) (hK:K≤64) (LV:Nat) (hLV:ay a d l=LV) (hf:∀x∈T,x.d.s<LV∧(x.d.g=false→aB x.d.h=true∧x.d.h.length≤100000∧x.m≤350)):
 Calls Tryz.prog 53 #[.pointer (some ⟨pt,0,none⟩),.slice A K cc] w fun e w'=>Gr w w'∧((qd a d l T=true∧∃mb,e= .returned (.tuple #[.map (some mb),.int .i64 0])∧ChL w' mb T∧w.heap.size≤mb)∨(qd a d l T=false∧e= .returned (.tuple #[.map none,.int .i64 6]))):=by
 have hmm:=@run_makeMap Tryz.prog
 have HRN:=Xh (fun hd hh wr (g:Gr w wr)=>eu hd wr hh (hU.mono g))
 have HLV:=Xh (fun wr=>nD a d l wr)
 rw[hLV] at HLV
 have HKC:=Xh CG
 have hTn:=hl.n
 have HCC:=Xh (fun mb Bm W h1 h2=>vV mb Bm T Xf W h1 h2)
 have HTO:=Xh (fun B k c S W (hb:Is W B k c S) (hk:k≤64)=>wR a d l B k c S W hb hk)
 have HFI:=Xh (fun k wr=>qB h.g k wr)
 have HH:=Xh h;have HL:=Xh hl;have HF:=Xh hf;have HTN:=Xh hTn
 have hl64:=bM a d l
 have h64:LV≤64:=by omega
 have hmax:=hl.s.max;have hcap:=hl.s.cap
 clear h hl hU hLV hf hl64 hTn
 go_in
 go_upto_region 2 with fail
 obtain⟨w1,hw1⟩:∃w1,w1=w.alloc (.map #[] 0):=⟨_,rfl⟩
 rw[←hw1]
 have O1:Hid (w1.ownsMap Tryz.prog 3 Rv w.heap.size 0 (dOf [])):=by
  show World.ownsMap _ _ _ _ _ _ _
  rw[hw1]
  exact World.ownsMap_made _ _ _ _
 have G1:Hid (Gr w w1):=by show Gr _ _;rw[hw1];exact Gr.alloc _ _
 have hmb1:w.heap.size<w1.heap.size:=by rw[hw1];simp
 have HMB:=Xh hmb1
 clear hw1 hmb1
 obtain⟨mb,hmb⟩:∃mb,mb=w.heap.size:=⟨_,rfl⟩
 rw[←hmb] at O1 HMB ⊢
 have hge:w.heap.size≤mb:=by omega
 clear hmb
 go_wp2_with fail
 go_loopw [13] (fun i wr=>∃k:Nat,k≤K∧i= .int .i64 (k:Int)∧wr.ownsMap Tryz.prog 3 Rv mb k (dOf (fu (T.take k)))∧Gr w wr) (fun i _=>K - (Go.RowKit.intOf i).toNat)
 case atStart=>exact⟨0,Nat.zero_le _,rfl,O1.out,G1.out⟩
 case round=>
  obtain⟨k,hk,rfl,ok,gk⟩:=hrel
  have OK:=Xh ok;have GK:=Xh gk
  clear ok gk
  by_cases hlt:k<K
  · have t:decide ((k:Int)<(K:Int))=true:=decide_eq_true Xf
    have wk:IntKind.i64.wrap ((k:Int)+1)=(k:Int)+1:=IntWalk.i64_in _ Xf
    obtain⟨y,hy⟩:∃y,T[k]?=some y:=⟨_,List.getElem?_eq_getElem (by have :=HTN.out;omega)⟩
    obtain⟨b1,o1,rfl,hrow⟩:=(HL.out.mono GK.out).row hy
    have HROW:=Xh hrow
    obtain⟨hs,hfit⟩:=HF.out y (List.mem_of_getElem? hy)
    have HFIT:=Xh hfit
    have HTK:=Xh (Ql hy)
    have hd0:decide ((y.d.s:Int)<0)=false:=decide_eq_false Xf
    have hd1:decide ((LV:Int)≤(y.d.s:Int))=false:=decide_eq_false Xf
    have hd2:decide (LV≤y.d.s)=false:=decide_eq_false Xf
    have HSL:Hid ((y.d.s:Int)≤9223372036854775807):=by show _≤_;omega
    clear hrow hy hfit hs
    go_upto_region 5 with (first
     |(refine wpList_load_mid rfl 110 (.tmp 15) rfl b1 (o1+k*4) rfl (tcC y).toList _ HROW.out Tryz.underlying110 rfl Hy ?_)
     |(refine wpList_store_row rfl 110 (.tmp 8) (.tmp 16) rfl wr.heap.size (tcC y) rfl rfl 110 tcZ (Blk.new wr 110 tcZ) Hy rfl (Tf _) ?_))
    obtain⟨w2,hw2⟩:∃w2,w2=(wr.alloc (.cells tcZ 110)).setRow wr.heap.size (tcC y):=⟨_,rfl⟩
    have G12:Hid (Gr wr w2):=by
     show Gr _ _
     rw[hw2]
     exact (Tch.row (S:=fun b=>b=wr.heap.size) (w:=wr.alloc (.cells tcZ 110)) (g:=wr.heap.size) rfl (tcC y)).below (Gr.alloc _ _) (Gr.alloc wr _).size (fun b e=>e▸Nat.le_refl _)
    have C2:Hid (Blk w2 wr.heap.size 110 (tcC y).toList):=by
     show Blk _ _ _ _
     rw[hw2]
     exact setRow_heap _ wr.heap.size _ (tcC y) _ _ (Blk.new wr _ tcZ)
    rw[←hw2]
    clear hw2
    generalize wr.heap.size=pc at *
    have HRY:Hid (EU y.d=true→∀wq,Gr w wq→Calls Tryz.prog 104 #[ak y.d.h] wq fun e w''=>e= .returned (.bool true)∧Gr wq w''):=fun e wq g=>by
     unfold EU at e
     cases hg:y.d.g with
     |true=>rw[hg] at e;cases e
     |false=>
      obtain⟨q1,q2,q3⟩:=HFIT.out hg
      have :=HRN.out y.d.h q2 wq g
      rwa[q1] at this
    have C2':Hid (Blk w2 pc 110 [.int .i64 (y.d.s:Int),ak y.d.h,.slice y.a y.m y.c,.bool y.d.g]):=C2.out
    have HYM:Hid (y.d.g=false→y.m≤350):=fun e=>(HFIT.out e).2.2
    unfold EU at HRY
    generalize hyd:y.d.g=yg at *
    generalize hsh:ak y.d.h=sh at *
    have HYD:=Xh hyd;have HSH:=Xh hsh
    have l0:=C2'.out.cell 0
    have l1:=C2'.out.cell 1
    have l2:=C2'.out.cell 2
    have l3:=C2'.out.cell 3
    clear hyd hsh
    dsimp only[Act.put]
    go_cut [9] (fun v wx=>v= .bool true∧Gr w2 wx)
    case first=>
     cases yg
     · have HR2:=Xh (HRY.out rfl w2 (GK.out.trans G12.out))
       have h350:decide ((y.m:Int)≤350)=true:=decide_eq_true (by have :=HYM.out rfl;omega)
       go_wp2_with fail
       refine HR2.out.mono ?_
       rintro e w3 ⟨rfl,g3⟩
       have G3:=Xh g3
       have l2:=(C2'.out.mono g3).cell 2
       clear g3
       go_wp2_with fail
       go_meet
       exact⟨rfl,G3.out⟩
     · go_wp2_with fail
       go_meet
       exact⟨rfl,Gr.refl _⟩
    case rest=>
    obtain⟨rfl,g3⟩:=hcut
    have G23:=Xh g3
    have C3:=Xh (C2'.out.mono g3)
    have G3:=Xh (GK.out.trans (G12.out.trans g3))
    clear g3 l0 l1 l2 l3
    go_upto_region 6 with fail
    refine wrG Xe [0,1,3,7,15,31,15,79,207,463,975,2047,4095,8191,16383,32767,65535] [.p 0,.q 1,.p 2,.p 3,.p 4,.p 6,.p 7,.p 8,.q 5,.q 9,.c 10,.p 11,.p 12,.p 13,.p 14,.p 15,.p 16] Xe (trivial) ?_
    refine gP ?_
    refine gQ (fun wq hq=>(C3.out.mono (Xk hq)).cell 0) ?_
    iterate 6 refine gP ?_
    refine gQ (fun wq hq=>(C3.out.mono (Xk hq)).cell 0) ?_
    refine gQ (fun wq hq=>(HH.out.gr (G3.out.trans (Xk hq))).cells) ?_
    refine gC ?_
    intro w4 g4 K hK
    refine (HLV.out w4).mono ?_
    rintro e wn ⟨rfl,g5⟩
    refine hK _ _ (show Gr w4 wn from g5) ?_;have G35:=Xh (((Gr.drew _).trans g4).trans (show Gr w4 wn from g5));clear g4 g5 hK
    go_simp
    iterate 6 refine gP ?_
    refine wNi fun w6 g6=> ?_
    have C6:=Xh (C3.out.mono (G35.out.trans g6))
    have O6:Hid (w6.ownsMap Tryz.prog 3 Rv mb k (dOf (fu (T.take k)))):=by
     have ok:=OK.out
     have hbl:=World.ownsMap.lt ok
     obtain⟨es,clock,hb,Ft,hs,hD⟩:=ok
     exact⟨es,clock,((G12.out.trans (G23.out.trans (G35.out.trans g6))).block mb hbl).trans hb,Ft,hs,hD⟩
    have G6:=Xh (G3.out.trans (G35.out.trans g6))
    clear g6
    have l0:=C6.out.cell 0
    have l1:=C6.out.cell 1
    have l2:=C6.out.cell 2
    have l3:=C6.out.cell 3
    have hkey:keyOf Tryz.prog 3 (.int .i64 (y.d.s:Int))=some (.int .i64 (y.d.s:Int)):=keyOf_int_mk Tryz.underlying3 (wf_i64 Xf HSL.out)
    go_wp2_with (first
     |(at_mapUpdate;refine wpList_mapUpdate_own _ rfl _ _ _ 101 rfl 3 110 uS Tryz.underlying101 Rv mb k _ rfl O6.out (by simp only[maxLen];omega) _ _ _ rfl rfl hkey _ [] rfl ?_;intro w7 hown7 hgrow7))
    have O7:=Xh hown7
    have G7:Hid (Gr w w7):=Below.grown G6.out hgrow7 G6.out.size (fun j hj=>by cases hj;exact hge)
    clear hown7 hgrow7 l0 l1 l2 l3 hkey O6
    go_roundw
    case rel=>
     refine⟨k+1,Xf,by go_num,?_,G7.out⟩
     rw[HTK.out,sW]
     have :=O7.out
     rw[←HYD.out,←HSH.out] at this
     exact this
    case measure=>simp[Go.RowKit.intOf];omega
  · obtain rfl:K=k:=by omega
    have t:decide ((K:Int)<(K:Int))=false:=decide_eq_false Xf
    have M7:Hid (ChL wr mb T):=by
     have :=OK.out
     rw[List.take_of_length_le (by have :=HTN.out;omega)] at this
     show World.ownsMap _ _ _ _ _ _ _
     rw[HTN.out]
     exact this
    go_upto_region 10 with fail
    refine wrG Xe [0,1,3,7,0,16,48,112,0,256,768,2032,4080,8191,16383] [.p 0,.p 1,.p 2,.p 4,.p 5,.p 6,.p 8,.q 3,.q 7,.c 9,.c 10,.c 11,.p 12,.c 13,.p 14] Xe (trivial) ?_
    iterate 7 refine gP ?_
    iterate 2 refine gQ (fun wq hq=>(HH.out.gr (GK.out.trans (Xk hq))).cells) ?_
    refine gC ?_
    intro w8 g8 K hK
    refine (HKC.out mb w8).mono ?_
    rintro e wn ⟨rfl,e9⟩
    have g9:Gr w8 wn:=by {rw[e9];exact Gr.alloc _ _};refine hK _ _ g9 ?_;have K9:Hid (Blk wn w8.heap.size 101 [.map (some mb)]):=by {show Blk _ _ _ _;rw[e9];exact Blk.new w8 _ #[.map (some mb)]};have G79:=Xh (((Gr.drew wr).trans g8).trans g9);clear g8 g9 e9 hK
    go_simp
    refine gC ?_
    intro wa ga K hK
    refine (HCC.out mb w8.heap.size wa (K9.out.mono ga) (M7.out.mono (G79.out.trans ga))).mono ?_
    rintro e wn ⟨ss,hsm,hsl,vb,rfl,ob⟩
    refine hK _ _ ob.below ?_;obtain⟨Ab,cb,rfl,sb⟩:=ob.slice;have Gb:=Xh ((G79.out.trans ga).trans (show Gr wa wn from ob.below));have Sb:=Xh (show Is wn Ab _ cb ss from sb);have HSM:=Xh hsm;have HSS:=Xh hsl;clear ga ob sb hK hsm hsl
    go_simp
    refine gC ?_
    intro wc gc K hK
    refine (HTO.out Ab _ cb ss wc (Sb.out.mono gc) (by have :=HSS.out;have :=HTN.out;omega)).mono ?_
    rintro e wn ⟨vd,rfl,od⟩
    refine hK _ _ od.below ?_;rw[CP HSM.out] at od;obtain⟨Ad,cd,rfl,sd⟩:=od.slice;have Gd:=Xh ((Gb.out.trans gc).trans (show Gr wc wn from od.below));clear gc od sd hK
    go_simp
    refine gP ?_
    refine gC ?_
    intro we ge K hK
    refine (HFI.out _ we).mono ?_
    rintro e wn ⟨rfl,gf⟩
    refine hK _ _ gf ?_;have Gf:=Xh ((Gd.out.trans ge).trans gf);clear ge gf hK
    go_simp
    refine gP ?_
    refine wNi fun wg gg=> ?_
    have Gg:=Xh (GK.out.trans (Gf.out.trans gg))
    have Mg:=Xh (M7.out.mono (Gf.out.trans gg))
    clear gg
    have HFB:Hid (qd a d l T=decide (((jl a d l (iH T) (au a d l).toNat).length:Int)<l)):=rfl
    generalize decide (((jl a d l (iH T) (au a d l).toNat).length:Int)<l)=q at *
    cases q
    · go_wp2_with fail
      go_ret2
      exact⟨Gg.out,.inr ⟨HFB.out,rfl⟩⟩
    · go_wp2_with fail
      go_ret2
      exact⟨Gg.out,.inl ⟨HFB.out,mb,rfl,Mg.out,hge⟩⟩
end
end
section
open Go.RowKit Go.Maps
def Wb (w:World) (z:Nat):Prop:=∃t cs,Blk w z t cs∧(t=118∨t=234)
def KY (kb:Nat) (w w':World):Prop:=w.heap.size≤w'.heap.size∧∀(b:Nat) (a:Array Value) (t:TypeId) (m:Nat×Nat),w.heap[b]?=some (.cells a t m)→¬tyM t→(t=302→b≠kb)→¬Wb w b→w'.heap[b]?=some (.cells a t m)
section
variable {kb:Nat} {w w' w'':World}
theorem KY.kx (h:KY kb w w'):KX (Wb w) kb w w':=⟨h.1,h.2⟩
theorem KY.kq (h:KQ kb w w'):KY kb w w':=⟨h.1,fun b a t m e h1 h2 _=>h.2 b a t m e h1 h2⟩
theorem KY.gr (g:Gr w w'):KY kb w w':=KY.kq (KQ.gr g)
theorem KY.trans (h:KY kb w w') (k:KY kb w' w''):KY kb w w'':=⟨Nat.le_trans h.1 k.1,fun b a t m e h1 h2 h3=>by
 have e':=h.2 b a t m e h1 h2 h3
 refine k.2 b a t m e' h1 h2 (fun⟨t',cs,z,q⟩=>h3 ⟨t',cs,?_,q⟩)
 unfold Blk at z ⊢
 rwa[e',←e] at z⟩
theorem KY.tch {S:Nat→Prop} (T:Tch S w w') (h:∀z,S z→Wb w z):KY kb w w':=⟨T.size,fun b a t m e _ _ h3=>(T.keep b (fV e) (fun s=>h3 (h b s))).trans e⟩
theorem Wb.no {t:TypeId} {cs:List Value} {z:Nat} (hb:Blk w z t cs) (h1:t≠118) (h2:t≠234):¬Wb w z:=fun⟨t',cs',k,q⟩=>by
 have :=bTy hb k
 subst this
 exact q.elim h1 h2
theorem Wb.ty {z:Nat} (h:Wb w z):∃t cs,Blk w z t cs∧¬tyB t:=by
 obtain⟨t,cs,k,q⟩:=h
 refine⟨t,cs,k,?_⟩
 rcases q with e|e<;>subst e<;>unfold tyB<;>decide
theorem QB.ky {A:Option Addr} {n c:Nat} {l:List UInt8} (h:QB kb w A n c l) (k:KY kb w w'):QB kb w' A n c l:=h.kx k.kx (fun z s=>s.ty)
theorem KY.blk (k:KY kb w w') {b:Nat} {t:TypeId} {cs:List Value} (hb:Blk w b t cs) (h1:¬tyM t) (h2:t≠302) (h3:t≠118) (h4:t≠234):Blk w' b t cs:=k.2 b _ t _ hb h1 (fun e=>absurd e h2) (Wb.no hb h3 h4)
theorem Pgo.ky {w0:World} {b c N:Nat} {R:List aj} (h:Pgo w0 kb w b c N R) (k:KY kb w w') (hb:Below w0.heap.size w0 w'):Pgo w0 kb w' b c N R:=h.kx k.kx hb (fun z s=>⟨fun e=>by
 subst e
 obtain⟨cs,z⟩:=h.o.aA (b:=z) rfl
 exact Wb.no z Xg Xg s,s.ty⟩)
end
structure Wk where
 w0:World
 L:Pl
 a:Int
 d:Int
 l:Int
 N:Nat
 m:Mc
 n:Nat
 x:Spr
 vl:Value
 next:Nat
 due:Bool
 vk:Value
 pt:Nat
 ps:Nat
 b:Nat
 c:Nat
 R:List aj
 pw:Nat
 mb:Nat
 q:Nat
 tn:Nat
 tc:Nat
 T:List TcV
 S:List Int
def Mc.tb (m:Mc) (T:List Nd):Mc:={m with T:=T}
abbrev Wk.tr (W:Wk) (T:List Nd) (w:World):Prop:=TrG W.w0 W.L W.a W.d W.l W.N (W.m.tb T) W.n W.x W.vl W.next W.due W.vk W.pt W.ps W.b W.c W.R w
abbrev Wk.cs (W:Wk) (v:Value):List Value:=[.pointer (some ⟨W.pt,0,none⟩),.map (some W.mb),.slice (some ⟨W.q,0,none⟩) W.tn W.tc,v]
def aU.pr (x:aU):Nat×List UInt8:=(x.k,x.r.l)
structure Wti (W:Wk) (w:World):Prop where
 nt:NT W.L.g w W.q
 bl:∃cs,Blk w W.q 3 cs
 is:Is w (some ⟨W.q,0,none⟩) W.tn W.tc W.S
structure WkS (W:Wk) (s:TS) (w:World):Prop where
 tp:W.tr s.1 w
 wk:∃A c P,P.map aU.pr=s.2∧Blk w W.pw 118 (W.cs (.slice A P.length c))∧Pgw W.w0 W.L.kb w A c P.length P
 ge:W.w0.heap.size≤W.pw
 ch:ChL w W.mb W.T
 nm:W.mb≠W.L.bm
 va:∀t∈W.T,t.d.g=false→QB W.L.kb w t.a t.m t.c t.d.v
 ti:Wti W w
section
variable {w0 w w':World} {L:Pl} {a d l:Int} {N:Nat} {m m':Mc} {n n':Nat} {x:Spr} {vl vk:Value} {next:Nat} {due:Bool} {pt ps b c:Nat} {R:List aj}
theorem TrG.kx {S:Nat→Prop} (h:TrG w0 L a d l N m n x vl next due vk pt ps b c R w) (k:KX S L.kb w w') (ms:MSt w0 L m' w') (ok:m'.Ok n') (n9:n'≤90000) (hS:∀z,S z→∃t cs,Blk w z t cs∧t≠92∧t≠150∧(t≠43∨z≠b)∧¬tyB t):TrG w0 L a d l N m' n' x vl next due vk pt ps b c R w':=by
 have nS:∀{g:Nat} {t:TypeId} {cs:List Value},Blk w g t cs→(t=92∨t=150)→¬S g:=fun hg ht s=>by
  obtain⟨t',cs',z,h1,h2,h3,_⟩:=hS _ s
  have :=bTy hg z
  subst this
  rcases ht with e|e
  · exact h1 e
  · exact h2 e
 refine⟨ms,ok,n9,h.g,h.hN,k.blk h.ft Xi Xd (nS h.ft (.inl rfl)),k.blk h.fx Xi Xd (nS h.fx (.inr rfl)),h.fp.kx k ms.below (fun z s=>⟨fun e=> ?_,?_⟩),h.c1,h.c2,h.sm⟩
 · obtain⟨t',cs',z',_,_,h3,_⟩:=hS _ s
   rcases h3 with h3|h3
   · obtain⟨cs,z2⟩:=h.fp.o.aA (b:=b) rfl
     rw[←e] at z2
     exact h3 (bTy z' z2)
   · exact h3 e
 · obtain⟨t',cs',z',_,_,_,h4⟩:=hS _ s
   exact⟨t',cs',z',h4⟩
theorem TrG.kq (h:TrG w0 L a d l N m n x vl next due vk pt ps b c R w) (k:KQ L.kb w w') (ms:MSt w0 L m' w') (ok:m'.Ok n') (n9:n'≤90000):TrG w0 L a d l N m' n' x vl next due vk pt ps b c R w':=h.kx (KX.kq (S:=fun _=>False) k) ms ok n9 (fun z s=>s.elim)
end
section
variable {W:Wk} {s:TS} {w w':World} {T':List Nd}
theorem Mc.Ok.tb {m:Mc} {n:Nat} (h:m.Ok n) (hn:T'.length≤n) (hz:SzT T'):(m.tb T').Ok n:=⟨hn,h.s,h.c,h.a,h.k,h.f1,h.f2,hz⟩
theorem Vn {g:Nat} {t:TypeId} {cs:List Value} (h:Blk w g t cs) (k:Gr w w'):w'.heap[g]?=w.heap[g]?:=k.block g h.lt
theorem Wti.to (h:Wti W w) (k:w'.heap[W.q]?=w.heap[W.q]?) (n:NT W.L.g w' W.q):Wti W w':=by
 obtain⟨cs,z⟩:=h.bl
 refine⟨n,⟨cs,k.trans z⟩,h.is.1,h.is.2.1,h.is.2.2.1,fun h0=> ?_⟩
 obtain⟨b,o,e,hc⟩:=h.is.2.2.2 h0
 cases e
 exact⟨_,_,rfl,fun j x hx=>(World.cell?_of_block (w:=w) (a:=⟨W.q,0+j,none⟩) k).trans (hc j x hx)⟩
theorem WkS.gr (h:WkS W s w) (g:Gr w w'):WkS W s w':=by
 obtain⟨A,c,P,e,h1,h2⟩:=h.wk
 obtain⟨cs,z⟩:=h.ti.bl
 exact⟨h.tp.gr g,⟨A,c,P,e,h1.mono g,h2.mono g⟩,h.ge,h.ch.mono g,h.nm,fun t ht q=>(h.va t ht q).mono g,h.ti.to (Vn z g) (h.ti.nt.gr g)⟩
theorem WkS.kz (h:WkS W s w) (ms:MSt W.w0 W.L (W.m.tb T') w') (hn:T'.length≤W.n) (hz:SzT T') (kq:KQ W.L.kb w w') (kz:KZ W.L.g W.L.bm w w'):WkS W (T',s.2) w':=by
 obtain⟨A,c,P,e,h1,h2⟩:=h.wk
 obtain⟨cs,z⟩:=h.ti.bl
 obtain⟨z',n'⟩:=kz.n _ _ h.ti.nt z
 refine⟨h.tp.kq kq ms (h.tp.ok.tb hn hz) h.tp.n9,⟨A,c,P,e,kq.blk h1 Xi Xd,h2.kx (KX.kq (S:=fun _=>False) kq) ms.below (fun z s=>s.elim)⟩,h.ge,?_,h.nm,fun t ht q=>(h.va t ht q).kq kq,h.ti.to (z'.trans z.symm) n'⟩
 obtain⟨es,ck,hb,hr⟩:=(show World.ownsMap _ _ _ _ _ _ _ from h.ch)
 exact⟨es,ck,(kz.k _ (fV hb) h.nm (fun t cs q=>by unfold Blk at q;rw[hb] at q;cases q)).trans hb,hr⟩
theorem WkS.tch {S:Nat→Prop} (h:WkS W s w) (T:Tch S w w') (hS:∀z,S z→W.w0.heap.size≤z∧∃t cs,Blk w z t cs∧¬tyA t∧¬tyB t∧t≠92∧t≠150∧(t≠43∨z≠W.b)):
 W.tr s.1 w'∧ChL w' W.mb W.T∧(∀t∈W.T,t.d.g=false→QB W.L.kb w' t.a t.m t.c t.d.v)∧Wti W w':=by
 have hB:∀z,S z→∃t cs,Blk w z t cs∧¬tyB t:=fun z q=>by obtain⟨_,t,cs,k,_,h2,_⟩:=hS z q;exact⟨t,cs,k,h2⟩
 have ms:=h.tp.ms.off T (fun z q=>(hS z q).1) (fun z q=>by obtain⟨_,t,cs,k,h1,_⟩:=hS z q;exact⟨t,cs,k,h1⟩)
 obtain⟨cs,z⟩:=h.ti.bl
 have nS:∀{g:Nat} {t:TypeId} {cs:List Value},Blk w g t cs→tyA t→¬S g:=fun hg ht s=>by
  obtain⟨_,t',cs',k,h1,_⟩:=hS _ s
  have :=bTy hg k
  subst this
  exact h1 ht
 refine⟨h.tp.kx (KX.tch T) ms h.tp.ok h.tp.n9 (fun z q=>by obtain⟨_,t,cs,k,h1,h2,h3,h4,h5⟩:=hS z q;exact⟨t,cs,k,h3,h4,h5,h2⟩),?_,fun t ht q=>(h.va t ht q).gK T hB,h.ti.to (T.keep _ z.lt (nS z (.inr (.inr (.inr (.inr (.inl rfl))))))) ?_⟩
 · obtain⟨es,ck,hb,hr⟩:=(show World.ownsMap _ _ _ _ _ _ _ from h.ch)
   refine⟨es,ck,(T.keep _ (fV hb) (fun q=> ?_)).trans hb,hr⟩
   obtain⟨_,t,cs,k,_⟩:=hS _ q
   unfold Blk at k;rw[hb] at k;cases k
 · obtain⟨cs,k,r⟩:=h.ti.nt
   exact⟨cs,(T.keep _ k.lt (nS k (.inr (.inr (.inl rfl))))).trans k,r⟩
theorem WkS.set {bo cb j:Nat} {RR:List aj} (h:WkS W s w) (p:Pgo W.w0 W.L.kb w bo cb RR.length RR) (hb:bo≠W.b) (u:Value):WkS W s (w.setCell ⟨bo,j,none⟩ u):=by
 obtain⟨cs,zb⟩:=p.o.aA (b:=bo) rfl
 have T:Tch (fun z=>z=bo) w (w.setCell ⟨bo,j,none⟩ u):=Tch.set ⟨bo,j,none⟩ _ rfl
 obtain⟨h1,h2,h3,h4⟩:=h.tch T (fun z e=>by subst e;exact⟨p.o.ge rfl,_,_,zb,by unfold tyA tyM;decide,by unfold tyB;decide,Xg,Xg,.inr hb⟩)
 obtain⟨A,c,P,e,k1,k2⟩:=h.wk
 exact⟨h1,⟨A,c,P,e,k1.tch T (fun e=>by rw[e] at k1;exact absurd (bTy k1 zb) Xg),k2.kx (KX.tch T) h1.ms.below (fun z e=>by subst e;exact⟨_,_,zb,by unfold tyB;decide,Xg⟩)⟩,h.ge,h2,h.nm,h3,h4⟩
end
end
section
open Go.RowKit Go.Maps
section
variable {W:Wk} {s:TS} {w w':World}
theorem JA {K:Nat} {vo:Value} {xs:List Value} (hk:Blk w W.pw 118 (W.cs vo)) (o:Own W.w0 w 234 2 vo K xs) (hge:W.w0.heap.size≤W.pw) (hK:K≤1000) (k:Nat) (A:Option Addr) (bn c:Nat):
 Calls Tryz.prog 117 #[.pointer (some ⟨W.pw,0,none⟩),.int .i64 (k:Int),.slice A bn c,.int .i64 0] w fun e w'=>e= .returned (.int .i64 0)∧∃vo',Blk w' W.pw 118 (W.cs vo')∧Own W.w0 w' 234 2 vo' (K+1) (xs++ [.int .i64 (k:Int),.slice A bn c])∧Tch (fun z=>z=W.pw∨vo.ownBlock=some z) w w':=by
 have HW:=Xh hk;have HO:=Xh o
 have k3:=hk.cell 3
 obtain⟨A0,c0,rfl,_⟩:=o.slice
 clear hk o
 go_in
 go_wp2_with (first
  |(refine wpList_plain rfl (fun _ hK=>kZ 116 234 (.tmp 16) rfl (iK k A bn c) rfl Tryz.underlying116 pageSize Xe (show 0<2 by decide) (show 2≤2 ^ 24 by decide) (hK _ _ ?_)))
  |(at_builtin;refine nW rfl (.tmp 13) (.tmp 17) 116 rfl MJ rfl HO.out (iK k A bn c) rfl rfl (by intro u hu;rcases List.mem_cons.1 hu with rfl|hu;rfl;rw[List.mem_singleton.1 hu];rfl) Xf ?_;intro v1 w1 o1 kp;obtain⟨A1,c1,rfl,_⟩:=o1.slice;have T1:=Xh (kp.tch (gJ (HO.out.alloc _).below o1.below kp.2.1));have W1:=Xh ((HW.out.mono (Gr.alloc w (.cells (iK k A bn c) 234))).tch T1.out (fun q=>by obtain⟨cs,z⟩:=HO.out.aA q;exact absurd (bTy z HW.out) Xg));have O1:=Xh o1;clear o1 kp;have k1:=W1.out.cell 3;have f1:=Blk.free W1.out 3))
 go_ret
 have T2:Tch (fun z=>z=W.pw) w1 (w1.setCell ⟨W.pw,3,none⟩ (.slice A1 (K+1) c1)):=Tch.set ⟨W.pw,3,none⟩ _ rfl
 refine⟨rfl,_,W1.out.set 3 _,O1.out.tch T2 (fun z e=>by rw[e];exact hge) (fun b q e=> ?_),((Tch.gr (Gr.alloc w _)).trans (T1.out.mono (fun z _ e=> .inr e))).trans (T2.mono (fun z _ e=> .inl e))⟩
 obtain⟨cs,z2⟩:=O1.out.aA q
 rw[e] at z2
 exact absurd (bTy z2 W1.out) Xg
theorem qz (h:WkS W s w) (hP:s.2.length≤900) (k:Nat) (A:Option Addr) (bn c:Nat) (bl:List UInt8) (hb:QB W.L.kb w A bn c bl):
 Calls Tryz.prog 117 #[.pointer (some ⟨W.pw,0,none⟩),.int .i64 (k:Int),.slice A bn c,.int .i64 0] w fun e w'=>e= .returned (.int .i64 0)∧WkS W (s.1,s.2++ [(k,bl)]) w'∧KY W.L.kb w w':=by
 obtain⟨A0,c0,P,hp,h1,h2⟩:=h.wk
 have hl:P.length≤900:=by rw[←hp,List.length_map] at hP;exact hP
 refine (JA h1 h2.o h.ge Xf k A bn c).mono ?_
 rintro e w' ⟨rfl,vo,k1,o1,T⟩
 have hS:∀z,(z=W.pw∨(Value.slice A0 P.length c0).ownBlock=some z)→W.w0.heap.size≤z∧∃t cs,Blk w z t cs∧(t=118∨t=234):=fun z q=>by
  rcases q with q|q
  · subst q;exact⟨h.ge,_,_,h1,.inl rfl⟩
  · obtain⟨cs,z2⟩:=h2.o.aA q
    exact⟨h2.o.ge q,_,_,z2,.inr rfl⟩
 have hB:∀z,(z=W.pw∨(Value.slice A0 P.length c0).ownBlock=some z)→∃t cs,Blk w z t cs∧¬tyB t:=fun z q=>(show Wb w z from (hS z q).2).ty
 obtain⟨g1,g2,g3,g4⟩:=h.tch T (fun z q=>by
  obtain⟨q0,t,cs,z2,ht⟩:=hS z q
  refine⟨q0,t,cs,z2,?_⟩
  rcases ht with e|e<;>subst e<;>exact⟨by unfold tyA tyM;decide,by unfold tyB;decide,Xg,Xg,.inl Xg⟩)
 obtain⟨A1,c1,rfl,_⟩:=o1.slice
 have e1:(P++ [⟨k,⟨A,bn,c,bl⟩⟩]:List aU).length=P.length+1:=by rw[List.length_append];rfl
 refine⟨rfl,⟨g1,⟨A1,c1,P++ [⟨k,⟨A,bn,c,bl⟩⟩],by rw[List.map_append,hp];rfl,by rw[e1];exact k1,⟨by rw[e1,List.flatMap_append];exact o1,fun r hr=> ?_⟩⟩,h.ge,g2,h.nm,g3,g4⟩,KY.tch T (fun z q=>(hS z q).2)⟩
 rcases List.mem_append.1 hr with hr|hr
 · exact (h2.q r hr).gK T hB
 · rw[List.mem_singleton.1 hr]
   exact hb.gK T hB
theorem ChL.look (h:ChL w W.mb W.T) {k:Nat} (hk:k≤1000) {t:TcV} (hl:dB W.T k=some t):(Instr.lookup 101 (.map (some W.mb)) (.int .i64 (k:Int)) false).run Tryz.prog w= .ok t.v w:=by
 have hkey:keyOf Tryz.prog 3 (.int .i64 (k:Int))=some (.int .i64 (k:Int)):=keyOf_int_mk Tryz.underlying3 (wf_i64 Xf Xf)
 unfold ChL at h
 obtain⟨vv,ps,hlook,hRv⟩:=World.ownsMap.lookup h (t:=101) uS Tryz.underlying101 (z:= .agg #[.int .i64 0,.string ByteArray.empty,.slice none 0 0,.bool false]) Xe (zd:= .held (.agg #[.int .i64 0,.string ByteArray.empty,.slice none 0 0,.bool false])) (zp:=[]) rfl hkey
 rw[last_at,hl] at hRv
 have e:vv=t.v:=by
  have h1:=(Prod.mk.inj (Option.some.inj (show some (DataW.held vv,[])=some (DataW.held t.v,ps) from hRv))).1
  exact DataW.held.inj h1
 rw[e] at hlook
 exact hlook
end
end
end Go.Proofs.YtipdlnejmcmbbaaGreatDoor
