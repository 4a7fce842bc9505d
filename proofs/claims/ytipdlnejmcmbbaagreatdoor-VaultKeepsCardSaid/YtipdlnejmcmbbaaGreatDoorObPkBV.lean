/- Own texts, one behind the other. No condition. -/
import Derived.Test.YtipdlnejmcmbbaaGreatDoorObPkBU
import Derived.Shelf.GgClosure.Gives
import Derived.Shelf.SlSortCmp.Kit1
import Derived.Shelf.SlSortCmp.Whole1
set_option linter.unusedVariables false
set_option maxRecDepth 100000
set_option maxHeartbeats 8000000
set_option linter.unusedSimpArgs false
namespace Go.Proofs.YtipdlnejmcmbbaaGreatDoor
section
open Go.RowKit Go.Maps
theorem tTc:eB Tryz.prog 72 110 (.agg #[.int .i64 0,.string ⟨#[]⟩,.slice none 0 0,.bool false]) 4 56:=⟨Tryz.underlying72,by kernel_rfl,rfl,Xg,Xg⟩
def kQ (w:World) (hs:List (List UInt8)) (l:List ChD) (e:Ending) (w':World):Prop:=
 ∃v T,e= .returned (.tuple #[v,.int .i64 ((aD 350 (hs,[]) l).2:Int)])∧((aD 350 (hs,[]) l).2≠0→T=[])∧((aD 350 (hs,[]) l).2=0→T.map TcV.d=iN (aD 350 (hs,[]) l).1.2)∧
  Own w w' 110 4 v T.length (T.flatMap TcV.cells)∧∀x∈T,Bs w' x.a x.m x.c x.d.v∧Ub w' x.a
theorem kQ.bad {w w':World} {hs:List (List UInt8)} {l:List ChD} {q:Nat} (h:(aD 350 (hs,[]) l).2=q) (h0:q≠0) (g:Gr w w'):kQ w hs l (.returned (.tuple #[.slice none 0 0,.int .i64 (q:Int)])) w':=
 ⟨_,[],by rw[h],fun _=>rfl,fun q2=>absurd (h.symm.trans q2) h0,Own.nil' g _ _,fun x hx=>by cases hx⟩
theorem kQ.good {w W w':World} {hs:List (List UInt8)} {l:List ChD} {v:Value} {T log:List TcV} (h:(aD 350 (hs,[]) l).2=0) (hd:log.map TcV.d=(aD 350 (hs,[]) l).1.2) (hT:T.map TcV.d=iN (log.map TcV.d)) (g:Gr w W) (ho:Own W w' 110 4 v T.length (T.flatMap TcV.cells)) (hb:∀x∈T,Bs w' x.a x.m x.c x.d.v∧Ub w' x.a):
 kQ w hs l (.returned (.tuple #[v,.int .i64 0])) w':=
 ⟨_,T,by rw[h];rfl,fun q=>absurd h q,fun _=>by rw[hT,hd],ho.onto g,hb⟩
theorem QK (A B:Option Addr) (n c m d:Nat) (hs:List (List UInt8)) (L:List ChV) (w:World) (h:Ws w A n c hs) (hL:Chg w B m d L) (hn:n≤100) (hm:m≤100) (hnl:∀x∈L,x.d.n.length≤100000) (hT:U8 w):
 Calls Tryz.prog 28 #[.slice A n c,.slice B m d] w (kQ w hs (L.map ChV.d)):=by
 have hmax:=h.max
 have hcap:=h.cap
 have hmm:=hL.max
 have hmm1:=@run_makeMap Tryz.prog
 have hmk:=fun W=>run_mk Nt rfl n Xf W
 have HL:=Xh h.len
 have HL2:=Xh hL.1
 have HH:=Xh h;have HC:=Xh hL
 have HNL:=Xh hnl;have HT:=Xh hT
 clear h hL hnl hT
 obtain⟨W3,hW3⟩:∃W3,W3=((w.alloc (.cells (dX n (.string ⟨#[]⟩)).toArray 9)).alloc (.map #[] 0)).alloc (.cells #[.slice (some ⟨w.heap.size,0,none⟩) n n,.map (some (w.heap.size+1))] 103):=⟨_,rfl⟩
 have HW3:=Xh hW3
 have hg3:Gr w W3:=by rw[hW3];exact ((Gr.alloc w _).trans (Gr.alloc _ _)).trans (Gr.alloc _ _)
 have hb3:Blk W3 w.heap.size 9 (dX n (.string ⟨#[]⟩)):=by
  rw[hW3]
  have :=(((Blk.new w 9 (dX n (.string ⟨#[]⟩)).toArray).alloc (.map #[] 0)).alloc (.cells #[.slice (some ⟨w.heap.size,0,none⟩) n n,.map (some (w.heap.size+1))] 103))
  exact this
 have hp3:W3.cell? ⟨w.heap.size+1+1,0,none⟩=some (.slice (some ⟨w.heap.size,0,none⟩) n n):=by
  rw[hW3]
  have :=(Blk.new ((w.alloc (.cells (dX n (.string ⟨#[]⟩)).toArray 9)).alloc (.map #[] 0)) 103 #[.slice (some ⟨w.heap.size,0,none⟩) n n,.map (some (w.heap.size+1))]).cell 0
  simpa using this
 obtain⟨W4,hrun4,t4,b4⟩:=L8 3 hb3 (HH.out.mono hg3)
 have HP4:=Xh (PL.start HL.out hW3 t4 b4)
 clear hb3 t4 b4 hg3 hW3
 go_in
 go_wp2_with fail
 go_step3
 go_upto_region 2 with fail
 rw[←HW3.out]
 clear hmk hmm1
 go_wp2_with fail
 go_step3
 go_wp2_with fail
 go_loopw [5,28] (fun f i wr=>∃j:Nat,j≤m∧f= .int .i64 0∧i= .int .i64 j∧PLs w wr (w.heap.size+1+1) w.heap.size (w.heap.size+1) n hs ((L.take j).map ChV.d)) (fun f i _=>m - (intOf i).toNat)
 case atStart=>exact⟨0,Nat.zero_le _,rfl,rfl,rfl,[],HP4.out,rfl,rfl⟩
 case round=>
  obtain⟨j,hj,rfl,rfl,hpl⟩:=hrel
  by_cases hlt:j<m
  · obtain⟨hz,log,hp,hd,hll⟩:=hpl
    have hjl:j<L.length:=by rw[HL2.out];exact hlt
    have hlog:log.length≤1000:=by rw[hll,List.length_map,List.length_take];omega
    obtain⟨b,o,rfl,c1,c2,c3,hb,_⟩:=(HC.out.mono hp.gr).row hjl
    have HS:Hid ((L.take (j+1)).map ChV.d=(L.take j).map ChV.d++ [L[j].d]):=by
     show _=_
     rw[List.take_succ_eq_append_getElem hjl,List.map_append]
     rfl
    have HSP:Hid ((aD 350 (hs,[]) (L.map ChV.d)).2=aP 350 (aD 350 (hs,[]) ((L.take j).map ChV.d)).1.1 L[j].d∨aP 350 (aD 350 (hs,[]) ((L.take j).map ChV.d)).1.1 L[j].d=0):=by
     by_cases hf:aP 350 (aD 350 (hs,[]) ((L.take j).map ChV.d)).1.1 L[j].d=0
     · exact .inr hf
     · refine .inl ?_
       have e:L.map ChV.d=(L.take j).map ChV.d++L[j].d::(L.drop (j+1)).map ChV.d:=by
        rw[←List.map_cons,←List.map_append,List.getElem_cons_drop,List.take_append_drop]
       rw[e]
       exact NH hz hf
    have hxn:=HNL.out _ (List.getElem_mem hjl)
    have HST:=Xh (fun w' (h0:aP 350 (aD 350 (hs,[]) ((L.take j).map ChV.d)).1.1 L[j].d=0) a' m' c' (hp:PL w w' (w.heap.size+1+1) w.heap.size (w.heap.size+1) n (doC ((aD 350 (hs,[]) ((L.take j).map ChV.d)).1.1,log.map TcV.d) L[j].d).1 (log++ [⟨oz (eO (aD 350 (hs,[]) ((L.take j).map ChV.d)).1.1 L[j].d).toNat L[j].d,a',m',c'⟩]))=>PLs.step hz hd hll h0 hp)
    rw[←HS.out] at HST
    have HDO:=Xh (Ma (hp.mono (Gr.alloc wr (chO (ak L[j].d.n) L[j].a L[j].m L[j].c L[j].d.g))) Xf hlog L[j] (hb.mono (Gr.alloc _ _)) hxn HT.out)
    have HPJ:=Xh hp
    clear HS hz hd hll hp hb hxn
    generalize (aD 350 (hs,[]) ((L.take j).map ChV.d)).1.1=now at *
    generalize L[j]=x at *
    obtain⟨⟨xn,xv,xg⟩,xa,xm,xc⟩:=x
    simp only at c1 c2 c3
    have HDO:Hid (Calls Tryz.prog 49 #[.pointer (some ⟨w.heap.size+1+1,0,none⟩),.agg #[ak xn,.slice xa xm xc,.bool xg]] (wr.alloc (chO (ak xn) xa xm xc xg)) (mG w (w.heap.size+1+1) w.heap.size (w.heap.size+1) n now log ⟨xn,xv,xg⟩)):=HDO.out
    obtain⟨xs,hxs⟩:∃xs:ByteArray,ak xn= .string xs:=⟨_,rfl⟩
    rw[hxs] at c1 HDO
    clear hxs
    go_wp2_with fail
    refine HDO.out.mono ?_
    rintro e w1 ⟨rfl,hbad,hgood⟩
    have HBAD:=Xh hbad;have HGOOD:=Xh hgood
    clear hbad hgood HDO
    by_cases h0:aP 350 now ⟨xn,xv,xg⟩=0
    · obtain⟨a',m',c',hp⟩:=HGOOD.out h0
      have HPL:=Xh (HST.out w1 h0 a' m' c' hp)
      rw[h0]
      clear hp HST HGOOD HBAD HSP h0
      go_wp2_with fail
      refine⟨⟨j+1,Xf,by first|trivial|rfl,by first|trivial|go_num,HPL.out⟩,?_⟩
      show m - ((j:Int)+1).toNat<m - (j:Int).toNat
      omega
    · have HG:=Xh (HBAD.out h0).gr
      have HQ:Hid ((aD 350 (hs,[]) (L.map ChV.d)).2=aP 350 now ⟨xn,xv,xg⟩):=HSP.out.resolve_right h0
      have HQ0:=Xh h0
      have t1:((aP 350 now ⟨xn,xv,xg⟩:Int) !=0)=true:=by rw[bne_iff_ne];omega
      clear HST HGOOD HBAD HSP h0
      generalize aP 350 now ⟨xn,xv,xg⟩=q at *
      go_wp2_with fail
      go_ret2
      exact kQ.bad HQ.out HQ0.out HG.out
  · obtain rfl:j=m:=by omega
    rw[List.take_of_length_le (by rw[HL2.out];omega)] at hpl
    obtain⟨hz,log,hp,hd,hll⟩:=hpl
    have hlog:log.length≤100:=by rw[hll,List.length_map,HL2.out];omega
    obtain⟨cp0,cp1⟩:=hp.cells
    have HSL:=Xh (Np hp Xf)
    have HP:=Xh hp
    have HZ:=Xh hz;have HD:=Xh hd
    clear hp hz hd hll
    go_wp2_with fail
    refine HSL.out.1.mono ?_
    rintro e w5 ⟨rfl,rfl⟩
    go_wp2_with fail
    refine HSL.out.2.mono ?_
    rintro e w6 ⟨v6,rfl,o6⟩
    have HP6:=Xh (HP.out.mono o6.below)
    have HO6:=Xh o6
    obtain⟨A6,c6,rfl,s6⟩:=o6.slice
    have hsl:=Oe log
    have HSH:Hid (∀x∈slotsOf (log.map TcV.d),∃s:Nat,x=s∧∃t,dB log s=some t):=fun x hx=>OO hx
    have HOUT:Hid (∀T:List TcV,T.map TcV.d=(slotsOf (log.map TcV.d)).filterMap (fun s=>lastOf (log.map TcV.d) s.toNat)→T.map TcV.d=iN (log.map TcV.d)):=fun T h=>h
    have HS6:Hid (Is w6 A6 (slotsOf (log.map TcV.d)).length c6 (slotsOf (log.map TcV.d))):=s6
    have hsc:=s6.cap;have hsm:=s6.max
    clear s6 o6 cp0 cp1 HSL HP
    generalize slotsOf (log.map TcV.d)=S at *
    go_wp2_with fail
    go_loopw [4,48] (fun v i wq=>∃(k:Nat) (T:List TcV),k≤S.length∧i= .int .i64 k∧Own w6 wq 110 4 v T.length (T.flatMap TcV.cells)∧T.map TcV.d=(S.take k).filterMap (fun s=>lastOf (log.map TcV.d) s.toNat)∧(∀x∈T,x∈log)∧T.length=k) (fun _ i _=>S.length - (intOf i).toNat)
    case atStart=>exact⟨0,[],Nat.zero_le _,rfl,Own.nil _ _ _,by simp,(fun x hx=>by cases hx),rfl⟩
    case round=>
     obtain⟨k,T,hk,rfl,hown,hTd,hTm,hTl⟩:=hrel
     by_cases hlt2:k<S.length
     · obtain⟨b6,o6,rfl,hcc⟩:=Is.addr (l:=S) (HS6.out.mono hown.below) Xf
       have c4:=hcc k hlt2
       have hmem:iAt S k∈S:=by rw[FL hlt2];exact List.getElem_mem hlt2
       obtain⟨s,hs2,t,ht⟩:=HSH.out _ hmem
       have HTK:Hid ((S.take (k+1)).filterMap (fun s=>lastOf (log.map TcV.d) s.toNat)=(S.take k).filterMap (fun s=>lastOf (log.map TcV.d) s.toNat)++ [t.d]):=by
        show _=_
        rw[List.take_succ_eq_append_getElem hlt2,List.filterMap_append]
        congr 1
        have e:S[k]=(s:Int):=by rw[←FL hlt2];exact hs2
        have e2:=Vg s log
        rw[ht] at e2
        rw[e,List.filterMap_cons,Int.toNat_natCast,←e2]
        rfl
       rw[hs2] at c4
       clear hcc hmem
       have hps:=HP6.out.mono hown.below
       have hts:=(iB ht).2
       have htm:=(iB ht).1
       have hsb:s≤1000000:=by
        have h1:=(Ay _ _ rfl HZ.out).log.2.1 t.d (by rw[←HD.out];exact List.mem_map_of_mem htm)
        rw[hts,HL.out] at h1
        omega
       have hkey:keyOf Tryz.prog 3 (.int .i64 (s:Int))=some (.int .i64 (s:Int)):=keyOf_int_mk Tryz.underlying3 (wfI hsb)
       obtain⟨vv,ps,hlook,hRv⟩:=hps.om.lookup (t:=101) qZ Tryz.underlying101 (z:= .agg #[.int .i64 0,.string ByteArray.empty,.slice none 0 0,.bool false]) Xe (zd:= .held (.agg #[.int .i64 0,.string ByteArray.empty,.slice none 0 0,.bool false])) (zp:=[]) rfl hkey
       have hvt:vv=t.v:=by
        rw[last_at,ht] at hRv
        unfold Rv at hRv
        injection hRv with hRv
        injection hRv with h1 h2
        injection h1
       subst hvt
       obtain⟨cp0,cp1⟩:=hps.cells
       have HPS:=Xh hps
       have HM:Hid (∀x∈T++ [t],x∈log):=fun x hx=>by
        rcases List.mem_append.1 hx with hx|hx
        · exact hTm x hx
        · simp only[List.mem_singleton] at hx;subst hx;exact htm
       have HFL:Hid ((T++ [t]).flatMap TcV.cells=T.flatMap TcV.cells++t.cells):=by show _=_;simp
       have HTD:Hid ((T++ [t]).map TcV.d=(S.take (k+1)).filterMap (fun s=>lastOf (log.map TcV.d) s.toNat)):=by show _=_;rw[HTK.out,←hTd];simp
       have OW:=Xh hown
       clear hps ht htm hTd hTm hRv hkey hs2 HTK hown
       obtain⟨⟨ts,th,tv,tg⟩,ta,tm,tc⟩:=t
       simp only at hts
       subst hts
       replace hlook:(Instr.lookup 101 (.map (some (w.heap.size+1))) (.int .i64 (ts:Int)) false).run Tryz.prog wr= .ok (.agg #[.int .i64 (ts:Int),ak th,.slice ta tm tc,.bool tg]) wr:=hlook
       replace HFL:Hid ((T++ [(⟨⟨ts,th,tv,tg⟩,ta,tm,tc⟩:TcV)]).flatMap TcV.cells=T.flatMap TcV.cells++ [.int .i64 (ts:Int),ak th,.slice ta tm tc,.bool tg]):=HFL.out
       obtain⟨xh,hxh⟩:∃xh:ByteArray,ak th= .string xh:=⟨_,rfl⟩
       rw[hxh] at hlook HFL
       clear hxh
       go_wp2_with (at_builtin;refine jy rfl (.tmp 52) (.tmp 59) 72 rfl tTc rfl OW.out #[.int .i64 (ts:Int),.string xh,.slice ta tm tc,.bool tg] rfl rfl (by intro u hu;simp at hu;rcases hu with rfl|rfl|rfl|rfl<;>rfl) Xf ?_;intro v7 w7 o7;have O7:=Xh o7;clear o7)
       refine⟨⟨k+1,T++ [⟨⟨ts,th,tv,tg⟩,ta,tm,tc⟩],Xf,by first|trivial|go_num,?_,HTD.out,HM.out,by simp[hTl]⟩,?_⟩
       · have :=O7.out
         rw[HFL.out,List.length_append,List.length_singleton]
         exact this
       · show S.length - ((k:Int)+1).toNat<S.length - (k:Int).toNat
         omega
     · obtain rfl:k=S.length:=by omega
       rw[List.take_length] at hTd
       have HFIN:Hid (kQ w hs (L.map ChV.d) (.returned (.tuple #[_,.int .i64 0])) wr):=kQ.good HZ.out HD.out (HOUT.out T hTd) HP6.out.gr hown (fun x hx=>(HP6.out.mono hown.below).vs x (hTm x hx))
       clear hown hTd hTm
       go_wp2_with fail
       go_ret2
       exact HFIN.out
end
section
open Go.RowKit Go.Maps
section
variable {w0 w w':World} {L:Pl} {a d l:Int} {N:Nat} {m:Mc} {n:Nat} {x:Spr} {next pt ps b c pl kc first pv LV:Nat} {A:Option Addr} {R:List aj} {K:Nat→List UInt8} {cs:Nat→Option (List UInt8×List UInt8)}
def SN (w0:World) (L:Pl) (a d l:Int) (N n next pt ps b c pl:Nat) (m:Mc) (x:Spr) (first:Nat) (Q:List (List UInt8)) (key:List UInt8) (LV:Nat) (cs:Nat→Option (List UInt8×List UInt8)) (C:List ChD) (w:World) (e:Ending) (w':World):Prop:=
 (∃q:Nat,q≠0∧q=(aD 350 (aF LV cs,[]) C).2∧e= .returned (.int .i64 (q:Int))∧Gr w w')∨((aD 350 (aF LV cs,[]) C).2=0∧∃T w1,T.map TcV.d=iN (aD 350 (aF LV cs,[]) C).1.2∧Gr w w1∧SK w0 L a d l N n next pt ps b c pl m x first Q key cs T w1 e w')
theorem rW (h:TrV w0 L a d l N m n x next pt ps b c pl A kc first R K cs w) (hU:U8 w0) (hv:Blk w pv 76 [.pointer (some ⟨pt,0,none⟩)]) (hn:n+2100≤90000) (hxl:x.life<100000) (hxg:x.gen<1000000) (hLV:ay a d l=(LV:Int)) {B:Option Addr} {mm dd:Nat} {C:List ChV} (hC:Chg w B mm dd C) (hm:mm≤40) (hnl:∀y∈C,y.d.n.length≤100000):
 Calls Tryz.prog 12 #[.pointer (some ⟨pv,0,none⟩),.slice B mm dd] w (SN w0 L a d l N n next pt ps b c pl m x first (R.map aj.l) (K 0) LV cs (C.map ChV.d) w):=by
 have hl64:LV≤64:=by have :=bM a d l;omega
 have HDE:=Xh (DK h.tp hv)
 have HHE:=Xh (jN h.tp h.ti (hU.mono h.tp.ms.below) LV hLV hv)
 have HPL:=Xh (fun w1 A1 c1 (g:Gr w w1) (q:Ws w1 A1 LV c1 (aF LV cs))=>QK A1 B LV c1 mm dd (aF LV cs) C w1 q (hC.mono g) Xf Xf hnl ((hU.mono h.tp.ms.below).mono g))
 have HAP:=Xh (fun w1 AL cl (T:List TcV) (g:Gr w w1) (hz:(aD 350 (aF LV cs,[]) (C.map ChV.d)).2=0) (hT:T.map TcV.d=iN (aD 350 (aF LV cs,[]) (C.map ChV.d)).1.2) (s:Sl w1 AL T.length cl 4 (T.flatMap TcV.cells)) (hb:∀t∈T,Bs w1 t.a t.m t.c t.d.v∧Ub w1 t.a)=>by
  have hmem:∀t∈T,t.d∈iN (aD 350 (aF LV cs,[]) (C.map ChV.d)).1.2:=fun t ht=>by rw[←hT];exact List.mem_map_of_mem ht
  have hlog:=(Ay (M:=350) (hs:=aF LV cs) _ _ rfl hz).log
  have hTs:∀t∈T,t.d.s<LV:=fun t ht=>by have :=Wh hlog t.d (hmem t ht);rwa[iA] at this
  have hup:(T.map fun t=>t.d.s).Pairwise (· < ·):=by
   have :=Vs (aD 350 (aF LV cs,[]) (C.map ChV.d)).1.2
   rw[←hT,List.pairwise_map] at this
   rw[List.pairwise_map]
   exact this
  have hTl:T.length≤64:=by
   have hnd:(T.map fun t=>t.d.s).Nodup:=hup.imp (fun {x y} h e=>by omega)
   have :=hnd.length_le_of_subset (l₂:=List.range LV) (fun z hz=>by
    obtain⟨t,ht,rfl⟩:=List.mem_map.1 hz
    exact List.mem_range.2 (hTs t ht))
   rw[List.length_map,List.length_range] at this
   omega
  exact Ef (h.gr g) hU hn hxl hxg (AL:=AL) (KL:=T.length) (cl:=cl) (T:=T) ⟨s,rfl⟩ hTl hLV hTs (fun t ht hg=>by
   obtain⟨q1,q2⟩:=Dp (M:=350) _ (aF LV cs,[]) (fun t ht=>by cases ht) hz t.d (nK (AY (hmem t ht))).2 hg
   exact⟨(Dg q1).1,(Dg q1).2,q1,q2⟩) (fun t ht hg=>⟨(hb t ht).1,fun b o _ e=>by
    obtain⟨a,m,z⟩:=(hb t ht).2 b o e
    exact⟨a,_,m,z,.inl rfl,fun e=>absurd e Xg⟩⟩))
 have hvc:=hv.cell 0
 have HV:=Xh hv
 have hBm:=hC.max
 clear h hU hv hC hnl
 go_in
 go_wp2_with fail
 refine HDE.out.mono ?_
 rintro e wd ⟨rfl,hwd⟩
 subst hwd
 go_wp2_with fail
 refine HHE.out.mono ?_
 rintro e w1 ⟨v1,rfl,o1⟩
 obtain⟨A1,c1,rfl,s1⟩:=o1.slice
 have G1:=Xh (show Gr w w1 from o1.below)
 have HP1:=Xh (HPL.out w1 A1 c1 G1.out s1)
 clear o1 s1 HPL HHE hvc
 go_wp2_with fail
 refine HP1.out.mono ?_
 rintro e w2 ⟨v2,T,rfl,hT0,hT,o2,hb⟩
 obtain⟨A2,c2,rfl,s2⟩:=o2.slice
 have G2:=Xh (G1.out.trans (show Gr w1 w2 from o2.below))
 have S2:=Xh s2;have HB:=Xh hb;have HT:=Xh hT
 have V2:=(HV.out.mono G2.out).cell 0
 clear o2 s2 hb hT hT0 HP1
 obtain⟨q,hq⟩:∃q,q=(aD 350 (aF LV cs,[]) (C.map ChV.d)).2:=⟨_,rfl⟩
 rw[←hq]
 by_cases h0:q=0
 · have HQ:Hid ((aD 350 (aF LV cs,[]) (C.map ChV.d)).2=0):=hq.symm.trans h0
   have HA2:=Xh (HAP.out w2 A2 c2 T G2.out HQ.out (HT.out HQ.out) S2.out HB.out)
   clear hq
   subst h0
   go_wp2_with fail
   refine HA2.out.mono ?_
   rintro e w3 r3
   have R3:=Xh r3
   obtain⟨v3,rfl⟩:∃v3,e= .returned v3:=by
    rcases r3 with⟨_,h,_⟩| ⟨_,h,_⟩| ⟨_,h,_⟩
    · exact⟨_,h⟩
    · exact⟨_,h⟩
    · exact⟨_,h⟩
   clear r3 HA2
   go_wp2_with fail
   go_ret
   exact .inr ⟨HQ.out,T,w2,HT.out HQ.out,G2.out,R3.out⟩
 · have t1:((q:Int) !=0)=true:=by rw[bne_iff_ne];omega
   have HQ0:=Xh h0;have HQE:=Xh hq
   clear hq h0
   go_wp2_with fail
   go_ret
   exact .inl ⟨q,HQ0.out,HQE.out,rfl,G2.out⟩
end
end
section
open Go.RowKit Go.Maps
structure EnV where
 n:List UInt8
 v:List UInt8
 a:Option Addr
 m:Nat
 c:Nat
instance:Inhabited EnV:=⟨⟨[],[],none,0,0⟩⟩
def EnV.p (x:EnV):List UInt8×List UInt8:=(x.n,x.v)
def EnV.cells (x:EnV):List Value:=[ak x.n,.slice x.a x.m x.c]
theorem EnV.eX (x:EnV):x.cells.length=2:=rfl
structure Was (w0:World) (kb:Nat) (v:Value) (E:List EnV) (w:World):Prop where
 o:Own w0 w 47 2 v E.length (E.flatMap EnV.cells)
 q:∀x∈E,QB kb w x.a x.m x.c x.v
def tyW (t:TypeId):Prop:=t=118∨t=234∨t=92∨t=150∨t=294∨t=43
section
variable {w0 w w':World} {kb:Nat} {v:Value} {E:List EnV} {S:Nat→Prop}
theorem Was.gr (h:Was w0 kb v E w) (g:Gr w w'):Was w0 kb v E w':=⟨h.o.mono g,fun x hx=>(h.q x hx).mono g⟩
theorem Was.kx (h:Was w0 kb v E w) (k:KX S kb w w') (hS:∀z,S z→∃t cs,Blk w z t cs∧tyW t) (hb:Below w0.heap.size w0 w'):Was w0 kb v E w':=by
 refine⟨h.o.kx k hb Xi Xg (fun z s e=> ?_),fun x hx=>(h.q x hx).kx k (fun z s=> ?_)⟩
 · obtain⟨t,cs,k1,k2⟩:=hS z s
   obtain⟨cs2,k3⟩:=h.o.aA e
   have :=bTy k1 k3
   subst this
   unfold tyW at k2
   revert k2
   decide
 · obtain⟨t,cs,k1,k2⟩:=hS z s
   refine⟨t,cs,k1,?_⟩
   rcases k2 with e|e|e|e|e|e<;>subst e<;>unfold tyB<;>decide
theorem Was.row (h:Was w0 kb v E w) {k:Nat} (hk:k<E.length):
 ∃b o c,v= .slice (some ⟨b,o,none⟩) E.length c∧w.cell? ⟨b,o+k*2,none⟩=some (ak E[k].n)∧w.cell? ⟨b,o+k*2+1,none⟩=some (.slice E[k].a E[k].m E[k].c)∧QB kb w E[k].a E[k].m E[k].c E[k].v:=by
 obtain⟨A,c,e,s⟩:=h.o.slice
 obtain⟨b,o,rfl,hc⟩:=Sl.addr s Xf
 have hr:E[k]?=some E[k]:=List.getElem?_eq_getElem hk
 have h0:=kY (s:=2) EnV.eX E k 0 Xg _ hr
 have h1:=kY (s:=2) EnV.eX E k 1 Xg _ hr
 exact⟨b,o,c,e,hc _ _ (h0.trans rfl),by rw[Nat.add_assoc];exact hc _ _ (h1.trans rfl),h.q _ (List.getElem_mem _)⟩
end
section
variable {w0 w w':World} {L:Pl} {a d l:Int} {N:Nat} {m:Mc} {n:Nat} {x:Spr} {next pt ps b c pl kc first pv LV j:Nat} {A:Option Addr} {R:List aj} {K:Nat→List UInt8} {cs cs':Nat→Option (List UInt8×List UInt8)}
theorem TrV.types (h:TrV w0 L a d l N m n x next pt ps b c pl A kc first R K cs w):∀z,(Wb w z∨z=pt∨z=ps∨z=pl∨z=b)→∃t cs,Blk w z t cs∧tyW t:=by
 rintro z (⟨t,cs,k,q⟩|rfl|rfl|rfl|rfl)
 · exact⟨t,cs,k,q.elim .inl (fun e=> .inr (.inl e))⟩
 · exact⟨_,_,h.tp.ft,.inr (.inr (.inl rfl))⟩
 · exact⟨_,_,h.tp.fx,.inr (.inr (.inr (.inl rfl)))⟩
 · exact⟨_,_,h.lg,.inr (.inr (.inr (.inr (.inl rfl))))⟩
 · obtain⟨cs,z2⟩:=h.tp.fp.o.aA (b:=z) rfl
   exact⟨_,_,z2,.inr (.inr (.inr (.inr (.inr rfl))))⟩
theorem tyW.no {t:TypeId} {S:Nat→Prop} {z:Nat} {cs:List Value} (hS:∀z,S z→∃t cs,Blk w z t cs∧tyW t) (hb:Blk w z t cs) (h:¬tyW t):¬S z:=fun s=>by
 obtain⟨t',cs',k,q⟩:=hS z s
 have :=bTy hb k
 subst this
 exact h q
def VtV (w0:World) (L:Pl) (a d l:Int) (N j pv:Nat) (cs:Nat→Option (List UInt8×List UInt8)) (w:World):Prop:=
 ∃m n x next pt ps b c pl A kc first R K,TrV w0 L a d l N m n x next pt ps b c pl A kc first R K cs w∧Blk w pv 76 [.pointer (some ⟨pt,0,none⟩)]∧n≤300+2000*j∧x.life≤j+1∧x.gen≤j
theorem VtV.gr (h:VtV w0 L a d l N j pv cs w) (g:Gr w w'):VtV w0 L a d l N j pv cs w':=by
 obtain⟨m,n,x,next,pt,ps,b,c,pl,A,kc,first,R,K,h1,h2,h3⟩:=h
 exact⟨m,n,x,next,pt,ps,b,c,pl,A,kc,first,R,K,h1.gr g,h2.mono g,h3⟩
theorem VtV.up (h:VtV w0 L a d l N j pv cs w):VtV w0 L a d l N (j+1) pv cs w:=by
 obtain⟨m,n,x,next,pt,ps,b,c,pl,A,kc,first,R,K,h1,h2,h3,h4,h5⟩:=h
 exact⟨m,n,x,next,pt,ps,b,c,pl,A,kc,first,R,K,h1,h2,Xf,Xf,Xf⟩
theorem VtV.below (h:VtV w0 L a d l N j pv cs w):Gr w0 w:=by
 obtain⟨m,n,x,next,pt,ps,b,c,pl,A,kc,first,R,K,h1,_⟩:=h
 exact h1.tp.ms.below
def WH (w0:World) (L:Pl) (a d l:Int) (N j pv LV:Nat) (cs:Nat→Option (List UInt8×List UInt8)) (C:List ChD) (w:World) (e:Ending) (w':World):Prop:=
 ∃(q:Nat) (cs':Nat→Option (List UInt8×List UInt8)),e= .returned (.int .i64 (q:Int))∧VtV w0 L a d l N (j+1) pv cs' w'∧(∀v E,Was w0 L.kb v E w→Was w0 L.kb v E w')∧(q≠0→cs'=cs)∧(q=0→(aD 350 (aF LV cs,[]) C).2=0∧∃T,T.map TcV.d=iN (aD 350 (aF LV cs,[]) C).1.2∧cs'=iX cs T)
theorem Ec (h:VtV w0 L a d l N j pv cs w) (hU:U8 w0) (hj:j≤20) (hLV:ay a d l=(LV:Int)) {B:Option Addr} {mm dd:Nat} {C:List ChV} (hC:Chg w B mm dd C) (hm:mm≤40) (hnl:∀y∈C,y.d.n.length≤100000):
 Calls Tryz.prog 12 #[.pointer (some ⟨pv,0,none⟩),.slice B mm dd] w (WH w0 L a d l N j pv LV cs (C.map ChV.d) w):=by
 have hv:=h
 obtain⟨m,n,x,next,pt,ps,b,c,pl,A,kc,first,R,K,h1,h2,h3,h4,h5⟩:=h
 refine (rW h1 hU h2 Xf Xf Xf hLV hC hm hnl).mono ?_
 rintro e w' (⟨q,hq,_,rfl,g⟩| ⟨hz,T,w1,hT,g1,(⟨_,rfl,g2⟩| ⟨hT0,rfl,g2⟩| ⟨_,rfl,m',x',pl',A',kc',first',R',K',t,b1,b2,kx,_⟩)⟩)
 · exact⟨q,cs,rfl,(hv.gr g).up,fun v E k=>k.gr g,fun _=>rfl,fun z=>absurd z hq⟩
 · exact⟨6,cs,rfl,(hv.gr (g1.trans g2)).up,fun v E k=>k.gr (g1.trans g2),fun _=>rfl,fun z=>by cases z⟩
 · exact⟨0,cs,rfl,(hv.gr (g1.trans g2)).up,fun v E k=>k.gr (g1.trans g2),fun z=>absurd rfl z,fun _=>⟨hz,T,hT,by rw[hT0];rfl⟩⟩
 · have hS:=(h1.gr g1).types
   refine⟨0,iX cs T,rfl,⟨m',_,x',_,_,_,_,_,pl',A',kc',first',R',K',t,kx.blk (h2.mono g1) Xi Xd (tyW.no hS (h2.mono g1) (by unfold tyW;decide)),Xf,Xf,Xf⟩,fun v E k=>(k.gr g1).kx kx hS t.tp.ms.below,fun z=>absurd rfl z,fun _=>⟨hz,T,hT,rfl⟩⟩
end
end
section
open Go.RowKit
theorem OP (ls:List (List UInt8)) (k:Nat) (h:k<ls.length):fA (ls.take (k+1))=fA (ls.take k)+(if ls[k]=[] then 0 else 1):=by
 unfold fA fU
 rw[List.take_succ_eq_append_getElem h,List.filter_append,List.length_append]
 congr 1
 by_cases e:ls[k]=[]
 · simp[e]
 · simp[e]
theorem TW (ls:List (List UInt8)):fA ls≤ls.length:=List.length_filter_le _ _
theorem QA (A:Option Addr) (n c:Nat) (ls:List (List UInt8)) (w:World) (h:Ws w A n c ls):
 Calls Tryz.prog 39 #[.slice A n c] w fun e w'=>e= .returned (.int .i64 (fA ls))∧w'=w:=by
 have hmax:=h.max
 have hcap:=h.cap
 have HL:=Xh h.len
 have HH:=Xh h;clear h
 go_in
 go_wp2
 go_loopw [2,7] (fun v i wr=>∃k:Nat,k≤n∧i= .int .i64 k∧v= .int .i64 (fA (ls.take k))∧wr=w) (fun _ i _=>n - (Go.RowKit.intOf i).toNat)
 case atStart=>exact⟨0,Nat.zero_le _,rfl,rfl,rfl⟩
 case round=>
  obtain⟨k,hk,rfl,rfl,rfl⟩:=hrel
  by_cases hlt:k<n
  · obtain⟨b,o,rfl,hcc⟩:=Ws.addr (ps:=ls) HH.out Xf
    have hkl:k<ls.length:=by rw[HL.out];exact hlt
    have HS:=Xh (OP ls k hkl)
    have hle:fA (ls.take k)≤k:=Nat.le_trans (TW _) (by rw[List.length_take];omega)
    obtain⟨sx,hsx⟩:∃sx:ByteArray,sx=⟨ls[k].toArray⟩:=⟨_,rfl⟩
    have c1:wr.cell? ⟨b,o+k,none⟩=some (.string sx):=by rw[hsx];exact hcc k hkl
    have hl:sx.toList=ls[k]:=by rw[ByteArray.toList_eq,hsx]
    clear hcc
    by_cases hs:ls[k]=[]
    · have he:sx.toList.isEmpty=true:=by rw[hl,hs];rfl
      have HT:Hid (fA (ls.take (k+1))=fA (ls.take k)):=by show _=_;rw[HS.out,if_pos hs];rfl
      clear hs hl hsx
      generalize fA (ls.take k)=u at *
      go_wp2_with fail
      refine⟨⟨k+1,Xf,by first|trivial|go_num,by rw[HT.out],by first|trivial|rfl⟩,?_⟩
      show n - ((k:Int)+1).toNat<n - (k:Int).toNat
      omega
    · have he:sx.toList.isEmpty=false:=by
       rw[hl]
       cases hx:ls[k] with
       |nil=>exact absurd hx hs
       |cons a b=>rfl
      have HT:Hid (fA (ls.take (k+1))=fA (ls.take k)+1):=by show _=_;rw[HS.out,if_neg hs]
      clear hs hl hsx
      generalize fA (ls.take k)=u at *
      go_wp2_with fail
      refine⟨⟨k+1,Xf,by first|trivial|go_num,by rw[HT.out];first|trivial|go_num,by first|trivial|rfl⟩,?_⟩
      show n - ((k:Int)+1).toNat<n - (k:Int).toNat
      omega
  · obtain rfl:n=k:=by omega
    have HF:Hid (fA (ls.take n)=fA ls):=by show _=_;rw[List.take_of_length_le (by rw[HL.out];omega)]
    rw[HF.out]
    go_wp2_with fail
    go_ret
    exact⟨rfl,rfl⟩
end
section
open Go.RowKit
theorem Ap (x:List UInt8) (w:World):Calls Tryz.prog 70 #[ak x] w fun e w'=>e= .returned (.bool (x==[]))∧w'=w:=by
 obtain⟨sx,hsx⟩:∃sx:ByteArray,sx=⟨x.toArray⟩:=⟨_,rfl⟩
 have hl:sx.toList=x:=by rw[ByteArray.toList_eq,hsx]
 have hs2:ak x= .string sx:=by rw[hsx];rfl
 rw[hs2]
 have he:Hid (sx.toList.isEmpty=(x==[])):=by show _=_;rw[hl];cases x<;>rfl
 clear hsx hl hs2
 go_in
 go_wp2_with fail
 go_ret
 exact⟨by rw[←he.out];rfl,rfl⟩
theorem Ns (w:World):Go.Proofs.PredAt Tryz.prog 70 #[] ak (fun x:List UInt8=>x==[]) w:=fun W x _=>
 (Ap x W).mono fun e w' ⟨he,hw⟩=>⟨he,0,hw⟩
theorem IC (blk off size:Nat) (w:World):Go.Proofs.PredOver Tryz.prog 70 #[] ak (fun x:List UInt8=>x==[]) blk off size w:=fun n os dk x _=>
 (Ap x _).mono fun e w' ⟨he,hw⟩=>⟨he,0,hw⟩
theorem AJ {α:Type} {w0 w:World} (g:Gr w0 w) {blk:Nat} (hb:w0.heap.size≤blk) [Inhabited α] (enc:α→Value) (off m:Nat) (dk:Array α) (os:Array Obj):Gr w0 (Go.Proofs.sortWorld enc w blk off m dk os):=by
 have hsz:(Go.Sort.putRow enc (Go.Sort.ahead w m) blk off dk).heap.size=w.heap.size:=by rw[Go.Sort.size_putRow];rfl
 refine⟨g.os,g.tape,g.output,?_,fun k hk=> ?_⟩
 · show _≤((Go.Sort.putRow enc (Go.Sort.ahead w m) blk off dk).heap++os).size
   rw[Array.size_append,hsz]
   have :=g.size
   omega
 · show ((Go.Sort.putRow enc (Go.Sort.ahead w m) blk off dk).heap++os)[k]?=_
   have hs:=g.size
   rw[Array.getElem?_append_left (by rw[hsz];omega),←g.block k hk]
   show (w.heap.modify blk _)[k]?=_
   rw[Array.getElem?_modify,if_neg Xf]
end
section
open Go.RowKit
abbrev Hd:={l:List UInt8 // l.length≤100000}
instance:Inhabited Hd:=⟨⟨[],by simp⟩⟩
def qE (x:Hd):Value:=ak x.1
def yH (x y:Hd):Int:=dD x.1 y.1
theorem iC (x y:Hd):Go.Proofs.ltOf yH x y=true↔LtH x.1 y.1:=by
 unfold Go.Proofs.ltOf yH LtH
 rw[decide_eq_true_iff]
 rcases xD x.1 y.1 with h|h|h<;>rw[h]<;>decide
theorem WM:Go.Sort.SWO (Go.Proofs.ltOf yH) where
 irrefl x:=by
  rw[Bool.eq_false_iff];intro h
  exact zC ((iC x x).1 h) rfl
 trans x y z h k:=(iC x z).2 (mF ((iC x y).1 h) ((iC y z).1 k))
 ntrans x y z h k:=by
  rw[Bool.eq_false_iff] at *
  intro c
  have c1:=(iC x z).1 c
  rcases pJ x.1 y.1 with e|e|e
  · exact h ((iC x y).2 e)
  · exact k ((iC y z).2 (e▸c1))
  · exact k ((iC y z).2 (mF e c1))
theorem Ei {w0 w:World} (g:Gr w0 w) {blk:Nat} (hb:w0.heap.size≤blk) (hT:U8 w0) (hM:gL w0) (off size:Nat):Go.Proofs.CmpLays1 Tryz.prog 72 #[] qE yH blk off size w:=fun m os dk hs x y=>by
 have gs:=AJ g hb qE off m dk os
 rw[Array.append_empty]
 exact Nf (NR x.1 y.1 _ x.2 y.2 (hT.mono gs) (hM.mono gs))
def jo (d:Array Hd):List (List UInt8):=d.toList.map (·.1)
def mZ (ls:List (List UInt8)) (h:∀x∈ls,x.length≤100000):Array Hd:=(ls.attach.map fun x=>(⟨x.1,h x.1 x.2⟩:Hd)).toArray
theorem Ie (ls:List (List UInt8)) (h:∀x∈ls,x.length≤100000):jo (mZ ls h)=ls:=by
 unfold jo mZ
 simp[List.map_map,Function.comp_def]
theorem RD (ls:List (List UInt8)) (h:∀x∈ls,x.length≤100000):(mZ ls h).size=ls.length:=by
 unfold mZ;simp
theorem PI {d d':Array Hd} (h:Go.Sort.PermIn 0 d.size d d'):(jo d').Perm (jo d):=by
 obtain⟨h1,_,h3⟩:=h
 have e1:d'.extract 0 d.size=d':=by rw[←h1];simp
 have e2:d.extract 0 d.size=d:=by simp
 rw[e1,e2] at h3
 exact h3.map _
theorem PO {d d':Array Hd} (h1:d'.size=d.size) (h:Go.Sort.SortedIn (Go.Proofs.ltOf yH) 0 d.size d'):Weak (jo d'):=by
 unfold Weak jo
 rw[List.pairwise_map,List.pairwise_iff_getElem]
 intro i j hi hj hij hlt
 have hi':i<d'.size:=by simpa using hi
 have hj':j<d'.size:=by simpa using hj
 have k:=h i j (Nat.zero_le _) hij Xf
 rw[getElem!_pos d' i hi',getElem!_pos d' j hj'] at k
 have k2:=(iC d'[j] d'[i]).2 (by simpa using hlt)
 rw[k] at k2
 cases k2
end
section
open Go.RowKit
theorem Sk {w0 w:World} (g:Gr w0 w) (blk off cap:Nat) (hb:w0.heap.size≤blk) (hT:U8 w0) (hM:gL w0) (d:Array Hd) (hH:Go.Sort.Holds qE w blk off d) (hblk:blk<w.heap.size) (hsz:d.size<4611686018427387904):
 Calls Tryz.prog 71 #[.slice (some ⟨blk,off,none⟩) d.size cap,.func (.func 72) #[] #[]] w fun e w'=>
  e= .returned (.tuple #[])∧∃d' n os,Go.Sort.PermIn 0 d.size d d'∧Go.Sort.SortedIn (Go.Proofs.ltOf yH) 0 d.size d'∧w'=Go.Proofs.sortWorld qE w blk off n d' os:=
 Go.Proofs.Any.slices_SortFunc Tryz.BX qE (fun _=>rfl) yH WM 72 #[] blk off cap d w (enters_of Tryz.func72 Xe rfl) (Ei g hb hT hM off d.size) hH hblk hsz
end
section
open Go.RowKit
def Rw (w0 w:World) (A:Option Addr) (n c:Nat) (ls:List (List UInt8)):Prop:=ls.length=n∧(n≤c∧c≤9223372036854775807)∧((A=none∧n=0∧c=0)∨∃g,A=some ⟨g,0,none⟩∧w0.heap.size≤g∧g<w.heap.size∧Go.Sort.Holds ak w g 0 ls.toArray)
theorem PX {w0 w:World} {v:Value} {n:Nat} {ls:List (List UInt8)} (h:Own w0 w 9 1 v n (ls.map ak)):∃A c,v= .slice A n c∧Rw w0 w A n c ls:=by
 obtain⟨A,c,hv,hs⟩:=Own.slice h
 have hw:Ws w A n c ls:=hs
 have hn:=hw.len
 obtain⟨⟨hl,h⟩,hb⟩:=h
 rcases h with⟨h1,h2⟩| ⟨g,cap,cur,h1,hg,hh,hc,hm,hz,ht⟩
 · rw[hv] at h1
   injection h1 with e1 e2 e3
   exact⟨A,c,hv,hn,⟨hw.cap,hw.max⟩,.inl ⟨e1,h2,e3⟩⟩
 · rw[hv] at h1
   injection h1 with e1 e2 e3
   refine⟨A,c,hv,hn,⟨hw.cap,hw.max⟩,.inr ⟨g,e1,hg,(Array.getElem?_eq_some_iff.1 hh).1,fun j hj=> ?_⟩⟩
   have hj':j<ls.length:=by simpa using hj
   obtain⟨b,o,e4,hcc⟩:=hw.addr Xf
   rw[e1] at e4
   injection e4 with e4
   injection e4 with e5 e6
   subst e5 e6
   refine⟨?_,?_⟩
   · rw[hcc j hj']
     rw[getElem!_pos ls.toArray j hj]
     rfl
   · simp[World.frozen?,hh]
theorem Mi (A:Option Addr) (n c:Nat) (ls:List (List UInt8)) (w:World) (h:Ws w A n c ls) (hn:n≤1000):
 Calls Tryz.prog 69 #[.slice A n c] w fun e w'=>∃A' c',e= .returned (.slice A' n c')∧Rw w w' A' n c' ls∧Gr w w':=by
 have hl:=h.len
 by_cases h0:n=0
 · subst h0
   have e:ls=[]:=List.eq_nil_of_length_eq_zero hl
   subst e
   cases A with
   |none=>exact (Tryz.slices_Clone_string_nil 0 c w).mono fun e w' ⟨he,hw⟩=>⟨none,0,he,⟨rfl,⟨Nat.le_refl _,Xf⟩,.inl ⟨rfl,rfl,rfl⟩⟩,hw▸Gr.refl _⟩
   |some a=>
    refine (Tryz.slices_Clone_string_zero a c w).mono fun e w' ⟨v,he,ho,_,hb⟩=> ?_
    obtain⟨A2,c2,hv,hr⟩:=PX (ls:=[]) (⟨ho,hb⟩:Own w w' 9 1 v 0 (([]:List (List UInt8)).map ak))
    exact⟨A2,c2,he.trans (by rw[hv]),hr,hb⟩
 · obtain⟨b,o,rfl,hc⟩:=h.addr Xf
   have k:=Tryz.slices_Clone_string b o n c (ls.map mkB) w (by rw[List.length_map];omega) Xf (fun j hj=>by
    rw[List.length_map] at hj
    rw[List.getD_eq_getElem?_getD,List.getElem?_map,List.getElem?_eq_getElem hj]
    exact hc j hj)
   refine k.mono fun e w' ⟨v,he,ho,_,hb⟩=> ?_
   rw[List.take_of_length_le (by rw[List.length_map];omega),List.map_map] at ho
   obtain⟨A2,c2,hv,hr⟩:=PX (ls:=ls) (⟨ho,hb⟩:Own w w' 9 1 v n (ls.map ak))
   exact⟨A2,c2,he.trans (by rw[hv]),hr,hb⟩
end
end Go.Proofs.YtipdlnejmcmbbaaGreatDoor
