/- Own texts, one behind the other. No condition. -/
import Derived.Test.YtipdlnejmcmbbaaGreatDoorObPkBO
set_option linter.unusedVariables false
set_option maxRecDepth 100000
set_option maxHeartbeats 8000000
set_option linter.unusedSimpArgs false
namespace Go.Proofs.YtipdlnejmcmbbaaGreatDoor
section
open Go.RowKit Go.Maps
section
variable {w0 w:World} {P g mb n:Nat} {now:List (List UInt8)} {log:List TcV}
theorem VR (h:PL w0 w P g mb n now log) (hn:n≤1000) (hlog:log.length≤1000) (s:List UInt8) (a:Option Addr) (m c:Nat) (v:List UInt8) (hv:Bs w a m c v) (hs:s.length≤100000) (hT:U8 w0) (hr:aB s=true) (hm:m≤350) (i:Nat) (hi:i<n) (hf:bW now s=(i:Int)):
 Calls Tryz.prog 49 #[.pointer (some ⟨P,0,none⟩),.agg #[ak s,.slice a m c,.bool false]] w fun e w'=>e= .returned (.int .i64 0)∧∃a' m' c',PL w0 w' P g mb n (now.set i s) (log++ [⟨⟨i,s,v,false⟩,a',m',c'⟩]):=by
 have HP:=Xh (h.mono (Gr.alloc w (chO (ak s) a m c false)))
 have HV:=Xh (hv.mono (Gr.alloc w (chO (ak s) a m c false)))
 have H1:Hid (Calls Tryz.prog 104 #[ak s] (w.alloc (chO (ak s) a m c false)) fun e w'=>e= .returned (.bool true)∧Gr (w.alloc (chO (ak s) a m c false)) w'):=by
  have k:=eu s _ hs (hT.mono HP.out.gr);rw[hr] at k;exact k
 have H2:Hid (∀wr,PL w0 wr P g mb n now log→Calls Tryz.prog 31 #[.slice (some ⟨g,0,none⟩) n n,ak s] wr fun e w'=>e= .returned (.int .i64 (i:Int))∧w'=wr):=fun wr k=>by
  have q:=iU _ n n now s wr (k.ws (by unfold maxLen;omega)) Xf;rw[hf] at q;exact q
 have HPUT:=Xh (fun wr (k:PL w0 wr P g mb n now log)=>k.put i s)
 have HUPD:Hid (∀wr wx A' m' c',PL w0 wr P g mb n (now.set i s) log→Bs wr A' m' c' v→Ub wr A'→wr.grownBy wx (some mb)→wx.ownsMap Tryz.prog 3 Rv mb (log.length+1) ((dOf (fu log)).put (.int .i64 (i:Int)) (.held (.agg #[.int .i64 (i:Int),ak s,.slice A' m' c',.bool false])))→PL w0 wx P g mb n (now.set i s) (log++ [⟨⟨i,s,v,false⟩,A',m',c'⟩])):=fun wr wx A' m' c' k1 k2 k3 k4 k5=>k1.upd ⟨⟨i,s,v,false⟩,A',m',c'⟩ k2 k3 k4 k5
 obtain⟨sx,hsx⟩:∃sx:ByteArray,ak s= .string sx:=⟨_,rfl⟩
 rw[hsx] at HP HV H1 H2 HPUT HUPD ⊢
 have HC:=Xh (fun (wr:World) (k:Gr (w.alloc (chO (.string sx) a m c false)) wr)=>kN k)
 have t1:decide ((350:Int)<(m:Int))=false:=decide_eq_false Xf
 have hkey:keyOf Tryz.prog 3 (.int .i64 (i:Int))=some (.int .i64 (i:Int)):=keyOf_int_mk Tryz.underlying3 (wfI Xf)
 clear h hsx hr hT hf hv
 go_in
 go_wp2_with fail
 refine H1.out.mono ?_
 rintro e w1 ⟨rfl,g1⟩
 have HP1:=Xh (HP.out.mono g1)
 have G1:=Xh g1
 obtain⟨d0,d1,d2⟩:=HC.out _ g1
 clear g1
 obtain⟨cp0,cp1⟩:=HP1.out.cells
 go_wp2_with fail
 have H2q:=Xh (fun q=>H2.out (w1.drewN q) (HP1.out.mono (dG (Below.refl _ _) q)))
 go_quiet ((go_at_call 31;exact Calls.quiet_of_same (H2q.out _)))
 have HP2:=Xh (HP1.out.mono (dG (Below.refl _ _) nq))
 clear cp0 cp1 d0 d1 d2
 obtain⟨cp0,cp1⟩:=HP2.out.cells
 obtain⟨d0,d1,d2⟩:=HC.out _ (dG G1.out nq)
 have HG2:=Xh (dG G1.out nq)
 clear H2q
 obtain⟨wb,hwb⟩:∃wb,wb=w1.drewN nq:=⟨_,rfl⟩
 rw[←hwb] at HP2 cp0 cp1 d0 d1 d2 HG2 ⊢
 clear hwb
 go_upto_region 13 with fail
 refine wrP Xe (fun w'=>(w'.cell? ⟨P,0,none⟩=some (.slice (some ⟨g,0,none⟩) n n)∧w'.cell? ⟨P,1,none⟩=some (.map (some mb)))∧w'.cell? ⟨w.heap.size,0,none⟩=some (.string sx)∧w'.cell? ⟨w.heap.size,1,none⟩=some (.slice a m c)) (fun i=>i==3 || i==8 || i==11 || i==14 || i==16) (fun _=>false) [0,1,2,3,4,5,6,7,8,9,10,11,12,13,14,15,16] 7 Xe Xe Xe ⟨⟨cp0,cp1⟩,d0,d1⟩ ?_
 refine rP ?_
 refine rP ?_
 refine rP ?_
 refine rQ (fun _ hq=>hq) ?_
 refine rP ?_
 refine rP ?_
 refine rP ?_
 refine rP ?_
 refine rQ (fun _ hq=>hq) ?_
 refine rP ?_
 refine rP ?_
 refine rQ (fun _ hq=>hq) ?_
 refine rP ?_
 refine rP ?_
 refine rQ (fun _ hq=>hq) ?_
 refine rP ?_
 refine rQ (fun _ hq=>hq) ?_
 refine dQ ?_
 clear cp0 cp1 d0 d1 d2
 have HP3:=Xh (HP2.out.mono (Gr.drew _))
 have HV3:=Xh ((HV.out.mono HG2.out).mono (Gr.drew _))
 have HG3:=Xh (Gr.trans HG2.out (Gr.drew _))
 have HCL:=Xh (jd a m c v _ HV3.out Xf)
 refine wR1 (i:=17) Xe rfl rfl ?_
 intro K hK
 go_simp
 go_at_call 106
 refine HCL.out.mono ?_
 rintro e wc ⟨vc,rfl,oc⟩
 have HPc:=Xh (HP3.out.mono oc.below)
 have HCC:=Xh (And.intro HPc.out.cells (And.intro (HC.out wc (Gr.trans HG3.out oc.below)).1 (HC.out wc (Gr.trans HG3.out oc.below)).2.1))
 refine hK _ _ (fun _=>HCC.out) ?_
 clear hK HCL
 obtain⟨A',c',rfl,sl⟩:=oc.slice
 have hAg:Ub wc A':=Ub.own oc
 have HPd:=Xh (HPUT.out wc HPc.out)
 have hbc:Blk wc w.heap.size 45 [.string sx,.slice a m c,.bool false]:=(Blk.new w 45 #[.string sx,.slice a m c,.bool false]).mono (Gr.trans HG3.out oc.below)
 have hng:w.heap.size≠g:=fun e=>by
  have h1:=HPc.out.bg
  unfold Blk at h1 hbc
  rw[←e,hbc] at h1
  injection h1 with h1
  injection h1 with _ h1
  revert h1
  decide
 have HCD:=Xh (And.intro HPd.out.cells (And.intro ((hbc.far (p:=⟨g,i,none⟩) hng (.string sx)).cell 0) ((hbc.far (p:=⟨g,i,none⟩) hng (.string sx)).cell 1)))
 have hbd:=hbc.far (p:=⟨g,i,none⟩) hng (.string sx)
 have slD:Bs (wc.setCell ⟨g,i,none⟩ (.string sx)) A' _ c' v:=Sl.tch sl Xg (Tch.set (S:=fun b=>b=g) ⟨g,i,none⟩ (.string sx) rfl) (fun _ b o e q=>hAg.ne HPc.out.bg Xg b o e q)
 obtain⟨v0,st,w5,hrun5,hg5,hsz5,hst⟩:=qH HPd.out.om qZ Tryz.underlying101 (z:= .agg #[.int .i64 0,.string ByteArray.empty,.slice none 0 0,.bool false]) (fun u=>by kernel_rfl) (by unfold maxLen;omega) hkey
 obtain⟨w6,hrun6,om6,hg6⟩:=hst w5 (.agg #[.int .i64 (i:Int),.string sx,.slice A' _ c',.bool false]) _ [] rfl rfl
 have HP6:=Xh (HUPD.out _ _ A' _ c' HPd.out slD (hAg.keep (fun b a m z=>Below.heap_setCell wc ⟨g,i,none⟩ _ b (fun e=>by have :=HPc.out.bg;unfold Blk at this;rw[←show b=g from e,z] at this;injection this with this;injection this with _ this _;exact absurd this Xg))) (hg5.trans hg6) om6)
 have HC5:Hid ((w5.cell? ⟨P,0,none⟩=some (.slice (some ⟨g,0,none⟩) n n)∧w5.cell? ⟨P,1,none⟩=some (.map (some mb)))∧w5.cell? ⟨w.heap.size,0,none⟩=some (.string sx)∧w5.cell? ⟨w.heap.size,1,none⟩=some (.slice a m c)):=by
  have ht:=Tch.grown (S:=fun b=>b=mb) hg5 (fun b e=>by injection e with e;exact e.symm)
  obtain⟨es,clock,hm1⟩:=jA HPd.out.om
  have hnm:w.heap.size≠mb:=fun e=>by
   have h1:=hbd
   unfold Blk at h1
   rw[e,hm1] at h1
   cases h1
  have hb:=HPd.out.bp.tch ht (fun e=>HPd.out.mg.2 e.symm)
  have hb2:=hbd.tch ht hnm
  exact⟨⟨hb.cell 0,hb.cell 1⟩,hb2.cell 0,hb2.cell 1⟩
 have HC6:Hid (w6.cell? ⟨w.heap.size,0,none⟩=some (.string sx)∧w6.cell? ⟨w.heap.size,1,none⟩=some (.slice a m c)):=by
  have ht:=Tch.grown (S:=fun b=>b=mb) (hg5.trans hg6) (fun b e=>by injection e with e;exact e.symm)
  obtain⟨es,clock,hm1⟩:=jA HPd.out.om
  have hnm:w.heap.size≠mb:=fun e=>by
   have h1:=hbd
   unfold Blk at h1
   rw[e,hm1] at h1
   cases h1
  have hb2:=hbd.tch ht hnm
  exact⟨hb2.cell 0,hb2.cell 1⟩
 have y0:=HPc.out.bg.free i
 have y1:wc.cell? ⟨g,i,none⟩=some (ak (now[i]'(by have :=HPc.out.len;omega))):=by rw[HPc.out.bg.cell,List.getElem?_map,List.getElem?_eq_getElem (by have :=HPc.out.len;omega)];rfl
 clear hst om6 hg5 hg6 hsz5 hbc hbd hng slD sl oc hAg
 go_simp
 refine fE (i:=18) (j:=19) Xe rfl rfl rfl rfl ?_ ?_
 · skip
   intro K hK
   go_simp
   refine hK _ _ (fun _=>HCC.out) ?_
   clear hK
   go_simp
   refine wR1 (i:=19) Xe rfl rfl ?_
   intro K hK
   go_simp
   refine hK _ _ (fun _=>HCC.out) ?_
   clear hK
   go_simp
   refine wR1 (i:=20) Xe rfl rfl ?_
   intro K hK
   go_simp
   refine hK _ _ (fun _=>HCD.out) ?_
   clear hK
   go_simp
   refine wR1 (i:=21) Xe rfl rfl ?_
   intro K hK
   refine fD (w1:=w5) (v:= .tuple #[v0,goInt st]) rfl (by exact hrun5) ?_
   refine hK _ _ (fun _=>HC5.out) ?_
   clear hK
   go_simp
   refine wR1 (i:=22) Xe rfl rfl ?_
   intro K hK
   go_simp
   refine hK _ _ (fun _=>HC5.out) ?_
   clear hK
   go_simp
   refine wR1 (i:=23) Xe rfl rfl ?_
   intro K hK
   refine dh (w1:=w6) rfl (by exact hrun6) ?_
   refine hK _ _ (fun _=>⟨HP6.out.cells,HC6.out⟩) ?_
   clear hK
   go_simp
   refine aR Xe ?_
   go_wp2_with fail
   go_ret
   exact⟨rfl,_,_,_,HP6.out⟩
 · skip
   intro K hK
   go_simp
   refine hK _ _ (fun _=>HCC.out) ?_
   clear hK
   go_simp
   refine fE (i:=18) (j:=20) Xe rfl rfl rfl rfl ?_ ?_
   · skip
     intro K hK
     go_simp
     refine hK _ _ (fun _=>HCC.out) ?_
     clear hK
     go_simp
     refine wR1 (i:=20) Xe rfl rfl ?_
     intro K hK
     go_simp
     refine hK _ _ (fun _=>HCD.out) ?_
     clear hK
     go_simp
     refine wR1 (i:=21) Xe rfl rfl ?_
     intro K hK
     refine fD (w1:=w5) (v:= .tuple #[v0,goInt st]) rfl (by exact hrun5) ?_
     refine hK _ _ (fun _=>HC5.out) ?_
     clear hK
     go_simp
     refine wR1 (i:=22) Xe rfl rfl ?_
     intro K hK
     go_simp
     refine hK _ _ (fun _=>HC5.out) ?_
     clear hK
     go_simp
     refine wR1 (i:=23) Xe rfl rfl ?_
     intro K hK
     refine dh (w1:=w6) rfl (by exact hrun6) ?_
     refine hK _ _ (fun _=>⟨HP6.out.cells,HC6.out⟩) ?_
     clear hK
     go_simp
     refine aR Xe ?_
     go_wp2_with fail
     go_ret
     exact⟨rfl,_,_,_,HP6.out⟩
   · skip
     intro K hK
     go_simp
     refine hK _ _ (fun _=>HCD.out) ?_
     clear hK
     go_simp
     refine fE (i:=18) (j:=21) Xe rfl rfl rfl rfl ?_ ?_
     · skip
       intro K hK
       go_simp
       refine hK _ _ (fun _=>HCD.out) ?_
       clear hK
       go_simp
       refine wR1 (i:=21) Xe rfl rfl ?_
       intro K hK
       refine fD (w1:=w5) (v:= .tuple #[v0,goInt st]) rfl (by exact hrun5) ?_
       refine hK _ _ (fun _=>HC5.out) ?_
       clear hK
       go_simp
       refine wR1 (i:=22) Xe rfl rfl ?_
       intro K hK
       go_simp
       refine hK _ _ (fun _=>HC5.out) ?_
       clear hK
       go_simp
       refine wR1 (i:=23) Xe rfl rfl ?_
       intro K hK
       refine dh (w1:=w6) rfl (by exact hrun6) ?_
       refine hK _ _ (fun _=>⟨HP6.out.cells,HC6.out⟩) ?_
       clear hK
       go_simp
       refine aR Xe ?_
       go_wp2_with fail
       go_ret
       exact⟨rfl,_,_,_,HP6.out⟩
     · skip
       intro K hK
       refine fD (w1:=w5) (v:= .tuple #[v0,goInt st]) rfl (by exact hrun5) ?_
       refine hK _ _ (fun _=>HC5.out) ?_
       clear hK
       go_simp
       refine fE (i:=18) (j:=22) Xe rfl rfl rfl rfl ?_ ?_
       · skip
         intro K hK
         go_simp
         refine hK _ _ (fun _=>HC5.out) ?_
         clear hK
         go_simp
         refine wR1 (i:=22) Xe rfl rfl ?_
         intro K hK
         go_simp
         refine hK _ _ (fun _=>HC5.out) ?_
         clear hK
         go_simp
         refine wR1 (i:=23) Xe rfl rfl ?_
         intro K hK
         refine dh (w1:=w6) rfl (by exact hrun6) ?_
         refine hK _ _ (fun _=>⟨HP6.out.cells,HC6.out⟩) ?_
         clear hK
         go_simp
         refine aR Xe ?_
         go_wp2_with fail
         go_ret
         exact⟨rfl,_,_,_,HP6.out⟩
       · skip
         intro K hK
         go_simp
         refine hK _ _ (fun _=>HC5.out) ?_
         clear hK
         go_simp
         refine wR1 (i:=18) Xe rfl rfl ?_
         intro K hK
         go_simp
         refine hK _ _ (fun _=>HC5.out) ?_
         clear hK
         go_simp
         refine wR1 (i:=23) Xe rfl rfl ?_
         intro K hK
         refine dh (w1:=w6) rfl (by exact hrun6) ?_
         refine hK _ _ (fun _=>⟨HP6.out.cells,HC6.out⟩) ?_
         clear hK
         go_simp
         refine aR Xe ?_
         go_wp2_with fail
         go_ret
         exact⟨rfl,_,_,_,HP6.out⟩
theorem Vm (h:PL w0 w P g mb n now log) (hn:n≤1000) (hlog:log.length≤1000) (s:List UInt8) (a:Option Addr) (m c:Nat) (v:List UInt8) (hv:Bs w a m c v) (hs:s.length≤100000) (hT:U8 w0) (hr:aB s=true) (hm:m≤350) (i:Nat) (hi:i<n) (hf:bW now s= -1) (he:jE now=(i:Int)):
 Calls Tryz.prog 49 #[.pointer (some ⟨P,0,none⟩),.agg #[ak s,.slice a m c,.bool false]] w fun e w'=>e= .returned (.int .i64 0)∧∃a' m' c',PL w0 w' P g mb n (now.set i s) (log++ [⟨⟨i,s,v,false⟩,a',m',c'⟩]):=by
 have HP:=Xh (h.mono (Gr.alloc w (chO (ak s) a m c false)))
 have HV:=Xh (hv.mono (Gr.alloc w (chO (ak s) a m c false)))
 have H1:Hid (Calls Tryz.prog 104 #[ak s] (w.alloc (chO (ak s) a m c false)) fun e w'=>e= .returned (.bool true)∧Gr (w.alloc (chO (ak s) a m c false)) w'):=by
  have k:=eu s _ hs (hT.mono HP.out.gr);rw[hr] at k;exact k
 have H2:Hid (∀wr,PL w0 wr P g mb n now log→Calls Tryz.prog 31 #[.slice (some ⟨g,0,none⟩) n n,ak s] wr fun e w'=>e= .returned (.int .i64 (-1))∧w'=wr):=fun wr k=>by
  have q:=iU _ n n now s wr (k.ws (by unfold maxLen;omega)) Xf;rw[hf] at q;exact q
 have H3:Hid (∀wr,PL w0 wr P g mb n now log→Calls Tryz.prog 105 #[.slice (some ⟨g,0,none⟩) n n] wr fun e w'=>e= .returned (.int .i64 (i:Int))∧w'=wr):=fun wr k=>by
  have q:=FK _ n n now wr (k.ws (by unfold maxLen;omega)) Xf;rw[he] at q;exact q
 have HPUT:=Xh (fun wr (k:PL w0 wr P g mb n now log)=>k.put i s)
 have HUPD:Hid (∀wr wx A' m' c',PL w0 wr P g mb n (now.set i s) log→Bs wr A' m' c' v→Ub wr A'→wr.grownBy wx (some mb)→wx.ownsMap Tryz.prog 3 Rv mb (log.length+1) ((dOf (fu log)).put (.int .i64 (i:Int)) (.held (.agg #[.int .i64 (i:Int),ak s,.slice A' m' c',.bool false])))→PL w0 wx P g mb n (now.set i s) (log++ [⟨⟨i,s,v,false⟩,A',m',c'⟩])):=fun wr wx A' m' c' k1 k2 k3 k4 k5=>k1.upd ⟨⟨i,s,v,false⟩,A',m',c'⟩ k2 k3 k4 k5
 obtain⟨sx,hsx⟩:∃sx:ByteArray,ak s= .string sx:=⟨_,rfl⟩
 rw[hsx] at HP HV H1 H2 HPUT HUPD ⊢
 have HC:=Xh (fun (wr:World) (k:Gr (w.alloc (chO (.string sx) a m c false)) wr)=>kN k)
 have t1:decide ((350:Int)<(m:Int))=false:=decide_eq_false Xf
 have hkey:keyOf Tryz.prog 3 (.int .i64 (i:Int))=some (.int .i64 (i:Int)):=keyOf_int_mk Tryz.underlying3 (wfI Xf)
 clear h hsx hr hT hf hv he
 go_in
 go_wp2_with fail
 refine H1.out.mono ?_
 rintro e w1 ⟨rfl,g1⟩
 have HP1:=Xh (HP.out.mono g1)
 have G1:=Xh g1
 obtain⟨d0,d1,d2⟩:=HC.out _ g1
 clear g1
 obtain⟨cp0,cp1⟩:=HP1.out.cells
 go_wp2_with fail
 have H2q:=Xh (fun q=>H2.out (w1.drewN q) (HP1.out.mono (dG (Below.refl _ _) q)))
 go_quiet ((go_at_call 31;exact Calls.quiet_of_same (H2q.out _)))
 have HP2:=Xh (HP1.out.mono (dG (Below.refl _ _) nq))
 clear cp0 cp1 d0 d1 d2
 obtain⟨cp0,cp1⟩:=HP2.out.cells
 obtain⟨d0,d1,d2⟩:=HC.out _ (dG G1.out nq)
 have HG2:=Xh (dG G1.out nq)
 clear H2q
 obtain⟨wb,hwb⟩:∃wb,wb=w1.drewN nq:=⟨_,rfl⟩
 rw[←hwb] at HP2 cp0 cp1 d0 d1 d2 HG2 ⊢
 clear hwb
 go_wp2_with fail
 refine (H3.out _ HP2.out).mono ?_
 rintro e w3 ⟨rfl,rfl⟩
 go_upto_region 13 with fail
 refine wrP Xe (fun w'=>(w'.cell? ⟨P,0,none⟩=some (.slice (some ⟨g,0,none⟩) n n)∧w'.cell? ⟨P,1,none⟩=some (.map (some mb)))∧w'.cell? ⟨w.heap.size,0,none⟩=some (.string sx)∧w'.cell? ⟨w.heap.size,1,none⟩=some (.slice a m c)) (fun i=>i==3 || i==8 || i==11 || i==14 || i==16) (fun _=>false) [0,1,2,3,4,5,6,7,8,9,10,11,12,13,14,15,16] 7 Xe Xe Xe ⟨⟨cp0,cp1⟩,d0,d1⟩ ?_
 refine rP ?_
 refine rP ?_
 refine rP ?_
 refine rQ (fun _ hq=>hq) ?_
 refine rP ?_
 refine rP ?_
 refine rP ?_
 refine rP ?_
 refine rQ (fun _ hq=>hq) ?_
 refine rP ?_
 refine rP ?_
 refine rQ (fun _ hq=>hq) ?_
 refine rP ?_
 refine rP ?_
 refine rQ (fun _ hq=>hq) ?_
 refine rP ?_
 refine rQ (fun _ hq=>hq) ?_
 refine dQ ?_
 clear cp0 cp1 d0 d1 d2
 have HP3:=Xh (HP2.out.mono (Gr.drew _))
 have HV3:=Xh ((HV.out.mono HG2.out).mono (Gr.drew _))
 have HG3:=Xh (Gr.trans HG2.out (Gr.drew _))
 have HCL:=Xh (jd a m c v _ HV3.out Xf)
 refine wR1 (i:=17) Xe rfl rfl ?_
 intro K hK
 go_simp
 go_at_call 106
 refine HCL.out.mono ?_
 rintro e wc ⟨vc,rfl,oc⟩
 have HPc:=Xh (HP3.out.mono oc.below)
 have HCC:=Xh (And.intro HPc.out.cells (And.intro (HC.out wc (Gr.trans HG3.out oc.below)).1 (HC.out wc (Gr.trans HG3.out oc.below)).2.1))
 refine hK _ _ (fun _=>HCC.out) ?_
 clear hK HCL
 obtain⟨A',c',rfl,sl⟩:=oc.slice
 have hAg:Ub wc A':=Ub.own oc
 have HPd:=Xh (HPUT.out wc HPc.out)
 have hbc:Blk wc w.heap.size 45 [.string sx,.slice a m c,.bool false]:=(Blk.new w 45 #[.string sx,.slice a m c,.bool false]).mono (Gr.trans HG3.out oc.below)
 have hng:w.heap.size≠g:=fun e=>by
  have h1:=HPc.out.bg
  unfold Blk at h1 hbc
  rw[←e,hbc] at h1
  injection h1 with h1
  injection h1 with _ h1
  revert h1
  decide
 have HCD:=Xh (And.intro HPd.out.cells (And.intro ((hbc.far (p:=⟨g,i,none⟩) hng (.string sx)).cell 0) ((hbc.far (p:=⟨g,i,none⟩) hng (.string sx)).cell 1)))
 have hbd:=hbc.far (p:=⟨g,i,none⟩) hng (.string sx)
 have slD:Bs (wc.setCell ⟨g,i,none⟩ (.string sx)) A' _ c' v:=Sl.tch sl Xg (Tch.set (S:=fun b=>b=g) ⟨g,i,none⟩ (.string sx) rfl) (fun _ b o e q=>hAg.ne HPc.out.bg Xg b o e q)
 obtain⟨v0,st,w5,hrun5,hg5,hsz5,hst⟩:=qH HPd.out.om qZ Tryz.underlying101 (z:= .agg #[.int .i64 0,.string ByteArray.empty,.slice none 0 0,.bool false]) (fun u=>by kernel_rfl) (by unfold maxLen;omega) hkey
 obtain⟨w6,hrun6,om6,hg6⟩:=hst w5 (.agg #[.int .i64 (i:Int),.string sx,.slice A' _ c',.bool false]) _ [] rfl rfl
 have HP6:=Xh (HUPD.out _ _ A' _ c' HPd.out slD (hAg.keep (fun b a m z=>Below.heap_setCell wc ⟨g,i,none⟩ _ b (fun e=>by have :=HPc.out.bg;unfold Blk at this;rw[←show b=g from e,z] at this;injection this with this;injection this with _ this _;exact absurd this Xg))) (hg5.trans hg6) om6)
 have HC5:Hid ((w5.cell? ⟨P,0,none⟩=some (.slice (some ⟨g,0,none⟩) n n)∧w5.cell? ⟨P,1,none⟩=some (.map (some mb)))∧w5.cell? ⟨w.heap.size,0,none⟩=some (.string sx)∧w5.cell? ⟨w.heap.size,1,none⟩=some (.slice a m c)):=by
  have ht:=Tch.grown (S:=fun b=>b=mb) hg5 (fun b e=>by injection e with e;exact e.symm)
  obtain⟨es,clock,hm1⟩:=jA HPd.out.om
  have hnm:w.heap.size≠mb:=fun e=>by
   have h1:=hbd
   unfold Blk at h1
   rw[e,hm1] at h1
   cases h1
  have hb:=HPd.out.bp.tch ht (fun e=>HPd.out.mg.2 e.symm)
  have hb2:=hbd.tch ht hnm
  exact⟨⟨hb.cell 0,hb.cell 1⟩,hb2.cell 0,hb2.cell 1⟩
 have HC6:Hid (w6.cell? ⟨w.heap.size,0,none⟩=some (.string sx)∧w6.cell? ⟨w.heap.size,1,none⟩=some (.slice a m c)):=by
  have ht:=Tch.grown (S:=fun b=>b=mb) (hg5.trans hg6) (fun b e=>by injection e with e;exact e.symm)
  obtain⟨es,clock,hm1⟩:=jA HPd.out.om
  have hnm:w.heap.size≠mb:=fun e=>by
   have h1:=hbd
   unfold Blk at h1
   rw[e,hm1] at h1
   cases h1
  have hb2:=hbd.tch ht hnm
  exact⟨hb2.cell 0,hb2.cell 1⟩
 have y0:=HPc.out.bg.free i
 have y1:wc.cell? ⟨g,i,none⟩=some (ak (now[i]'(by have :=HPc.out.len;omega))):=by rw[HPc.out.bg.cell,List.getElem?_map,List.getElem?_eq_getElem (by have :=HPc.out.len;omega)];rfl
 clear hst om6 hg5 hg6 hsz5 hbc hbd hng slD sl oc hAg
 go_simp
 refine fE (i:=18) (j:=19) Xe rfl rfl rfl rfl ?_ ?_
 · skip
   intro K hK
   go_simp
   refine hK _ _ (fun _=>HCC.out) ?_
   clear hK
   go_simp
   refine wR1 (i:=19) Xe rfl rfl ?_
   intro K hK
   go_simp
   refine hK _ _ (fun _=>HCC.out) ?_
   clear hK
   go_simp
   refine wR1 (i:=20) Xe rfl rfl ?_
   intro K hK
   go_simp
   refine hK _ _ (fun _=>HCD.out) ?_
   clear hK
   go_simp
   refine wR1 (i:=21) Xe rfl rfl ?_
   intro K hK
   refine fD (w1:=w5) (v:= .tuple #[v0,goInt st]) rfl (by exact hrun5) ?_
   refine hK _ _ (fun _=>HC5.out) ?_
   clear hK
   go_simp
   refine wR1 (i:=22) Xe rfl rfl ?_
   intro K hK
   go_simp
   refine hK _ _ (fun _=>HC5.out) ?_
   clear hK
   go_simp
   refine wR1 (i:=23) Xe rfl rfl ?_
   intro K hK
   refine dh (w1:=w6) rfl (by exact hrun6) ?_
   refine hK _ _ (fun _=>⟨HP6.out.cells,HC6.out⟩) ?_
   clear hK
   go_simp
   refine aR Xe ?_
   go_wp2_with fail
   go_ret
   exact⟨rfl,_,_,_,HP6.out⟩
 · skip
   intro K hK
   go_simp
   refine hK _ _ (fun _=>HCC.out) ?_
   clear hK
   go_simp
   refine fE (i:=18) (j:=20) Xe rfl rfl rfl rfl ?_ ?_
   · skip
     intro K hK
     go_simp
     refine hK _ _ (fun _=>HCC.out) ?_
     clear hK
     go_simp
     refine wR1 (i:=20) Xe rfl rfl ?_
     intro K hK
     go_simp
     refine hK _ _ (fun _=>HCD.out) ?_
     clear hK
     go_simp
     refine wR1 (i:=21) Xe rfl rfl ?_
     intro K hK
     refine fD (w1:=w5) (v:= .tuple #[v0,goInt st]) rfl (by exact hrun5) ?_
     refine hK _ _ (fun _=>HC5.out) ?_
     clear hK
     go_simp
     refine wR1 (i:=22) Xe rfl rfl ?_
     intro K hK
     go_simp
     refine hK _ _ (fun _=>HC5.out) ?_
     clear hK
     go_simp
     refine wR1 (i:=23) Xe rfl rfl ?_
     intro K hK
     refine dh (w1:=w6) rfl (by exact hrun6) ?_
     refine hK _ _ (fun _=>⟨HP6.out.cells,HC6.out⟩) ?_
     clear hK
     go_simp
     refine aR Xe ?_
     go_wp2_with fail
     go_ret
     exact⟨rfl,_,_,_,HP6.out⟩
   · skip
     intro K hK
     go_simp
     refine hK _ _ (fun _=>HCD.out) ?_
     clear hK
     go_simp
     refine fE (i:=18) (j:=21) Xe rfl rfl rfl rfl ?_ ?_
     · skip
       intro K hK
       go_simp
       refine hK _ _ (fun _=>HCD.out) ?_
       clear hK
       go_simp
       refine wR1 (i:=21) Xe rfl rfl ?_
       intro K hK
       refine fD (w1:=w5) (v:= .tuple #[v0,goInt st]) rfl (by exact hrun5) ?_
       refine hK _ _ (fun _=>HC5.out) ?_
       clear hK
       go_simp
       refine wR1 (i:=22) Xe rfl rfl ?_
       intro K hK
       go_simp
       refine hK _ _ (fun _=>HC5.out) ?_
       clear hK
       go_simp
       refine wR1 (i:=23) Xe rfl rfl ?_
       intro K hK
       refine dh (w1:=w6) rfl (by exact hrun6) ?_
       refine hK _ _ (fun _=>⟨HP6.out.cells,HC6.out⟩) ?_
       clear hK
       go_simp
       refine aR Xe ?_
       go_wp2_with fail
       go_ret
       exact⟨rfl,_,_,_,HP6.out⟩
     · skip
       intro K hK
       refine fD (w1:=w5) (v:= .tuple #[v0,goInt st]) rfl (by exact hrun5) ?_
       refine hK _ _ (fun _=>HC5.out) ?_
       clear hK
       go_simp
       refine fE (i:=18) (j:=22) Xe rfl rfl rfl rfl ?_ ?_
       · skip
         intro K hK
         go_simp
         refine hK _ _ (fun _=>HC5.out) ?_
         clear hK
         go_simp
         refine wR1 (i:=22) Xe rfl rfl ?_
         intro K hK
         go_simp
         refine hK _ _ (fun _=>HC5.out) ?_
         clear hK
         go_simp
         refine wR1 (i:=23) Xe rfl rfl ?_
         intro K hK
         refine dh (w1:=w6) rfl (by exact hrun6) ?_
         refine hK _ _ (fun _=>⟨HP6.out.cells,HC6.out⟩) ?_
         clear hK
         go_simp
         refine aR Xe ?_
         go_wp2_with fail
         go_ret
         exact⟨rfl,_,_,_,HP6.out⟩
       · skip
         intro K hK
         go_simp
         refine hK _ _ (fun _=>HC5.out) ?_
         clear hK
         go_simp
         refine wR1 (i:=18) Xe rfl rfl ?_
         intro K hK
         go_simp
         refine hK _ _ (fun _=>HC5.out) ?_
         clear hK
         go_simp
         refine wR1 (i:=23) Xe rfl rfl ?_
         intro K hK
         refine dh (w1:=w6) rfl (by exact hrun6) ?_
         refine hK _ _ (fun _=>⟨HP6.out.cells,HC6.out⟩) ?_
         clear hK
         go_simp
         refine aR Xe ?_
         go_wp2_with fail
         go_ret
         exact⟨rfl,_,_,_,HP6.out⟩
end
end
section
open Go.RowKit Go.Maps
def ChV.v (x:ChV):Value:= .agg #[ak x.d.n,.slice x.a x.m x.c,.bool x.d.g]
theorem yI {ls:List (List UInt8)} {s:List UInt8}:bW ls s<0→bW ls s= -1:=by
 intro h
 rw[FQ] at h
 exact Dt h
theorem RH {ls:List (List UInt8)}:jE ls<0→jE ls= -1:=by
 intro h
 unfold jE at *
 cases hf:ls.findIdx? (·==[]) with
 |none=>rfl
 |some i=>
  exfalso
  rw[hf] at h
  simp at h
  omega
def mG (w0:World) (P g mb n:Nat) (now:List (List UInt8)) (log:List TcV) (x:ChD) (e:Ending) (w':World):Prop:=
 e= .returned (.int .i64 (aP 350 now x:Int))∧(aP 350 now x≠0→PL w0 w' P g mb n now log)∧
  (aP 350 now x=0→∃a' m' c',PL w0 w' P g mb n (doC (now,log.map TcV.d) x).1 (log++ [⟨oz (eO now x).toNat x,a',m',c'⟩]))
theorem Ma {w0 w:World} {P g mb n:Nat} {now:List (List UInt8)} {log:List TcV} (h:PL w0 w P g mb n now log) (hn:n≤1000) (hlog:log.length≤1000) (x:ChV) (hv:Bs w x.a x.m x.c x.d.v) (hs:x.d.n.length≤100000) (hT:U8 w0):
 Calls Tryz.prog 49 #[.pointer (some ⟨P,0,none⟩),x.v] w (mG w0 P g mb n now log x.d):=by
 obtain⟨⟨s,v,gn⟩,a,m,c⟩:=x
 have hl:=hv.len
 show Calls Tryz.prog 49 #[.pointer (some ⟨P,0,none⟩),.agg #[ak s,.slice a m c,.bool gn]] w (mG w0 P g mb n now log ⟨s,v,gn⟩)
 simp only at hv hs hl
 cases hr:aB s with
 |false=>
  have hF:aP 350 now ⟨s,v,gn⟩=2:=by unfold aP;rw[if_pos (.inl hr)]
  refine (RN h s a m c gn hs hT hr).mono fun e w' ⟨he,hp⟩=> ?_
  unfold mG;rw[hF]
  exact⟨he,fun _=>hp,fun q=>by cases q⟩
 |true=>
  by_cases hb:gn=false∧350<m
  · obtain⟨rfl,hm⟩:=hb
    have hF:aP 350 now ⟨s,v,false⟩=2:=by unfold aP;rw[if_pos (.inr ⟨rfl,by show 350<v.length;omega⟩)]
    refine (UF h s a m c hs hT hr hm).mono fun e w' ⟨he,hp⟩=> ?_
    unfold mG;rw[hF]
    exact⟨he,fun _=>hp,fun q=>by cases q⟩
  have hF1:aP 350 now ⟨s,v,gn⟩=if bW now s<0∧gn=true then 7 else if eO now ⟨s,v,gn⟩<0 then 5 else 0:=by
   unfold aP
   rw[if_neg]
   rintro (q| ⟨q1,q2⟩)
   · rw[hr] at q;cases q
   · exact hb ⟨q1,by simp only at q2;omega⟩
  cases gn with
  |true=>
   by_cases hf:bW now s<0
   · have hF:aP 350 now ⟨s,v,true⟩=7:=by rw[hF1,if_pos ⟨hf,rfl⟩]
     refine (Lu h hn s a m c hs hT hr (yI hf)).mono fun e w' ⟨he,hp⟩=> ?_
     unfold mG;rw[hF]
     exact⟨he,fun _=>hp,fun q=>by cases q⟩
   · obtain⟨i,hi,hil,_⟩:=rR (now:=now) (s:=s) Xf
     have hS:eO now ⟨s,v,true⟩=(i:Int):=by unfold eO;rw[if_neg hf];exact hi
     have hF:aP 350 now ⟨s,v,true⟩=0:=by rw[hF1,if_neg (fun q=>hf q.1),if_neg (by rw[hS];omega)]
     refine (U4 h hn hlog s a m c hs hT hr i (by rw[←h.len];exact hil) hi).mono fun e w' ⟨he,hp⟩=> ?_
     unfold mG;rw[hF]
     refine⟨he,fun q=>absurd rfl q,fun _=>⟨none,0,0,?_⟩⟩
     unfold doC
     rw[hS]
     exact hp
  |false=>
   have hm:m≤350:=by
    by_cases q:m≤350
    · exact q
    · exact absurd ⟨rfl,Xf⟩ hb
   by_cases hf:bW now s<0
   · by_cases he:jE now<0
     · have hS:eO now ⟨s,v,false⟩=jE now:=by unfold eO;rw[if_pos hf]
       have hF:aP 350 now ⟨s,v,false⟩=5:=by rw[hF1,if_neg (fun q=>by cases q.2),if_pos (by rw[hS];exact he)]
       refine (Un h hn s a m c hs hT hr hm (yI hf) (RH he)).mono fun e w' ⟨he,hp⟩=> ?_
       unfold mG;rw[hF]
       exact⟨he,fun _=>hp,fun q=>by cases q⟩
     · obtain⟨i,hi,hil,_⟩:=JU (now:=now) Xf
       have hS:eO now ⟨s,v,false⟩=(i:Int):=by unfold eO;rw[if_pos hf];exact hi
       have hF:aP 350 now ⟨s,v,false⟩=0:=by rw[hF1,if_neg (fun q=>by cases q.2),if_neg (by rw[hS];omega)]
       refine (Vm h hn hlog s a m c v hv hs hT hr hm i (by rw[←h.len];exact hil) (yI hf) hi).mono fun e w' ⟨he,a',m',c',hp⟩=> ?_
       unfold mG;rw[hF]
       refine⟨he,fun q=>absurd rfl q,fun _=>⟨a',m',c',?_⟩⟩
       unfold doC
       rw[hS]
       exact hp
   · obtain⟨i,hi,hil,_⟩:=rR (now:=now) (s:=s) Xf
     have hS:eO now ⟨s,v,false⟩=(i:Int):=by unfold eO;rw[if_neg hf];exact hi
     have hF:aP 350 now ⟨s,v,false⟩=0:=by rw[hF1,if_neg (fun q=>by cases q.2),if_neg (by rw[hS];omega)]
     refine (VR h hn hlog s a m c v hv hs hT hr hm i (by rw[←h.len];exact hil) hi).mono fun e w' ⟨he,a',m',c',hp⟩=> ?_
     unfold mG;rw[hF]
     refine⟨he,fun q=>absurd rfl q,fun _=>⟨a',m',c',?_⟩⟩
     unfold doC
     rw[hS]
     exact hp
end
section
open Go.RowKit Go.Maps
theorem Tch.WO {S:Nat→Prop} {w:World} {g:Nat} (cs:Array Value) (hS:S g):Tch S w (w.setRow g cs):=
 ⟨⟨rfl,rfl,rfl,by rw[setRow_size];exact Nat.le_refl _,fun k hk=>absurd hk Xf⟩,fun b _ hn=>setRow_other w g b cs (fun e=>hn (e▸hS))⟩
theorem L8 {W:World} {g n c:Nat} {A:Option Addr} {hs:List (List UInt8)} (ty:TypeId) (hB:Blk W g 9 (dX n (.string ⟨#[]⟩))) (h:Ws W A n c hs):
 ∃W',(Builtin.copy_ #[51,51] ty #[.slice (some ⟨g,0,none⟩) n n,.slice A n c]).run Tryz.prog W= .ok (.int .i64 (n:Int)) W'∧Tch (fun b=>b=g) W W'∧Blk W' g 9 (hs.map ak):=by
 have hl:=h.len
 by_cases h0:n=0
 · subst h0
   obtain rfl:hs=[]:=List.eq_nil_of_length_eq_zero hl
   exact⟨W,run_copy_none (P:=Tryz.prog) W _ _ ty 9 _ A 0 0 0 c Tryz.underlying51 Xe rfl,Tch.refl _,hB⟩
 · obtain⟨b,o,rfl,hc⟩:=h.addr Xf
   have hm:(hs.map ak).length=Nat.min n n:=by rw[List.length_map,hl];exact (Nat.min_self n).symm
   have hrun:=run_copy_row (P:=Tryz.prog) W 51 51 ty 9 g 0 n n ⟨b,o,none⟩ n c (dX n (.string ⟨#[]⟩)).toArray 9 (hs.map ak) Tryz.underlying51 Xe hB hm (fun j v hv=>by
    rw[List.getElem?_map] at hv
    cases hj:hs[j]? with
    |none=>rw[hj] at hv;cases hv
    |some x=>
     rw[hj] at hv
     have hjl:=(List.getElem?_eq_some_iff.1 hj).1
     rw[sQ,hc j hjl]
     rw[←hv]
     rw[(List.getElem?_eq_some_iff.1 hj).2]
     rfl) (by rw[List.length_map,hl,List.size_toArray,qF];omega) (fun v hv=>by obtain⟨x,_,rfl⟩:=List.mem_map.1 hv;rfl)
   have e1:goInt ((hs.map ak).length:Nat)= .int .i64 (n:Int):=by rw[List.length_map,hl];rfl
   rw[e1] at hrun
   refine⟨_,hrun,Tch.WO (S:=fun b=>b=g) _ rfl,?_⟩
   unfold Blk
   have e2:((dX n (Value.string ⟨#[]⟩)).toArray.toList.take 0++hs.map ak++(dX n (Value.string ⟨#[]⟩)).toArray.toList.drop (0+(hs.map ak).length))=hs.map ak:=by
    rw[List.take_zero,List.nil_append,List.drop_eq_nil_of_le (by rw[List.length_map,hl];show (dX n _).length≤_;rw[qF];omega),List.append_nil]
   rw[setRow_heap W g _ _ _ _ hB,e2]
def PLs (w0 w:World) (P g mb n:Nat) (hs:List (List UInt8)) (l:List ChD):Prop:=
 (aD 350 (hs,[]) l).2=0∧∃log,PL w0 w P g mb n (aD 350 (hs,[]) l).1.1 log∧log.map TcV.d=(aD 350 (hs,[]) l).1.2∧log.length=l.length
theorem PLs.step {w0 w':World} {P g mb n:Nat} {hs:List (List UInt8)} {l:List ChD} {x:ChD} (h:(aD 350 (hs,[]) l).2=0) {log:List TcV} (hd:log.map TcV.d=(aD 350 (hs,[]) l).1.2) (hl:log.length=l.length) (h0:aP 350 (aD 350 (hs,[]) l).1.1 x=0)
 {a':Option Addr} {m' c':Nat} (hp:PL w0 w' P g mb n (doC ((aD 350 (hs,[]) l).1.1,log.map TcV.d) x).1 (log++ [⟨oz (eO (aD 350 (hs,[]) l).1.1 x).toNat x,a',m',c'⟩])):PLs w0 w' P g mb n hs (l++ [x]):=by
 have e:aD 350 (hs,[]) (l++ [x])=(doC (aD 350 (hs,[]) l).1 x,0):=by
  rw[pR,if_pos h,gD,if_pos h0]
  rfl
 unfold PLs
 rw[e]
 refine⟨rfl,_,hp,?_,by rw[List.length_append,List.length_append,hl];rfl⟩
 rw[List.map_append,hd]
 rfl
theorem NH {hs:List (List UInt8)} {l l':List ChD} {x:ChD} (h:(aD 350 (hs,[]) l).2=0) (h0:aP 350 (aD 350 (hs,[]) l).1.1 x≠0):(aD 350 (hs,[]) (l++x::l')).2=aP 350 (aD 350 (hs,[]) l).1.1 x:=by
 have e:aD 350 (hs,[]) (l++ [x])=((aD 350 (hs,[]) l).1,aP 350 (aD 350 (hs,[]) l).1.1 x):=by
  rw[pR,if_pos h,gD,if_neg h0]
 have :l++x::l'=(l++ [x])++l':=by simp
 rw[this,FP _ _ (by rw[e];exact h0),e]
theorem PL.start {w W:World} {n:Nat} {hs:List (List UInt8)} (hl:hs.length=n) {W3:World} (hW3:W3=((w.alloc (.cells (dX n (.string ⟨#[]⟩)).toArray 9)).alloc (.map #[] 0)).alloc (.cells #[.slice (some ⟨w.heap.size,0,none⟩) n n,.map (some (w.heap.size+1))] 103))
 (t:Tch (fun b=>b=w.heap.size) W3 W) (hb:Blk W w.heap.size 9 (hs.map ak)):PL w W (w.heap.size+1+1) w.heap.size (w.heap.size+1) n hs []:=by
 have z1:(w.alloc (.cells (dX n (.string ⟨#[]⟩)).toArray 9)).heap.size=w.heap.size+1:=by simp
 have z2:((w.alloc (.cells (dX n (.string ⟨#[]⟩)).toArray 9)).alloc (.map #[] 0)).heap.size=w.heap.size+1+1:=by simp
 have b3:Blk W3 (w.heap.size+1+1) 103 [.slice (some ⟨w.heap.size,0,none⟩) n n,.map (some (w.heap.size+1))]:=by
  rw[hW3]
  have :=Blk.new ((w.alloc (.cells (dX n (.string ⟨#[]⟩)).toArray 9)).alloc (.map #[] 0)) 103 #[.slice (some ⟨w.heap.size,0,none⟩) n n,.map (some (w.heap.size+1))]
  rw[z2] at this
  exact this
 have m3:W3.ownsMap Tryz.prog 3 Rv (w.heap.size+1) 0 (.map []):=by
  rw[hW3]
  have :=(World.ownsMap_made (w.alloc (.cells (dX n (.string ⟨#[]⟩)).toArray 9)) Tryz.prog 3 Rv).alloc (.cells #[.slice (some ⟨w.heap.size,0,none⟩) n n,.map (some (w.heap.size+1))] 103)
  rw[z1] at this
  exact this
 have g3:Gr w W3:=by
  rw[hW3]
  exact ((Gr.alloc w _).trans (Gr.alloc _ _)).trans (Gr.alloc _ _)
 refine⟨t.below g3 g3.size (fun b e=>by subst e;exact Nat.le_refl _),Xf,Nat.le_refl _,Xf,Xf,hl,b3.tch t Xf,hb,ownsMap_at m3 (t.keep _ m3.lt Xf),fun x hx=>by cases hx⟩
end
end Go.Proofs.YtipdlnejmcmbbaaGreatDoor
